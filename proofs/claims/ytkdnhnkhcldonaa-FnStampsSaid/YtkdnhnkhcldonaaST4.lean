import Derived.Test.YtkdnhnkhcldonaaST3
import Derived.Test.YtkdnhnkhcldonaaProg
import Derived.KernelRfl
namespace Go.Proofs.Ytkdnhnkhcldonaa
open Go Go.Proofs.VE
set_option linter.unusedVariables false
set_option linter.unusedSimpArgs false
set_option maxRecDepth 100000
set_option maxHeartbeats 4000000
noncomputable section
noncomputable def c43:Cfg:=cfg Try.prog [(43,999,[2]),(43,1000,[2,3])] [] [(57,.g m57),(60,.g m60),(81,.g m81),(82,.g m82)] [] []
def q43 (ua:List AV) (ub uc:Int):Bool:=(q81 ua ub uc && (q57 14 (v81_5 ua ub uc) (v81_6 ua ub uc) (v81_7 ua ub uc) && (bif decide ((v57_0 14 (v81_5 ua ub uc) (v81_6 ua ub uc) (v81_7 ua ub uc))=0) then q60 (v57_1 14 (v81_5 ua ub uc) (v81_6 ua ub uc) (v81_7 ua ub uc)) (v57_2 14 (v81_5 ua ub uc) (v81_6 ua ub uc) (v81_7 ua ub uc)) (v57_3 14 (v81_5 ua ub uc) (v81_6 ua ub uc) (v81_7 ua ub uc)) ([AV.int .i64 (-1),AV.int .i64 0,AV.int .i64 1000,AV.int .i64 1001]) else (bif decide ((v57_0 14 (v81_5 ua ub uc) (v81_6 ua ub uc) (v81_7 ua ub uc))=1) then (bif decide (((v81_0 ua ub uc).length:Int) > 0) then (q60 (v57_1 14 (v81_5 ua ub uc) (v81_6 ua ub uc) (v81_7 ua ub uc)) (v57_2 14 (v81_5 ua ub uc) (v81_6 ua ub uc) (v81_7 ua ub uc)) (v57_3 14 (v81_5 ua ub uc) (v81_6 ua ub uc) (v81_7 ua ub uc)) ([AV.int .i64 (-2),AV.int .i64 0,AV.int .i64 1]) && (decide (0≤0) && decide (0<((v81_0 ua ub uc).length:Int)))) else true) else (bif decide ((v57_0 14 (v81_5 ua ub uc) (v81_6 ua ub uc) (v81_7 ua ub uc))=2) then q82 (v57_1 14 (v81_5 ua ub uc) (v81_6 ua ub uc) (v81_7 ua ub uc)) (v57_2 14 (v81_5 ua ub uc) (v81_6 ua ub uc) (v81_7 ua ub uc)) (v57_3 14 (v81_5 ua ub uc) (v81_6 ua ub uc) (v81_7 ua ub uc)) else true)))))
def v43_0 (ua:List AV) (ub uc:Int):List AV:=(bif decide ((v57_0 14 (v81_5 ua ub uc) (v81_6 ua ub uc) (v81_7 ua ub uc))=0) then (v81_0 ua ub uc) else (bif decide ((v57_0 14 (v81_5 ua ub uc) (v81_6 ua ub uc) (v81_7 ua ub uc))=1) then (bif decide (((v81_0 ua ub uc).length:Int) > 0) then (v81_0 ua ub uc).set (0:Int).toNat (AV.agg [AV.int .i64 (fI ((v81_0 ua ub uc).getD (0:Int).toNat .undef) 0),AV.int .i64 (fI ((v81_0 ua ub uc).getD (0:Int).toNat .undef) 1),AV.int .i64 (fI ((v81_0 ua ub uc).getD (0:Int).toNat .undef) 2),AV.int .i64 (v60_0 (v57_1 14 (v81_5 ua ub uc) (v81_6 ua ub uc) (v81_7 ua ub uc)) (v57_2 14 (v81_5 ua ub uc) (v81_6 ua ub uc) (v81_7 ua ub uc)) (v57_3 14 (v81_5 ua ub uc) (v81_6 ua ub uc) (v81_7 ua ub uc)) ([AV.int .i64 (-2),AV.int .i64 0,AV.int .i64 1]))]) else (v81_0 ua ub uc)) else (v81_0 ua ub uc)))
def v43_1 (ua:List AV) (ub uc:Int):Int:=(bif decide ((v57_0 14 (v81_5 ua ub uc) (v81_6 ua ub uc) (v81_7 ua ub uc))=0) then (v60_0 (v57_1 14 (v81_5 ua ub uc) (v81_6 ua ub uc) (v81_7 ua ub uc)) (v57_2 14 (v81_5 ua ub uc) (v81_6 ua ub uc) (v81_7 ua ub uc)) (v57_3 14 (v81_5 ua ub uc) (v81_6 ua ub uc) (v81_7 ua ub uc)) ([AV.int .i64 (-1),AV.int .i64 0,AV.int .i64 1000,AV.int .i64 1001])) else (v81_1 ua ub uc))
def v43_2 (ua:List AV) (ub uc:Int):List AV:=(bif decide ((v57_0 14 (v81_5 ua ub uc) (v81_6 ua ub uc) (v81_7 ua ub uc))=0) then (v81_2 ua ub uc) else (bif decide ((v57_0 14 (v81_5 ua ub uc) (v81_6 ua ub uc) (v81_7 ua ub uc))=1) then (v81_2 ua ub uc) else (bif decide ((v57_0 14 (v81_5 ua ub uc) (v81_6 ua ub uc) (v81_7 ua ub uc))=2) then (v82_0 (v57_1 14 (v81_5 ua ub uc) (v81_6 ua ub uc) (v81_7 ua ub uc)) (v57_2 14 (v81_5 ua ub uc) (v81_6 ua ub uc) (v81_7 ua ub uc)) (v57_3 14 (v81_5 ua ub uc) (v81_6 ua ub uc) (v81_7 ua ub uc))) else (v81_2 ua ub uc))))
def v43_3 (ua:List AV) (ub uc:Int):List AV:=(bif decide ((v57_0 14 (v81_5 ua ub uc) (v81_6 ua ub uc) (v81_7 ua ub uc))=0) then (v81_3 ua ub uc) else (bif decide ((v57_0 14 (v81_5 ua ub uc) (v81_6 ua ub uc) (v81_7 ua ub uc))=1) then (v81_3 ua ub uc) else (bif decide ((v57_0 14 (v81_5 ua ub uc) (v81_6 ua ub uc) (v81_7 ua ub uc))=2) then (v82_1 (v57_1 14 (v81_5 ua ub uc) (v81_6 ua ub uc) (v81_7 ua ub uc)) (v57_2 14 (v81_5 ua ub uc) (v81_6 ua ub uc) (v81_7 ua ub uc)) (v57_3 14 (v81_5 ua ub uc) (v81_6 ua ub uc) (v81_7 ua ub uc))) else (v81_3 ua ub uc))))
def v43_4 (ua:List AV) (ub uc:Int):List AV:=(bif decide ((v57_0 14 (v81_5 ua ub uc) (v81_6 ua ub uc) (v81_7 ua ub uc))=0) then (v81_4 ua ub uc) else (bif decide ((v57_0 14 (v81_5 ua ub uc) (v81_6 ua ub uc) (v81_7 ua ub uc))=1) then (v81_4 ua ub uc) else (bif decide ((v57_0 14 (v81_5 ua ub uc) (v81_6 ua ub uc) (v81_7 ua ub uc))=2) then (v82_2 (v57_1 14 (v81_5 ua ub uc) (v81_6 ua ub uc) (v81_7 ua ub uc)) (v57_2 14 (v81_5 ua ub uc) (v81_6 ua ub uc) (v81_7 ua ub uc)) (v57_3 14 (v81_5 ua ub uc) (v81_6 ua ub uc) (v81_7 ua ub uc))) else (v81_4 ua ub uc))))
def v43_5 (ua:List AV) (ub uc:Int):List AV:=(bif decide ((v57_0 14 (v81_5 ua ub uc) (v81_6 ua ub uc) (v81_7 ua ub uc))=0) then (v60_1 (v57_1 14 (v81_5 ua ub uc) (v81_6 ua ub uc) (v81_7 ua ub uc)) (v57_2 14 (v81_5 ua ub uc) (v81_6 ua ub uc) (v81_7 ua ub uc)) (v57_3 14 (v81_5 ua ub uc) (v81_6 ua ub uc) (v81_7 ua ub uc)) ([AV.int .i64 (-1),AV.int .i64 0,AV.int .i64 1000,AV.int .i64 1001])) else (bif decide ((v57_0 14 (v81_5 ua ub uc) (v81_6 ua ub uc) (v81_7 ua ub uc))=1) then (bif decide (((v81_0 ua ub uc).length:Int) > 0) then (v60_1 (v57_1 14 (v81_5 ua ub uc) (v81_6 ua ub uc) (v81_7 ua ub uc)) (v57_2 14 (v81_5 ua ub uc) (v81_6 ua ub uc) (v81_7 ua ub uc)) (v57_3 14 (v81_5 ua ub uc) (v81_6 ua ub uc) (v81_7 ua ub uc)) ([AV.int .i64 (-2),AV.int .i64 0,AV.int .i64 1])) else (v57_1 14 (v81_5 ua ub uc) (v81_6 ua ub uc) (v81_7 ua ub uc))) else (bif decide ((v57_0 14 (v81_5 ua ub uc) (v81_6 ua ub uc) (v81_7 ua ub uc))=2) then (v82_3 (v57_1 14 (v81_5 ua ub uc) (v81_6 ua ub uc) (v81_7 ua ub uc)) (v57_2 14 (v81_5 ua ub uc) (v81_6 ua ub uc) (v81_7 ua ub uc)) (v57_3 14 (v81_5 ua ub uc) (v81_6 ua ub uc) (v81_7 ua ub uc))) else (v57_1 14 (v81_5 ua ub uc) (v81_6 ua ub uc) (v81_7 ua ub uc)))))
def v43_6 (ua:List AV) (ub uc:Int):Int:=(bif decide ((v57_0 14 (v81_5 ua ub uc) (v81_6 ua ub uc) (v81_7 ua ub uc))=0) then (v60_2 (v57_1 14 (v81_5 ua ub uc) (v81_6 ua ub uc) (v81_7 ua ub uc)) (v57_2 14 (v81_5 ua ub uc) (v81_6 ua ub uc) (v81_7 ua ub uc)) (v57_3 14 (v81_5 ua ub uc) (v81_6 ua ub uc) (v81_7 ua ub uc)) ([AV.int .i64 (-1),AV.int .i64 0,AV.int .i64 1000,AV.int .i64 1001])) else (bif decide ((v57_0 14 (v81_5 ua ub uc) (v81_6 ua ub uc) (v81_7 ua ub uc))=1) then (bif decide (((v81_0 ua ub uc).length:Int) > 0) then (v60_2 (v57_1 14 (v81_5 ua ub uc) (v81_6 ua ub uc) (v81_7 ua ub uc)) (v57_2 14 (v81_5 ua ub uc) (v81_6 ua ub uc) (v81_7 ua ub uc)) (v57_3 14 (v81_5 ua ub uc) (v81_6 ua ub uc) (v81_7 ua ub uc)) ([AV.int .i64 (-2),AV.int .i64 0,AV.int .i64 1])) else (v57_2 14 (v81_5 ua ub uc) (v81_6 ua ub uc) (v81_7 ua ub uc))) else (bif decide ((v57_0 14 (v81_5 ua ub uc) (v81_6 ua ub uc) (v81_7 ua ub uc))=2) then (v82_4 (v57_1 14 (v81_5 ua ub uc) (v81_6 ua ub uc) (v81_7 ua ub uc)) (v57_2 14 (v81_5 ua ub uc) (v81_6 ua ub uc) (v81_7 ua ub uc)) (v57_3 14 (v81_5 ua ub uc) (v81_6 ua ub uc) (v81_7 ua ub uc))) else (v57_2 14 (v81_5 ua ub uc) (v81_6 ua ub uc) (v81_7 ua ub uc)))))
def v43_7 (ua:List AV) (ub uc:Int):Int:=(bif decide ((v57_0 14 (v81_5 ua ub uc) (v81_6 ua ub uc) (v81_7 ua ub uc))=0) then (v60_3 (v57_1 14 (v81_5 ua ub uc) (v81_6 ua ub uc) (v81_7 ua ub uc)) (v57_2 14 (v81_5 ua ub uc) (v81_6 ua ub uc) (v81_7 ua ub uc)) (v57_3 14 (v81_5 ua ub uc) (v81_6 ua ub uc) (v81_7 ua ub uc)) ([AV.int .i64 (-1),AV.int .i64 0,AV.int .i64 1000,AV.int .i64 1001])) else (bif decide ((v57_0 14 (v81_5 ua ub uc) (v81_6 ua ub uc) (v81_7 ua ub uc))=1) then (bif decide (((v81_0 ua ub uc).length:Int) > 0) then (v60_3 (v57_1 14 (v81_5 ua ub uc) (v81_6 ua ub uc) (v81_7 ua ub uc)) (v57_2 14 (v81_5 ua ub uc) (v81_6 ua ub uc) (v81_7 ua ub uc)) (v57_3 14 (v81_5 ua ub uc) (v81_6 ua ub uc) (v81_7 ua ub uc)) ([AV.int .i64 (-2),AV.int .i64 0,AV.int .i64 1])) else (v57_3 14 (v81_5 ua ub uc) (v81_6 ua ub uc) (v81_7 ua ub uc))) else (bif decide ((v57_0 14 (v81_5 ua ub uc) (v81_6 ua ub uc) (v81_7 ua ub uc))=2) then (v82_5 (v57_1 14 (v81_5 ua ub uc) (v81_6 ua ub uc) (v81_7 ua ub uc)) (v57_2 14 (v81_5 ua ub uc) (v81_6 ua ub uc) (v81_7 ua ub uc)) (v57_3 14 (v81_5 ua ub uc) (v81_6 ua ub uc) (v81_7 ua ub uc))) else (v57_3 14 (v81_5 ua ub uc) (v81_6 ua ub uc) (v81_7 ua ub uc)))))
theorem e43 (ua:List AV) (ub uc:Int) (K:List AV→List (Option Blk)→Option AV):inlA c43 1 43 [AV.ptr [1] 0 0] [0] (canH 1 [⟨true,[],[AV.agg [AV.sl [.int .u8] ua,Ai ub,Ai uc]]⟩]) (keepG Try.prog 1 [41] [] K)=(bif q81 ua ub uc then (bif q57 14 (v81_5 ua ub uc) (v81_6 ua ub uc) (v81_7 ua ub uc) then (bif decide ((v57_0 14 (v81_5 ua ub uc) (v81_6 ua ub uc) (v81_7 ua ub uc))=0) then (bif q60 (v57_1 14 (v81_5 ua ub uc) (v81_6 ua ub uc) (v81_7 ua ub uc)) (v57_2 14 (v81_5 ua ub uc) (v81_6 ua ub uc) (v81_7 ua ub uc)) (v57_3 14 (v81_5 ua ub uc) (v81_6 ua ub uc) (v81_7 ua ub uc)) ([Ai (-1),Ai 0,Ai 1000,Ai 1001]) then K [AV.agg [AV.fl [.int .i64,.int .i64,.int .i64,.int .i64] (v81_0 ua ub uc),Ai (v60_0 (v57_1 14 (v81_5 ua ub uc) (v81_6 ua ub uc) (v81_7 ua ub uc)) (v57_2 14 (v81_5 ua ub uc) (v81_6 ua ub uc) (v81_7 ua ub uc)) (v57_3 14 (v81_5 ua ub uc) (v81_6 ua ub uc) (v81_7 ua ub uc)) ([Ai (-1),Ai 0,Ai 1000,Ai 1001])),AV.fl [.int .i64] (v81_2 ua ub uc),AV.fl [.int .i64] (v81_3 ua ub uc),AV.fl [.int .i64,.int .i64] (v81_4 ua ub uc)]] [some ⟨true,[],[AV.agg [AV.sl [.int .u8] (v60_1 (v57_1 14 (v81_5 ua ub uc) (v81_6 ua ub uc) (v81_7 ua ub uc)) (v57_2 14 (v81_5 ua ub uc) (v81_6 ua ub uc) (v81_7 ua ub uc)) (v57_3 14 (v81_5 ua ub uc) (v81_6 ua ub uc) (v81_7 ua ub uc)) ([Ai (-1),Ai 0,Ai 1000,Ai 1001])),Ai (v60_2 (v57_1 14 (v81_5 ua ub uc) (v81_6 ua ub uc) (v81_7 ua ub uc)) (v57_2 14 (v81_5 ua ub uc) (v81_6 ua ub uc) (v81_7 ua ub uc)) (v57_3 14 (v81_5 ua ub uc) (v81_6 ua ub uc) (v81_7 ua ub uc)) ([Ai (-1),Ai 0,Ai 1000,Ai 1001])),Ai (v60_3 (v57_1 14 (v81_5 ua ub uc) (v81_6 ua ub uc) (v81_7 ua ub uc)) (v57_2 14 (v81_5 ua ub uc) (v81_6 ua ub uc) (v81_7 ua ub uc)) (v57_3 14 (v81_5 ua ub uc) (v81_6 ua ub uc) (v81_7 ua ub uc)) ([Ai (-1),Ai 0,Ai 1000,Ai 1001]))]]⟩]
 else none)
 else (bif decide ((v57_0 14 (v81_5 ua ub uc) (v81_6 ua ub uc) (v81_7 ua ub uc))=1) then (bif decide (((v81_0 ua ub uc).length:Int) > 0) then (bif q60 (v57_1 14 (v81_5 ua ub uc) (v81_6 ua ub uc) (v81_7 ua ub uc)) (v57_2 14 (v81_5 ua ub uc) (v81_6 ua ub uc) (v81_7 ua ub uc)) (v57_3 14 (v81_5 ua ub uc) (v81_6 ua ub uc) (v81_7 ua ub uc)) ([Ai (-2),Ai 0,Ai 1]) then (bif (decide (0≤0) && decide (0<((v81_0 ua ub uc).length:Int))) then K [AV.agg [AV.fl [.int .i64,.int .i64,.int .i64,.int .i64] ((v81_0 ua ub uc).set (0:Int).toNat (AV.agg [Ai (fI ((v81_0 ua ub uc).getD (0:Int).toNat .undef) 0),Ai (fI ((v81_0 ua ub uc).getD (0:Int).toNat .undef) 1),Ai (fI ((v81_0 ua ub uc).getD (0:Int).toNat .undef) 2),Ai (v60_0 (v57_1 14 (v81_5 ua ub uc) (v81_6 ua ub uc) (v81_7 ua ub uc)) (v57_2 14 (v81_5 ua ub uc) (v81_6 ua ub uc) (v81_7 ua ub uc)) (v57_3 14 (v81_5 ua ub uc) (v81_6 ua ub uc) (v81_7 ua ub uc)) ([Ai (-2),Ai 0,Ai 1]))])),Ai (v81_1 ua ub uc),AV.fl [.int .i64] (v81_2 ua ub uc),AV.fl [.int .i64] (v81_3 ua ub uc),AV.fl [.int .i64,.int .i64] (v81_4 ua ub uc)]] [some ⟨true,[],[AV.agg [AV.sl [.int .u8] (v60_1 (v57_1 14 (v81_5 ua ub uc) (v81_6 ua ub uc) (v81_7 ua ub uc)) (v57_2 14 (v81_5 ua ub uc) (v81_6 ua ub uc) (v81_7 ua ub uc)) (v57_3 14 (v81_5 ua ub uc) (v81_6 ua ub uc) (v81_7 ua ub uc)) ([Ai (-2),Ai 0,Ai 1])),Ai (v60_2 (v57_1 14 (v81_5 ua ub uc) (v81_6 ua ub uc) (v81_7 ua ub uc)) (v57_2 14 (v81_5 ua ub uc) (v81_6 ua ub uc) (v81_7 ua ub uc)) (v57_3 14 (v81_5 ua ub uc) (v81_6 ua ub uc) (v81_7 ua ub uc)) ([Ai (-2),Ai 0,Ai 1])),Ai (v60_3 (v57_1 14 (v81_5 ua ub uc) (v81_6 ua ub uc) (v81_7 ua ub uc)) (v57_2 14 (v81_5 ua ub uc) (v81_6 ua ub uc) (v81_7 ua ub uc)) (v57_3 14 (v81_5 ua ub uc) (v81_6 ua ub uc) (v81_7 ua ub uc)) ([Ai (-2),Ai 0,Ai 1]))]]⟩]
 else none)
 else none)
 else K [AV.agg [AV.fl [.int .i64,.int .i64,.int .i64,.int .i64] (v81_0 ua ub uc),Ai (v81_1 ua ub uc),AV.fl [.int .i64] (v81_2 ua ub uc),AV.fl [.int .i64] (v81_3 ua ub uc),AV.fl [.int .i64,.int .i64] (v81_4 ua ub uc)]] [some ⟨true,[],[AV.agg [AV.sl [.int .u8] (v57_1 14 (v81_5 ua ub uc) (v81_6 ua ub uc) (v81_7 ua ub uc)),Ai (v57_2 14 (v81_5 ua ub uc) (v81_6 ua ub uc) (v81_7 ua ub uc)),Ai (v57_3 14 (v81_5 ua ub uc) (v81_6 ua ub uc) (v81_7 ua ub uc))]]⟩])
 else (bif decide ((v57_0 14 (v81_5 ua ub uc) (v81_6 ua ub uc) (v81_7 ua ub uc))=2) then (bif q82 (v57_1 14 (v81_5 ua ub uc) (v81_6 ua ub uc) (v81_7 ua ub uc)) (v57_2 14 (v81_5 ua ub uc) (v81_6 ua ub uc) (v81_7 ua ub uc)) (v57_3 14 (v81_5 ua ub uc) (v81_6 ua ub uc) (v81_7 ua ub uc)) then K [AV.agg [AV.fl [.int .i64,.int .i64,.int .i64,.int .i64] (v81_0 ua ub uc),Ai (v81_1 ua ub uc),AV.fl [.int .i64] (v82_0 (v57_1 14 (v81_5 ua ub uc) (v81_6 ua ub uc) (v81_7 ua ub uc)) (v57_2 14 (v81_5 ua ub uc) (v81_6 ua ub uc) (v81_7 ua ub uc)) (v57_3 14 (v81_5 ua ub uc) (v81_6 ua ub uc) (v81_7 ua ub uc))),AV.fl [.int .i64] (v82_1 (v57_1 14 (v81_5 ua ub uc) (v81_6 ua ub uc) (v81_7 ua ub uc)) (v57_2 14 (v81_5 ua ub uc) (v81_6 ua ub uc) (v81_7 ua ub uc)) (v57_3 14 (v81_5 ua ub uc) (v81_6 ua ub uc) (v81_7 ua ub uc))),AV.fl [.int .i64,.int .i64] (v82_2 (v57_1 14 (v81_5 ua ub uc) (v81_6 ua ub uc) (v81_7 ua ub uc)) (v57_2 14 (v81_5 ua ub uc) (v81_6 ua ub uc) (v81_7 ua ub uc)) (v57_3 14 (v81_5 ua ub uc) (v81_6 ua ub uc) (v81_7 ua ub uc)))]] [some ⟨true,[],[AV.agg [AV.sl [.int .u8] (v82_3 (v57_1 14 (v81_5 ua ub uc) (v81_6 ua ub uc) (v81_7 ua ub uc)) (v57_2 14 (v81_5 ua ub uc) (v81_6 ua ub uc) (v81_7 ua ub uc)) (v57_3 14 (v81_5 ua ub uc) (v81_6 ua ub uc) (v81_7 ua ub uc))),Ai (v82_4 (v57_1 14 (v81_5 ua ub uc) (v81_6 ua ub uc) (v81_7 ua ub uc)) (v57_2 14 (v81_5 ua ub uc) (v81_6 ua ub uc) (v81_7 ua ub uc)) (v57_3 14 (v81_5 ua ub uc) (v81_6 ua ub uc) (v81_7 ua ub uc))),Ai (v82_5 (v57_1 14 (v81_5 ua ub uc) (v81_6 ua ub uc) (v81_7 ua ub uc)) (v57_2 14 (v81_5 ua ub uc) (v81_6 ua ub uc) (v81_7 ua ub uc)) (v57_3 14 (v81_5 ua ub uc) (v81_6 ua ub uc) (v81_7 ua ub uc)))]]⟩]
 else none)
 else K [AV.agg [AV.fl [.int .i64,.int .i64,.int .i64,.int .i64] (v81_0 ua ub uc),Ai (v81_1 ua ub uc),AV.fl [.int .i64] (v81_2 ua ub uc),AV.fl [.int .i64] (v81_3 ua ub uc),AV.fl [.int .i64,.int .i64] (v81_4 ua ub uc)]] [some ⟨true,[],[AV.agg [AV.sl [.int .u8] (v57_1 14 (v81_5 ua ub uc) (v81_6 ua ub uc) (v81_7 ua ub uc)),Ai (v57_2 14 (v81_5 ua ub uc) (v81_6 ua ub uc) (v81_7 ua ub uc)),Ai (v57_3 14 (v81_5 ua ub uc) (v81_6 ua ub uc) (v81_7 ua ub uc))]]⟩])))
 else none)
 else none):=by kernel_rfl
theorem r43 (ua:List AV) (ub uc:Int) (K:List AV→List (Option Blk)→Option AV) (h:q43 ua ub uc=true):inlA c43 1 43 [AV.ptr [1] 0 0] [0] (canH 1 [⟨true,[],[AV.agg [AV.sl [.int .u8] ua,AV.int .i64 ub,AV.int .i64 uc]]⟩]) (keepG Try.prog 1 [41] [] K)=K [AV.agg [AV.fl [.int .i64,.int .i64,.int .i64,.int .i64] (v43_0 ua ub uc),AV.int .i64 (v43_1 ua ub uc),AV.fl [.int .i64] (v43_2 ua ub uc),AV.fl [.int .i64] (v43_3 ua ub uc),AV.fl [.int .i64,.int .i64] (v43_4 ua ub uc)]] [some ⟨true,[],[AV.agg [AV.sl [.int .u8] (v43_5 ua ub uc),AV.int .i64 (v43_6 ua ub uc),AV.int .i64 (v43_7 ua ub uc)]]⟩]:=(e43 ua ub uc K).trans ((brL (brL (br (fun b=>K [AV.agg [AV.fl [.int .i64,.int .i64,.int .i64,.int .i64] (bif b then (v81_0 ua ub uc) else (bif decide ((v57_0 14 (v81_5 ua ub uc) (v81_6 ua ub uc) (v81_7 ua ub uc))=1) then (bif decide (((v81_0 ua ub uc).length:Int) > 0) then (v81_0 ua ub uc).set (0:Int).toNat (AV.agg [AV.int .i64 (fI ((v81_0 ua ub uc).getD (0:Int).toNat .undef) 0),AV.int .i64 (fI ((v81_0 ua ub uc).getD (0:Int).toNat .undef) 1),AV.int .i64 (fI ((v81_0 ua ub uc).getD (0:Int).toNat .undef) 2),AV.int .i64 (v60_0 (v57_1 14 (v81_5 ua ub uc) (v81_6 ua ub uc) (v81_7 ua ub uc)) (v57_2 14 (v81_5 ua ub uc) (v81_6 ua ub uc) (v81_7 ua ub uc)) (v57_3 14 (v81_5 ua ub uc) (v81_6 ua ub uc) (v81_7 ua ub uc)) ([AV.int .i64 (-2),AV.int .i64 0,AV.int .i64 1]))]) else (v81_0 ua ub uc)) else (v81_0 ua ub uc))),AV.int .i64 (bif b then (v60_0 (v57_1 14 (v81_5 ua ub uc) (v81_6 ua ub uc) (v81_7 ua ub uc)) (v57_2 14 (v81_5 ua ub uc) (v81_6 ua ub uc) (v81_7 ua ub uc)) (v57_3 14 (v81_5 ua ub uc) (v81_6 ua ub uc) (v81_7 ua ub uc)) ([AV.int .i64 (-1),AV.int .i64 0,AV.int .i64 1000,AV.int .i64 1001])) else (v81_1 ua ub uc)),AV.fl [.int .i64] (bif b then (v81_2 ua ub uc) else (bif decide ((v57_0 14 (v81_5 ua ub uc) (v81_6 ua ub uc) (v81_7 ua ub uc))=1) then (v81_2 ua ub uc) else (bif decide ((v57_0 14 (v81_5 ua ub uc) (v81_6 ua ub uc) (v81_7 ua ub uc))=2) then (v82_0 (v57_1 14 (v81_5 ua ub uc) (v81_6 ua ub uc) (v81_7 ua ub uc)) (v57_2 14 (v81_5 ua ub uc) (v81_6 ua ub uc) (v81_7 ua ub uc)) (v57_3 14 (v81_5 ua ub uc) (v81_6 ua ub uc) (v81_7 ua ub uc))) else (v81_2 ua ub uc)))),AV.fl [.int .i64] (bif b then (v81_3 ua ub uc) else (bif decide ((v57_0 14 (v81_5 ua ub uc) (v81_6 ua ub uc) (v81_7 ua ub uc))=1) then (v81_3 ua ub uc) else (bif decide ((v57_0 14 (v81_5 ua ub uc) (v81_6 ua ub uc) (v81_7 ua ub uc))=2) then (v82_1 (v57_1 14 (v81_5 ua ub uc) (v81_6 ua ub uc) (v81_7 ua ub uc)) (v57_2 14 (v81_5 ua ub uc) (v81_6 ua ub uc) (v81_7 ua ub uc)) (v57_3 14 (v81_5 ua ub uc) (v81_6 ua ub uc) (v81_7 ua ub uc))) else (v81_3 ua ub uc)))),AV.fl [.int .i64,.int .i64] (bif b then (v81_4 ua ub uc) else (bif decide ((v57_0 14 (v81_5 ua ub uc) (v81_6 ua ub uc) (v81_7 ua ub uc))=1) then (v81_4 ua ub uc) else (bif decide ((v57_0 14 (v81_5 ua ub uc) (v81_6 ua ub uc) (v81_7 ua ub uc))=2) then (v82_2 (v57_1 14 (v81_5 ua ub uc) (v81_6 ua ub uc) (v81_7 ua ub uc)) (v57_2 14 (v81_5 ua ub uc) (v81_6 ua ub uc) (v81_7 ua ub uc)) (v57_3 14 (v81_5 ua ub uc) (v81_6 ua ub uc) (v81_7 ua ub uc))) else (v81_4 ua ub uc))))]] [some ⟨true,[],[AV.agg [AV.sl [.int .u8] (bif b then (v60_1 (v57_1 14 (v81_5 ua ub uc) (v81_6 ua ub uc) (v81_7 ua ub uc)) (v57_2 14 (v81_5 ua ub uc) (v81_6 ua ub uc) (v81_7 ua ub uc)) (v57_3 14 (v81_5 ua ub uc) (v81_6 ua ub uc) (v81_7 ua ub uc)) ([AV.int .i64 (-1),AV.int .i64 0,AV.int .i64 1000,AV.int .i64 1001])) else (bif decide ((v57_0 14 (v81_5 ua ub uc) (v81_6 ua ub uc) (v81_7 ua ub uc))=1) then (bif decide (((v81_0 ua ub uc).length:Int) > 0) then (v60_1 (v57_1 14 (v81_5 ua ub uc) (v81_6 ua ub uc) (v81_7 ua ub uc)) (v57_2 14 (v81_5 ua ub uc) (v81_6 ua ub uc) (v81_7 ua ub uc)) (v57_3 14 (v81_5 ua ub uc) (v81_6 ua ub uc) (v81_7 ua ub uc)) ([AV.int .i64 (-2),AV.int .i64 0,AV.int .i64 1])) else (v57_1 14 (v81_5 ua ub uc) (v81_6 ua ub uc) (v81_7 ua ub uc))) else (bif decide ((v57_0 14 (v81_5 ua ub uc) (v81_6 ua ub uc) (v81_7 ua ub uc))=2) then (v82_3 (v57_1 14 (v81_5 ua ub uc) (v81_6 ua ub uc) (v81_7 ua ub uc)) (v57_2 14 (v81_5 ua ub uc) (v81_6 ua ub uc) (v81_7 ua ub uc)) (v57_3 14 (v81_5 ua ub uc) (v81_6 ua ub uc) (v81_7 ua ub uc))) else (v57_1 14 (v81_5 ua ub uc) (v81_6 ua ub uc) (v81_7 ua ub uc))))),AV.int .i64 (bif b then (v60_2 (v57_1 14 (v81_5 ua ub uc) (v81_6 ua ub uc) (v81_7 ua ub uc)) (v57_2 14 (v81_5 ua ub uc) (v81_6 ua ub uc) (v81_7 ua ub uc)) (v57_3 14 (v81_5 ua ub uc) (v81_6 ua ub uc) (v81_7 ua ub uc)) ([AV.int .i64 (-1),AV.int .i64 0,AV.int .i64 1000,AV.int .i64 1001])) else (bif decide ((v57_0 14 (v81_5 ua ub uc) (v81_6 ua ub uc) (v81_7 ua ub uc))=1) then (bif decide (((v81_0 ua ub uc).length:Int) > 0) then (v60_2 (v57_1 14 (v81_5 ua ub uc) (v81_6 ua ub uc) (v81_7 ua ub uc)) (v57_2 14 (v81_5 ua ub uc) (v81_6 ua ub uc) (v81_7 ua ub uc)) (v57_3 14 (v81_5 ua ub uc) (v81_6 ua ub uc) (v81_7 ua ub uc)) ([AV.int .i64 (-2),AV.int .i64 0,AV.int .i64 1])) else (v57_2 14 (v81_5 ua ub uc) (v81_6 ua ub uc) (v81_7 ua ub uc))) else (bif decide ((v57_0 14 (v81_5 ua ub uc) (v81_6 ua ub uc) (v81_7 ua ub uc))=2) then (v82_4 (v57_1 14 (v81_5 ua ub uc) (v81_6 ua ub uc) (v81_7 ua ub uc)) (v57_2 14 (v81_5 ua ub uc) (v81_6 ua ub uc) (v81_7 ua ub uc)) (v57_3 14 (v81_5 ua ub uc) (v81_6 ua ub uc) (v81_7 ua ub uc))) else (v57_2 14 (v81_5 ua ub uc) (v81_6 ua ub uc) (v81_7 ua ub uc))))),AV.int .i64 (bif b then (v60_3 (v57_1 14 (v81_5 ua ub uc) (v81_6 ua ub uc) (v81_7 ua ub uc)) (v57_2 14 (v81_5 ua ub uc) (v81_6 ua ub uc) (v81_7 ua ub uc)) (v57_3 14 (v81_5 ua ub uc) (v81_6 ua ub uc) (v81_7 ua ub uc)) ([AV.int .i64 (-1),AV.int .i64 0,AV.int .i64 1000,AV.int .i64 1001])) else (bif decide ((v57_0 14 (v81_5 ua ub uc) (v81_6 ua ub uc) (v81_7 ua ub uc))=1) then (bif decide (((v81_0 ua ub uc).length:Int) > 0) then (v60_3 (v57_1 14 (v81_5 ua ub uc) (v81_6 ua ub uc) (v81_7 ua ub uc)) (v57_2 14 (v81_5 ua ub uc) (v81_6 ua ub uc) (v81_7 ua ub uc)) (v57_3 14 (v81_5 ua ub uc) (v81_6 ua ub uc) (v81_7 ua ub uc)) ([AV.int .i64 (-2),AV.int .i64 0,AV.int .i64 1])) else (v57_3 14 (v81_5 ua ub uc) (v81_6 ua ub uc) (v81_7 ua ub uc))) else (bif decide ((v57_0 14 (v81_5 ua ub uc) (v81_6 ua ub uc) (v81_7 ua ub uc))=2) then (v82_5 (v57_1 14 (v81_5 ua ub uc) (v81_6 ua ub uc) (v81_7 ua ub uc)) (v57_2 14 (v81_5 ua ub uc) (v81_6 ua ub uc) (v81_7 ua ub uc)) (v57_3 14 (v81_5 ua ub uc) (v81_6 ua ub uc) (v81_7 ua ub uc))) else (v57_3 14 (v81_5 ua ub uc) (v81_6 ua ub uc) (v81_7 ua ub uc)))))]]⟩]) (brL1 (fun _=>rfl)) (br (fun b=>K [AV.agg [AV.fl [.int .i64,.int .i64,.int .i64,.int .i64] (bif b then (bif decide (((v81_0 ua ub uc).length:Int) > 0) then (v81_0 ua ub uc).set (0:Int).toNat (AV.agg [AV.int .i64 (fI ((v81_0 ua ub uc).getD (0:Int).toNat .undef) 0),AV.int .i64 (fI ((v81_0 ua ub uc).getD (0:Int).toNat .undef) 1),AV.int .i64 (fI ((v81_0 ua ub uc).getD (0:Int).toNat .undef) 2),AV.int .i64 (v60_0 (v57_1 14 (v81_5 ua ub uc) (v81_6 ua ub uc) (v81_7 ua ub uc)) (v57_2 14 (v81_5 ua ub uc) (v81_6 ua ub uc) (v81_7 ua ub uc)) (v57_3 14 (v81_5 ua ub uc) (v81_6 ua ub uc) (v81_7 ua ub uc)) ([AV.int .i64 (-2),AV.int .i64 0,AV.int .i64 1]))]) else (v81_0 ua ub uc)) else (v81_0 ua ub uc)),AV.int .i64 (v81_1 ua ub uc),AV.fl [.int .i64] (bif b then (v81_2 ua ub uc) else (bif decide ((v57_0 14 (v81_5 ua ub uc) (v81_6 ua ub uc) (v81_7 ua ub uc))=2) then (v82_0 (v57_1 14 (v81_5 ua ub uc) (v81_6 ua ub uc) (v81_7 ua ub uc)) (v57_2 14 (v81_5 ua ub uc) (v81_6 ua ub uc) (v81_7 ua ub uc)) (v57_3 14 (v81_5 ua ub uc) (v81_6 ua ub uc) (v81_7 ua ub uc))) else (v81_2 ua ub uc))),AV.fl [.int .i64] (bif b then (v81_3 ua ub uc) else (bif decide ((v57_0 14 (v81_5 ua ub uc) (v81_6 ua ub uc) (v81_7 ua ub uc))=2) then (v82_1 (v57_1 14 (v81_5 ua ub uc) (v81_6 ua ub uc) (v81_7 ua ub uc)) (v57_2 14 (v81_5 ua ub uc) (v81_6 ua ub uc) (v81_7 ua ub uc)) (v57_3 14 (v81_5 ua ub uc) (v81_6 ua ub uc) (v81_7 ua ub uc))) else (v81_3 ua ub uc))),AV.fl [.int .i64,.int .i64] (bif b then (v81_4 ua ub uc) else (bif decide ((v57_0 14 (v81_5 ua ub uc) (v81_6 ua ub uc) (v81_7 ua ub uc))=2) then (v82_2 (v57_1 14 (v81_5 ua ub uc) (v81_6 ua ub uc) (v81_7 ua ub uc)) (v57_2 14 (v81_5 ua ub uc) (v81_6 ua ub uc) (v81_7 ua ub uc)) (v57_3 14 (v81_5 ua ub uc) (v81_6 ua ub uc) (v81_7 ua ub uc))) else (v81_4 ua ub uc)))]] [some ⟨true,[],[AV.agg [AV.sl [.int .u8] (bif b then (bif decide (((v81_0 ua ub uc).length:Int) > 0) then (v60_1 (v57_1 14 (v81_5 ua ub uc) (v81_6 ua ub uc) (v81_7 ua ub uc)) (v57_2 14 (v81_5 ua ub uc) (v81_6 ua ub uc) (v81_7 ua ub uc)) (v57_3 14 (v81_5 ua ub uc) (v81_6 ua ub uc) (v81_7 ua ub uc)) ([AV.int .i64 (-2),AV.int .i64 0,AV.int .i64 1])) else (v57_1 14 (v81_5 ua ub uc) (v81_6 ua ub uc) (v81_7 ua ub uc))) else (bif decide ((v57_0 14 (v81_5 ua ub uc) (v81_6 ua ub uc) (v81_7 ua ub uc))=2) then (v82_3 (v57_1 14 (v81_5 ua ub uc) (v81_6 ua ub uc) (v81_7 ua ub uc)) (v57_2 14 (v81_5 ua ub uc) (v81_6 ua ub uc) (v81_7 ua ub uc)) (v57_3 14 (v81_5 ua ub uc) (v81_6 ua ub uc) (v81_7 ua ub uc))) else (v57_1 14 (v81_5 ua ub uc) (v81_6 ua ub uc) (v81_7 ua ub uc)))),AV.int .i64 (bif b then (bif decide (((v81_0 ua ub uc).length:Int) > 0) then (v60_2 (v57_1 14 (v81_5 ua ub uc) (v81_6 ua ub uc) (v81_7 ua ub uc)) (v57_2 14 (v81_5 ua ub uc) (v81_6 ua ub uc) (v81_7 ua ub uc)) (v57_3 14 (v81_5 ua ub uc) (v81_6 ua ub uc) (v81_7 ua ub uc)) ([AV.int .i64 (-2),AV.int .i64 0,AV.int .i64 1])) else (v57_2 14 (v81_5 ua ub uc) (v81_6 ua ub uc) (v81_7 ua ub uc))) else (bif decide ((v57_0 14 (v81_5 ua ub uc) (v81_6 ua ub uc) (v81_7 ua ub uc))=2) then (v82_4 (v57_1 14 (v81_5 ua ub uc) (v81_6 ua ub uc) (v81_7 ua ub uc)) (v57_2 14 (v81_5 ua ub uc) (v81_6 ua ub uc) (v81_7 ua ub uc)) (v57_3 14 (v81_5 ua ub uc) (v81_6 ua ub uc) (v81_7 ua ub uc))) else (v57_2 14 (v81_5 ua ub uc) (v81_6 ua ub uc) (v81_7 ua ub uc)))),AV.int .i64 (bif b then (bif decide (((v81_0 ua ub uc).length:Int) > 0) then (v60_3 (v57_1 14 (v81_5 ua ub uc) (v81_6 ua ub uc) (v81_7 ua ub uc)) (v57_2 14 (v81_5 ua ub uc) (v81_6 ua ub uc) (v81_7 ua ub uc)) (v57_3 14 (v81_5 ua ub uc) (v81_6 ua ub uc) (v81_7 ua ub uc)) ([AV.int .i64 (-2),AV.int .i64 0,AV.int .i64 1])) else (v57_3 14 (v81_5 ua ub uc) (v81_6 ua ub uc) (v81_7 ua ub uc))) else (bif decide ((v57_0 14 (v81_5 ua ub uc) (v81_6 ua ub uc) (v81_7 ua ub uc))=2) then (v82_5 (v57_1 14 (v81_5 ua ub uc) (v81_6 ua ub uc) (v81_7 ua ub uc)) (v57_2 14 (v81_5 ua ub uc) (v81_6 ua ub uc) (v81_7 ua ub uc)) (v57_3 14 (v81_5 ua ub uc) (v81_6 ua ub uc) (v81_7 ua ub uc))) else (v57_3 14 (v81_5 ua ub uc) (v81_6 ua ub uc) (v81_7 ua ub uc))))]]⟩]) (br (fun b=>K [AV.agg [AV.fl [.int .i64,.int .i64,.int .i64,.int .i64] (bif b then (v81_0 ua ub uc).set (0:Int).toNat (AV.agg [AV.int .i64 (fI ((v81_0 ua ub uc).getD (0:Int).toNat .undef) 0),AV.int .i64 (fI ((v81_0 ua ub uc).getD (0:Int).toNat .undef) 1),AV.int .i64 (fI ((v81_0 ua ub uc).getD (0:Int).toNat .undef) 2),AV.int .i64 (v60_0 (v57_1 14 (v81_5 ua ub uc) (v81_6 ua ub uc) (v81_7 ua ub uc)) (v57_2 14 (v81_5 ua ub uc) (v81_6 ua ub uc) (v81_7 ua ub uc)) (v57_3 14 (v81_5 ua ub uc) (v81_6 ua ub uc) (v81_7 ua ub uc)) ([AV.int .i64 (-2),AV.int .i64 0,AV.int .i64 1]))]) else (v81_0 ua ub uc)),AV.int .i64 (v81_1 ua ub uc),AV.fl [.int .i64] (v81_2 ua ub uc),AV.fl [.int .i64] (v81_3 ua ub uc),AV.fl [.int .i64,.int .i64] (v81_4 ua ub uc)]] [some ⟨true,[],[AV.agg [AV.sl [.int .u8] (bif b then (v60_1 (v57_1 14 (v81_5 ua ub uc) (v81_6 ua ub uc) (v81_7 ua ub uc)) (v57_2 14 (v81_5 ua ub uc) (v81_6 ua ub uc) (v81_7 ua ub uc)) (v57_3 14 (v81_5 ua ub uc) (v81_6 ua ub uc) (v81_7 ua ub uc)) ([AV.int .i64 (-2),AV.int .i64 0,AV.int .i64 1])) else (v57_1 14 (v81_5 ua ub uc) (v81_6 ua ub uc) (v81_7 ua ub uc))),AV.int .i64 (bif b then (v60_2 (v57_1 14 (v81_5 ua ub uc) (v81_6 ua ub uc) (v81_7 ua ub uc)) (v57_2 14 (v81_5 ua ub uc) (v81_6 ua ub uc) (v81_7 ua ub uc)) (v57_3 14 (v81_5 ua ub uc) (v81_6 ua ub uc) (v81_7 ua ub uc)) ([AV.int .i64 (-2),AV.int .i64 0,AV.int .i64 1])) else (v57_2 14 (v81_5 ua ub uc) (v81_6 ua ub uc) (v81_7 ua ub uc))),AV.int .i64 (bif b then (v60_3 (v57_1 14 (v81_5 ua ub uc) (v81_6 ua ub uc) (v81_7 ua ub uc)) (v57_2 14 (v81_5 ua ub uc) (v81_6 ua ub uc) (v81_7 ua ub uc)) (v57_3 14 (v81_5 ua ub uc) (v81_6 ua ub uc) (v81_7 ua ub uc)) ([AV.int .i64 (-2),AV.int .i64 0,AV.int .i64 1])) else (v57_3 14 (v81_5 ua ub uc) (v81_6 ua ub uc) (v81_7 ua ub uc)))]]⟩]) (brL (brL1 (fun _=>rfl))) (fun _=>rfl)) (br (fun b=>K [AV.agg [AV.fl [.int .i64,.int .i64,.int .i64,.int .i64] (v81_0 ua ub uc),AV.int .i64 (v81_1 ua ub uc),AV.fl [.int .i64] (bif b then (v82_0 (v57_1 14 (v81_5 ua ub uc) (v81_6 ua ub uc) (v81_7 ua ub uc)) (v57_2 14 (v81_5 ua ub uc) (v81_6 ua ub uc) (v81_7 ua ub uc)) (v57_3 14 (v81_5 ua ub uc) (v81_6 ua ub uc) (v81_7 ua ub uc))) else (v81_2 ua ub uc)),AV.fl [.int .i64] (bif b then (v82_1 (v57_1 14 (v81_5 ua ub uc) (v81_6 ua ub uc) (v81_7 ua ub uc)) (v57_2 14 (v81_5 ua ub uc) (v81_6 ua ub uc) (v81_7 ua ub uc)) (v57_3 14 (v81_5 ua ub uc) (v81_6 ua ub uc) (v81_7 ua ub uc))) else (v81_3 ua ub uc)),AV.fl [.int .i64,.int .i64] (bif b then (v82_2 (v57_1 14 (v81_5 ua ub uc) (v81_6 ua ub uc) (v81_7 ua ub uc)) (v57_2 14 (v81_5 ua ub uc) (v81_6 ua ub uc) (v81_7 ua ub uc)) (v57_3 14 (v81_5 ua ub uc) (v81_6 ua ub uc) (v81_7 ua ub uc))) else (v81_4 ua ub uc))]] [some ⟨true,[],[AV.agg [AV.sl [.int .u8] (bif b then (v82_3 (v57_1 14 (v81_5 ua ub uc) (v81_6 ua ub uc) (v81_7 ua ub uc)) (v57_2 14 (v81_5 ua ub uc) (v81_6 ua ub uc) (v81_7 ua ub uc)) (v57_3 14 (v81_5 ua ub uc) (v81_6 ua ub uc) (v81_7 ua ub uc))) else (v57_1 14 (v81_5 ua ub uc) (v81_6 ua ub uc) (v81_7 ua ub uc))),AV.int .i64 (bif b then (v82_4 (v57_1 14 (v81_5 ua ub uc) (v81_6 ua ub uc) (v81_7 ua ub uc)) (v57_2 14 (v81_5 ua ub uc) (v81_6 ua ub uc) (v81_7 ua ub uc)) (v57_3 14 (v81_5 ua ub uc) (v81_6 ua ub uc) (v81_7 ua ub uc))) else (v57_2 14 (v81_5 ua ub uc) (v81_6 ua ub uc) (v81_7 ua ub uc))),AV.int .i64 (bif b then (v82_5 (v57_1 14 (v81_5 ua ub uc) (v81_6 ua ub uc) (v81_7 ua ub uc)) (v57_2 14 (v81_5 ua ub uc) (v81_6 ua ub uc) (v81_7 ua ub uc)) (v57_3 14 (v81_5 ua ub uc) (v81_6 ua ub uc) (v81_7 ua ub uc))) else (v57_3 14 (v81_5 ua ub uc) (v81_6 ua ub uc) (v81_7 ua ub uc)))]]⟩]) (brL1 (fun _=>rfl)) (fun _=>rfl)))))) h)
def m43:GModel
 | [.ptr g0 g1 g2],[⟨true,[],[.agg [.sl g3 ua,.int .i64 ub,.int .i64 uc]]⟩]=>bif nmEq g0 ([1]) && Nat.beq g1 0 && Nat.beq g2 0 && ctsEq g3 ([.int .u8]) then some (q43 ua ub uc,[AV.agg [AV.fl [.int .i64,.int .i64,.int .i64,.int .i64] (v43_0 ua ub uc),AV.int .i64 (v43_1 ua ub uc),AV.fl [.int .i64] (v43_2 ua ub uc),AV.fl [.int .i64] (v43_3 ua ub uc),AV.fl [.int .i64,.int .i64] (v43_4 ua ub uc)]],[some ⟨true,[],[AV.agg [AV.sl [.int .u8] (v43_5 ua ub uc),AV.int .i64 (v43_6 ua ub uc),AV.int .i64 (v43_7 ua ub uc)]]⟩]) else none
 | _,_=>none
theorem k43:Known Try.prog 43:=⟨Try.f43,Try.func43,by kernel_rfl,by kernel_rfl⟩
theorem meets43:MeetsG Try.prog 43 m43:=by
 refine meetG (rt:=[41]) (gs:=[]) (f:=Try.f43) (l:=[]) (hs:=[(43,999,[2]),(43,1000,[2,3])]) (ts:=[]) (ws:=[(57,.g m57),(60,.g m60),(81,.g m81),(82,.g m82)]) (is:=[]) (ls:=[]) (lvl:=0) mixed k43 Try.func43 (by kernel_rfl) noLoop allT_nil (allG_cons meets57 (allG_cons meets60 (allG_cons meets81 (allG_cons meets82 allM_nil)))) noI fun C w xs us bs r bs' hl hv hh h K=>?_
 unfold m43 at h
 split at h
 ·rename_i g0 g1 g2 g3 ua ub uc
  obtain ⟨hg,h⟩:=bif_pair h
  simp only [Bool.and_eq_true] at hg
  obtain ⟨⟨⟨q0,q1⟩,q2⟩,q3⟩:=hg
  obtain rfl:=(nmEq_iff _ _).1 q0
  obtain rfl:=Nat.eq_of_beq_eq_true q1
  obtain rfl:=Nat.eq_of_beq_eq_true q2
  obtain rfl:=ctsEq_eq _ _ q3
  obtain ⟨h1,rfl,rfl⟩:=trip_inj h
  exact r43 ua ub uc K h1
 ·cases h
def F14i29_0 (t0:List AV) (h0 t3 t4:Int):Out ((Int × Int)) (Int):=(bif decide (t4<(t0.length:Int)) then (bif decide (t4<4000) then (bif (decide (0≤t4) && decide (t4<(t0.length:Int))) then .next (IntKind.i64.wrap ((BitVec.ofInt 64 (IntKind.i64.wrap (IntKind.i64.wrap (IntKind.i64.wrap (t3*131)+IntKind.i64.wrap (fI (t0.getD t4.toNat .undef) 0))+7)) &&& BitVec.ofInt 64 1073741823).toNat:Int),IntKind.i64.wrap (t4+1))
 else .fail)
 else .stop t3)
 else .stop t3)
def R14i29_0 (t0:List AV) (h0:Int):((Int × Int))→Out ((Int × Int)) (Int):=fun s:Int × Int=>F14i29_0 t0 h0 s.1 s.2
def l14i29_0:LModel:=fun _ π st k=>match st with
 | ⟨[(0,.sl g1 t0),(3,.int .i64 t3),(4,.int .i64 t4)],[(g2,⟨true,[],[.agg [.snil,.int .i64 h0,.snil,.snil,.snil]]⟩)]⟩=>bif nmEq π ([7]) && ctsEq g1 ([.int .u8]) && nmEq g2 ([1,2]) then ro (runW (R14i29_0 t0 h0) (((t0.length:Int) - t4:Int).toNat+1) (t3,t4)) none (fun p:Int=>k (.exit 0) ⟨[(0,AV.sl [.int .u8] t0),(3,AV.int .i64 p)],[([1,2],⟨true,[],[AV.agg [AV.snil,AV.int .i64 h0,AV.snil,AV.snil,AV.snil]]⟩)]⟩) else none
 | _=>none
noncomputable def c14:Cfg:=cfg Try.prog [(14,999,[2,3]),(29,0,[0,3,4]),(29,999,[2]),(29,1000,[0,3]),(29,1001,[0,3,4])] [] [(43,.g m43),(44,.g m44)] [29] [(29,0,l14i29_0)]
theorem s14i29_0 (ce:CallE) (t0:List AV) (t3 t4 h0:Int) (next:St→Option AV) (k:Kont):stepA (codeA c14 ce [7] 29 0 (sub [1,1,0,1,0,0] (body Try.f29))) (normA [7] [0,3,4]) next ⟨[(0,AV.sl [.int .u8] t0),(3,Ai t3),(4,Ai t4)],[([1,2],⟨true,[],[AV.agg [AV.snil,Ai h0,AV.snil,AV.snil,AV.snil]]⟩)]⟩ k=(bif decide (t4<(t0.length:Int)) then (bif decide (t4<4000) then (bif (decide (0≤t4) && decide (t4<(t0.length:Int))) then next ⟨[(0,AV.sl [.int .u8] t0),(3,Ai (IntKind.i64.wrap ((BitVec.ofInt 64 (IntKind.i64.wrap (IntKind.i64.wrap (IntKind.i64.wrap (t3*131)+IntKind.i64.wrap (fI (t0.getD t4.toNat .undef) 0))+7)) &&& BitVec.ofInt 64 1073741823).toNat:Int))),(4,Ai (IntKind.i64.wrap (t4+1)))],[([1,2],⟨true,[],[AV.agg [AV.snil,Ai h0,AV.snil,AV.snil,AV.snil]]⟩)]⟩
 else none)
 else k (.exit 0) ⟨[(0,AV.sl [.int .u8] t0),(3,Ai t3)],[([1,2],⟨true,[],[AV.agg [AV.snil,Ai h0,AV.snil,AV.snil,AV.snil]]⟩)]⟩)
 else k (.exit 0) ⟨[(0,AV.sl [.int .u8] t0),(3,Ai t3)],[([1,2],⟨true,[],[AV.agg [AV.snil,Ai h0,AV.snil,AV.snil,AV.snil]]⟩)]⟩):=by kernel_rfl
theorem st14i29_0 (t0:List AV) (h0:Int) (ce:CallE) (k:Kont) (s:(Int × Int)) (next:St→Option AV):stepA (codeA c14 ce [7] 29 0 (sub [1,1,0,1,0,0] (body Try.f29))) (normA [7] [0,3,4]) next ((fun s:Int × Int=>⟨[(0,AV.sl [.int .u8] t0),(3,Ai s.1),(4,Ai s.2)],[([1,2],⟨true,[],[AV.agg [AV.snil,Ai h0,AV.snil,AV.snil,AV.snil]]⟩)]⟩) s) k=(R14i29_0 t0 h0 s).el none (fun s=>next ((fun s:Int × Int=>⟨[(0,AV.sl [.int .u8] t0),(3,Ai s.1),(4,Ai s.2)],[([1,2],⟨true,[],[AV.agg [AV.snil,Ai h0,AV.snil,AV.snil,AV.snil]]⟩)]⟩) s)) (fun p:Int=>k (.exit 0) ⟨[(0,AV.sl [.int .u8] t0),(3,Ai p)],[([1,2],⟨true,[],[AV.agg [AV.snil,Ai h0,AV.snil,AV.snil,AV.snil]]⟩)]⟩):=(s14i29_0 ce t0 s.1 s.2 h0 next k).trans (by unfold R14i29_0;unfold F14i29_0;simp only [el_cond,el_ro,el_sum,el_fail,el_next,el_stop] <;> rfl)
theorem ok14i29_0 {ce:CallE} {π:Nm}:LoopOK c14 ce π 29 0 (sub [1,1,0,1,0,0] (body Try.f29)):=by
 intro m hm st k r h
 obtain rfl:l14i29_0=m:=Option.some.inj hm
 unfold l14i29_0 at h
 split at h
 ·rename_i g1 t0 t3 t4 g2 h0
  obtain ⟨hg,h⟩:=bif_some h
  simp only [Bool.and_eq_true] at hg
  obtain ⟨⟨q0,q1⟩,q2⟩:=hg
  obtain rfl:=(nmEq_iff _ _).1 q0
  obtain rfl:=ctsEq_eq _ _ q1
  obtain rfl:=(nmEq_iff _ _).1 q2
  refine ⟨(((t0.length:Int) - t4:Int).toNat+1),?_⟩
  rw [← h]
  exact loop_run (fun s:Int × Int=>⟨[(0,AV.sl [.int .u8] t0),(3,Ai s.1),(4,Ai s.2)],[([1,2],⟨true,[],[AV.agg [AV.snil,Ai h0,AV.snil,AV.snil,AV.snil]]⟩)]⟩) (fun p:Int=>k (.exit 0) ⟨[(0,AV.sl [.int .u8] t0),(3,Ai p)],[([1,2],⟨true,[],[AV.agg [AV.snil,Ai h0,AV.snil,AV.snil,AV.snil]]⟩)]⟩) (st14i29_0 t0 h0 ce k) _ (t3,t4)
 ·cases h
def q14 (a0:List AV):Bool:=(ro (runW (R14i29_0 a0 0) (((a0.length:Int) - 0:Int).toNat+1) (IntKind.i64.wrap (10101+(a0.length:Int)),0)) false (fun p1=>(q43 a0 0 p1 && q44 (v43_5 a0 0 p1) (v43_6 a0 0 p1) (v43_7 a0 0 p1) (v43_2 a0 0 p1) (v43_3 a0 0 p1) (v43_4 a0 0 p1))))
def v14_0 (a0:List AV):List AV:=(ro (runW (R14i29_0 a0 0) (((a0.length:Int) - 0:Int).toNat+1) (IntKind.i64.wrap (10101+(a0.length:Int)),0)) [] (fun p1=>(v43_0 a0 0 p1)))
def v14_1 (a0:List AV):Int:=(ro (runW (R14i29_0 a0 0) (((a0.length:Int) - 0:Int).toNat+1) (IntKind.i64.wrap (10101+(a0.length:Int)),0)) 0 (fun p1=>(v43_1 a0 0 p1)))
def v14_2 (a0:List AV):List AV:=(ro (runW (R14i29_0 a0 0) (((a0.length:Int) - 0:Int).toNat+1) (IntKind.i64.wrap (10101+(a0.length:Int)),0)) [] (fun p1=>(v44_4 (v43_5 a0 0 p1) (v43_6 a0 0 p1) (v43_7 a0 0 p1) (v43_2 a0 0 p1) (v43_3 a0 0 p1) (v43_4 a0 0 p1))))
def v14_3 (a0:List AV):List AV:=(ro (runW (R14i29_0 a0 0) (((a0.length:Int) - 0:Int).toNat+1) (IntKind.i64.wrap (10101+(a0.length:Int)),0)) [] (fun p1=>(v44_5 (v43_5 a0 0 p1) (v43_6 a0 0 p1) (v43_7 a0 0 p1) (v43_2 a0 0 p1) (v43_3 a0 0 p1) (v43_4 a0 0 p1))))
def v14_4 (a0:List AV):List AV:=(ro (runW (R14i29_0 a0 0) (((a0.length:Int) - 0:Int).toNat+1) (IntKind.i64.wrap (10101+(a0.length:Int)),0)) [] (fun p1=>(v44_6 (v43_5 a0 0 p1) (v43_6 a0 0 p1) (v43_7 a0 0 p1) (v43_2 a0 0 p1) (v43_3 a0 0 p1) (v43_4 a0 0 p1))))
def v14_5 (a0:List AV):Int:=(ro (runW (R14i29_0 a0 0) (((a0.length:Int) - 0:Int).toNat+1) (IntKind.i64.wrap (10101+(a0.length:Int)),0)) 0 (fun p1=>(v44_0 (v43_5 a0 0 p1) (v43_6 a0 0 p1) (v43_7 a0 0 p1) (v43_2 a0 0 p1) (v43_3 a0 0 p1) (v43_4 a0 0 p1))))
theorem e14 (a0:List AV):funA c14 1 14 [AV.sl [.int .u8] a0]=(ro (runW (R14i29_0 a0 0) (((a0.length:Int) - 0:Int).toNat+1) (IntKind.i64.wrap (10101+(a0.length:Int)),0)) none (fun p1=>(bif q43 a0 0 p1 then (bif q44 (v43_5 a0 0 p1) (v43_6 a0 0 p1) (v43_7 a0 0 p1) (v43_2 a0 0 p1) (v43_3 a0 0 p1) (v43_4 a0 0 p1) then some (AV.tup [AV.agg [AV.fl [.int .i64,.int .i64,.int .i64,.int .i64] (v43_0 a0 0 p1),Ai (v43_1 a0 0 p1),AV.fl [.int .i64] (v44_4 (v43_5 a0 0 p1) (v43_6 a0 0 p1) (v43_7 a0 0 p1) (v43_2 a0 0 p1) (v43_3 a0 0 p1) (v43_4 a0 0 p1)),AV.fl [.int .i64] (v44_5 (v43_5 a0 0 p1) (v43_6 a0 0 p1) (v43_7 a0 0 p1) (v43_2 a0 0 p1) (v43_3 a0 0 p1) (v43_4 a0 0 p1)),AV.fl [.int .i64,.int .i64] (v44_6 (v43_5 a0 0 p1) (v43_6 a0 0 p1) (v43_7 a0 0 p1) (v43_2 a0 0 p1) (v43_3 a0 0 p1) (v43_4 a0 0 p1))],Ai (v44_0 (v43_5 a0 0 p1) (v43_6 a0 0 p1) (v43_7 a0 0 p1) (v43_2 a0 0 p1) (v43_3 a0 0 p1) (v43_4 a0 0 p1))])
 else none)
 else none))):=by kernel_rfl
def m14:TModel
 | [.sl g0 a0]=>bif ctsEq g0 ([.int .u8]) then some (q14 a0,AV.tup [AV.agg [AV.fl [.int .i64,.int .i64,.int .i64,.int .i64] (v14_0 a0),AV.int .i64 (v14_1 a0),AV.fl [.int .i64] (v14_2 a0),AV.fl [.int .i64] (v14_3 a0),AV.fl [.int .i64,.int .i64] (v14_4 a0)],AV.int .i64 (v14_5 a0)]) else none
 | _=>none
theorem k14:Known Try.prog 14:=⟨Try.f14,Try.func14,by kernel_rfl,by kernel_rfl⟩
theorem i14_29:InlK Try.prog [(14,999,[2,3]),(29,0,[0,3,4]),(29,999,[2]),(29,1000,[0,3]),(29,1001,[0,3,4])] [] [(43,.g m43),(44,.g m44)] [29] [(29,0,l14i29_0)] 29:=⟨⟨Try.f29,Try.func29,by kernel_rfl,by kernel_rfl⟩,Try.f29,[(0,sub [1,1,0,1,0,0] (body Try.f29))],Try.func29,by kernel_rfl,fun ce π=>(loops_cons (ok14i29_0 (ce:=ce) (π:=π)) noLoop)⟩
theorem meets14:Meets Try.prog 14 m14:=by
 refine meet (f:=Try.f14) (l:=[]) (hs:=[(14,999,[2,3]),(29,0,[0,3,4]),(29,999,[2]),(29,1000,[0,3]),(29,1001,[0,3,4])]) (ts:=[]) (ws:=[(43,.g m43),(44,.g m44)]) (is:=[29]) (ls:=[(29,0,l14i29_0)]) (lvl:=1) mixed k14 Try.func14 (by kernel_rfl) noLoop allT_nil (allG_cons meets43 (allG_cons meets44 allM_nil)) (allI_cons i14_29 noI) fun w xs us r hl hv h=>?_
 unfold m14 at h
 split at h
 ·rename_i g0 a0
  obtain ⟨hg,h⟩:=bif_pair h
  have q0:=hg
  obtain rfl:=ctsEq_eq _ _ q0
  obtain ⟨h1,rfl⟩:=pair_inj h
  exact (e14 a0).trans ((brO (fun o:Option (Int)=>some (AV.tup [AV.agg [AV.fl [.int .i64,.int .i64,.int .i64,.int .i64] (ro o [] (fun p1=>(v43_0 a0 0 p1))),Ai (ro o 0 (fun p1=>(v43_1 a0 0 p1))),AV.fl [.int .i64] (ro o [] (fun p1=>(v44_4 (v43_5 a0 0 p1) (v43_6 a0 0 p1) (v43_7 a0 0 p1) (v43_2 a0 0 p1) (v43_3 a0 0 p1) (v43_4 a0 0 p1)))),AV.fl [.int .i64] (ro o [] (fun p1=>(v44_5 (v43_5 a0 0 p1) (v43_6 a0 0 p1) (v43_7 a0 0 p1) (v43_2 a0 0 p1) (v43_3 a0 0 p1) (v43_4 a0 0 p1)))),AV.fl [.int .i64,.int .i64] (ro o [] (fun p1=>(v44_6 (v43_5 a0 0 p1) (v43_6 a0 0 p1) (v43_7 a0 0 p1) (v43_2 a0 0 p1) (v43_3 a0 0 p1) (v43_4 a0 0 p1))))],Ai (ro o 0 (fun p1=>(v44_0 (v43_5 a0 0 p1) (v43_6 a0 0 p1) (v43_7 a0 0 p1) (v43_2 a0 0 p1) (v43_3 a0 0 p1) (v43_4 a0 0 p1))))])) (fun p1=>(brL (brL1 (fun _=>rfl))))) h1)
 ·cases h
noncomputable def c83:Cfg:=cfg Try.prog [(83,999,[2])] [] [] [] []
def q83 (a0:List AV):Bool:=decide (a0.length*32≤140737488355328) && decide (a0.length≤140737488355328)
def v83_0 (a0:List AV):List AV:=a0
theorem e83 (a0:List AV):funA c83 0 83 [AV.sl [.int .i64,.int .i64,.int .i64,.int .i64] a0]=(bif decide (0<a0.length) then (bif (decide ((([]:List AV).length+a0.length)*32≤140737488355328) && decide ((([]:List AV).length+a0.length)≤140737488355328)) then some (AV.fl [.int .i64,.int .i64,.int .i64,.int .i64] (([]:List AV)++a0))
 else none)
 else none):=by kernel_rfl
theorem e83n (b:Bool):funA c83 0 83 [AV.sle b [.int .i64,.int .i64,.int .i64,.int .i64]]=some (AV.fl [.int .i64,.int .i64,.int .i64,.int .i64] []):=by cases b <;> kernel_rfl
def m83:TModel
 | [.sl g0 a0]=>bif ctsEq g0 [.int .i64,.int .i64,.int .i64,.int .i64] then some (q83 a0,AV.fl [.int .i64,.int .i64,.int .i64,.int .i64] (v83_0 a0)) else none
 | _=>none
theorem k83:Known Try.prog 83:=⟨Try.f83,Try.func83,by kernel_rfl,by kernel_rfl⟩
theorem meets83:Meets Try.prog 83 m83:=by
 refine meet_nil (f:=Try.f83) (l:=[]) (hs:=[(83,999,[2])]) (ts:=[]) (ws:=[]) (is:=[]) (ls:=[]) (lvl:=0) (tys:=[.int .i64,.int .i64,.int .i64,.int .i64]) mixed k83 Try.func83 (by kernel_rfl) noLoop allT_nil allM_nil noI (fun xs r h=>?_) (fun b r h=>?_) (fun ys r h0 h=>?_)
 ·unfold m83 at h
  split at h
  ·rename_i g0 a0
   obtain ⟨hg,h⟩:=bif_pair h
   obtain rfl:=ctsEq_eq _ _ hg
   exact ⟨a0,rfl⟩
  ·cases h
 ·obtain ⟨hg,h⟩:=bif_pair (g:=ctsEq [.int .i64,.int .i64,.int .i64,.int .i64] [.int .i64,.int .i64,.int .i64,.int .i64]) h
  obtain ⟨_,rfl⟩:=pair_inj h
  exact e83n b
 ·obtain ⟨hg,h⟩:=bif_pair (g:=ctsEq [.int .i64,.int .i64,.int .i64,.int .i64] [.int .i64,.int .i64,.int .i64,.int .i64]) h
  obtain ⟨hq,rfl⟩:=pair_inj h
  refine (e83 ys).trans ?_
  unfold q83 at hq
  have e:([]:List AV).length+ys.length=ys.length:=by simp
  rw [e,hq,decide_eq_true h0]
  rfl
noncomputable def c65:Cfg:=cfg Try.prog [(65,999,[2])] [] [] [] []
def q65 (a0:List AV):Bool:=decide (a0.length*8≤140737488355328) && decide (a0.length≤140737488355328)
def v65_0 (a0:List AV):List AV:=a0
theorem e65 (a0:List AV):funA c65 0 65 [AV.sl [.int .i64] a0]=(bif decide (0<a0.length) then (bif (decide ((([]:List AV).length+a0.length)*8≤140737488355328) && decide ((([]:List AV).length+a0.length)≤140737488355328)) then some (AV.fl [.int .i64] (([]:List AV)++a0))
 else none)
 else none):=by kernel_rfl
theorem e65n (b:Bool):funA c65 0 65 [AV.sle b [.int .i64]]=some (AV.fl [.int .i64] []):=by cases b <;> kernel_rfl
def m65:TModel
 | [.sl g0 a0]=>bif ctsEq g0 [.int .i64] then some (q65 a0,AV.fl [.int .i64] (v65_0 a0)) else none
 | _=>none
theorem k65:Known Try.prog 65:=⟨Try.f65,Try.func65,by kernel_rfl,by kernel_rfl⟩
theorem meets65:Meets Try.prog 65 m65:=by
 refine meet_nil (f:=Try.f65) (l:=[]) (hs:=[(65,999,[2])]) (ts:=[]) (ws:=[]) (is:=[]) (ls:=[]) (lvl:=0) (tys:=[.int .i64]) mixed k65 Try.func65 (by kernel_rfl) noLoop allT_nil allM_nil noI (fun xs r h=>?_) (fun b r h=>?_) (fun ys r h0 h=>?_)
 ·unfold m65 at h
  split at h
  ·rename_i g0 a0
   obtain ⟨hg,h⟩:=bif_pair h
   obtain rfl:=ctsEq_eq _ _ hg
   exact ⟨a0,rfl⟩
  ·cases h
 ·obtain ⟨hg,h⟩:=bif_pair (g:=ctsEq [.int .i64] [.int .i64]) h
  obtain ⟨_,rfl⟩:=pair_inj h
  exact e65n b
 ·obtain ⟨hg,h⟩:=bif_pair (g:=ctsEq [.int .i64] [.int .i64]) h
  obtain ⟨hq,rfl⟩:=pair_inj h
  refine (e65 ys).trans ?_
  unfold q65 at hq
  have e:([]:List AV).length+ys.length=ys.length:=by simp
  rw [e,hq,decide_eq_true h0]
  rfl
noncomputable def c97:Cfg:=cfg Try.prog [(97,999,[2])] [] [] [] []
def q97 (a0:List AV):Bool:=decide (a0.length*16≤140737488355328) && decide (a0.length≤140737488355328)
def v97_0 (a0:List AV):List AV:=a0
theorem e97 (a0:List AV):funA c97 0 97 [AV.sl [.int .i64,.int .i64] a0]=(bif decide (0<a0.length) then (bif (decide ((([]:List AV).length+a0.length)*16≤140737488355328) && decide ((([]:List AV).length+a0.length)≤140737488355328)) then some (AV.fl [.int .i64,.int .i64] (([]:List AV)++a0))
 else none)
 else none):=by kernel_rfl
theorem e97n (b:Bool):funA c97 0 97 [AV.sle b [.int .i64,.int .i64]]=some (AV.fl [.int .i64,.int .i64] []):=by cases b <;> kernel_rfl
def m97:TModel
 | [.sl g0 a0]=>bif ctsEq g0 [.int .i64,.int .i64] then some (q97 a0,AV.fl [.int .i64,.int .i64] (v97_0 a0)) else none
 | _=>none
theorem k97:Known Try.prog 97:=⟨Try.f97,Try.func97,by kernel_rfl,by kernel_rfl⟩
theorem meets97:Meets Try.prog 97 m97:=by
 refine meet_nil (f:=Try.f97) (l:=[]) (hs:=[(97,999,[2])]) (ts:=[]) (ws:=[]) (is:=[]) (ls:=[]) (lvl:=0) (tys:=[.int .i64,.int .i64]) mixed k97 Try.func97 (by kernel_rfl) noLoop allT_nil allM_nil noI (fun xs r h=>?_) (fun b r h=>?_) (fun ys r h0 h=>?_)
 ·unfold m97 at h
  split at h
  ·rename_i g0 a0
   obtain ⟨hg,h⟩:=bif_pair h
   obtain rfl:=ctsEq_eq _ _ hg
   exact ⟨a0,rfl⟩
  ·cases h
 ·obtain ⟨hg,h⟩:=bif_pair (g:=ctsEq [.int .i64,.int .i64] [.int .i64,.int .i64]) h
  obtain ⟨_,rfl⟩:=pair_inj h
  exact e97n b
 ·obtain ⟨hg,h⟩:=bif_pair (g:=ctsEq [.int .i64,.int .i64] [.int .i64,.int .i64]) h
  obtain ⟨hq,rfl⟩:=pair_inj h
  refine (e97 ys).trans ?_
  unfold q97 at hq
  have e:([]:List AV).length+ys.length=ys.length:=by simp
  rw [e,hq,decide_eq_true h0]
  rfl
noncomputable def c69:Cfg:=cfg Try.prog [(69,999,[2])] [(65,m65),(97,m97)] [] [] []
def q69 (xa xb xc:List AV):Bool:=(q65 xa && (q65 xb && q97 xc))
def v69_0 (xa xb xc:List AV):List AV:=(v65_0 xa)
def v69_1 (xa xb xc:List AV):List AV:=(v65_0 xb)
def v69_2 (xa xb xc:List AV):List AV:=(v97_0 xc)
theorem e69 (xa xb xc:List AV):funA c69 0 69 [AV.agg [AV.sl [.int .i64] xa,AV.sl [.int .i64] xb,AV.sl [.int .i64,.int .i64] xc]]=(bif q65 xa then (bif q65 xb then (bif q97 xc then some (AV.agg [AV.fl [.int .i64] (v65_0 xa),AV.fl [.int .i64] (v65_0 xb),AV.fl [.int .i64,.int .i64] (v97_0 xc)])
 else none)
 else none)
 else none):=by kernel_rfl
def m69:TModel
 | [.agg [.sl g0 xa,.sl g1 xb,.sl g2 xc]]=>bif ctsEq g0 ([.int .i64]) && ctsEq g1 ([.int .i64]) && ctsEq g2 ([.int .i64,.int .i64]) then some (q69 xa xb xc,AV.agg [AV.fl [.int .i64] (v69_0 xa xb xc),AV.fl [.int .i64] (v69_1 xa xb xc),AV.fl [.int .i64,.int .i64] (v69_2 xa xb xc)]) else none
 | _=>none
theorem k69:Known Try.prog 69:=⟨Try.f69,Try.func69,by kernel_rfl,by kernel_rfl⟩
theorem meets69:Meets Try.prog 69 m69:=by
 refine meet (f:=Try.f69) (l:=[]) (hs:=[(69,999,[2])]) (ts:=[(65,m65),(97,m97)]) (ws:=[]) (is:=[]) (ls:=[]) (lvl:=0) mixed k69 Try.func69 (by kernel_rfl) noLoop (allT_cons meets65 (allT_cons meets97 allT_nil)) allM_nil noI fun w xs us r hl hv h=>?_
 unfold m69 at h
 split at h
 ·rename_i g0 xa g1 xb g2 xc
  obtain ⟨hg,h⟩:=bif_pair h
  simp only [Bool.and_eq_true] at hg
  obtain ⟨⟨q0,q1⟩,q2⟩:=hg
  obtain rfl:=ctsEq_eq _ _ q0
  obtain rfl:=ctsEq_eq _ _ q1
  obtain rfl:=ctsEq_eq _ _ q2
  obtain ⟨h1,rfl⟩:=pair_inj h
  exact (e69 xa xb xc).trans ((brL (brL (brL1 (fun _=>rfl)))) h1)
 ·cases h
noncomputable def c45:Cfg:=cfg Try.prog [(45,999,[2])] [(69,m69),(83,m83)] [] [] []
def q45 (xa:List AV) (xb:Int) (xc xd xe:List AV):Bool:=(q83 xa && q69 xc xd xe)
def v45_0 (xa:List AV) (xb:Int) (xc xd xe:List AV):List AV:=(v83_0 xa)
def v45_1 (xa:List AV) (xb:Int) (xc xd xe:List AV):Int:=xb
def v45_2 (xa:List AV) (xb:Int) (xc xd xe:List AV):List AV:=(v69_0 xc xd xe)
def v45_3 (xa:List AV) (xb:Int) (xc xd xe:List AV):List AV:=(v69_1 xc xd xe)
def v45_4 (xa:List AV) (xb:Int) (xc xd xe:List AV):List AV:=(v69_2 xc xd xe)
theorem e45 (xa:List AV) (xb:Int) (xc xd xe:List AV):funA c45 0 45 [AV.agg [AV.sl [.int .i64,.int .i64,.int .i64,.int .i64] xa,Ai xb,AV.sl [.int .i64] xc,AV.sl [.int .i64] xd,AV.sl [.int .i64,.int .i64] xe]]=(bif q83 xa then (bif q69 xc xd xe then some (AV.agg [AV.fl [.int .i64,.int .i64,.int .i64,.int .i64] (v83_0 xa),Ai xb,AV.fl [.int .i64] (v69_0 xc xd xe),AV.fl [.int .i64] (v69_1 xc xd xe),AV.fl [.int .i64,.int .i64] (v69_2 xc xd xe)])
 else none)
 else none):=by kernel_rfl
def m45:TModel
 | [.agg [.sl g0 xa,.int .i64 xb,.sl g1 xc,.sl g2 xd,.sl g3 xe]]=>bif ctsEq g0 ([.int .i64,.int .i64,.int .i64,.int .i64]) && ctsEq g1 ([.int .i64]) && ctsEq g2 ([.int .i64]) && ctsEq g3 ([.int .i64,.int .i64]) then some (q45 xa xb xc xd xe,AV.agg [AV.fl [.int .i64,.int .i64,.int .i64,.int .i64] (v45_0 xa xb xc xd xe),AV.int .i64 (v45_1 xa xb xc xd xe),AV.fl [.int .i64] (v45_2 xa xb xc xd xe),AV.fl [.int .i64] (v45_3 xa xb xc xd xe),AV.fl [.int .i64,.int .i64] (v45_4 xa xb xc xd xe)]) else none
 | _=>none
theorem k45:Known Try.prog 45:=⟨Try.f45,Try.func45,by kernel_rfl,by kernel_rfl⟩
theorem meets45:Meets Try.prog 45 m45:=by
 refine meet (f:=Try.f45) (l:=[]) (hs:=[(45,999,[2])]) (ts:=[(69,m69),(83,m83)]) (ws:=[]) (is:=[]) (ls:=[]) (lvl:=0) mixed k45 Try.func45 (by kernel_rfl) noLoop (allT_cons meets69 (allT_cons meets83 allT_nil)) allM_nil noI fun w xs us r hl hv h=>?_
 unfold m45 at h
 split at h
 ·rename_i g0 xa xb g1 xc g2 xd g3 xe
  obtain ⟨hg,h⟩:=bif_pair h
  simp only [Bool.and_eq_true] at hg
  obtain ⟨⟨⟨q0,q1⟩,q2⟩,q3⟩:=hg
  obtain rfl:=ctsEq_eq _ _ q0
  obtain rfl:=ctsEq_eq _ _ q1
  obtain rfl:=ctsEq_eq _ _ q2
  obtain rfl:=ctsEq_eq _ _ q3
  obtain ⟨h1,rfl⟩:=pair_inj h
  exact (e45 xa xb xc xd xe).trans ((brL (brL1 (fun _=>rfl))) h1)
 ·cases h
noncomputable def c96:Cfg:=cfg Try.prog [(96,999,[4])] [] [] [] []
def q96 (a0:Int) (a1 a2:AV):Bool:=true
def v96_0 (a0:Int) (a1 a2:AV):Bool:=(bif decide (a0<fI a1 0) then true else decide (a0 > fI a2 0))
theorem e96 (a0:Int) (a1 a2:AV):funA c96 0 96 [Ai a0,AV.rptr [.int .i64] a1 0,AV.rptr [.int .i64] a2 0]=(bif decide (a0<fI a1 0) then some (AV.bool true)
 else some (AV.bool (decide (a0 > fI a2 0)))):=by kernel_rfl
def m96:TModel
 | [.int .i64 a0,.rptr g0 a1 g1,.rptr g2 a2 g3]=>bif ctsEq g0 ([.int .i64]) && Nat.beq g1 0 && ctsEq g2 ([.int .i64]) && Nat.beq g3 0 then some (true,AV.bool (v96_0 a0 a1 a2)) else none
 | _=>none
theorem k96:Known Try.prog 96:=⟨Try.f96,Try.func96,by kernel_rfl,by kernel_rfl⟩
theorem meets96:Meets Try.prog 96 m96:=by
 refine meet (f:=Try.f96) (l:=[]) (hs:=[(96,999,[4])]) (ts:=[]) (ws:=[]) (is:=[]) (ls:=[]) (lvl:=0) mixed k96 Try.func96 (by kernel_rfl) noLoop allT_nil allM_nil noI fun w xs us r hl hv h=>?_
 unfold m96 at h
 split at h
 ·rename_i a0 g0 a1 g1 g2 a2 g3
  obtain ⟨hg,h⟩:=bif_pair h
  simp only [Bool.and_eq_true] at hg
  obtain ⟨⟨⟨q0,q1⟩,q2⟩,q3⟩:=hg
  obtain rfl:=ctsEq_eq _ _ q0
  obtain rfl:=Nat.eq_of_beq_eq_true q1
  obtain rfl:=ctsEq_eq _ _ q2
  obtain rfl:=Nat.eq_of_beq_eq_true q3
  obtain ⟨h1,rfl⟩:=pair_inj h
  exact (e96 a0 a1 a2).trans (of_tt (brT (fun b=>some (AV.bool (bif b then true else decide (a0 > fI a2 0)))) (fun _=>rfl) (fun _=>rfl)))
 ·cases h
def F111_0 (t0:List AV) (t1_0 t1_1:AV) (t7 t8:Int):Out (Int) (Unit ⊕ Int):=(bif decide (t8<t7) then (bif (decide (0≤t8) && decide (t8<(t0.length:Int))) then (bif (v96_0 (fI (t0.getD t8.toNat .undef) 0) t1_0 t1_1) then .stop (.inr t8)
 else .next (IntKind.i64.wrap (t8+1)))
 else .fail)
 else .stop (.inl ()))
def R111_0 (t0:List AV) (t1_0 t1_1:AV) (t7:Int):(Int)→Out (Int) (Unit ⊕ Int):=fun s:Int=>F111_0 t0 t1_0 t1_1 t7 s
def E111_0 (t0:List AV) (t1_0 t1_1:AV) (t7:Int):(Int)→St:=fun s:Int=>⟨[(0,AV.sl [.int .i64] t0),(1,AV.fn 96 [AV.rptr [.int .i64] t1_0 0,AV.rptr [.int .i64] t1_1 0]),(7,Ai t7),(8,Ai s)],[]⟩
def K111_0 (k:Kont):(Unit ⊕ Int)→Option AV:=sumE (fun _:Unit=>k (.exit 0) ⟨[],[]⟩) (fun p:Int=>k .ret ⟨[(4,Ai p)],[]⟩)
def l111_0:LModel:=fun _ _ st k=>match st with
 | ⟨[(0,.sl g0 t0),(1,.fn g1 [.rptr g2 t1_0 g3,.rptr g4 t1_1 g5]),(7,.int .i64 t7),(8,.int .i64 t8)],[]⟩=>bif ctsEq g0 ([.int .i64]) && Nat.beq g1 96 && ctsEq g2 ([.int .i64]) && Nat.beq g3 0 && ctsEq g4 ([.int .i64]) && Nat.beq g5 0 then ro (runW (R111_0 t0 t1_0 t1_1 t7) ((t7 - t8:Int).toNat+1) t8) none (K111_0 k) else none
 | _=>none
noncomputable def c111:Cfg:=cfg Try.prog [(111,0,[0,1,7,8]),(111,999,[4]),(111,1000,[]),(111,1001,[0,1,7,8])] [(96,m96)] [] [] [(111,0,l111_0)]
theorem s111_0 (ce:CallE) (t0:List AV) (t1_0 t1_1:AV) (t7 t8:Int) (next:St→Option AV) (k:Kont):stepA (codeA c111 ce [] 111 0 (sub [1,0,1,0,0] (body Try.f111))) (normA [] [0,1,7,8]) next ⟨[(0,AV.sl [.int .i64] t0),(1,AV.fn 96 [AV.rptr [.int .i64] t1_0 0,AV.rptr [.int .i64] t1_1 0]),(7,Ai t7),(8,Ai t8)],[]⟩ k=(bif decide (t8<t7) then (bif (decide (0≤t8) && decide (t8<(t0.length:Int))) then (bif (v96_0 (fI (t0.getD t8.toNat .undef) 0) t1_0 t1_1) then k .ret ⟨[(4,Ai t8)],[]⟩
 else next ⟨[(0,AV.sl [.int .i64] t0),(1,AV.fn 96 [AV.rptr [.int .i64] t1_0 0,AV.rptr [.int .i64] t1_1 0]),(7,Ai t7),(8,Ai (IntKind.i64.wrap (t8+1)))],[]⟩)
 else none)
 else k (.exit 0) ⟨[],[]⟩):=by kernel_rfl
theorem st111_0 (t0:List AV) (t1_0 t1_1:AV) (t7:Int) (ce:CallE) (k:Kont) (s:Int) (next:St→Option AV):stepA (codeA c111 ce [] 111 0 (sub [1,0,1,0,0] (body Try.f111))) (normA [] [0,1,7,8]) next ((E111_0 t0 t1_0 t1_1 t7) s) k=(R111_0 t0 t1_0 t1_1 t7 s).el none (fun s=>next ((E111_0 t0 t1_0 t1_1 t7) s)) (K111_0 k):=(s111_0 ce t0 t1_0 t1_1 t7 s next k).trans (by unfold R111_0;unfold F111_0;simp only [el_cond,el_ro,el_sum,el_fail,el_next,el_stop] <;> rfl)
theorem ok111_0 {ce:CallE}:LoopOK c111 ce [] 111 0 (sub [1,0,1,0,0] (body Try.f111)):=by
 intro m hm st k r h
 obtain rfl:l111_0=m:=Option.some.inj hm
 unfold l111_0 at h
 split at h
 ·rename_i g0 t0 g1 g2 t1_0 g3 g4 t1_1 g5 t7 t8
  obtain ⟨hg,h⟩:=bif_some h
  simp only [Bool.and_eq_true] at hg
  obtain ⟨⟨⟨⟨⟨q0,q1⟩,q2⟩,q3⟩,q4⟩,q5⟩:=hg
  obtain rfl:=ctsEq_eq _ _ q0
  obtain rfl:=Nat.eq_of_beq_eq_true q1
  obtain rfl:=ctsEq_eq _ _ q2
  obtain rfl:=Nat.eq_of_beq_eq_true q3
  obtain rfl:=ctsEq_eq _ _ q4
  obtain rfl:=Nat.eq_of_beq_eq_true q5
  refine ⟨((t7 - t8:Int).toNat+1),?_⟩
  rw [← h]
  exact loop_run (E111_0 t0 t1_0 t1_1 t7) (K111_0 k) (st111_0 t0 t1_0 t1_1 t7 ce k) _ t8
 ·cases h
def q111 (a0:List AV) (ya yb:AV):Bool:=(ro (runW (R111_0 a0 ya yb (a0.length:Int)) (((a0.length:Int) - 0:Int).toNat+1) 0) false (sumE (fun _=>true) (fun p41=>true)))
def v111_0 (a0:List AV) (ya yb:AV):Int:=(ro (runW (R111_0 a0 ya yb (a0.length:Int)) (((a0.length:Int) - 0:Int).toNat+1) 0) 0 (sumE (fun _=>(-1)) (fun p41=>p41)))
theorem e111 (a0:List AV) (ya yb:AV):funA c111 0 111 [AV.sl [.int .i64] a0,AV.fn 96 [AV.rptr [.int .i64] ya 0,AV.rptr [.int .i64] yb 0]]=(ro (runW (R111_0 a0 ya yb (a0.length:Int)) (((a0.length:Int) - 0:Int).toNat+1) 0) none (sumE (fun _=>some (Ai (-1))) (fun p41=>some (Ai p41)))):=by kernel_rfl
def m111:TModel
 | [.sl g0 a0,.fn g1 [.rptr g2 ya g3,.rptr g4 yb g5]]=>bif ctsEq g0 ([.int .i64]) && Nat.beq g1 96 && ctsEq g2 ([.int .i64]) && Nat.beq g3 0 && ctsEq g4 ([.int .i64]) && Nat.beq g5 0 then some (q111 a0 ya yb,AV.int .i64 (v111_0 a0 ya yb)) else none
 | _=>none
theorem k111:Known Try.prog 111:=⟨Try.f111,Try.func111,by kernel_rfl,by kernel_rfl⟩
theorem meets111:Meets Try.prog 111 m111:=by
 refine meet (f:=Try.f111) (l:=[(0,sub [1,0,1,0,0] (body Try.f111))]) (hs:=[(111,0,[0,1,7,8]),(111,999,[4]),(111,1000,[]),(111,1001,[0,1,7,8])]) (ts:=[(96,m96)]) (ws:=[]) (is:=[]) (ls:=[(111,0,l111_0)]) (lvl:=0) mixed k111 Try.func111 (by kernel_rfl) (loops_cons ok111_0 noLoop) (allT_cons meets96 allT_nil) allM_nil noI fun w xs us r hl hv h=>?_
 unfold m111 at h
 split at h
 ·rename_i g0 a0 g1 g2 ya g3 g4 yb g5
  obtain ⟨hg,h⟩:=bif_pair h
  simp only [Bool.and_eq_true] at hg
  obtain ⟨⟨⟨⟨⟨q0,q1⟩,q2⟩,q3⟩,q4⟩,q5⟩:=hg
  obtain rfl:=ctsEq_eq _ _ q0
  obtain rfl:=Nat.eq_of_beq_eq_true q1
  obtain rfl:=ctsEq_eq _ _ q2
  obtain rfl:=Nat.eq_of_beq_eq_true q3
  obtain rfl:=ctsEq_eq _ _ q4
  obtain rfl:=Nat.eq_of_beq_eq_true q5
  obtain ⟨h1,rfl⟩:=pair_inj h
  exact (e111 a0 ya yb).trans ((brO (fun o:Option (Unit ⊕ Int)=>some (Ai (ro o 0 (sumE (fun _=>(-1)) (fun p41=>p41))))) (brS (fun o:Unit ⊕ Int=>some (Ai ((sumE (fun _=>(-1)) (fun p41=>p41)) o))) (fun _=>(fun _=>rfl)) (fun p41=>(fun _=>rfl)))) h1)
 ·cases h
noncomputable def c95:Cfg:=cfg Try.prog [(95,999,[4])] [(111,m111)] [] [] []
def q95 (a0:List AV) (ya yb:AV):Bool:=q111 a0 ya yb
def v95_0 (a0:List AV) (ya yb:AV):Bool:=decide ((v111_0 a0 ya yb) ≥ 0)
theorem e95 (a0:List AV) (ya yb:AV):funA c95 0 95 [AV.sl [.int .i64] a0,AV.fn 96 [AV.rptr [.int .i64] ya 0,AV.rptr [.int .i64] yb 0]]=(bif q111 a0 ya yb then some (AV.bool (decide ((v111_0 a0 ya yb) ≥ 0)))
 else none):=by kernel_rfl
def m95:TModel
 | [.sl g0 a0,.fn g1 [.rptr g2 ya g3,.rptr g4 yb g5]]=>bif ctsEq g0 ([.int .i64]) && Nat.beq g1 96 && ctsEq g2 ([.int .i64]) && Nat.beq g3 0 && ctsEq g4 ([.int .i64]) && Nat.beq g5 0 then some (q95 a0 ya yb,AV.bool (v95_0 a0 ya yb)) else none
 | _=>none
theorem k95:Known Try.prog 95:=⟨Try.f95,Try.func95,by kernel_rfl,by kernel_rfl⟩
theorem meets95:Meets Try.prog 95 m95:=by
 refine meet (f:=Try.f95) (l:=[]) (hs:=[(95,999,[4])]) (ts:=[(111,m111)]) (ws:=[]) (is:=[]) (ls:=[]) (lvl:=0) mixed k95 Try.func95 (by kernel_rfl) noLoop (allT_cons meets111 allT_nil) allM_nil noI fun w xs us r hl hv h=>?_
 unfold m95 at h
 split at h
 ·rename_i g0 a0 g1 g2 ya g3 g4 yb g5
  obtain ⟨hg,h⟩:=bif_pair h
  simp only [Bool.and_eq_true] at hg
  obtain ⟨⟨⟨⟨⟨q0,q1⟩,q2⟩,q3⟩,q4⟩,q5⟩:=hg
  obtain rfl:=ctsEq_eq _ _ q0
  obtain rfl:=Nat.eq_of_beq_eq_true q1
  obtain rfl:=ctsEq_eq _ _ q2
  obtain rfl:=Nat.eq_of_beq_eq_true q3
  obtain rfl:=ctsEq_eq _ _ q4
  obtain rfl:=Nat.eq_of_beq_eq_true q5
  obtain ⟨h1,rfl⟩:=pair_inj h
  exact (e95 a0 ya yb).trans ((brL1 (fun _=>rfl)) h1)
 ·cases h
noncomputable def c64:Cfg:=cfg Try.prog [(64,999,[6])] [(95,m95)] [] [] []
def q64 (a0:List AV) (a1 a2:Int):Bool:=q95 a0 (AV.int .i64 a1) (AV.int .i64 a2)
def v64_0 (a0:List AV) (a1 a2:Int):Bool := !(v95_0 a0 (AV.int .i64 a1) (AV.int .i64 a2))
theorem e64 (a0:List AV) (a1 a2:Int):funA c64 0 64 [AV.sl [.int .i64] a0,Ai a1,Ai a2]=(bif q95 a0 (Ai a1) (Ai a2) then some (AV.bool (!(v95_0 a0 (Ai a1) (Ai a2))))
 else none):=by kernel_rfl
def m64:TModel
 | [.sl g0 a0,.int .i64 a1,.int .i64 a2]=>bif ctsEq g0 ([.int .i64]) then some (q64 a0 a1 a2,AV.bool (v64_0 a0 a1 a2)) else none
 | _=>none
theorem k64:Known Try.prog 64:=⟨Try.f64,Try.func64,by kernel_rfl,by kernel_rfl⟩
theorem meets64:Meets Try.prog 64 m64:=by
 refine meet (f:=Try.f64) (l:=[]) (hs:=[(64,999,[6])]) (ts:=[(95,m95)]) (ws:=[]) (is:=[]) (ls:=[]) (lvl:=0) mixed k64 Try.func64 (by kernel_rfl) noLoop (allT_cons meets95 allT_nil) allM_nil noI fun w xs us r hl hv h=>?_
 unfold m64 at h
 split at h
 ·rename_i g0 a0 a1 a2
  obtain ⟨hg,h⟩:=bif_pair h
  have q0:=hg
  obtain rfl:=ctsEq_eq _ _ q0
  obtain ⟨h1,rfl⟩:=pair_inj h
  exact (e64 a0 a1 a2).trans ((brL1 (fun _=>rfl)) h1)
 ·cases h
noncomputable def c30:Cfg:=cfg Try.prog [(30,999,[2])] [(64,m64)] [] [] []
def q30 (a0:List AV):Bool:=(bif decide ((a0.length:Int)≤64) then q64 a0 (-999) 999 else true)
def v30_0 (a0:List AV):Bool:=(bif decide ((a0.length:Int)≤64) then (v64_0 a0 (-999) 999) else false)
theorem e30 (a0:List AV):funA c30 0 30 [AV.sl [.int .i64] a0]=(bif decide ((a0.length:Int)≤64) then (bif q64 a0 (-999) 999 then some (AV.bool (v64_0 a0 (-999) 999))
 else none)
 else some (AV.bool false)):=by kernel_rfl
def m30:TModel
 | [.sl g0 a0]=>bif ctsEq g0 ([.int .i64]) then some (q30 a0,AV.bool (v30_0 a0)) else none
 | _=>none
theorem k30:Known Try.prog 30:=⟨Try.f30,Try.func30,by kernel_rfl,by kernel_rfl⟩
theorem meets30:Meets Try.prog 30 m30:=by
 refine meet (f:=Try.f30) (l:=[]) (hs:=[(30,999,[2])]) (ts:=[(64,m64)]) (ws:=[]) (is:=[]) (ls:=[]) (lvl:=0) mixed k30 Try.func30 (by kernel_rfl) noLoop (allT_cons meets64 allT_nil) allM_nil noI fun w xs us r hl hv h=>?_
 unfold m30 at h
 split at h
 ·rename_i g0 a0
  obtain ⟨hg,h⟩:=bif_pair h
  have q0:=hg
  obtain rfl:=ctsEq_eq _ _ q0
  obtain ⟨h1,rfl⟩:=pair_inj h
  exact (e30 a0).trans ((br (fun b=>some (AV.bool (bif b then (v64_0 a0 (-999) 999) else false))) (brL1 (fun _=>rfl)) (fun _=>rfl)) h1)
 ·cases h
def F90_0 (t0:List AV) (t1 t7 t8:Int):Out (Int) (Unit ⊕ Int):=(bif decide (t8<t7) then (bif (decide (0≤t8) && decide (t8<(t0.length:Int))) then (bif decide (t1=fI (t0.getD t8.toNat .undef) 0) then .stop (.inr t8)
 else .next (IntKind.i64.wrap (t8+1)))
 else .fail)
 else .stop (.inl ()))
def R90_0 (t0:List AV) (t1 t7:Int):(Int)→Out (Int) (Unit ⊕ Int):=fun s:Int=>F90_0 t0 t1 t7 s
def E90_0 (t0:List AV) (t1 t7:Int):(Int)→St:=fun s:Int=>⟨[(0,AV.sl [.int .i64] t0),(1,Ai t1),(7,Ai t7),(8,Ai s)],[]⟩
def K90_0 (k:Kont):(Unit ⊕ Int)→Option AV:=sumE (fun _:Unit=>k (.exit 0) ⟨[],[]⟩) (fun p:Int=>k .ret ⟨[(4,Ai p)],[]⟩)
def l90_0:LModel:=fun _ _ st k=>match st with
 | ⟨[(0,.sl g0 t0),(1,.int .i64 t1),(7,.int .i64 t7),(8,.int .i64 t8)],[]⟩=>bif ctsEq g0 ([.int .i64]) then ro (runW (R90_0 t0 t1 t7) ((t7 - t8:Int).toNat+1) t8) none (K90_0 k) else none
 | _=>none
noncomputable def c90:Cfg:=cfg Try.prog [(90,0,[0,1,7,8]),(90,999,[4]),(90,1000,[]),(90,1001,[0,1,7,8])] [] [] [] [(90,0,l90_0)]
theorem s90_0 (ce:CallE) (t0:List AV) (t1 t7 t8:Int) (next:St→Option AV) (k:Kont):stepA (codeA c90 ce [] 90 0 (sub [1,0,1,0,0] (body Try.f90))) (normA [] [0,1,7,8]) next ⟨[(0,AV.sl [.int .i64] t0),(1,Ai t1),(7,Ai t7),(8,Ai t8)],[]⟩ k=(bif decide (t8<t7) then (bif (decide (0≤t8) && decide (t8<(t0.length:Int))) then (bif decide (t1=fI (t0.getD t8.toNat .undef) 0) then k .ret ⟨[(4,Ai t8)],[]⟩
 else next ⟨[(0,AV.sl [.int .i64] t0),(1,Ai t1),(7,Ai t7),(8,Ai (IntKind.i64.wrap (t8+1)))],[]⟩)
 else none)
 else k (.exit 0) ⟨[],[]⟩):=by kernel_rfl
theorem st90_0 (t0:List AV) (t1 t7:Int) (ce:CallE) (k:Kont) (s:Int) (next:St→Option AV):stepA (codeA c90 ce [] 90 0 (sub [1,0,1,0,0] (body Try.f90))) (normA [] [0,1,7,8]) next ((E90_0 t0 t1 t7) s) k=(R90_0 t0 t1 t7 s).el none (fun s=>next ((E90_0 t0 t1 t7) s)) (K90_0 k):=(s90_0 ce t0 t1 t7 s next k).trans (by unfold R90_0;unfold F90_0;simp only [el_cond,el_ro,el_sum,el_fail,el_next,el_stop] <;> rfl)
theorem ok90_0 {ce:CallE}:LoopOK c90 ce [] 90 0 (sub [1,0,1,0,0] (body Try.f90)):=by
 intro m hm st k r h
 obtain rfl:l90_0=m:=Option.some.inj hm
 unfold l90_0 at h
 split at h
 ·rename_i g0 t0 t1 t7 t8
  obtain ⟨hg,h⟩:=bif_some h
  have q0:=hg
  obtain rfl:=ctsEq_eq _ _ q0
  refine ⟨((t7 - t8:Int).toNat+1),?_⟩
  rw [← h]
  exact loop_run (E90_0 t0 t1 t7) (K90_0 k) (st90_0 t0 t1 t7 ce k) _ t8
 ·cases h
def q90 (a0:List AV) (a1:Int):Bool:=(ro (runW (R90_0 a0 a1 (a0.length:Int)) (((a0.length:Int) - 0:Int).toNat+1) 0) false (sumE (fun _=>true) (fun p43=>true)))
def v90_0 (a0:List AV) (a1:Int):Int:=(ro (runW (R90_0 a0 a1 (a0.length:Int)) (((a0.length:Int) - 0:Int).toNat+1) 0) 0 (sumE (fun _=>(-1)) (fun p43=>p43)))
theorem e90 (a0:List AV) (a1:Int):funA c90 0 90 [AV.sl [.int .i64] a0,Ai a1]=(ro (runW (R90_0 a0 a1 (a0.length:Int)) (((a0.length:Int) - 0:Int).toNat+1) 0) none (sumE (fun _=>some (Ai (-1))) (fun p43=>some (Ai p43)))):=by kernel_rfl
def m90:TModel
 | [.sl g0 a0,.int .i64 a1]=>bif ctsEq g0 ([.int .i64]) then some (q90 a0 a1,AV.int .i64 (v90_0 a0 a1)) else none
 | _=>none
theorem k90:Known Try.prog 90:=⟨Try.f90,Try.func90,by kernel_rfl,by kernel_rfl⟩
theorem meets90:Meets Try.prog 90 m90:=by
 refine meet (f:=Try.f90) (l:=[(0,sub [1,0,1,0,0] (body Try.f90))]) (hs:=[(90,0,[0,1,7,8]),(90,999,[4]),(90,1000,[]),(90,1001,[0,1,7,8])]) (ts:=[]) (ws:=[]) (is:=[]) (ls:=[(90,0,l90_0)]) (lvl:=0) mixed k90 Try.func90 (by kernel_rfl) (loops_cons ok90_0 noLoop) allT_nil allM_nil noI fun w xs us r hl hv h=>?_
 unfold m90 at h
 split at h
 ·rename_i g0 a0 a1
  obtain ⟨hg,h⟩:=bif_pair h
  have q0:=hg
  obtain rfl:=ctsEq_eq _ _ q0
  obtain ⟨h1,rfl⟩:=pair_inj h
  exact (e90 a0 a1).trans ((brO (fun o:Option (Unit ⊕ Int)=>some (Ai (ro o 0 (sumE (fun _=>(-1)) (fun p43=>p43))))) (brS (fun o:Unit ⊕ Int=>some (Ai ((sumE (fun _=>(-1)) (fun p43=>p43)) o))) (fun _=>(fun _=>rfl)) (fun p43=>(fun _=>rfl)))) h1)
 ·cases h
noncomputable def c88:Cfg:=cfg Try.prog [(88,999,[4])] [(90,m90)] [] [] []
def q88 (a0:List AV) (a1:Int):Bool:=q90 a0 a1
def v88_0 (a0:List AV) (a1:Int):Bool:=decide ((v90_0 a0 a1) ≥ 0)
theorem e88 (a0:List AV) (a1:Int):funA c88 0 88 [AV.sl [.int .i64] a0,Ai a1]=(bif q90 a0 a1 then some (AV.bool (decide ((v90_0 a0 a1) ≥ 0)))
 else none):=by kernel_rfl
def m88:TModel
 | [.sl g0 a0,.int .i64 a1]=>bif ctsEq g0 ([.int .i64]) then some (q88 a0 a1,AV.bool (v88_0 a0 a1)) else none
 | _=>none
theorem k88:Known Try.prog 88:=⟨Try.f88,Try.func88,by kernel_rfl,by kernel_rfl⟩
theorem meets88:Meets Try.prog 88 m88:=by
 refine meet (f:=Try.f88) (l:=[]) (hs:=[(88,999,[4])]) (ts:=[(90,m90)]) (ws:=[]) (is:=[]) (ls:=[]) (lvl:=0) mixed k88 Try.func88 (by kernel_rfl) noLoop (allT_cons meets90 allT_nil) allM_nil noI fun w xs us r hl hv h=>?_
 unfold m88 at h
 split at h
 ·rename_i g0 a0 a1
  obtain ⟨hg,h⟩:=bif_pair h
  have q0:=hg
  obtain rfl:=ctsEq_eq _ _ q0
  obtain ⟨h1,rfl⟩:=pair_inj h
  exact (e88 a0 a1).trans ((brL1 (fun _=>rfl)) h1)
 ·cases h
noncomputable def c89:Cfg:=cfg Try.prog [(89,999,[2])] [] [] [] []
def q89 (a0:Int):Bool:=true
def v89_0 (a0:Int):Bool:=(bif decide (a0 ≥ (-1000)) then decide (a0≤1000) else false)
theorem e89 (a0:Int):funA c89 0 89 [Ai a0]=(bif decide (a0 ≥ (-1000)) then some (AV.bool (decide (a0≤1000)))
 else some (AV.bool false)):=by kernel_rfl
def m89:TModel
 | [.int .i64 a0]=>some (true,AV.bool (v89_0 a0))
 | _=>none
theorem k89:Known Try.prog 89:=⟨Try.f89,Try.func89,by kernel_rfl,by kernel_rfl⟩
theorem meets89:Meets Try.prog 89 m89:=by
 refine meet (f:=Try.f89) (l:=[]) (hs:=[(89,999,[2])]) (ts:=[]) (ws:=[]) (is:=[]) (ls:=[]) (lvl:=0) mixed k89 Try.func89 (by kernel_rfl) noLoop allT_nil allM_nil noI fun w xs us r hl hv h=>?_
 unfold m89 at h
 split at h
 ·rename_i a0
  obtain ⟨h1,rfl⟩:=pair_inj h
  exact (e89 a0).trans (of_tt (brT (fun b=>some (AV.bool (bif b then decide (a0≤1000) else false))) (fun _=>rfl) (fun _=>rfl)))
 ·cases h
def F49_4 (t50:List AV) (t51 t52:Int) (t103:List AV) (t104:Int) (h0_0 h0_1 h0_2:List AV) (h1_0 h1_1 t105:Int):Out (Int) (Unit ⊕ Unit):=(bif decide (t105<t104) then (bif (decide (0≤t105) && decide (t105<(t103.length:Int))) then (bif !(decide (fI (t103.getD t105.toNat .undef) 0<h1_0) == decide (t105<h1_1)) then .stop (.inr ())
 else .next (IntKind.i64.wrap (t105+1)))
 else .fail)
 else .stop (.inl ()))
def R49_4 (t50:List AV) (t51 t52:Int) (t103:List AV) (t104:Int) (h0_0 h0_1 h0_2:List AV) (h1_0 h1_1:Int):(Int)→Out (Int) (Unit ⊕ Unit):=fun s:Int=>F49_4 t50 t51 t52 t103 t104 h0_0 h0_1 h0_2 h1_0 h1_1 s
def E49_4 (t50:List AV) (t51 t52:Int) (t103:List AV) (t104:Int) (h0_0 h0_1 h0_2:List AV) (h1_0 h1_1:Int):(Int)→St:=fun s:Int=>⟨[(1,AV.ptr [0,1] 0 0),(6,AV.ptr [0,6] 0 0),(50,AV.sl [.int .i64,.int .i64] t50),(51,Ai t51),(52,Ai t52),(103,AV.sl [.int .i64] t103),(104,Ai t104),(105,Ai s)],[([0,1],⟨true,[],[AV.agg [AV.sl [.int .i64] h0_0,AV.sl [.int .i64] h0_1,AV.sl [.int .i64,.int .i64] h0_2]]⟩),([0,6],⟨true,[],[AV.agg [Ai h1_0,Ai h1_1]]⟩)]⟩
def K49_4 (t50:List AV) (t51 t52:Int) (h0_0 h0_1 h0_2:List AV) (h1_0 h1_1:Int) (k:Kont):(Unit ⊕ Unit)→Option AV:=sumE (fun _:Unit=>k (.exit 4) ⟨[(1,AV.ptr [0,1] 0 0),(50,AV.sl [.int .i64,.int .i64] t50),(51,Ai t51),(52,Ai t52)],[([0,1],⟨true,[],[AV.agg [AV.sl [.int .i64] h0_0,AV.sl [.int .i64] h0_1,AV.sl [.int .i64,.int .i64] h0_2]]⟩),([0,6],⟨true,[],[AV.agg [Ai h1_0,Ai h1_1]]⟩)]⟩) (fun _:Unit=>k .ret ⟨[(2,AV.bool false)],[([0,1],⟨true,[],[AV.agg [AV.sl [.int .i64] h0_0,AV.sl [.int .i64] h0_1,AV.sl [.int .i64,.int .i64] h0_2]]⟩),([0,6],⟨true,[],[AV.agg [Ai h1_0,Ai h1_1]]⟩)]⟩)
def l49_4:LModel:=fun _ _ st k=>match st with
 | ⟨[(1,.ptr g0 g1 g2),(6,.ptr g3 g4 g5),(50,.sl g6 t50),(51,.int .i64 t51),(52,.int .i64 t52),(103,.sl g7 t103),(104,.int .i64 t104),(105,.int .i64 t105)],[(g8,⟨true,[],[.agg [.sl g9 h0_0,.sl g10 h0_1,.sl g11 h0_2]]⟩),(g12,⟨true,[],[.agg [.int .i64 h1_0,.int .i64 h1_1]]⟩)]⟩=>bif nmEq g0 ([0,1]) && Nat.beq g1 0 && Nat.beq g2 0 && nmEq g3 ([0,6]) && Nat.beq g4 0 && Nat.beq g5 0 && ctsEq g6 ([.int .i64,.int .i64]) && ctsEq g7 ([.int .i64]) && nmEq g8 ([0,1]) && ctsEq g9 ([.int .i64]) && ctsEq g10 ([.int .i64]) && ctsEq g11 ([.int .i64,.int .i64]) && nmEq g12 ([0,6]) then ro (runW (R49_4 t50 t51 t52 t103 t104 h0_0 h0_1 h0_2 h1_0 h1_1) ((t104 - t105:Int).toNat+1) t105) none (K49_4 t50 t51 t52 h0_0 h0_1 h0_2 h1_0 h1_1 k) else none
 | _=>none
def F49_2 (t50:List AV) (t51:Int) (h0_0 h0_1 h0_2:List AV) (t52:Int):Out (Int) (Unit ⊕ (Int × Int) ⊕ (Int × Int)):=(bif decide (t52<t51) then (bif (decide (0≤t52) && decide (t52<(t50.length:Int))) then (bif !(v89_0 (fI (t50.getD t52.toNat .undef) 0)) then .stop (.inr (.inl (fI (t50.getD t52.toNat .undef) 0,fI (t50.getD t52.toNat .undef) 1)))
 else (bif decide (fI (t50.getD t52.toNat .undef) 1<0) then .stop (.inr (.inl (fI (t50.getD t52.toNat .undef) 0,fI (t50.getD t52.toNat .undef) 1)))
 else (bif decide (fI (t50.getD t52.toNat .undef) 1 > (h0_0.length:Int)) then .stop (.inr (.inl (fI (t50.getD t52.toNat .undef) 0,fI (t50.getD t52.toNat .undef) 1)))
 else (bif decide (t52 > 0) then (bif (decide (0≤IntKind.i64.wrap (t52 - 1)) && decide (IntKind.i64.wrap (t52 - 1)<(h0_2.length:Int))) then (bif decide (fI (t50.getD t52.toNat .undef) 0≤fI (h0_2.getD (IntKind.i64.wrap (t52 - 1)).toNat .undef) 0) then .stop (.inr (.inl (fI (t50.getD t52.toNat .undef) 0,fI (t50.getD t52.toNat .undef) 1)))
 else (bif (decide (0≤IntKind.i64.wrap (t52 - 1)) && decide (IntKind.i64.wrap (t52 - 1)<(h0_2.length:Int))) then (bif decide (fI (t50.getD t52.toNat .undef) 1<fI (h0_2.getD (IntKind.i64.wrap (t52 - 1)).toNat .undef) 1) then .stop (.inr (.inl (fI (t50.getD t52.toNat .undef) 0,fI (t50.getD t52.toNat .undef) 1)))
 else (ro (runW (R49_4 t50 t51 t52 h0_0 (h0_0.length:Int) h0_0 h0_1 h0_2 (fI (t50.getD t52.toNat .undef) 0) (fI (t50.getD t52.toNat .undef) 1)) (((h0_0.length:Int) - 0:Int).toNat+1) 0) .fail (sumE (fun _ => .next (IntKind.i64.wrap (t52+1))) (fun _ => .stop (.inr (.inr (fI (t50.getD t52.toNat .undef) 0,fI (t50.getD t52.toNat .undef) 1)))))))
 else .fail))
 else .fail)
 else (ro (runW (R49_4 t50 t51 t52 h0_0 (h0_0.length:Int) h0_0 h0_1 h0_2 (fI (t50.getD t52.toNat .undef) 0) (fI (t50.getD t52.toNat .undef) 1)) (((h0_0.length:Int) - 0:Int).toNat+1) 0) .fail (sumE (fun _ => .next (IntKind.i64.wrap (t52+1))) (fun _ => .stop (.inr (.inr (fI (t50.getD t52.toNat .undef) 0,fI (t50.getD t52.toNat .undef) 1))))))))))
 else .fail)
 else .stop (.inl ()))
def R49_2 (t50:List AV) (t51:Int) (h0_0 h0_1 h0_2:List AV):(Int)→Out (Int) (Unit ⊕ (Int × Int) ⊕ (Int × Int)):=fun s:Int=>F49_2 t50 t51 h0_0 h0_1 h0_2 s
def E49_2 (t50:List AV) (t51:Int) (h0_0 h0_1 h0_2:List AV):(Int)→St:=fun s:Int=>⟨[(1,AV.ptr [0,1] 0 0),(50,AV.sl [.int .i64,.int .i64] t50),(51,Ai t51),(52,Ai s)],[([0,1],⟨true,[],[AV.agg [AV.sl [.int .i64] h0_0,AV.sl [.int .i64] h0_1,AV.sl [.int .i64,.int .i64] h0_2]]⟩)]⟩
def K49_2 (h0_0 h0_1 h0_2:List AV) (k:Kont):(Unit ⊕ (Int × Int) ⊕ (Int × Int))→Option AV:=sumE (fun _:Unit=>k (.exit 2) ⟨[],[([0,1],⟨true,[],[AV.agg [AV.sl [.int .i64] h0_0,AV.sl [.int .i64] h0_1,AV.sl [.int .i64,.int .i64] h0_2]]⟩)]⟩) (sumE (fun p:Int × Int=>k .ret ⟨[(2,AV.bool false)],[([0,1],⟨true,[],[AV.agg [AV.sl [.int .i64] h0_0,AV.sl [.int .i64] h0_1,AV.sl [.int .i64,.int .i64] h0_2]]⟩),([1,6],⟨true,[],[AV.agg [Ai p.1,Ai p.2]]⟩)]⟩) (fun p:Int × Int=>k .ret ⟨[(2,AV.bool false)],[([0,1],⟨true,[],[AV.agg [AV.sl [.int .i64] h0_0,AV.sl [.int .i64] h0_1,AV.sl [.int .i64,.int .i64] h0_2]]⟩),([0,6],⟨true,[],[AV.agg [Ai p.1,Ai p.2]]⟩)]⟩))
def l49_2:LModel:=fun _ _ st k=>match st with
 | ⟨[(1,.ptr g0 g1 g2),(50,.sl g3 t50),(51,.int .i64 t51),(52,.int .i64 t52)],[(g4,⟨true,[],[.agg [.sl g5 h0_0,.sl g6 h0_1,.sl g7 h0_2]]⟩)]⟩=>bif nmEq g0 ([0,1]) && Nat.beq g1 0 && Nat.beq g2 0 && ctsEq g3 ([.int .i64,.int .i64]) && nmEq g4 ([0,1]) && ctsEq g5 ([.int .i64]) && ctsEq g6 ([.int .i64]) && ctsEq g7 ([.int .i64,.int .i64]) then ro (runW (R49_2 t50 t51 h0_0 h0_1 h0_2) ((t51 - t52:Int).toNat+1) t52) none (K49_2 h0_0 h0_1 h0_2 k) else none
 | _=>none
def F49_0 (t35:List AV) (t36:Int) (h0_0 h0_1 h0_2:List AV) (t37:Int):Out (Int) (Unit ⊕ Unit):=(bif decide (t37<t36) then (bif (decide (0≤t37) && decide (t37<(t35.length:Int))) then (bif (decide (0≤0) && decide (0≤t37) && decide (t37≤(h0_1.length:Int))) then (bif q88 ((h0_1.take (Int.toNat t37)).drop (Int.toNat 0)) (fI (t35.getD t37.toNat .undef) 0) then (bif (v88_0 ((h0_1.take (Int.toNat t37)).drop (Int.toNat 0)) (fI (t35.getD t37.toNat .undef) 0)) then .stop (.inr ())
 else .next (IntKind.i64.wrap (t37+1)))
 else .fail)
 else .fail)
 else .fail)
 else .stop (.inl ()))
def R49_0 (t35:List AV) (t36:Int) (h0_0 h0_1 h0_2:List AV):(Int)→Out (Int) (Unit ⊕ Unit):=fun s:Int=>F49_0 t35 t36 h0_0 h0_1 h0_2 s
def E49_0 (t35:List AV) (t36:Int) (h0_0 h0_1 h0_2:List AV):(Int)→St:=fun s:Int=>⟨[(1,AV.ptr [0,1] 0 0),(35,AV.sl [.int .i64] t35),(36,Ai t36),(37,Ai s)],[([0,1],⟨true,[],[AV.agg [AV.sl [.int .i64] h0_0,AV.sl [.int .i64] h0_1,AV.sl [.int .i64,.int .i64] h0_2]]⟩)]⟩
def K49_0 (h0_0 h0_1 h0_2:List AV) (k:Kont):(Unit ⊕ Unit)→Option AV:=sumE (fun _:Unit=>k (.exit 0) ⟨[(1,AV.ptr [0,1] 0 0)],[([0,1],⟨true,[],[AV.agg [AV.sl [.int .i64] h0_0,AV.sl [.int .i64] h0_1,AV.sl [.int .i64,.int .i64] h0_2]]⟩)]⟩) (fun _:Unit=>k .ret ⟨[(2,AV.bool false)],[([0,1],⟨true,[],[AV.agg [AV.sl [.int .i64] h0_0,AV.sl [.int .i64] h0_1,AV.sl [.int .i64,.int .i64] h0_2]]⟩)]⟩)
def l49_0:LModel:=fun _ _ st k=>match st with
 | ⟨[(1,.ptr g0 g1 g2),(35,.sl g3 t35),(36,.int .i64 t36),(37,.int .i64 t37)],[(g4,⟨true,[],[.agg [.sl g5 h0_0,.sl g6 h0_1,.sl g7 h0_2]]⟩)]⟩=>bif nmEq g0 ([0,1]) && Nat.beq g1 0 && Nat.beq g2 0 && ctsEq g3 ([.int .i64]) && nmEq g4 ([0,1]) && ctsEq g5 ([.int .i64]) && ctsEq g6 ([.int .i64]) && ctsEq g7 ([.int .i64,.int .i64]) then ro (runW (R49_0 t35 t36 h0_0 h0_1 h0_2) ((t36 - t37:Int).toNat+1) t37) none (K49_0 h0_0 h0_1 h0_2 k) else none
 | _=>none
noncomputable def c49:Cfg:=cfg Try.prog [(49,0,[1,35,36,37]),(49,2,[1,50,51,52]),(49,4,[1,6,50,51,52,103,104,105]),(49,999,[2]),(49,1000,[1]),(49,1001,[1,35,36,37]),(49,1002,[]),(49,1003,[1,50,51,52]),(49,1004,[1,50,51,52]),(49,1005,[1,6,50,51,52,103,104,105])] [(30,m30),(64,m64),(88,m88),(89,m89)] [] [] [(49,0,l49_0),(49,2,l49_2),(49,4,l49_4)]
theorem s49_4 (ce:CallE) (t50:List AV) (t51 t52:Int) (t103:List AV) (t104 t105:Int) (h0_0 h0_1 h0_2:List AV) (h1_0 h1_1:Int) (next:St→Option AV) (k:Kont):stepA (codeA c49 ce [] 49 4 (sub [1,1,1,0,1,0,0,1,1,0,0,1,1,1,0,0] (body Try.f49))) (normA [] [1,6,50,51,52,103,104,105]) next ⟨[(1,AV.ptr [0,1] 0 0),(6,AV.ptr [0,6] 0 0),(50,AV.sl [.int .i64,.int .i64] t50),(51,Ai t51),(52,Ai t52),(103,AV.sl [.int .i64] t103),(104,Ai t104),(105,Ai t105)],[([0,1],⟨true,[],[AV.agg [AV.sl [.int .i64] h0_0,AV.sl [.int .i64] h0_1,AV.sl [.int .i64,.int .i64] h0_2]]⟩),([0,6],⟨true,[],[AV.agg [Ai h1_0,Ai h1_1]]⟩)]⟩ k=(bif decide (t105<t104) then (bif (decide (0≤t105) && decide (t105<(t103.length:Int))) then (bif !(decide (fI (t103.getD t105.toNat .undef) 0<h1_0) == decide (t105<h1_1)) then k .ret ⟨[(2,AV.bool false)],[([0,1],⟨true,[],[AV.agg [AV.sl [.int .i64] h0_0,AV.sl [.int .i64] h0_1,AV.sl [.int .i64,.int .i64] h0_2]]⟩),([0,6],⟨true,[],[AV.agg [Ai h1_0,Ai h1_1]]⟩)]⟩
 else next ⟨[(1,AV.ptr [0,1] 0 0),(6,AV.ptr [0,6] 0 0),(50,AV.sl [.int .i64,.int .i64] t50),(51,Ai t51),(52,Ai t52),(103,AV.sl [.int .i64] t103),(104,Ai t104),(105,Ai (IntKind.i64.wrap (t105+1)))],[([0,1],⟨true,[],[AV.agg [AV.sl [.int .i64] h0_0,AV.sl [.int .i64] h0_1,AV.sl [.int .i64,.int .i64] h0_2]]⟩),([0,6],⟨true,[],[AV.agg [Ai h1_0,Ai h1_1]]⟩)]⟩)
 else none)
 else k (.exit 4) ⟨[(1,AV.ptr [0,1] 0 0),(50,AV.sl [.int .i64,.int .i64] t50),(51,Ai t51),(52,Ai t52)],[([0,1],⟨true,[],[AV.agg [AV.sl [.int .i64] h0_0,AV.sl [.int .i64] h0_1,AV.sl [.int .i64,.int .i64] h0_2]]⟩),([0,6],⟨true,[],[AV.agg [Ai h1_0,Ai h1_1]]⟩)]⟩):=by kernel_rfl
theorem st49_4 (t50:List AV) (t51 t52:Int) (t103:List AV) (t104:Int) (h0_0 h0_1 h0_2:List AV) (h1_0 h1_1:Int) (ce:CallE) (k:Kont) (s:Int) (next:St→Option AV):stepA (codeA c49 ce [] 49 4 (sub [1,1,1,0,1,0,0,1,1,0,0,1,1,1,0,0] (body Try.f49))) (normA [] [1,6,50,51,52,103,104,105]) next ((E49_4 t50 t51 t52 t103 t104 h0_0 h0_1 h0_2 h1_0 h1_1) s) k=(R49_4 t50 t51 t52 t103 t104 h0_0 h0_1 h0_2 h1_0 h1_1 s).el none (fun s=>next ((E49_4 t50 t51 t52 t103 t104 h0_0 h0_1 h0_2 h1_0 h1_1) s)) (K49_4 t50 t51 t52 h0_0 h0_1 h0_2 h1_0 h1_1 k):=(s49_4 ce t50 t51 t52 t103 t104 s h0_0 h0_1 h0_2 h1_0 h1_1 next k).trans (by unfold R49_4;unfold F49_4;simp only [el_cond,el_ro,el_sum,el_fail,el_next,el_stop] <;> rfl)
theorem ok49_4 {ce:CallE}:LoopOK c49 ce [] 49 4 (sub [1,1,1,0,1,0,0,1,1,0,0,1,1,1,0,0] (body Try.f49)):=by
 intro m hm st k r h
 obtain rfl:l49_4=m:=Option.some.inj hm
 unfold l49_4 at h
 split at h
 ·rename_i g0 g1 g2 g3 g4 g5 g6 t50 t51 t52 g7 t103 t104 t105 g8 g9 h0_0 g10 h0_1 g11 h0_2 g12 h1_0 h1_1
  obtain ⟨hg,h⟩:=bif_some h
  simp only [Bool.and_eq_true] at hg
  obtain ⟨⟨⟨⟨⟨⟨⟨⟨⟨⟨⟨⟨q0,q1⟩,q2⟩,q3⟩,q4⟩,q5⟩,q6⟩,q7⟩,q8⟩,q9⟩,q10⟩,q11⟩,q12⟩:=hg
  obtain rfl:=(nmEq_iff _ _).1 q0
  obtain rfl:=Nat.eq_of_beq_eq_true q1
  obtain rfl:=Nat.eq_of_beq_eq_true q2
  obtain rfl:=(nmEq_iff _ _).1 q3
  obtain rfl:=Nat.eq_of_beq_eq_true q4
  obtain rfl:=Nat.eq_of_beq_eq_true q5
  obtain rfl:=ctsEq_eq _ _ q6
  obtain rfl:=ctsEq_eq _ _ q7
  obtain rfl:=(nmEq_iff _ _).1 q8
  obtain rfl:=ctsEq_eq _ _ q9
  obtain rfl:=ctsEq_eq _ _ q10
  obtain rfl:=ctsEq_eq _ _ q11
  obtain rfl:=(nmEq_iff _ _).1 q12
  refine ⟨((t104 - t105:Int).toNat+1),?_⟩
  rw [← h]
  exact loop_run (E49_4 t50 t51 t52 t103 t104 h0_0 h0_1 h0_2 h1_0 h1_1) (K49_4 t50 t51 t52 h0_0 h0_1 h0_2 h1_0 h1_1 k) (st49_4 t50 t51 t52 t103 t104 h0_0 h0_1 h0_2 h1_0 h1_1 ce k) _ t105
 ·cases h
theorem s49_2 (ce:CallE) (t50:List AV) (t51 t52:Int) (h0_0 h0_1 h0_2:List AV) (next:St→Option AV) (k:Kont):stepA (codeA c49 ce [] 49 2 (sub [1,1,1,0,1,0,0] (body Try.f49))) (normA [] [1,50,51,52]) next ⟨[(1,AV.ptr [0,1] 0 0),(50,AV.sl [.int .i64,.int .i64] t50),(51,Ai t51),(52,Ai t52)],[([0,1],⟨true,[],[AV.agg [AV.sl [.int .i64] h0_0,AV.sl [.int .i64] h0_1,AV.sl [.int .i64,.int .i64] h0_2]]⟩)]⟩ k=(bif decide (t52<t51) then (bif (decide (0≤t52) && decide (t52<(t50.length:Int))) then (bif !(v89_0 (fI (t50.getD t52.toNat .undef) 0)) then k .ret ⟨[(2,AV.bool false)],[([0,1],⟨true,[],[AV.agg [AV.sl [.int .i64] h0_0,AV.sl [.int .i64] h0_1,AV.sl [.int .i64,.int .i64] h0_2]]⟩),([1,6],⟨true,[],[AV.agg [Ai (fI (t50.getD t52.toNat .undef) 0),Ai (fI (t50.getD t52.toNat .undef) 1)]]⟩)]⟩
 else (bif decide (fI (t50.getD t52.toNat .undef) 1<0) then k .ret ⟨[(2,AV.bool false)],[([0,1],⟨true,[],[AV.agg [AV.sl [.int .i64] h0_0,AV.sl [.int .i64] h0_1,AV.sl [.int .i64,.int .i64] h0_2]]⟩),([1,6],⟨true,[],[AV.agg [Ai (fI (t50.getD t52.toNat .undef) 0),Ai (fI (t50.getD t52.toNat .undef) 1)]]⟩)]⟩
 else (bif decide (fI (t50.getD t52.toNat .undef) 1 > (h0_0.length:Int)) then k .ret ⟨[(2,AV.bool false)],[([0,1],⟨true,[],[AV.agg [AV.sl [.int .i64] h0_0,AV.sl [.int .i64] h0_1,AV.sl [.int .i64,.int .i64] h0_2]]⟩),([1,6],⟨true,[],[AV.agg [Ai (fI (t50.getD t52.toNat .undef) 0),Ai (fI (t50.getD t52.toNat .undef) 1)]]⟩)]⟩
 else (bif decide (t52 > 0) then (bif (decide (0≤IntKind.i64.wrap (t52 - 1)) && decide (IntKind.i64.wrap (t52 - 1)<(h0_2.length:Int))) then (bif decide (fI (t50.getD t52.toNat .undef) 0≤fI (h0_2.getD (IntKind.i64.wrap (t52 - 1)).toNat .undef) 0) then k .ret ⟨[(2,AV.bool false)],[([0,1],⟨true,[],[AV.agg [AV.sl [.int .i64] h0_0,AV.sl [.int .i64] h0_1,AV.sl [.int .i64,.int .i64] h0_2]]⟩),([1,6],⟨true,[],[AV.agg [Ai (fI (t50.getD t52.toNat .undef) 0),Ai (fI (t50.getD t52.toNat .undef) 1)]]⟩)]⟩
 else (bif (decide (0≤IntKind.i64.wrap (t52 - 1)) && decide (IntKind.i64.wrap (t52 - 1)<(h0_2.length:Int))) then (bif decide (fI (t50.getD t52.toNat .undef) 1<fI (h0_2.getD (IntKind.i64.wrap (t52 - 1)).toNat .undef) 1) then k .ret ⟨[(2,AV.bool false)],[([0,1],⟨true,[],[AV.agg [AV.sl [.int .i64] h0_0,AV.sl [.int .i64] h0_1,AV.sl [.int .i64,.int .i64] h0_2]]⟩),([1,6],⟨true,[],[AV.agg [Ai (fI (t50.getD t52.toNat .undef) 0),Ai (fI (t50.getD t52.toNat .undef) 1)]]⟩)]⟩
 else (ro (runW (R49_4 t50 t51 t52 h0_0 (h0_0.length:Int) h0_0 h0_1 h0_2 (fI (t50.getD t52.toNat .undef) 0) (fI (t50.getD t52.toNat .undef) 1)) (((h0_0.length:Int) - 0:Int).toNat+1) 0) none (sumE (fun _=>next ⟨[(1,AV.ptr [0,1] 0 0),(50,AV.sl [.int .i64,.int .i64] t50),(51,Ai t51),(52,Ai (IntKind.i64.wrap (t52+1)))],[([0,1],⟨true,[],[AV.agg [AV.sl [.int .i64] h0_0,AV.sl [.int .i64] h0_1,AV.sl [.int .i64,.int .i64] h0_2]]⟩)]⟩) (fun _=>k .ret ⟨[(2,AV.bool false)],[([0,1],⟨true,[],[AV.agg [AV.sl [.int .i64] h0_0,AV.sl [.int .i64] h0_1,AV.sl [.int .i64,.int .i64] h0_2]]⟩),([0,6],⟨true,[],[AV.agg [Ai (fI (t50.getD t52.toNat .undef) 0),Ai (fI (t50.getD t52.toNat .undef) 1)]]⟩)]⟩))))
 else none))
 else none)
 else (ro (runW (R49_4 t50 t51 t52 h0_0 (h0_0.length:Int) h0_0 h0_1 h0_2 (fI (t50.getD t52.toNat .undef) 0) (fI (t50.getD t52.toNat .undef) 1)) (((h0_0.length:Int) - 0:Int).toNat+1) 0) none (sumE (fun _=>next ⟨[(1,AV.ptr [0,1] 0 0),(50,AV.sl [.int .i64,.int .i64] t50),(51,Ai t51),(52,Ai (IntKind.i64.wrap (t52+1)))],[([0,1],⟨true,[],[AV.agg [AV.sl [.int .i64] h0_0,AV.sl [.int .i64] h0_1,AV.sl [.int .i64,.int .i64] h0_2]]⟩)]⟩) (fun _=>k .ret ⟨[(2,AV.bool false)],[([0,1],⟨true,[],[AV.agg [AV.sl [.int .i64] h0_0,AV.sl [.int .i64] h0_1,AV.sl [.int .i64,.int .i64] h0_2]]⟩),([0,6],⟨true,[],[AV.agg [Ai (fI (t50.getD t52.toNat .undef) 0),Ai (fI (t50.getD t52.toNat .undef) 1)]]⟩)]⟩)))))))
 else none)
 else k (.exit 2) ⟨[],[([0,1],⟨true,[],[AV.agg [AV.sl [.int .i64] h0_0,AV.sl [.int .i64] h0_1,AV.sl [.int .i64,.int .i64] h0_2]]⟩)]⟩):=by kernel_rfl
theorem st49_2 (t50:List AV) (t51:Int) (h0_0 h0_1 h0_2:List AV) (ce:CallE) (k:Kont) (s:Int) (next:St→Option AV):stepA (codeA c49 ce [] 49 2 (sub [1,1,1,0,1,0,0] (body Try.f49))) (normA [] [1,50,51,52]) next ((E49_2 t50 t51 h0_0 h0_1 h0_2) s) k=(R49_2 t50 t51 h0_0 h0_1 h0_2 s).el none (fun s=>next ((E49_2 t50 t51 h0_0 h0_1 h0_2) s)) (K49_2 h0_0 h0_1 h0_2 k):=(s49_2 ce t50 t51 s h0_0 h0_1 h0_2 next k).trans (by unfold R49_2;unfold F49_2;simp only [el_cond,el_ro,el_sum,el_fail,el_next,el_stop] <;> rfl)
theorem ok49_2 {ce:CallE}:LoopOK c49 ce [] 49 2 (sub [1,1,1,0,1,0,0] (body Try.f49)):=by
 intro m hm st k r h
 obtain rfl:l49_2=m:=Option.some.inj hm
 unfold l49_2 at h
 split at h
 ·rename_i g0 g1 g2 g3 t50 t51 t52 g4 g5 h0_0 g6 h0_1 g7 h0_2
  obtain ⟨hg,h⟩:=bif_some h
  simp only [Bool.and_eq_true] at hg
  obtain ⟨⟨⟨⟨⟨⟨⟨q0,q1⟩,q2⟩,q3⟩,q4⟩,q5⟩,q6⟩,q7⟩:=hg
  obtain rfl:=(nmEq_iff _ _).1 q0
  obtain rfl:=Nat.eq_of_beq_eq_true q1
  obtain rfl:=Nat.eq_of_beq_eq_true q2
  obtain rfl:=ctsEq_eq _ _ q3
  obtain rfl:=(nmEq_iff _ _).1 q4
  obtain rfl:=ctsEq_eq _ _ q5
  obtain rfl:=ctsEq_eq _ _ q6
  obtain rfl:=ctsEq_eq _ _ q7
  refine ⟨((t51 - t52:Int).toNat+1),?_⟩
  rw [← h]
  exact loop_run (E49_2 t50 t51 h0_0 h0_1 h0_2) (K49_2 h0_0 h0_1 h0_2 k) (st49_2 t50 t51 h0_0 h0_1 h0_2 ce k) _ t52
 ·cases h
theorem s49_0 (ce:CallE) (t35:List AV) (t36 t37:Int) (h0_0 h0_1 h0_2:List AV) (next:St→Option AV) (k:Kont):stepA (codeA c49 ce [] 49 0 (sub [1,1,0,1,0,0] (body Try.f49))) (normA [] [1,35,36,37]) next ⟨[(1,AV.ptr [0,1] 0 0),(35,AV.sl [.int .i64] t35),(36,Ai t36),(37,Ai t37)],[([0,1],⟨true,[],[AV.agg [AV.sl [.int .i64] h0_0,AV.sl [.int .i64] h0_1,AV.sl [.int .i64,.int .i64] h0_2]]⟩)]⟩ k=(bif decide (t37<t36) then (bif (decide (0≤t37) && decide (t37<(t35.length:Int))) then (bif (decide (0≤0) && decide (0≤t37) && decide (t37≤(h0_1.length:Int))) then (bif q88 ((h0_1.take (Int.toNat t37)).drop (Int.toNat 0)) (fI (t35.getD t37.toNat .undef) 0) then (bif (v88_0 ((h0_1.take (Int.toNat t37)).drop (Int.toNat 0)) (fI (t35.getD t37.toNat .undef) 0)) then k .ret ⟨[(2,AV.bool false)],[([0,1],⟨true,[],[AV.agg [AV.sl [.int .i64] h0_0,AV.sl [.int .i64] h0_1,AV.sl [.int .i64,.int .i64] h0_2]]⟩)]⟩
 else next ⟨[(1,AV.ptr [0,1] 0 0),(35,AV.sl [.int .i64] t35),(36,Ai t36),(37,Ai (IntKind.i64.wrap (t37+1)))],[([0,1],⟨true,[],[AV.agg [AV.sl [.int .i64] h0_0,AV.sl [.int .i64] h0_1,AV.sl [.int .i64,.int .i64] h0_2]]⟩)]⟩)
 else none)
 else none)
 else none)
 else k (.exit 0) ⟨[(1,AV.ptr [0,1] 0 0)],[([0,1],⟨true,[],[AV.agg [AV.sl [.int .i64] h0_0,AV.sl [.int .i64] h0_1,AV.sl [.int .i64,.int .i64] h0_2]]⟩)]⟩):=by kernel_rfl
theorem st49_0 (t35:List AV) (t36:Int) (h0_0 h0_1 h0_2:List AV) (ce:CallE) (k:Kont) (s:Int) (next:St→Option AV):stepA (codeA c49 ce [] 49 0 (sub [1,1,0,1,0,0] (body Try.f49))) (normA [] [1,35,36,37]) next ((E49_0 t35 t36 h0_0 h0_1 h0_2) s) k=(R49_0 t35 t36 h0_0 h0_1 h0_2 s).el none (fun s=>next ((E49_0 t35 t36 h0_0 h0_1 h0_2) s)) (K49_0 h0_0 h0_1 h0_2 k):=(s49_0 ce t35 t36 s h0_0 h0_1 h0_2 next k).trans (by unfold R49_0;unfold F49_0;simp only [el_cond,el_ro,el_sum,el_fail,el_next,el_stop] <;> rfl)
theorem ok49_0 {ce:CallE}:LoopOK c49 ce [] 49 0 (sub [1,1,0,1,0,0] (body Try.f49)):=by
 intro m hm st k r h
 obtain rfl:l49_0=m:=Option.some.inj hm
 unfold l49_0 at h
 split at h
 ·rename_i g0 g1 g2 g3 t35 t36 t37 g4 g5 h0_0 g6 h0_1 g7 h0_2
  obtain ⟨hg,h⟩:=bif_some h
  simp only [Bool.and_eq_true] at hg
  obtain ⟨⟨⟨⟨⟨⟨⟨q0,q1⟩,q2⟩,q3⟩,q4⟩,q5⟩,q6⟩,q7⟩:=hg
  obtain rfl:=(nmEq_iff _ _).1 q0
  obtain rfl:=Nat.eq_of_beq_eq_true q1
  obtain rfl:=Nat.eq_of_beq_eq_true q2
  obtain rfl:=ctsEq_eq _ _ q3
  obtain rfl:=(nmEq_iff _ _).1 q4
  obtain rfl:=ctsEq_eq _ _ q5
  obtain rfl:=ctsEq_eq _ _ q6
  obtain rfl:=ctsEq_eq _ _ q7
  refine ⟨((t36 - t37:Int).toNat+1),?_⟩
  rw [← h]
  exact loop_run (E49_0 t35 t36 h0_0 h0_1 h0_2) (K49_0 h0_0 h0_1 h0_2 k) (st49_0 t35 t36 h0_0 h0_1 h0_2 ce k) _ t37
 ·cases h
def q49 (xa xb xc:List AV):Bool:=(q30 xa && (bif !(v30_0 xa) then true else (bif !decide ((xb.length:Int)=(xa.length:Int)) then true else (q64 xb 0 999 && (bif !(v64_0 xb 0 999) then true else (bif decide ((xc.length:Int) > 2001) then true else (ro (runW (R49_0 xb (xb.length:Int) xa xb xc) (((xb.length:Int) - 0:Int).toNat+1) 0) false (sumE (fun _=>(ro (runW (R49_2 xc (xc.length:Int) xa xb xc) (((xc.length:Int) - 0:Int).toNat+1) 0) false (sumE (fun _=>true) (sumE (fun p50=>true) (fun p51=>true))))) (fun _=>true)))))))))
def v49_0 (xa xb xc:List AV):Bool:=(bif !(v30_0 xa) then false else (bif !decide ((xb.length:Int)=(xa.length:Int)) then false else (bif !(v64_0 xb 0 999) then false else (bif decide ((xc.length:Int) > 2001) then false else (ro (runW (R49_0 xb (xb.length:Int) xa xb xc) (((xb.length:Int) - 0:Int).toNat+1) 0) false (sumE (fun _=>(ro (runW (R49_2 xc (xc.length:Int) xa xb xc) (((xc.length:Int) - 0:Int).toNat+1) 0) false (sumE (fun _=>true) (sumE (fun p50=>false) (fun p51=>false))))) (fun _=>false)))))))
theorem e49 (xa xb xc:List AV):funA c49 0 49 [AV.agg [AV.sl [.int .i64] xa,AV.sl [.int .i64] xb,AV.sl [.int .i64,.int .i64] xc]]=(bif q30 xa then (bif !(v30_0 xa) then some (AV.bool false)
 else (bif !decide ((xb.length:Int)=(xa.length:Int)) then some (AV.bool false)
 else (bif q64 xb 0 999 then (bif !(v64_0 xb 0 999) then some (AV.bool false)
 else (bif decide ((xc.length:Int) > 2001) then some (AV.bool false)
 else (ro (runW (R49_0 xb (xb.length:Int) xa xb xc) (((xb.length:Int) - 0:Int).toNat+1) 0) none (sumE (fun _=>(ro (runW (R49_2 xc (xc.length:Int) xa xb xc) (((xc.length:Int) - 0:Int).toNat+1) 0) none (sumE (fun _=>some (AV.bool true)) (sumE (fun p50=>some (AV.bool false)) (fun p51=>some (AV.bool false)))))) (fun _=>some (AV.bool false))))))
 else none)))
 else none):=by kernel_rfl
def m49:TModel
 | [.agg [.sl g0 xa,.sl g1 xb,.sl g2 xc]]=>bif ctsEq g0 ([.int .i64]) && ctsEq g1 ([.int .i64]) && ctsEq g2 ([.int .i64,.int .i64]) then some (q49 xa xb xc,AV.bool (v49_0 xa xb xc)) else none
 | _=>none
theorem k49:Known Try.prog 49:=⟨Try.f49,Try.func49,by kernel_rfl,by kernel_rfl⟩
theorem meets49:Meets Try.prog 49 m49:=by
 refine meet (f:=Try.f49) (l:=[(0,sub [1,1,0,1,0,0] (body Try.f49)),(2,sub [1,1,1,0,1,0,0] (body Try.f49)),(4,sub [1,1,1,0,1,0,0,1,1,0,0,1,1,1,0,0] (body Try.f49))]) (hs:=[(49,0,[1,35,36,37]),(49,2,[1,50,51,52]),(49,4,[1,6,50,51,52,103,104,105]),(49,999,[2]),(49,1000,[1]),(49,1001,[1,35,36,37]),(49,1002,[]),(49,1003,[1,50,51,52]),(49,1004,[1,50,51,52]),(49,1005,[1,6,50,51,52,103,104,105])]) (ts:=[(30,m30),(64,m64),(88,m88),(89,m89)]) (ws:=[]) (is:=[]) (ls:=[(49,0,l49_0),(49,2,l49_2),(49,4,l49_4)]) (lvl:=0) mixed k49 Try.func49 (by kernel_rfl) (loops_cons ok49_0 (loops_cons ok49_2 (loops_cons ok49_4 noLoop))) (allT_cons meets30 (allT_cons meets64 (allT_cons meets88 (allT_cons meets89 allT_nil)))) allM_nil noI fun w xs us r hl hv h=>?_
 unfold m49 at h
 split at h
 ·rename_i g0 xa g1 xb g2 xc
  obtain ⟨hg,h⟩:=bif_pair h
  simp only [Bool.and_eq_true] at hg
  obtain ⟨⟨q0,q1⟩,q2⟩:=hg
  obtain rfl:=ctsEq_eq _ _ q0
  obtain rfl:=ctsEq_eq _ _ q1
  obtain rfl:=ctsEq_eq _ _ q2
  obtain ⟨h1,rfl⟩:=pair_inj h
  exact (e49 xa xb xc).trans ((brL (br (fun b=>some (AV.bool (bif b then false else (bif !decide ((xb.length:Int)=(xa.length:Int)) then false else (bif !(v64_0 xb 0 999) then false else (bif decide ((xc.length:Int) > 2001) then false else (ro (runW (R49_0 xb (xb.length:Int) xa xb xc) (((xb.length:Int) - 0:Int).toNat+1) 0) false (sumE (fun _=>(ro (runW (R49_2 xc (xc.length:Int) xa xb xc) (((xc.length:Int) - 0:Int).toNat+1) 0) false (sumE (fun _=>true) (sumE (fun p50=>false) (fun p51=>false))))) (fun _=>false))))))))) (fun _=>rfl) (br (fun b=>some (AV.bool (bif b then false else (bif !(v64_0 xb 0 999) then false else (bif decide ((xc.length:Int) > 2001) then false else (ro (runW (R49_0 xb (xb.length:Int) xa xb xc) (((xb.length:Int) - 0:Int).toNat+1) 0) false (sumE (fun _=>(ro (runW (R49_2 xc (xc.length:Int) xa xb xc) (((xc.length:Int) - 0:Int).toNat+1) 0) false (sumE (fun _=>true) (sumE (fun p50=>false) (fun p51=>false))))) (fun _=>false)))))))) (fun _=>rfl) (brL (br (fun b=>some (AV.bool (bif b then false else (bif decide ((xc.length:Int) > 2001) then false else (ro (runW (R49_0 xb (xb.length:Int) xa xb xc) (((xb.length:Int) - 0:Int).toNat+1) 0) false (sumE (fun _=>(ro (runW (R49_2 xc (xc.length:Int) xa xb xc) (((xc.length:Int) - 0:Int).toNat+1) 0) false (sumE (fun _=>true) (sumE (fun p50=>false) (fun p51=>false))))) (fun _=>false))))))) (fun _=>rfl) (br (fun b=>some (AV.bool (bif b then false else (ro (runW (R49_0 xb (xb.length:Int) xa xb xc) (((xb.length:Int) - 0:Int).toNat+1) 0) false (sumE (fun _=>(ro (runW (R49_2 xc (xc.length:Int) xa xb xc) (((xc.length:Int) - 0:Int).toNat+1) 0) false (sumE (fun _=>true) (sumE (fun p50=>false) (fun p51=>false))))) (fun _=>false)))))) (fun _=>rfl) (brO (fun o:Option (Unit ⊕ Unit)=>some (AV.bool (ro o false (sumE (fun _=>(ro (runW (R49_2 xc (xc.length:Int) xa xb xc) (((xc.length:Int) - 0:Int).toNat+1) 0) false (sumE (fun _=>true) (sumE (fun p50=>false) (fun p51=>false))))) (fun _=>false))))) (brS (fun o:Unit ⊕ Unit=>some (AV.bool ((sumE (fun _=>(ro (runW (R49_2 xc (xc.length:Int) xa xb xc) (((xc.length:Int) - 0:Int).toNat+1) 0) false (sumE (fun _=>true) (sumE (fun p50=>false) (fun p51=>false))))) (fun _=>false)) o))) (fun _=>(brO (fun o:Option (Unit ⊕ (Int × Int) ⊕ (Int × Int))=>some (AV.bool (ro o false (sumE (fun _=>true) (sumE (fun p50=>false) (fun p51=>false)))))) (brS (fun o:Unit ⊕ (Int × Int) ⊕ (Int × Int)=>some (AV.bool ((sumE (fun _=>true) (sumE (fun p50=>false) (fun p51=>false))) o))) (fun _=>(fun _=>rfl)) (brS (fun o:(Int × Int) ⊕ (Int × Int)=>some (AV.bool ((sumE (fun p50=>false) (fun p51=>false)) o))) (fun p50=>(fun _=>rfl)) (fun p51=>(fun _=>rfl)))))) (fun _=>(fun _=>rfl)))))))))) h1)
 ·cases h
noncomputable def c50:Cfg:=cfg Try.prog [(50,999,[4])] [(90,m90)] [] [] []
def q50 (xa xb xc:List AV) (a1:Int):Bool:=q90 xb a1
def v50_0 (xa xb xc:List AV) (a1:Int):Int:=(v90_0 xb a1)
theorem e50 (xa xb xc:List AV) (a1:Int):funA c50 0 50 [AV.agg [AV.sl [.int .i64] xa,AV.sl [.int .i64] xb,AV.sl [.int .i64,.int .i64] xc],Ai a1]=(bif q90 xb a1 then some (Ai (v90_0 xb a1))
 else none):=by kernel_rfl
def m50:TModel
 | [.agg [.sl g0 xa,.sl g1 xb,.sl g2 xc],.int .i64 a1]=>bif ctsEq g0 ([.int .i64]) && ctsEq g1 ([.int .i64]) && ctsEq g2 ([.int .i64,.int .i64]) then some (q50 xa xb xc a1,AV.int .i64 (v50_0 xa xb xc a1)) else none
 | _=>none
theorem k50:Known Try.prog 50:=⟨Try.f50,Try.func50,by kernel_rfl,by kernel_rfl⟩
theorem meets50:Meets Try.prog 50 m50:=by
 refine meet (f:=Try.f50) (l:=[]) (hs:=[(50,999,[4])]) (ts:=[(90,m90)]) (ws:=[]) (is:=[]) (ls:=[]) (lvl:=0) mixed k50 Try.func50 (by kernel_rfl) noLoop (allT_cons meets90 allT_nil) allM_nil noI fun w xs us r hl hv h=>?_
 unfold m50 at h
 split at h
 ·rename_i g0 xa g1 xb g2 xc a1
  obtain ⟨hg,h⟩:=bif_pair h
  simp only [Bool.and_eq_true] at hg
  obtain ⟨⟨q0,q1⟩,q2⟩:=hg
  obtain rfl:=ctsEq_eq _ _ q0
  obtain rfl:=ctsEq_eq _ _ q1
  obtain rfl:=ctsEq_eq _ _ q2
  obtain ⟨h1,rfl⟩:=pair_inj h
  exact (e50 xa xb xc a1).trans ((brL1 (fun _=>rfl)) h1)
 ·cases h
def F18_0 (t31:List AV) (t32:Int) (h0_0:List AV) (h0_1:Int) (h0_2 h0_3 h0_4:List AV) (t33:Int):Out (Int) (Unit ⊕ (Int × Int × Int × Int)):=(bif decide (t33<t32) then (bif (decide (0≤t33) && decide (t33<(t31.length:Int))) then (bif q50 h0_2 h0_3 h0_4 (fI (t31.getD t33.toNat .undef) 1) then (bif decide ((v50_0 h0_2 h0_3 h0_4 (fI (t31.getD t33.toNat .undef) 1))<0) then .stop (.inr (fI (t31.getD t33.toNat .undef) 0,fI (t31.getD t33.toNat .undef) 1,fI (t31.getD t33.toNat .undef) 2,fI (t31.getD t33.toNat .undef) 3))
 else (bif (decide (0≤(v50_0 h0_2 h0_3 h0_4 (fI (t31.getD t33.toNat .undef) 1))) && decide ((v50_0 h0_2 h0_3 h0_4 (fI (t31.getD t33.toNat .undef) 1))<(h0_2.length:Int))) then (bif !decide (fI (h0_2.getD (v50_0 h0_2 h0_3 h0_4 (fI (t31.getD t33.toNat .undef) 1)).toNat .undef) 0=fI (t31.getD t33.toNat .undef) 0) then .stop (.inr (fI (t31.getD t33.toNat .undef) 0,fI (t31.getD t33.toNat .undef) 1,fI (t31.getD t33.toNat .undef) 2,fI (t31.getD t33.toNat .undef) 3))
 else (bif decide (t33 > 0) then (bif (decide (0≤IntKind.i64.wrap (t33 - 1)) && decide (IntKind.i64.wrap (t33 - 1)<(h0_0.length:Int))) then (bif decide (fI (h0_0.getD (IntKind.i64.wrap (t33 - 1)).toNat .undef) 1 ≥ fI (t31.getD t33.toNat .undef) 1) then .stop (.inr (fI (t31.getD t33.toNat .undef) 0,fI (t31.getD t33.toNat .undef) 1,fI (t31.getD t33.toNat .undef) 2,fI (t31.getD t33.toNat .undef) 3))
 else (bif decide (fI (t31.getD t33.toNat .undef) 2<0) then .stop (.inr (fI (t31.getD t33.toNat .undef) 0,fI (t31.getD t33.toNat .undef) 1,fI (t31.getD t33.toNat .undef) 2,fI (t31.getD t33.toNat .undef) 3))
 else (bif decide (fI (t31.getD t33.toNat .undef) 2 > h0_1) then .stop (.inr (fI (t31.getD t33.toNat .undef) 0,fI (t31.getD t33.toNat .undef) 1,fI (t31.getD t33.toNat .undef) 2,fI (t31.getD t33.toNat .undef) 3))
 else (bif !decide (fI (t31.getD t33.toNat .undef) 3=(-1)) then (bif decide (fI (t31.getD t33.toNat .undef) 3≤fI (t31.getD t33.toNat .undef) 2) then .stop (.inr (fI (t31.getD t33.toNat .undef) 0,fI (t31.getD t33.toNat .undef) 1,fI (t31.getD t33.toNat .undef) 2,fI (t31.getD t33.toNat .undef) 3))
 else (bif decide (fI (t31.getD t33.toNat .undef) 3 > h0_1) then .stop (.inr (fI (t31.getD t33.toNat .undef) 0,fI (t31.getD t33.toNat .undef) 1,fI (t31.getD t33.toNat .undef) 2,fI (t31.getD t33.toNat .undef) 3))
 else .next (IntKind.i64.wrap (t33+1))))
 else .next (IntKind.i64.wrap (t33+1))))))
 else .fail)
 else (bif decide (fI (t31.getD t33.toNat .undef) 2<0) then .stop (.inr (fI (t31.getD t33.toNat .undef) 0,fI (t31.getD t33.toNat .undef) 1,fI (t31.getD t33.toNat .undef) 2,fI (t31.getD t33.toNat .undef) 3))
 else (bif decide (fI (t31.getD t33.toNat .undef) 2 > h0_1) then .stop (.inr (fI (t31.getD t33.toNat .undef) 0,fI (t31.getD t33.toNat .undef) 1,fI (t31.getD t33.toNat .undef) 2,fI (t31.getD t33.toNat .undef) 3))
 else (bif !decide (fI (t31.getD t33.toNat .undef) 3=(-1)) then (bif decide (fI (t31.getD t33.toNat .undef) 3≤fI (t31.getD t33.toNat .undef) 2) then .stop (.inr (fI (t31.getD t33.toNat .undef) 0,fI (t31.getD t33.toNat .undef) 1,fI (t31.getD t33.toNat .undef) 2,fI (t31.getD t33.toNat .undef) 3))
 else (bif decide (fI (t31.getD t33.toNat .undef) 3 > h0_1) then .stop (.inr (fI (t31.getD t33.toNat .undef) 0,fI (t31.getD t33.toNat .undef) 1,fI (t31.getD t33.toNat .undef) 2,fI (t31.getD t33.toNat .undef) 3))
 else .next (IntKind.i64.wrap (t33+1))))
 else .next (IntKind.i64.wrap (t33+1)))))))
 else .fail))
 else .fail)
 else .fail)
 else .stop (.inl ()))
def R18_0 (t31:List AV) (t32:Int) (h0_0:List AV) (h0_1:Int) (h0_2 h0_3 h0_4:List AV):(Int)→Out (Int) (Unit ⊕ (Int × Int × Int × Int)):=fun s:Int=>F18_0 t31 t32 h0_0 h0_1 h0_2 h0_3 h0_4 s
def E18_0 (t31:List AV) (t32:Int) (h0_0:List AV) (h0_1:Int) (h0_2 h0_3 h0_4:List AV):(Int)→St:=fun s:Int=>⟨[(1,AV.ptr [0,1] 0 0),(31,AV.sl [.int .i64,.int .i64,.int .i64,.int .i64] t31),(32,Ai t32),(33,Ai s)],[([0,1],⟨true,[],[AV.agg [AV.sl [.int .i64,.int .i64,.int .i64,.int .i64] h0_0,Ai h0_1,AV.sl [.int .i64] h0_2,AV.sl [.int .i64] h0_3,AV.sl [.int .i64,.int .i64] h0_4]]⟩)]⟩
def K18_0 (h0_0:List AV) (h0_1:Int) (h0_2 h0_3 h0_4:List AV) (k:Kont):(Unit ⊕ (Int × Int × Int × Int))→Option AV:=sumE (fun _:Unit=>k (.exit 0) ⟨[],[([0,1],⟨true,[],[AV.agg [AV.sl [.int .i64,.int .i64,.int .i64,.int .i64] h0_0,Ai h0_1,AV.sl [.int .i64] h0_2,AV.sl [.int .i64] h0_3,AV.sl [.int .i64,.int .i64] h0_4]]⟩)]⟩) (fun p:Int × Int × Int × Int=>k .ret ⟨[(2,AV.bool false)],[([0,1],⟨true,[],[AV.agg [AV.sl [.int .i64,.int .i64,.int .i64,.int .i64] h0_0,Ai h0_1,AV.sl [.int .i64] h0_2,AV.sl [.int .i64] h0_3,AV.sl [.int .i64,.int .i64] h0_4]]⟩),([1,4],⟨true,[],[AV.agg [Ai p.1,Ai p.2.1,Ai p.2.2.1,Ai p.2.2.2]]⟩)]⟩)
def l18_0:LModel:=fun _ _ st k=>match st with
 | ⟨[(1,.ptr g0 g1 g2),(31,.sl g3 t31),(32,.int .i64 t32),(33,.int .i64 t33)],[(g4,⟨true,[],[.agg [.sl g5 h0_0,.int .i64 h0_1,.sl g6 h0_2,.sl g7 h0_3,.sl g8 h0_4]]⟩)]⟩=>bif nmEq g0 ([0,1]) && Nat.beq g1 0 && Nat.beq g2 0 && ctsEq g3 ([.int .i64,.int .i64,.int .i64,.int .i64]) && nmEq g4 ([0,1]) && ctsEq g5 ([.int .i64,.int .i64,.int .i64,.int .i64]) && ctsEq g6 ([.int .i64]) && ctsEq g7 ([.int .i64]) && ctsEq g8 ([.int .i64,.int .i64]) then ro (runW (R18_0 t31 t32 h0_0 h0_1 h0_2 h0_3 h0_4) ((t32 - t33:Int).toNat+1) t33) none (K18_0 h0_0 h0_1 h0_2 h0_3 h0_4 k) else none
 | _=>none
noncomputable def c18:Cfg:=cfg Try.prog [(18,0,[1,31,32,33]),(18,999,[2]),(18,1000,[]),(18,1001,[1,31,32,33])] [(49,m49),(50,m50)] [] [] [(18,0,l18_0)]
theorem s18_0 (ce:CallE) (t31:List AV) (t32 t33:Int) (h0_0:List AV) (h0_1:Int) (h0_2 h0_3 h0_4:List AV) (next:St→Option AV) (k:Kont):stepA (codeA c18 ce [] 18 0 (sub [1,1,0,1,0,0] (body Try.f18))) (normA [] [1,31,32,33]) next ⟨[(1,AV.ptr [0,1] 0 0),(31,AV.sl [.int .i64,.int .i64,.int .i64,.int .i64] t31),(32,Ai t32),(33,Ai t33)],[([0,1],⟨true,[],[AV.agg [AV.sl [.int .i64,.int .i64,.int .i64,.int .i64] h0_0,Ai h0_1,AV.sl [.int .i64] h0_2,AV.sl [.int .i64] h0_3,AV.sl [.int .i64,.int .i64] h0_4]]⟩)]⟩ k=(bif decide (t33<t32) then (bif (decide (0≤t33) && decide (t33<(t31.length:Int))) then (bif q50 h0_2 h0_3 h0_4 (fI (t31.getD t33.toNat .undef) 1) then (bif decide ((v50_0 h0_2 h0_3 h0_4 (fI (t31.getD t33.toNat .undef) 1))<0) then k .ret ⟨[(2,AV.bool false)],[([0,1],⟨true,[],[AV.agg [AV.sl [.int .i64,.int .i64,.int .i64,.int .i64] h0_0,Ai h0_1,AV.sl [.int .i64] h0_2,AV.sl [.int .i64] h0_3,AV.sl [.int .i64,.int .i64] h0_4]]⟩),([1,4],⟨true,[],[AV.agg [Ai (fI (t31.getD t33.toNat .undef) 0),Ai (fI (t31.getD t33.toNat .undef) 1),Ai (fI (t31.getD t33.toNat .undef) 2),Ai (fI (t31.getD t33.toNat .undef) 3)]]⟩)]⟩
 else (bif (decide (0≤(v50_0 h0_2 h0_3 h0_4 (fI (t31.getD t33.toNat .undef) 1))) && decide ((v50_0 h0_2 h0_3 h0_4 (fI (t31.getD t33.toNat .undef) 1))<(h0_2.length:Int))) then (bif !decide (fI (h0_2.getD (v50_0 h0_2 h0_3 h0_4 (fI (t31.getD t33.toNat .undef) 1)).toNat .undef) 0=fI (t31.getD t33.toNat .undef) 0) then k .ret ⟨[(2,AV.bool false)],[([0,1],⟨true,[],[AV.agg [AV.sl [.int .i64,.int .i64,.int .i64,.int .i64] h0_0,Ai h0_1,AV.sl [.int .i64] h0_2,AV.sl [.int .i64] h0_3,AV.sl [.int .i64,.int .i64] h0_4]]⟩),([1,4],⟨true,[],[AV.agg [Ai (fI (t31.getD t33.toNat .undef) 0),Ai (fI (t31.getD t33.toNat .undef) 1),Ai (fI (t31.getD t33.toNat .undef) 2),Ai (fI (t31.getD t33.toNat .undef) 3)]]⟩)]⟩
 else (bif decide (t33 > 0) then (bif (decide (0≤IntKind.i64.wrap (t33 - 1)) && decide (IntKind.i64.wrap (t33 - 1)<(h0_0.length:Int))) then (bif decide (fI (h0_0.getD (IntKind.i64.wrap (t33 - 1)).toNat .undef) 1 ≥ fI (t31.getD t33.toNat .undef) 1) then k .ret ⟨[(2,AV.bool false)],[([0,1],⟨true,[],[AV.agg [AV.sl [.int .i64,.int .i64,.int .i64,.int .i64] h0_0,Ai h0_1,AV.sl [.int .i64] h0_2,AV.sl [.int .i64] h0_3,AV.sl [.int .i64,.int .i64] h0_4]]⟩),([1,4],⟨true,[],[AV.agg [Ai (fI (t31.getD t33.toNat .undef) 0),Ai (fI (t31.getD t33.toNat .undef) 1),Ai (fI (t31.getD t33.toNat .undef) 2),Ai (fI (t31.getD t33.toNat .undef) 3)]]⟩)]⟩
 else (bif decide (fI (t31.getD t33.toNat .undef) 2<0) then k .ret ⟨[(2,AV.bool false)],[([0,1],⟨true,[],[AV.agg [AV.sl [.int .i64,.int .i64,.int .i64,.int .i64] h0_0,Ai h0_1,AV.sl [.int .i64] h0_2,AV.sl [.int .i64] h0_3,AV.sl [.int .i64,.int .i64] h0_4]]⟩),([1,4],⟨true,[],[AV.agg [Ai (fI (t31.getD t33.toNat .undef) 0),Ai (fI (t31.getD t33.toNat .undef) 1),Ai (fI (t31.getD t33.toNat .undef) 2),Ai (fI (t31.getD t33.toNat .undef) 3)]]⟩)]⟩
 else (bif decide (fI (t31.getD t33.toNat .undef) 2 > h0_1) then k .ret ⟨[(2,AV.bool false)],[([0,1],⟨true,[],[AV.agg [AV.sl [.int .i64,.int .i64,.int .i64,.int .i64] h0_0,Ai h0_1,AV.sl [.int .i64] h0_2,AV.sl [.int .i64] h0_3,AV.sl [.int .i64,.int .i64] h0_4]]⟩),([1,4],⟨true,[],[AV.agg [Ai (fI (t31.getD t33.toNat .undef) 0),Ai (fI (t31.getD t33.toNat .undef) 1),Ai (fI (t31.getD t33.toNat .undef) 2),Ai (fI (t31.getD t33.toNat .undef) 3)]]⟩)]⟩
 else (bif !decide (fI (t31.getD t33.toNat .undef) 3=(-1)) then (bif decide (fI (t31.getD t33.toNat .undef) 3≤fI (t31.getD t33.toNat .undef) 2) then k .ret ⟨[(2,AV.bool false)],[([0,1],⟨true,[],[AV.agg [AV.sl [.int .i64,.int .i64,.int .i64,.int .i64] h0_0,Ai h0_1,AV.sl [.int .i64] h0_2,AV.sl [.int .i64] h0_3,AV.sl [.int .i64,.int .i64] h0_4]]⟩),([1,4],⟨true,[],[AV.agg [Ai (fI (t31.getD t33.toNat .undef) 0),Ai (fI (t31.getD t33.toNat .undef) 1),Ai (fI (t31.getD t33.toNat .undef) 2),Ai (fI (t31.getD t33.toNat .undef) 3)]]⟩)]⟩
 else (bif decide (fI (t31.getD t33.toNat .undef) 3 > h0_1) then k .ret ⟨[(2,AV.bool false)],[([0,1],⟨true,[],[AV.agg [AV.sl [.int .i64,.int .i64,.int .i64,.int .i64] h0_0,Ai h0_1,AV.sl [.int .i64] h0_2,AV.sl [.int .i64] h0_3,AV.sl [.int .i64,.int .i64] h0_4]]⟩),([1,4],⟨true,[],[AV.agg [Ai (fI (t31.getD t33.toNat .undef) 0),Ai (fI (t31.getD t33.toNat .undef) 1),Ai (fI (t31.getD t33.toNat .undef) 2),Ai (fI (t31.getD t33.toNat .undef) 3)]]⟩)]⟩
 else next ⟨[(1,AV.ptr [0,1] 0 0),(31,AV.sl [.int .i64,.int .i64,.int .i64,.int .i64] t31),(32,Ai t32),(33,Ai (IntKind.i64.wrap (t33+1)))],[([0,1],⟨true,[],[AV.agg [AV.sl [.int .i64,.int .i64,.int .i64,.int .i64] h0_0,Ai h0_1,AV.sl [.int .i64] h0_2,AV.sl [.int .i64] h0_3,AV.sl [.int .i64,.int .i64] h0_4]]⟩)]⟩))
 else next ⟨[(1,AV.ptr [0,1] 0 0),(31,AV.sl [.int .i64,.int .i64,.int .i64,.int .i64] t31),(32,Ai t32),(33,Ai (IntKind.i64.wrap (t33+1)))],[([0,1],⟨true,[],[AV.agg [AV.sl [.int .i64,.int .i64,.int .i64,.int .i64] h0_0,Ai h0_1,AV.sl [.int .i64] h0_2,AV.sl [.int .i64] h0_3,AV.sl [.int .i64,.int .i64] h0_4]]⟩)]⟩))))
 else none)
 else (bif decide (fI (t31.getD t33.toNat .undef) 2<0) then k .ret ⟨[(2,AV.bool false)],[([0,1],⟨true,[],[AV.agg [AV.sl [.int .i64,.int .i64,.int .i64,.int .i64] h0_0,Ai h0_1,AV.sl [.int .i64] h0_2,AV.sl [.int .i64] h0_3,AV.sl [.int .i64,.int .i64] h0_4]]⟩),([1,4],⟨true,[],[AV.agg [Ai (fI (t31.getD t33.toNat .undef) 0),Ai (fI (t31.getD t33.toNat .undef) 1),Ai (fI (t31.getD t33.toNat .undef) 2),Ai (fI (t31.getD t33.toNat .undef) 3)]]⟩)]⟩
 else (bif decide (fI (t31.getD t33.toNat .undef) 2 > h0_1) then k .ret ⟨[(2,AV.bool false)],[([0,1],⟨true,[],[AV.agg [AV.sl [.int .i64,.int .i64,.int .i64,.int .i64] h0_0,Ai h0_1,AV.sl [.int .i64] h0_2,AV.sl [.int .i64] h0_3,AV.sl [.int .i64,.int .i64] h0_4]]⟩),([1,4],⟨true,[],[AV.agg [Ai (fI (t31.getD t33.toNat .undef) 0),Ai (fI (t31.getD t33.toNat .undef) 1),Ai (fI (t31.getD t33.toNat .undef) 2),Ai (fI (t31.getD t33.toNat .undef) 3)]]⟩)]⟩
 else (bif !decide (fI (t31.getD t33.toNat .undef) 3=(-1)) then (bif decide (fI (t31.getD t33.toNat .undef) 3≤fI (t31.getD t33.toNat .undef) 2) then k .ret ⟨[(2,AV.bool false)],[([0,1],⟨true,[],[AV.agg [AV.sl [.int .i64,.int .i64,.int .i64,.int .i64] h0_0,Ai h0_1,AV.sl [.int .i64] h0_2,AV.sl [.int .i64] h0_3,AV.sl [.int .i64,.int .i64] h0_4]]⟩),([1,4],⟨true,[],[AV.agg [Ai (fI (t31.getD t33.toNat .undef) 0),Ai (fI (t31.getD t33.toNat .undef) 1),Ai (fI (t31.getD t33.toNat .undef) 2),Ai (fI (t31.getD t33.toNat .undef) 3)]]⟩)]⟩
 else (bif decide (fI (t31.getD t33.toNat .undef) 3 > h0_1) then k .ret ⟨[(2,AV.bool false)],[([0,1],⟨true,[],[AV.agg [AV.sl [.int .i64,.int .i64,.int .i64,.int .i64] h0_0,Ai h0_1,AV.sl [.int .i64] h0_2,AV.sl [.int .i64] h0_3,AV.sl [.int .i64,.int .i64] h0_4]]⟩),([1,4],⟨true,[],[AV.agg [Ai (fI (t31.getD t33.toNat .undef) 0),Ai (fI (t31.getD t33.toNat .undef) 1),Ai (fI (t31.getD t33.toNat .undef) 2),Ai (fI (t31.getD t33.toNat .undef) 3)]]⟩)]⟩
 else next ⟨[(1,AV.ptr [0,1] 0 0),(31,AV.sl [.int .i64,.int .i64,.int .i64,.int .i64] t31),(32,Ai t32),(33,Ai (IntKind.i64.wrap (t33+1)))],[([0,1],⟨true,[],[AV.agg [AV.sl [.int .i64,.int .i64,.int .i64,.int .i64] h0_0,Ai h0_1,AV.sl [.int .i64] h0_2,AV.sl [.int .i64] h0_3,AV.sl [.int .i64,.int .i64] h0_4]]⟩)]⟩))
 else next ⟨[(1,AV.ptr [0,1] 0 0),(31,AV.sl [.int .i64,.int .i64,.int .i64,.int .i64] t31),(32,Ai t32),(33,Ai (IntKind.i64.wrap (t33+1)))],[([0,1],⟨true,[],[AV.agg [AV.sl [.int .i64,.int .i64,.int .i64,.int .i64] h0_0,Ai h0_1,AV.sl [.int .i64] h0_2,AV.sl [.int .i64] h0_3,AV.sl [.int .i64,.int .i64] h0_4]]⟩)]⟩)))))
 else none))
 else none)
 else none)
 else k (.exit 0) ⟨[],[([0,1],⟨true,[],[AV.agg [AV.sl [.int .i64,.int .i64,.int .i64,.int .i64] h0_0,Ai h0_1,AV.sl [.int .i64] h0_2,AV.sl [.int .i64] h0_3,AV.sl [.int .i64,.int .i64] h0_4]]⟩)]⟩):=by kernel_rfl
theorem st18_0 (t31:List AV) (t32:Int) (h0_0:List AV) (h0_1:Int) (h0_2 h0_3 h0_4:List AV) (ce:CallE) (k:Kont) (s:Int) (next:St→Option AV):stepA (codeA c18 ce [] 18 0 (sub [1,1,0,1,0,0] (body Try.f18))) (normA [] [1,31,32,33]) next ((E18_0 t31 t32 h0_0 h0_1 h0_2 h0_3 h0_4) s) k=(R18_0 t31 t32 h0_0 h0_1 h0_2 h0_3 h0_4 s).el none (fun s=>next ((E18_0 t31 t32 h0_0 h0_1 h0_2 h0_3 h0_4) s)) (K18_0 h0_0 h0_1 h0_2 h0_3 h0_4 k):=(s18_0 ce t31 t32 s h0_0 h0_1 h0_2 h0_3 h0_4 next k).trans (by unfold R18_0;unfold F18_0;simp only [el_cond,el_ro,el_sum,el_fail,el_next,el_stop] <;> rfl)
theorem ok18_0 {ce:CallE}:LoopOK c18 ce [] 18 0 (sub [1,1,0,1,0,0] (body Try.f18)):=by
 intro m hm st k r h
 obtain rfl:l18_0=m:=Option.some.inj hm
 unfold l18_0 at h
 split at h
 ·rename_i g0 g1 g2 g3 t31 t32 t33 g4 g5 h0_0 h0_1 g6 h0_2 g7 h0_3 g8 h0_4
  obtain ⟨hg,h⟩:=bif_some h
  simp only [Bool.and_eq_true] at hg
  obtain ⟨⟨⟨⟨⟨⟨⟨⟨q0,q1⟩,q2⟩,q3⟩,q4⟩,q5⟩,q6⟩,q7⟩,q8⟩:=hg
  obtain rfl:=(nmEq_iff _ _).1 q0
  obtain rfl:=Nat.eq_of_beq_eq_true q1
  obtain rfl:=Nat.eq_of_beq_eq_true q2
  obtain rfl:=ctsEq_eq _ _ q3
  obtain rfl:=(nmEq_iff _ _).1 q4
  obtain rfl:=ctsEq_eq _ _ q5
  obtain rfl:=ctsEq_eq _ _ q6
  obtain rfl:=ctsEq_eq _ _ q7
  obtain rfl:=ctsEq_eq _ _ q8
  refine ⟨((t32 - t33:Int).toNat+1),?_⟩
  rw [← h]
  exact loop_run (E18_0 t31 t32 h0_0 h0_1 h0_2 h0_3 h0_4) (K18_0 h0_0 h0_1 h0_2 h0_3 h0_4 k) (st18_0 t31 t32 h0_0 h0_1 h0_2 h0_3 h0_4 ce k) _ t33
 ·cases h
def q18 (xa:List AV) (xb:Int) (xc xd xe:List AV):Bool:=(q49 xc xd xe && (bif !(v49_0 xc xd xe) then true else (bif !decide ((xa.length:Int)=(xc.length:Int)) then true else (bif decide (xb<0) then true else (bif decide (xb > 1000) then true else (ro (runW (R18_0 xa (xa.length:Int) xa xb xc xd xe) (((xa.length:Int) - 0:Int).toNat+1) 0) false (sumE (fun _=>true) (fun p54=>true))))))))
def v18_0 (xa:List AV) (xb:Int) (xc xd xe:List AV):Bool:=(bif !(v49_0 xc xd xe) then false else (bif !decide ((xa.length:Int)=(xc.length:Int)) then false else (bif decide (xb<0) then false else (bif decide (xb > 1000) then false else (ro (runW (R18_0 xa (xa.length:Int) xa xb xc xd xe) (((xa.length:Int) - 0:Int).toNat+1) 0) false (sumE (fun _=>true) (fun p54=>false)))))))
theorem e18 (xa:List AV) (xb:Int) (xc xd xe:List AV):funA c18 0 18 [AV.agg [AV.sl [.int .i64,.int .i64,.int .i64,.int .i64] xa,Ai xb,AV.sl [.int .i64] xc,AV.sl [.int .i64] xd,AV.sl [.int .i64,.int .i64] xe]]=(bif q49 xc xd xe then (bif !(v49_0 xc xd xe) then some (AV.bool false)
 else (bif !decide ((xa.length:Int)=(xc.length:Int)) then some (AV.bool false)
 else (bif decide (xb<0) then some (AV.bool false)
 else (bif decide (xb > 1000) then some (AV.bool false)
 else (ro (runW (R18_0 xa (xa.length:Int) xa xb xc xd xe) (((xa.length:Int) - 0:Int).toNat+1) 0) none (sumE (fun _=>some (AV.bool true)) (fun p54=>some (AV.bool false))))))))
 else none):=by kernel_rfl
def m18:TModel
 | [.agg [.sl g0 xa,.int .i64 xb,.sl g1 xc,.sl g2 xd,.sl g3 xe]]=>bif ctsEq g0 ([.int .i64,.int .i64,.int .i64,.int .i64]) && ctsEq g1 ([.int .i64]) && ctsEq g2 ([.int .i64]) && ctsEq g3 ([.int .i64,.int .i64]) then some (q18 xa xb xc xd xe,AV.bool (v18_0 xa xb xc xd xe)) else none
 | _=>none
theorem k18:Known Try.prog 18:=⟨Try.f18,Try.func18,by kernel_rfl,by kernel_rfl⟩
theorem meets18:Meets Try.prog 18 m18:=by
 refine meet (f:=Try.f18) (l:=[(0,sub [1,1,0,1,0,0] (body Try.f18))]) (hs:=[(18,0,[1,31,32,33]),(18,999,[2]),(18,1000,[]),(18,1001,[1,31,32,33])]) (ts:=[(49,m49),(50,m50)]) (ws:=[]) (is:=[]) (ls:=[(18,0,l18_0)]) (lvl:=0) mixed k18 Try.func18 (by kernel_rfl) (loops_cons ok18_0 noLoop) (allT_cons meets49 (allT_cons meets50 allT_nil)) allM_nil noI fun w xs us r hl hv h=>?_
 unfold m18 at h
 split at h
 ·rename_i g0 xa xb g1 xc g2 xd g3 xe
  obtain ⟨hg,h⟩:=bif_pair h
  simp only [Bool.and_eq_true] at hg
  obtain ⟨⟨⟨q0,q1⟩,q2⟩,q3⟩:=hg
  obtain rfl:=ctsEq_eq _ _ q0
  obtain rfl:=ctsEq_eq _ _ q1
  obtain rfl:=ctsEq_eq _ _ q2
  obtain rfl:=ctsEq_eq _ _ q3
  obtain ⟨h1,rfl⟩:=pair_inj h
  exact (e18 xa xb xc xd xe).trans ((brL (br (fun b=>some (AV.bool (bif b then false else (bif !decide ((xa.length:Int)=(xc.length:Int)) then false else (bif decide (xb<0) then false else (bif decide (xb > 1000) then false else (ro (runW (R18_0 xa (xa.length:Int) xa xb xc xd xe) (((xa.length:Int) - 0:Int).toNat+1) 0) false (sumE (fun _=>true) (fun p54=>false))))))))) (fun _=>rfl) (br (fun b=>some (AV.bool (bif b then false else (bif decide (xb<0) then false else (bif decide (xb > 1000) then false else (ro (runW (R18_0 xa (xa.length:Int) xa xb xc xd xe) (((xa.length:Int) - 0:Int).toNat+1) 0) false (sumE (fun _=>true) (fun p54=>false)))))))) (fun _=>rfl) (br (fun b=>some (AV.bool (bif b then false else (bif decide (xb > 1000) then false else (ro (runW (R18_0 xa (xa.length:Int) xa xb xc xd xe) (((xa.length:Int) - 0:Int).toNat+1) 0) false (sumE (fun _=>true) (fun p54=>false))))))) (fun _=>rfl) (br (fun b=>some (AV.bool (bif b then false else (ro (runW (R18_0 xa (xa.length:Int) xa xb xc xd xe) (((xa.length:Int) - 0:Int).toNat+1) 0) false (sumE (fun _=>true) (fun p54=>false)))))) (fun _=>rfl) (brO (fun o:Option (Unit ⊕ (Int × Int × Int × Int))=>some (AV.bool (ro o false (sumE (fun _=>true) (fun p54=>false))))) (brS (fun o:Unit ⊕ (Int × Int × Int × Int)=>some (AV.bool ((sumE (fun _=>true) (fun p54=>false)) o))) (fun _=>(fun _=>rfl)) (fun p54=>(fun _=>rfl))))))))) h1)
 ·cases h
noncomputable def c84:Cfg:=cfg Try.prog [(84,999,[2])] [] [] [] []
def q84 (xa xb:Int):Bool:=true
def v84_0 (xa xb:Int):Bool:=(bif decide (xa ≥ (-999)) then (bif decide (xa≤999) then (bif decide (xb ≥ 0) then decide (xb≤999) else false) else false) else false)
theorem e84 (xa xb:Int):funA c84 0 84 [AV.agg [Ai xa,Ai xb]]=(bif decide (xa ≥ (-999)) then (bif decide (xa≤999) then (bif decide (xb ≥ 0) then some (AV.bool (decide (xb≤999)))
 else some (AV.bool false))
 else some (AV.bool false))
 else some (AV.bool false)):=by kernel_rfl
def m84:TModel
 | [.agg [.int .i64 xa,.int .i64 xb]]=>some (true,AV.bool (v84_0 xa xb))
 | _=>none
theorem k84:Known Try.prog 84:=⟨Try.f84,Try.func84,by kernel_rfl,by kernel_rfl⟩
theorem meets84:Meets Try.prog 84 m84:=by
 refine meet (f:=Try.f84) (l:=[]) (hs:=[(84,999,[2])]) (ts:=[]) (ws:=[]) (is:=[]) (ls:=[]) (lvl:=0) mixed k84 Try.func84 (by kernel_rfl) noLoop allT_nil allM_nil noI fun w xs us r hl hv h=>?_
 unfold m84 at h
 split at h
 ·rename_i xa xb
  obtain ⟨h1,rfl⟩:=pair_inj h
  exact (e84 xa xb).trans (of_tt (brT (fun b=>some (AV.bool (bif b then (bif decide (xa≤999) then (bif decide (xb ≥ 0) then decide (xb≤999) else false) else false) else false))) (brT (fun b=>some (AV.bool (bif b then (bif decide (xb ≥ 0) then decide (xb≤999) else false) else false))) (brT (fun b=>some (AV.bool (bif b then decide (xb≤999) else false))) (fun _=>rfl) (fun _=>rfl)) (fun _=>rfl)) (fun _=>rfl)))
 ·cases h
def F46_0 (h3_0 h3_1 t8 t9 t10:Int) (h0 h1 h2:List AV):Out ((Int × Int × Int × (List AV) × (List AV) × (List AV))) ((Int × Int × (List AV) × (List AV) × (List AV))):=(bif decide (t10 ≥ 0) then (bif (decide (0≤t10) && decide (t10<(h2.length:Int))) then (bif decide (fI (h2.getD t10.toNat .undef) 0 > h3_0) then (bif (decide (0≤t10) && decide (t10<(h2.length:Int))) then (bif decide (t8=fI (h2.getD t10.toNat .undef) 1) then (bif (decide (0≤t10) && decide (t10<(h2.length:Int))) then (bif (decide (0≤t10) && decide (t10<(h2.length:Int))) then .next (fI (h2.getD t10.toNat .undef) 1,IntKind.i64.wrap (t9+0),IntKind.i64.wrap (t10 - 1),h0,h1,h2.set t10.toNat (AV.agg [AV.int .i64 (fI (h2.getD t10.toNat .undef) 0),AV.int .i64 (IntKind.i64.wrap (fI (h2.getD t10.toNat .undef) 1+1))]))
 else .fail)
 else .fail)
 else (bif (decide (0≤fI (h2.getD t10.toNat .undef) 1) && decide (fI (h2.getD t10.toNat .undef) 1<(h0.length:Int))) then (bif (decide (0≤fI (h2.getD t10.toNat .undef) 1) && decide (fI (h2.getD t10.toNat .undef) 1<(h1.length:Int))) then (bif (decide (0≤t8) && decide (t8<(h0.length:Int))) then (bif (decide (0≤t8) && decide (t8<(h1.length:Int))) then (bif (decide (0≤t10) && decide (t10<(h2.length:Int))) then (bif (decide (0≤t10) && decide (t10<(h2.length:Int))) then .next (fI (h2.getD t10.toNat .undef) 1,IntKind.i64.wrap (t9+1),IntKind.i64.wrap (t10 - 1),h0.set t8.toNat (AV.agg [AV.int .i64 (fI (h0.getD (fI (h2.getD t10.toNat .undef) 1).toNat .undef) 0)]),h1.set t8.toNat (AV.agg [AV.int .i64 (fI (h1.getD (fI (h2.getD t10.toNat .undef) 1).toNat .undef) 0)]),h2.set t10.toNat (AV.agg [AV.int .i64 (fI (h2.getD t10.toNat .undef) 0),AV.int .i64 (IntKind.i64.wrap (fI (h2.getD t10.toNat .undef) 1+1))]))
 else .fail)
 else .fail)
 else .fail)
 else .fail)
 else .fail)
 else .fail))
 else .fail)
 else .stop (t8,t9,h0,h1,h2))
 else .fail)
 else .stop (t8,t9,h0,h1,h2))
def R46_0 (h3_0 h3_1:Int):((Int × Int × Int × (List AV) × (List AV) × (List AV)))→Out ((Int × Int × Int × (List AV) × (List AV) × (List AV))) ((Int × Int × (List AV) × (List AV) × (List AV))):=fun s:Int × Int × Int × (List AV) × (List AV) × (List AV)=>F46_0 h3_0 h3_1 s.1 s.2.1 s.2.2.1 s.2.2.2.1 s.2.2.2.2.1 s.2.2.2.2.2
def E46_0 (h3_0 h3_1:Int):((Int × Int × Int × (List AV) × (List AV) × (List AV)))→St:=fun s:Int × Int × Int × (List AV) × (List AV) × (List AV)=>⟨[(3,AV.ptr [0,3] 0 0),(4,AV.ptr [0,4] 0 0),(7,AV.ptr [0,7] 0 0),(8,Ai s.1),(9,Ai s.2.1),(10,Ai s.2.2.1)],[([0,0,7],⟨false,[.int .i64],s.2.2.2.1⟩),([0,1,7],⟨false,[.int .i64],s.2.2.2.2.1⟩),([0,2,7],⟨false,[.int .i64,.int .i64],s.2.2.2.2.2⟩),([0,3],⟨true,[],[AV.agg [Ai h3_0,Ai h3_1]]⟩),([0,4],⟨true,[],[AV.agg [AV.snil,AV.snil,AV.snil]]⟩),([0,7],⟨true,[],[AV.agg [AV.own [0,0,7],AV.own [0,1,7],AV.own [0,2,7]]]⟩)]⟩
def K46_0 (h3_0 h3_1:Int) (k:Kont):((Int × Int × (List AV) × (List AV) × (List AV)))→Option AV:=fun p:Int × Int × (List AV) × (List AV) × (List AV)=>k (.exit 0) ⟨[(3,AV.ptr [0,3] 0 0),(4,AV.ptr [0,4] 0 0),(7,AV.ptr [0,7] 0 0),(8,Ai p.1),(9,Ai p.2.1)],[([0,0,7],⟨false,[.int .i64],p.2.2.1⟩),([0,1,7],⟨false,[.int .i64],p.2.2.2.1⟩),([0,2,7],⟨false,[.int .i64,.int .i64],p.2.2.2.2⟩),([0,3],⟨true,[],[AV.agg [Ai h3_0,Ai h3_1]]⟩),([0,4],⟨true,[],[AV.agg [AV.snil,AV.snil,AV.snil]]⟩),([0,7],⟨true,[],[AV.agg [AV.own [0,0,7],AV.own [0,1,7],AV.own [0,2,7]]]⟩)]⟩
def l46_0:LModel:=fun _ _ st k=>match st with
 | ⟨[(3,.ptr g0 g1 g2),(4,.ptr g3 g4 g5),(7,.ptr g6 g7 g8),(8,.int .i64 t8),(9,.int .i64 t9),(10,.int .i64 t10)],[(g9,⟨false,g10,h0⟩),(g11,⟨false,g12,h1⟩),(g13,⟨false,g14,h2⟩),(g15,⟨true,[],[.agg [.int .i64 h3_0,.int .i64 h3_1]]⟩),(g16,⟨true,[],[.agg [.snil,.snil,.snil]]⟩),(g17,⟨true,[],[.agg [.own g18,.own g19,.own g20]]⟩)]⟩=>bif nmEq g0 ([0,3]) && Nat.beq g1 0 && Nat.beq g2 0 && nmEq g3 ([0,4]) && Nat.beq g4 0 && Nat.beq g5 0 && nmEq g6 ([0,7]) && Nat.beq g7 0 && Nat.beq g8 0 && nmEq g9 ([0,0,7]) && ctsEq g10 ([.int .i64]) && nmEq g11 ([0,1,7]) && ctsEq g12 ([.int .i64]) && nmEq g13 ([0,2,7]) && ctsEq g14 ([.int .i64,.int .i64]) && nmEq g15 ([0,3]) && nmEq g16 ([0,4]) && nmEq g17 ([0,7]) && nmEq g18 ([0,0,7]) && nmEq g19 ([0,1,7]) && nmEq g20 ([0,2,7]) then ro (runW (R46_0 h3_0 h3_1) ((t10 - 0+1:Int).toNat+1) (t8,t9,t10,h0,h1,h2)) none (K46_0 h3_0 h3_1 k) else none
 | _=>none
noncomputable def c46:Cfg:=cfg Try.prog [(46,0,[3,4,7,8,9,10]),(46,999,[4,5,6]),(46,1000,[3,4,7,8,9]),(46,1001,[3,4,7,8,9,10]),(85,999,[6])] [(49,m49),(50,m50),(69,m69),(84,m84)] [] [85] [(46,0,l46_0)]
theorem s46_0 (t8 t9 t10:Int) (h0 h1 h2:List AV) (h3_0 h3_1:Int) (next:St→Option AV) (k:Kont):stepA (codeA c46 (inlA c46 1) [] 46 0 (sub [1,1,1,1,1,0,1,0,0] (body Try.f46))) (normA [] [3,4,7,8,9,10]) next ⟨[(3,AV.ptr [0,3] 0 0),(4,AV.ptr [0,4] 0 0),(7,AV.ptr [0,7] 0 0),(8,Ai t8),(9,Ai t9),(10,Ai t10)],[([0,0,7],⟨false,[.int .i64],h0⟩),([0,1,7],⟨false,[.int .i64],h1⟩),([0,2,7],⟨false,[.int .i64,.int .i64],h2⟩),([0,3],⟨true,[],[AV.agg [Ai h3_0,Ai h3_1]]⟩),([0,4],⟨true,[],[AV.agg [AV.snil,AV.snil,AV.snil]]⟩),([0,7],⟨true,[],[AV.agg [AV.own [0,0,7],AV.own [0,1,7],AV.own [0,2,7]]]⟩)]⟩ k=(bif decide (t10 ≥ 0) then (bif (decide (0≤t10) && decide (t10<(h2.length:Int))) then (bif decide (fI (h2.getD t10.toNat .undef) 0 > h3_0) then (bif (decide (0≤t10) && decide (t10<(h2.length:Int))) then (bif decide (t8=fI (h2.getD t10.toNat .undef) 1) then (bif (decide (0≤t10) && decide (t10<(h2.length:Int))) then (bif (decide (0≤t10) && decide (t10<(h2.length:Int))) then next ⟨[(3,AV.ptr [0,3] 0 0),(4,AV.ptr [0,4] 0 0),(7,AV.ptr [0,7] 0 0),(8,Ai (fI (h2.getD t10.toNat .undef) 1)),(9,Ai (IntKind.i64.wrap (t9+0))),(10,Ai (IntKind.i64.wrap (t10 - 1)))],[([0,0,7],⟨false,[.int .i64],h0⟩),([0,1,7],⟨false,[.int .i64],h1⟩),([0,2,7],⟨false,[.int .i64,.int .i64],h2.set t10.toNat (AV.agg [Ai (fI (h2.getD t10.toNat .undef) 0),Ai (IntKind.i64.wrap (fI (h2.getD t10.toNat .undef) 1+1))])⟩),([0,3],⟨true,[],[AV.agg [Ai h3_0,Ai h3_1]]⟩),([0,4],⟨true,[],[AV.agg [AV.snil,AV.snil,AV.snil]]⟩),([0,7],⟨true,[],[AV.agg [AV.own [0,0,7],AV.own [0,1,7],AV.own [0,2,7]]]⟩)]⟩
 else none)
 else none)
 else (bif (decide (0≤fI (h2.getD t10.toNat .undef) 1) && decide (fI (h2.getD t10.toNat .undef) 1<(h0.length:Int))) then (bif (decide (0≤fI (h2.getD t10.toNat .undef) 1) && decide (fI (h2.getD t10.toNat .undef) 1<(h1.length:Int))) then (bif (decide (0≤t8) && decide (t8<(h0.length:Int))) then (bif (decide (0≤t8) && decide (t8<(h1.length:Int))) then (bif (decide (0≤t10) && decide (t10<(h2.length:Int))) then (bif (decide (0≤t10) && decide (t10<(h2.length:Int))) then next ⟨[(3,AV.ptr [0,3] 0 0),(4,AV.ptr [0,4] 0 0),(7,AV.ptr [0,7] 0 0),(8,Ai (fI (h2.getD t10.toNat .undef) 1)),(9,Ai (IntKind.i64.wrap (t9+1))),(10,Ai (IntKind.i64.wrap (t10 - 1)))],[([0,0,7],⟨false,[.int .i64],h0.set t8.toNat (AV.agg [Ai (fI (h0.getD (fI (h2.getD t10.toNat .undef) 1).toNat .undef) 0)])⟩),([0,1,7],⟨false,[.int .i64],h1.set t8.toNat (AV.agg [Ai (fI (h1.getD (fI (h2.getD t10.toNat .undef) 1).toNat .undef) 0)])⟩),([0,2,7],⟨false,[.int .i64,.int .i64],h2.set t10.toNat (AV.agg [Ai (fI (h2.getD t10.toNat .undef) 0),Ai (IntKind.i64.wrap (fI (h2.getD t10.toNat .undef) 1+1))])⟩),([0,3],⟨true,[],[AV.agg [Ai h3_0,Ai h3_1]]⟩),([0,4],⟨true,[],[AV.agg [AV.snil,AV.snil,AV.snil]]⟩),([0,7],⟨true,[],[AV.agg [AV.own [0,0,7],AV.own [0,1,7],AV.own [0,2,7]]]⟩)]⟩
 else none)
 else none)
 else none)
 else none)
 else none)
 else none))
 else none)
 else k (.exit 0) ⟨[(3,AV.ptr [0,3] 0 0),(4,AV.ptr [0,4] 0 0),(7,AV.ptr [0,7] 0 0),(8,Ai t8),(9,Ai t9)],[([0,0,7],⟨false,[.int .i64],h0⟩),([0,1,7],⟨false,[.int .i64],h1⟩),([0,2,7],⟨false,[.int .i64,.int .i64],h2⟩),([0,3],⟨true,[],[AV.agg [Ai h3_0,Ai h3_1]]⟩),([0,4],⟨true,[],[AV.agg [AV.snil,AV.snil,AV.snil]]⟩),([0,7],⟨true,[],[AV.agg [AV.own [0,0,7],AV.own [0,1,7],AV.own [0,2,7]]]⟩)]⟩)
 else none)
 else k (.exit 0) ⟨[(3,AV.ptr [0,3] 0 0),(4,AV.ptr [0,4] 0 0),(7,AV.ptr [0,7] 0 0),(8,Ai t8),(9,Ai t9)],[([0,0,7],⟨false,[.int .i64],h0⟩),([0,1,7],⟨false,[.int .i64],h1⟩),([0,2,7],⟨false,[.int .i64,.int .i64],h2⟩),([0,3],⟨true,[],[AV.agg [Ai h3_0,Ai h3_1]]⟩),([0,4],⟨true,[],[AV.agg [AV.snil,AV.snil,AV.snil]]⟩),([0,7],⟨true,[],[AV.agg [AV.own [0,0,7],AV.own [0,1,7],AV.own [0,2,7]]]⟩)]⟩):=by kernel_rfl
theorem st46_0 (h3_0 h3_1:Int) (k:Kont) (s:(Int × Int × Int × (List AV) × (List AV) × (List AV))) (next:St→Option AV):stepA (codeA c46 (inlA c46 1) [] 46 0 (sub [1,1,1,1,1,0,1,0,0] (body Try.f46))) (normA [] [3,4,7,8,9,10]) next ((E46_0 h3_0 h3_1) s) k=(R46_0 h3_0 h3_1 s).el none (fun s=>next ((E46_0 h3_0 h3_1) s)) (K46_0 h3_0 h3_1 k):=(s46_0 s.1 s.2.1 s.2.2.1 s.2.2.2.1 s.2.2.2.2.1 s.2.2.2.2.2 h3_0 h3_1 next k).trans (by unfold R46_0;unfold F46_0;simp only [el_cond,el_ro,el_sum,el_fail,el_next,el_stop] <;> rfl)
theorem ok46_0:LoopOK c46 (inlA c46 1) [] 46 0 (sub [1,1,1,1,1,0,1,0,0] (body Try.f46)):=by
 intro m hm st k r h
 obtain rfl:l46_0=m:=Option.some.inj hm
 unfold l46_0 at h
 split at h
 ·rename_i g0 g1 g2 g3 g4 g5 g6 g7 g8 t8 t9 t10 g9 g10 h0 g11 g12 h1 g13 g14 h2 g15 h3_0 h3_1 g16 g17 g18 g19 g20
  obtain ⟨hg,h⟩:=bif_some h
  simp only [Bool.and_eq_true] at hg
  obtain ⟨⟨⟨⟨⟨⟨⟨⟨⟨⟨⟨⟨⟨⟨⟨⟨⟨⟨⟨⟨q0,q1⟩,q2⟩,q3⟩,q4⟩,q5⟩,q6⟩,q7⟩,q8⟩,q9⟩,q10⟩,q11⟩,q12⟩,q13⟩,q14⟩,q15⟩,q16⟩,q17⟩,q18⟩,q19⟩,q20⟩:=hg
  obtain rfl:=(nmEq_iff _ _).1 q0
  obtain rfl:=Nat.eq_of_beq_eq_true q1
  obtain rfl:=Nat.eq_of_beq_eq_true q2
  obtain rfl:=(nmEq_iff _ _).1 q3
  obtain rfl:=Nat.eq_of_beq_eq_true q4
  obtain rfl:=Nat.eq_of_beq_eq_true q5
  obtain rfl:=(nmEq_iff _ _).1 q6
  obtain rfl:=Nat.eq_of_beq_eq_true q7
  obtain rfl:=Nat.eq_of_beq_eq_true q8
  obtain rfl:=(nmEq_iff _ _).1 q9
  obtain rfl:=ctsEq_eq _ _ q10
  obtain rfl:=(nmEq_iff _ _).1 q11
  obtain rfl:=ctsEq_eq _ _ q12
  obtain rfl:=(nmEq_iff _ _).1 q13
  obtain rfl:=ctsEq_eq _ _ q14
  obtain rfl:=(nmEq_iff _ _).1 q15
  obtain rfl:=(nmEq_iff _ _).1 q16
  obtain rfl:=(nmEq_iff _ _).1 q17
  obtain rfl:=(nmEq_iff _ _).1 q18
  obtain rfl:=(nmEq_iff _ _).1 q19
  obtain rfl:=(nmEq_iff _ _).1 q20
  refine ⟨((t10 - 0+1:Int).toNat+1),?_⟩
  rw [← h]
  exact loop_run (E46_0 h3_0 h3_1) (K46_0 h3_0 h3_1 k) (st46_0 h3_0 h3_1 k) _ (t8,t9,t10,h0,h1,h2)
 ·cases h
def q46 (xa xb xc:List AV) (ya yb:Int):Bool:=(q69 xa xb xc && (q49 xa xb xc && (bif !(v49_0 xa xb xc) then true else (bif !(v84_0 ya yb) then true else (q50 xa xb xc yb && (bif decide ((v50_0 xa xb xc yb) ≥ 0) then true else (bif decide ((xa.length:Int) ≥ 64) then true else ((decide (((v69_0 xa xb xc).length+([AV.int .i64 ya]).length)*8≤140737488355328) && decide (((v69_0 xa xb xc).length+([AV.int .i64 ya]).length)≤140737488355328)) && ((decide (((v69_1 xa xb xc).length+([AV.int .i64 yb]).length)*8≤140737488355328) && decide (((v69_1 xa xb xc).length+([AV.int .i64 yb]).length)≤140737488355328)) && (ro (runW (R46_0 ya yb) (((IntKind.i64.wrap (((v69_2 xa xb xc).length:Int) - 1)) - 0+1:Int).toNat+1) ((xa.length:Int),0,IntKind.i64.wrap (((v69_2 xa xb xc).length:Int) - 1),(v69_0 xa xb xc)++([AV.int .i64 ya]),(v69_1 xa xb xc)++([AV.int .i64 yb]),(v69_2 xa xb xc))) false (fun p55=>((decide (0≤p55.1) && decide (p55.1<(p55.2.2.1.length:Int))) && (decide (0≤p55.1) && decide (p55.1<(p55.2.2.2.1.length:Int)))))))))))))))
def v46_0 (xa xb xc:List AV) (ya yb:Int):List AV:=(bif !(v49_0 xa xb xc) then (v69_0 xa xb xc) else (bif !(v84_0 ya yb) then (v69_0 xa xb xc) else (bif decide ((v50_0 xa xb xc yb) ≥ 0) then (v69_0 xa xb xc) else (bif decide ((xa.length:Int) ≥ 64) then (v69_0 xa xb xc) else (ro (runW (R46_0 ya yb) (((IntKind.i64.wrap (((v69_2 xa xb xc).length:Int) - 1)) - 0+1:Int).toNat+1) ((xa.length:Int),0,IntKind.i64.wrap (((v69_2 xa xb xc).length:Int) - 1),(v69_0 xa xb xc)++([AV.int .i64 ya]),(v69_1 xa xb xc)++([AV.int .i64 yb]),(v69_2 xa xb xc))) [] (fun p55=>p55.2.2.1.set p55.1.toNat (AV.agg [AV.int .i64 ya])))))))
def v46_1 (xa xb xc:List AV) (ya yb:Int):List AV:=(bif !(v49_0 xa xb xc) then (v69_1 xa xb xc) else (bif !(v84_0 ya yb) then (v69_1 xa xb xc) else (bif decide ((v50_0 xa xb xc yb) ≥ 0) then (v69_1 xa xb xc) else (bif decide ((xa.length:Int) ≥ 64) then (v69_1 xa xb xc) else (ro (runW (R46_0 ya yb) (((IntKind.i64.wrap (((v69_2 xa xb xc).length:Int) - 1)) - 0+1:Int).toNat+1) ((xa.length:Int),0,IntKind.i64.wrap (((v69_2 xa xb xc).length:Int) - 1),(v69_0 xa xb xc)++([AV.int .i64 ya]),(v69_1 xa xb xc)++([AV.int .i64 yb]),(v69_2 xa xb xc))) [] (fun p55=>p55.2.2.2.1.set p55.1.toNat (AV.agg [AV.int .i64 yb])))))))
def v46_2 (xa xb xc:List AV) (ya yb:Int):List AV:=(bif !(v49_0 xa xb xc) then (v69_2 xa xb xc) else (bif !(v84_0 ya yb) then (v69_2 xa xb xc) else (bif decide ((v50_0 xa xb xc yb) ≥ 0) then (v69_2 xa xb xc) else (bif decide ((xa.length:Int) ≥ 64) then (v69_2 xa xb xc) else (ro (runW (R46_0 ya yb) (((IntKind.i64.wrap (((v69_2 xa xb xc).length:Int) - 1)) - 0+1:Int).toNat+1) ((xa.length:Int),0,IntKind.i64.wrap (((v69_2 xa xb xc).length:Int) - 1),(v69_0 xa xb xc)++([AV.int .i64 ya]),(v69_1 xa xb xc)++([AV.int .i64 yb]),(v69_2 xa xb xc))) [] (fun p55=>p55.2.2.2.2))))))
def v46_3 (xa xb xc:List AV) (ya yb:Int):Int:=(bif !(v49_0 xa xb xc) then 0 else (bif !(v84_0 ya yb) then 0 else (bif decide ((v50_0 xa xb xc yb) ≥ 0) then 0 else (bif decide ((xa.length:Int) ≥ 64) then 0 else (ro (runW (R46_0 ya yb) (((IntKind.i64.wrap (((v69_2 xa xb xc).length:Int) - 1)) - 0+1:Int).toNat+1) ((xa.length:Int),0,IntKind.i64.wrap (((v69_2 xa xb xc).length:Int) - 1),(v69_0 xa xb xc)++([AV.int .i64 ya]),(v69_1 xa xb xc)++([AV.int .i64 yb]),(v69_2 xa xb xc))) 0 (fun p55=>p55.2.1))))))
def v46_4 (xa xb xc:List AV) (ya yb:Int):Bool:=(bif !(v49_0 xa xb xc) then false else (bif !(v84_0 ya yb) then false else (bif decide ((v50_0 xa xb xc yb) ≥ 0) then false else (bif decide ((xa.length:Int) ≥ 64) then false else true))))
theorem e46 (xa xb xc:List AV) (ya yb:Int):funA c46 1 46 [AV.agg [AV.sl [.int .i64] xa,AV.sl [.int .i64] xb,AV.sl [.int .i64,.int .i64] xc],AV.agg [Ai ya,Ai yb]]=(bif q69 xa xb xc then (bif q49 xa xb xc then (bif !(v49_0 xa xb xc) then some (AV.tup [AV.agg [AV.fl [.int .i64] (v69_0 xa xb xc),AV.fl [.int .i64] (v69_1 xa xb xc),AV.fl [.int .i64,.int .i64] (v69_2 xa xb xc)],Ai 0,AV.bool false])
 else (bif !(v84_0 ya yb) then some (AV.tup [AV.agg [AV.fl [.int .i64] (v69_0 xa xb xc),AV.fl [.int .i64] (v69_1 xa xb xc),AV.fl [.int .i64,.int .i64] (v69_2 xa xb xc)],Ai 0,AV.bool false])
 else (bif q50 xa xb xc yb then (bif decide ((v50_0 xa xb xc yb) ≥ 0) then some (AV.tup [AV.agg [AV.fl [.int .i64] (v69_0 xa xb xc),AV.fl [.int .i64] (v69_1 xa xb xc),AV.fl [.int .i64,.int .i64] (v69_2 xa xb xc)],Ai 0,AV.bool false])
 else (bif decide ((xa.length:Int) ≥ 64) then some (AV.tup [AV.agg [AV.fl [.int .i64] (v69_0 xa xb xc),AV.fl [.int .i64] (v69_1 xa xb xc),AV.fl [.int .i64,.int .i64] (v69_2 xa xb xc)],Ai 0,AV.bool false])
 else (bif (decide (((v69_0 xa xb xc).length+([Ai ya]).length)*8≤140737488355328) && decide (((v69_0 xa xb xc).length+([Ai ya]).length)≤140737488355328)) then (bif (decide (((v69_1 xa xb xc).length+([Ai yb]).length)*8≤140737488355328) && decide (((v69_1 xa xb xc).length+([Ai yb]).length)≤140737488355328)) then (ro (runW (R46_0 ya yb) (((IntKind.i64.wrap (((v69_2 xa xb xc).length:Int) - 1)) - 0+1:Int).toNat+1) ((xa.length:Int),0,IntKind.i64.wrap (((v69_2 xa xb xc).length:Int) - 1),(v69_0 xa xb xc)++([Ai ya]),(v69_1 xa xb xc)++([Ai yb]),(v69_2 xa xb xc))) none (fun p55=>(bif (decide (0≤p55.1) && decide (p55.1<(p55.2.2.1.length:Int))) then (bif (decide (0≤p55.1) && decide (p55.1<(p55.2.2.2.1.length:Int))) then some (AV.tup [AV.agg [AV.fl [.int .i64] (p55.2.2.1.set p55.1.toNat (AV.agg [Ai ya])),AV.fl [.int .i64] (p55.2.2.2.1.set p55.1.toNat (AV.agg [Ai yb])),AV.fl [.int .i64,.int .i64] p55.2.2.2.2],Ai p55.2.1,AV.bool true])
 else none)
 else none)))
 else none)
 else none)))
 else none)))
 else none)
 else none):=by kernel_rfl
def m46:TModel
 | [.agg [.sl g0 xa,.sl g1 xb,.sl g2 xc],.agg [.int .i64 ya,.int .i64 yb]]=>bif ctsEq g0 ([.int .i64]) && ctsEq g1 ([.int .i64]) && ctsEq g2 ([.int .i64,.int .i64]) then some (q46 xa xb xc ya yb,AV.tup [AV.agg [AV.fl [.int .i64] (v46_0 xa xb xc ya yb),AV.fl [.int .i64] (v46_1 xa xb xc ya yb),AV.fl [.int .i64,.int .i64] (v46_2 xa xb xc ya yb)],AV.int .i64 (v46_3 xa xb xc ya yb),AV.bool (v46_4 xa xb xc ya yb)]) else none
 | _=>none
theorem k46:Known Try.prog 46:=⟨Try.f46,Try.func46,by kernel_rfl,by kernel_rfl⟩
theorem i46_85:InlK Try.prog [(46,0,[3,4,7,8,9,10]),(46,999,[4,5,6]),(46,1000,[3,4,7,8,9]),(46,1001,[3,4,7,8,9,10]),(85,999,[6])] [(49,m49),(50,m50),(69,m69),(84,m84)] [] [85] [(46,0,l46_0)] 85:=⟨⟨Try.f85,Try.func85,by kernel_rfl,by kernel_rfl⟩,Try.f85,[],Try.func85,by kernel_rfl,fun ce π=>noLoop⟩
theorem meets46:Meets Try.prog 46 m46:=by
 refine meet (f:=Try.f46) (l:=[(0,sub [1,1,1,1,1,0,1,0,0] (body Try.f46))]) (hs:=[(46,0,[3,4,7,8,9,10]),(46,999,[4,5,6]),(46,1000,[3,4,7,8,9]),(46,1001,[3,4,7,8,9,10]),(85,999,[6])]) (ts:=[(49,m49),(50,m50),(69,m69),(84,m84)]) (ws:=[]) (is:=[85]) (ls:=[(46,0,l46_0)]) (lvl:=1) mixed k46 Try.func46 (by kernel_rfl) (loops_cons ok46_0 noLoop) (allT_cons meets49 (allT_cons meets50 (allT_cons meets69 (allT_cons meets84 allT_nil)))) allM_nil (allI_cons i46_85 noI) fun w xs us r hl hv h=>?_
 unfold m46 at h
 split at h
 ·rename_i g0 xa g1 xb g2 xc ya yb
  obtain ⟨hg,h⟩:=bif_pair h
  simp only [Bool.and_eq_true] at hg
  obtain ⟨⟨q0,q1⟩,q2⟩:=hg
  obtain rfl:=ctsEq_eq _ _ q0
  obtain rfl:=ctsEq_eq _ _ q1
  obtain rfl:=ctsEq_eq _ _ q2
  obtain ⟨h1,rfl⟩:=pair_inj h
  exact (e46 xa xb xc ya yb).trans ((brL (brL (br (fun b=>some (AV.tup [AV.agg [AV.fl [.int .i64] (bif b then (v69_0 xa xb xc) else (bif !(v84_0 ya yb) then (v69_0 xa xb xc) else (bif decide ((v50_0 xa xb xc yb) ≥ 0) then (v69_0 xa xb xc) else (bif decide ((xa.length:Int) ≥ 64) then (v69_0 xa xb xc) else (ro (runW (R46_0 ya yb) (((IntKind.i64.wrap (((v69_2 xa xb xc).length:Int) - 1)) - 0+1:Int).toNat+1) ((xa.length:Int),0,IntKind.i64.wrap (((v69_2 xa xb xc).length:Int) - 1),(v69_0 xa xb xc)++([Ai ya]),(v69_1 xa xb xc)++([Ai yb]),(v69_2 xa xb xc))) [] (fun p55=>p55.2.2.1.set p55.1.toNat (AV.agg [Ai ya]))))))),AV.fl [.int .i64] (bif b then (v69_1 xa xb xc) else (bif !(v84_0 ya yb) then (v69_1 xa xb xc) else (bif decide ((v50_0 xa xb xc yb) ≥ 0) then (v69_1 xa xb xc) else (bif decide ((xa.length:Int) ≥ 64) then (v69_1 xa xb xc) else (ro (runW (R46_0 ya yb) (((IntKind.i64.wrap (((v69_2 xa xb xc).length:Int) - 1)) - 0+1:Int).toNat+1) ((xa.length:Int),0,IntKind.i64.wrap (((v69_2 xa xb xc).length:Int) - 1),(v69_0 xa xb xc)++([Ai ya]),(v69_1 xa xb xc)++([Ai yb]),(v69_2 xa xb xc))) [] (fun p55=>p55.2.2.2.1.set p55.1.toNat (AV.agg [Ai yb]))))))),AV.fl [.int .i64,.int .i64] (bif b then (v69_2 xa xb xc) else (bif !(v84_0 ya yb) then (v69_2 xa xb xc) else (bif decide ((v50_0 xa xb xc yb) ≥ 0) then (v69_2 xa xb xc) else (bif decide ((xa.length:Int) ≥ 64) then (v69_2 xa xb xc) else (ro (runW (R46_0 ya yb) (((IntKind.i64.wrap (((v69_2 xa xb xc).length:Int) - 1)) - 0+1:Int).toNat+1) ((xa.length:Int),0,IntKind.i64.wrap (((v69_2 xa xb xc).length:Int) - 1),(v69_0 xa xb xc)++([Ai ya]),(v69_1 xa xb xc)++([Ai yb]),(v69_2 xa xb xc))) [] (fun p55=>p55.2.2.2.2))))))],Ai (bif b then 0 else (bif !(v84_0 ya yb) then 0 else (bif decide ((v50_0 xa xb xc yb) ≥ 0) then 0 else (bif decide ((xa.length:Int) ≥ 64) then 0 else (ro (runW (R46_0 ya yb) (((IntKind.i64.wrap (((v69_2 xa xb xc).length:Int) - 1)) - 0+1:Int).toNat+1) ((xa.length:Int),0,IntKind.i64.wrap (((v69_2 xa xb xc).length:Int) - 1),(v69_0 xa xb xc)++([Ai ya]),(v69_1 xa xb xc)++([Ai yb]),(v69_2 xa xb xc))) 0 (fun p55=>p55.2.1)))))),AV.bool (bif b then false else (bif !(v84_0 ya yb) then false else (bif decide ((v50_0 xa xb xc yb) ≥ 0) then false else (bif decide ((xa.length:Int) ≥ 64) then false else true))))])) (fun _=>rfl) (br (fun b=>some (AV.tup [AV.agg [AV.fl [.int .i64] (bif b then (v69_0 xa xb xc) else (bif decide ((v50_0 xa xb xc yb) ≥ 0) then (v69_0 xa xb xc) else (bif decide ((xa.length:Int) ≥ 64) then (v69_0 xa xb xc) else (ro (runW (R46_0 ya yb) (((IntKind.i64.wrap (((v69_2 xa xb xc).length:Int) - 1)) - 0+1:Int).toNat+1) ((xa.length:Int),0,IntKind.i64.wrap (((v69_2 xa xb xc).length:Int) - 1),(v69_0 xa xb xc)++([Ai ya]),(v69_1 xa xb xc)++([Ai yb]),(v69_2 xa xb xc))) [] (fun p55=>p55.2.2.1.set p55.1.toNat (AV.agg [Ai ya])))))),AV.fl [.int .i64] (bif b then (v69_1 xa xb xc) else (bif decide ((v50_0 xa xb xc yb) ≥ 0) then (v69_1 xa xb xc) else (bif decide ((xa.length:Int) ≥ 64) then (v69_1 xa xb xc) else (ro (runW (R46_0 ya yb) (((IntKind.i64.wrap (((v69_2 xa xb xc).length:Int) - 1)) - 0+1:Int).toNat+1) ((xa.length:Int),0,IntKind.i64.wrap (((v69_2 xa xb xc).length:Int) - 1),(v69_0 xa xb xc)++([Ai ya]),(v69_1 xa xb xc)++([Ai yb]),(v69_2 xa xb xc))) [] (fun p55=>p55.2.2.2.1.set p55.1.toNat (AV.agg [Ai yb])))))),AV.fl [.int .i64,.int .i64] (bif b then (v69_2 xa xb xc) else (bif decide ((v50_0 xa xb xc yb) ≥ 0) then (v69_2 xa xb xc) else (bif decide ((xa.length:Int) ≥ 64) then (v69_2 xa xb xc) else (ro (runW (R46_0 ya yb) (((IntKind.i64.wrap (((v69_2 xa xb xc).length:Int) - 1)) - 0+1:Int).toNat+1) ((xa.length:Int),0,IntKind.i64.wrap (((v69_2 xa xb xc).length:Int) - 1),(v69_0 xa xb xc)++([Ai ya]),(v69_1 xa xb xc)++([Ai yb]),(v69_2 xa xb xc))) [] (fun p55=>p55.2.2.2.2)))))],Ai (bif b then 0 else (bif decide ((v50_0 xa xb xc yb) ≥ 0) then 0 else (bif decide ((xa.length:Int) ≥ 64) then 0 else (ro (runW (R46_0 ya yb) (((IntKind.i64.wrap (((v69_2 xa xb xc).length:Int) - 1)) - 0+1:Int).toNat+1) ((xa.length:Int),0,IntKind.i64.wrap (((v69_2 xa xb xc).length:Int) - 1),(v69_0 xa xb xc)++([Ai ya]),(v69_1 xa xb xc)++([Ai yb]),(v69_2 xa xb xc))) 0 (fun p55=>p55.2.1))))),AV.bool (bif b then false else (bif decide ((v50_0 xa xb xc yb) ≥ 0) then false else (bif decide ((xa.length:Int) ≥ 64) then false else true)))])) (fun _=>rfl) (brL (br (fun b=>some (AV.tup [AV.agg [AV.fl [.int .i64] (bif b then (v69_0 xa xb xc) else (bif decide ((xa.length:Int) ≥ 64) then (v69_0 xa xb xc) else (ro (runW (R46_0 ya yb) (((IntKind.i64.wrap (((v69_2 xa xb xc).length:Int) - 1)) - 0+1:Int).toNat+1) ((xa.length:Int),0,IntKind.i64.wrap (((v69_2 xa xb xc).length:Int) - 1),(v69_0 xa xb xc)++([Ai ya]),(v69_1 xa xb xc)++([Ai yb]),(v69_2 xa xb xc))) [] (fun p55=>p55.2.2.1.set p55.1.toNat (AV.agg [Ai ya]))))),AV.fl [.int .i64] (bif b then (v69_1 xa xb xc) else (bif decide ((xa.length:Int) ≥ 64) then (v69_1 xa xb xc) else (ro (runW (R46_0 ya yb) (((IntKind.i64.wrap (((v69_2 xa xb xc).length:Int) - 1)) - 0+1:Int).toNat+1) ((xa.length:Int),0,IntKind.i64.wrap (((v69_2 xa xb xc).length:Int) - 1),(v69_0 xa xb xc)++([Ai ya]),(v69_1 xa xb xc)++([Ai yb]),(v69_2 xa xb xc))) [] (fun p55=>p55.2.2.2.1.set p55.1.toNat (AV.agg [Ai yb]))))),AV.fl [.int .i64,.int .i64] (bif b then (v69_2 xa xb xc) else (bif decide ((xa.length:Int) ≥ 64) then (v69_2 xa xb xc) else (ro (runW (R46_0 ya yb) (((IntKind.i64.wrap (((v69_2 xa xb xc).length:Int) - 1)) - 0+1:Int).toNat+1) ((xa.length:Int),0,IntKind.i64.wrap (((v69_2 xa xb xc).length:Int) - 1),(v69_0 xa xb xc)++([Ai ya]),(v69_1 xa xb xc)++([Ai yb]),(v69_2 xa xb xc))) [] (fun p55=>p55.2.2.2.2))))],Ai (bif b then 0 else (bif decide ((xa.length:Int) ≥ 64) then 0 else (ro (runW (R46_0 ya yb) (((IntKind.i64.wrap (((v69_2 xa xb xc).length:Int) - 1)) - 0+1:Int).toNat+1) ((xa.length:Int),0,IntKind.i64.wrap (((v69_2 xa xb xc).length:Int) - 1),(v69_0 xa xb xc)++([Ai ya]),(v69_1 xa xb xc)++([Ai yb]),(v69_2 xa xb xc))) 0 (fun p55=>p55.2.1)))),AV.bool (bif b then false else (bif decide ((xa.length:Int) ≥ 64) then false else true))])) (fun _=>rfl) (br (fun b=>some (AV.tup [AV.agg [AV.fl [.int .i64] (bif b then (v69_0 xa xb xc) else (ro (runW (R46_0 ya yb) (((IntKind.i64.wrap (((v69_2 xa xb xc).length:Int) - 1)) - 0+1:Int).toNat+1) ((xa.length:Int),0,IntKind.i64.wrap (((v69_2 xa xb xc).length:Int) - 1),(v69_0 xa xb xc)++([Ai ya]),(v69_1 xa xb xc)++([Ai yb]),(v69_2 xa xb xc))) [] (fun p55=>p55.2.2.1.set p55.1.toNat (AV.agg [Ai ya])))),AV.fl [.int .i64] (bif b then (v69_1 xa xb xc) else (ro (runW (R46_0 ya yb) (((IntKind.i64.wrap (((v69_2 xa xb xc).length:Int) - 1)) - 0+1:Int).toNat+1) ((xa.length:Int),0,IntKind.i64.wrap (((v69_2 xa xb xc).length:Int) - 1),(v69_0 xa xb xc)++([Ai ya]),(v69_1 xa xb xc)++([Ai yb]),(v69_2 xa xb xc))) [] (fun p55=>p55.2.2.2.1.set p55.1.toNat (AV.agg [Ai yb])))),AV.fl [.int .i64,.int .i64] (bif b then (v69_2 xa xb xc) else (ro (runW (R46_0 ya yb) (((IntKind.i64.wrap (((v69_2 xa xb xc).length:Int) - 1)) - 0+1:Int).toNat+1) ((xa.length:Int),0,IntKind.i64.wrap (((v69_2 xa xb xc).length:Int) - 1),(v69_0 xa xb xc)++([Ai ya]),(v69_1 xa xb xc)++([Ai yb]),(v69_2 xa xb xc))) [] (fun p55=>p55.2.2.2.2)))],Ai (bif b then 0 else (ro (runW (R46_0 ya yb) (((IntKind.i64.wrap (((v69_2 xa xb xc).length:Int) - 1)) - 0+1:Int).toNat+1) ((xa.length:Int),0,IntKind.i64.wrap (((v69_2 xa xb xc).length:Int) - 1),(v69_0 xa xb xc)++([Ai ya]),(v69_1 xa xb xc)++([Ai yb]),(v69_2 xa xb xc))) 0 (fun p55=>p55.2.1))),AV.bool (bif b then false else true)])) (fun _=>rfl) (brL (brL (brO (fun o:Option ((Int × Int × (List AV) × (List AV) × (List AV)))=>some (AV.tup [AV.agg [AV.fl [.int .i64] (ro o [] (fun p55=>p55.2.2.1.set p55.1.toNat (AV.agg [Ai ya]))),AV.fl [.int .i64] (ro o [] (fun p55=>p55.2.2.2.1.set p55.1.toNat (AV.agg [Ai yb]))),AV.fl [.int .i64,.int .i64] (ro o [] (fun p55=>p55.2.2.2.2))],Ai (ro o 0 (fun p55=>p55.2.1)),AV.bool true])) (fun p55=>(brL (brL1 (fun _=>rfl)))))))))))))) h1)
 ·cases h
noncomputable def c15:Cfg:=cfg Try.prog [(15,999,[4,5,6])] [(18,m18),(45,m45),(46,m46)] [] [] []
def q15 (xa:List AV) (xb:Int) (xc xd xe:List AV) (a1:Int):Bool:=(q45 xa xb xc xd xe && (q18 xa xb xc xd xe && (bif !(v18_0 xa xb xc xd xe) then true else (bif decide (xb ≥ 1000) then true else (bif decide ((xa.length:Int) > 0) then ((decide (0≤IntKind.i64.wrap ((xa.length:Int) - 1)) && decide (IntKind.i64.wrap ((xa.length:Int) - 1)<(xa.length:Int))) && (q46 xc xd xe a1 (IntKind.i64.wrap (fI (xa.getD (IntKind.i64.wrap ((xa.length:Int) - 1)).toNat .undef) 1+1)) && (bif !(v46_4 xc xd xe a1 (IntKind.i64.wrap (fI (xa.getD (IntKind.i64.wrap ((xa.length:Int) - 1)).toNat .undef) 1+1))) then true else (decide (((v45_0 xa xb xc xd xe).length+([AV.agg [AV.int .i64 a1,AV.int .i64 (IntKind.i64.wrap (fI (xa.getD (IntKind.i64.wrap ((xa.length:Int) - 1)).toNat .undef) 1+1)),AV.int .i64 (IntKind.i64.wrap ((v45_1 xa xb xc xd xe)+1)),AV.int .i64 (-1)]]).length)*32≤140737488355328) && decide (((v45_0 xa xb xc xd xe).length+([AV.agg [AV.int .i64 a1,AV.int .i64 (IntKind.i64.wrap (fI (xa.getD (IntKind.i64.wrap ((xa.length:Int) - 1)).toNat .undef) 1+1)),AV.int .i64 (IntKind.i64.wrap ((v45_1 xa xb xc xd xe)+1)),AV.int .i64 (-1)]]).length)≤140737488355328))))) else (q46 xc xd xe a1 0 && (bif !(v46_4 xc xd xe a1 0) then true else (decide (((v45_0 xa xb xc xd xe).length+([AV.agg [AV.int .i64 a1,AV.int .i64 0,AV.int .i64 (IntKind.i64.wrap ((v45_1 xa xb xc xd xe)+1)),AV.int .i64 (-1)]]).length)*32≤140737488355328) && decide (((v45_0 xa xb xc xd xe).length+([AV.agg [AV.int .i64 a1,AV.int .i64 0,AV.int .i64 (IntKind.i64.wrap ((v45_1 xa xb xc xd xe)+1)),AV.int .i64 (-1)]]).length)≤140737488355328)))))))))
def v15_0 (xa:List AV) (xb:Int) (xc xd xe:List AV) (a1:Int):List AV:=(bif !(v18_0 xa xb xc xd xe) then (v45_0 xa xb xc xd xe) else (bif decide (xb ≥ 1000) then (v45_0 xa xb xc xd xe) else (bif decide ((xa.length:Int) > 0) then (bif !(v46_4 xc xd xe a1 (IntKind.i64.wrap (fI (xa.getD (IntKind.i64.wrap ((xa.length:Int) - 1)).toNat .undef) 1+1))) then (v45_0 xa xb xc xd xe) else (v45_0 xa xb xc xd xe)++([AV.agg [AV.int .i64 a1,AV.int .i64 (IntKind.i64.wrap (fI (xa.getD (IntKind.i64.wrap ((xa.length:Int) - 1)).toNat .undef) 1+1)),AV.int .i64 (IntKind.i64.wrap ((v45_1 xa xb xc xd xe)+1)),AV.int .i64 (-1)]])) else (bif !(v46_4 xc xd xe a1 0) then (v45_0 xa xb xc xd xe) else (v45_0 xa xb xc xd xe)++([AV.agg [AV.int .i64 a1,AV.int .i64 0,AV.int .i64 (IntKind.i64.wrap ((v45_1 xa xb xc xd xe)+1)),AV.int .i64 (-1)]])))))
def v15_1 (xa:List AV) (xb:Int) (xc xd xe:List AV) (a1:Int):Int:=(bif !(v18_0 xa xb xc xd xe) then (v45_1 xa xb xc xd xe) else (bif decide (xb ≥ 1000) then (v45_1 xa xb xc xd xe) else (bif decide ((xa.length:Int) > 0) then (bif !(v46_4 xc xd xe a1 (IntKind.i64.wrap (fI (xa.getD (IntKind.i64.wrap ((xa.length:Int) - 1)).toNat .undef) 1+1))) then (v45_1 xa xb xc xd xe) else IntKind.i64.wrap ((v45_1 xa xb xc xd xe)+1)) else (bif !(v46_4 xc xd xe a1 0) then (v45_1 xa xb xc xd xe) else IntKind.i64.wrap ((v45_1 xa xb xc xd xe)+1)))))
def v15_2 (xa:List AV) (xb:Int) (xc xd xe:List AV) (a1:Int):List AV:=(bif !(v18_0 xa xb xc xd xe) then (v45_2 xa xb xc xd xe) else (bif decide (xb ≥ 1000) then (v45_2 xa xb xc xd xe) else (bif decide ((xa.length:Int) > 0) then (bif !(v46_4 xc xd xe a1 (IntKind.i64.wrap (fI (xa.getD (IntKind.i64.wrap ((xa.length:Int) - 1)).toNat .undef) 1+1))) then (v45_2 xa xb xc xd xe) else (v46_0 xc xd xe a1 (IntKind.i64.wrap (fI (xa.getD (IntKind.i64.wrap ((xa.length:Int) - 1)).toNat .undef) 1+1)))) else (bif !(v46_4 xc xd xe a1 0) then (v45_2 xa xb xc xd xe) else (v46_0 xc xd xe a1 0)))))
def v15_3 (xa:List AV) (xb:Int) (xc xd xe:List AV) (a1:Int):List AV:=(bif !(v18_0 xa xb xc xd xe) then (v45_3 xa xb xc xd xe) else (bif decide (xb ≥ 1000) then (v45_3 xa xb xc xd xe) else (bif decide ((xa.length:Int) > 0) then (bif !(v46_4 xc xd xe a1 (IntKind.i64.wrap (fI (xa.getD (IntKind.i64.wrap ((xa.length:Int) - 1)).toNat .undef) 1+1))) then (v45_3 xa xb xc xd xe) else (v46_1 xc xd xe a1 (IntKind.i64.wrap (fI (xa.getD (IntKind.i64.wrap ((xa.length:Int) - 1)).toNat .undef) 1+1)))) else (bif !(v46_4 xc xd xe a1 0) then (v45_3 xa xb xc xd xe) else (v46_1 xc xd xe a1 0)))))
def v15_4 (xa:List AV) (xb:Int) (xc xd xe:List AV) (a1:Int):List AV:=(bif !(v18_0 xa xb xc xd xe) then (v45_4 xa xb xc xd xe) else (bif decide (xb ≥ 1000) then (v45_4 xa xb xc xd xe) else (bif decide ((xa.length:Int) > 0) then (bif !(v46_4 xc xd xe a1 (IntKind.i64.wrap (fI (xa.getD (IntKind.i64.wrap ((xa.length:Int) - 1)).toNat .undef) 1+1))) then (v45_4 xa xb xc xd xe) else (v46_2 xc xd xe a1 (IntKind.i64.wrap (fI (xa.getD (IntKind.i64.wrap ((xa.length:Int) - 1)).toNat .undef) 1+1)))) else (bif !(v46_4 xc xd xe a1 0) then (v45_4 xa xb xc xd xe) else (v46_2 xc xd xe a1 0)))))
def v15_5 (xa:List AV) (xb:Int) (xc xd xe:List AV) (a1:Int):Int:=(bif !(v18_0 xa xb xc xd xe) then 0 else (bif decide (xb ≥ 1000) then 0 else (bif decide ((xa.length:Int) > 0) then (bif !(v46_4 xc xd xe a1 (IntKind.i64.wrap (fI (xa.getD (IntKind.i64.wrap ((xa.length:Int) - 1)).toNat .undef) 1+1))) then 0 else IntKind.i64.wrap (fI (xa.getD (IntKind.i64.wrap ((xa.length:Int) - 1)).toNat .undef) 1+1)) else 0)))
def v15_6 (xa:List AV) (xb:Int) (xc xd xe:List AV) (a1:Int):Bool:=(bif !(v18_0 xa xb xc xd xe) then false else (bif decide (xb ≥ 1000) then false else (bif decide ((xa.length:Int) > 0) then (bif !(v46_4 xc xd xe a1 (IntKind.i64.wrap (fI (xa.getD (IntKind.i64.wrap ((xa.length:Int) - 1)).toNat .undef) 1+1))) then false else true) else (bif !(v46_4 xc xd xe a1 0) then false else true))))
theorem e15 (xa:List AV) (xb:Int) (xc xd xe:List AV) (a1:Int):funA c15 0 15 [AV.agg [AV.sl [.int .i64,.int .i64,.int .i64,.int .i64] xa,Ai xb,AV.sl [.int .i64] xc,AV.sl [.int .i64] xd,AV.sl [.int .i64,.int .i64] xe],Ai a1]=(bif q45 xa xb xc xd xe then (bif q18 xa xb xc xd xe then (bif !(v18_0 xa xb xc xd xe) then some (AV.tup [AV.agg [AV.fl [.int .i64,.int .i64,.int .i64,.int .i64] (v45_0 xa xb xc xd xe),Ai (v45_1 xa xb xc xd xe),AV.fl [.int .i64] (v45_2 xa xb xc xd xe),AV.fl [.int .i64] (v45_3 xa xb xc xd xe),AV.fl [.int .i64,.int .i64] (v45_4 xa xb xc xd xe)],Ai 0,AV.bool false])
 else (bif decide (xb ≥ 1000) then some (AV.tup [AV.agg [AV.fl [.int .i64,.int .i64,.int .i64,.int .i64] (v45_0 xa xb xc xd xe),Ai (v45_1 xa xb xc xd xe),AV.fl [.int .i64] (v45_2 xa xb xc xd xe),AV.fl [.int .i64] (v45_3 xa xb xc xd xe),AV.fl [.int .i64,.int .i64] (v45_4 xa xb xc xd xe)],Ai 0,AV.bool false])
 else (bif decide ((xa.length:Int) > 0) then (bif (decide (0≤IntKind.i64.wrap ((xa.length:Int) - 1)) && decide (IntKind.i64.wrap ((xa.length:Int) - 1)<(xa.length:Int))) then (bif q46 xc xd xe a1 (IntKind.i64.wrap (fI (xa.getD (IntKind.i64.wrap ((xa.length:Int) - 1)).toNat .undef) 1+1)) then (bif !(v46_4 xc xd xe a1 (IntKind.i64.wrap (fI (xa.getD (IntKind.i64.wrap ((xa.length:Int) - 1)).toNat .undef) 1+1))) then some (AV.tup [AV.agg [AV.fl [.int .i64,.int .i64,.int .i64,.int .i64] (v45_0 xa xb xc xd xe),Ai (v45_1 xa xb xc xd xe),AV.fl [.int .i64] (v45_2 xa xb xc xd xe),AV.fl [.int .i64] (v45_3 xa xb xc xd xe),AV.fl [.int .i64,.int .i64] (v45_4 xa xb xc xd xe)],Ai 0,AV.bool false])
 else (bif (decide (((v45_0 xa xb xc xd xe).length+([AV.agg [Ai a1,Ai (IntKind.i64.wrap (fI (xa.getD (IntKind.i64.wrap ((xa.length:Int) - 1)).toNat .undef) 1+1)),Ai (IntKind.i64.wrap ((v45_1 xa xb xc xd xe)+1)),Ai (-1)]]).length)*32≤140737488355328) && decide (((v45_0 xa xb xc xd xe).length+([AV.agg [Ai a1,Ai (IntKind.i64.wrap (fI (xa.getD (IntKind.i64.wrap ((xa.length:Int) - 1)).toNat .undef) 1+1)),Ai (IntKind.i64.wrap ((v45_1 xa xb xc xd xe)+1)),Ai (-1)]]).length)≤140737488355328)) then some (AV.tup [AV.agg [AV.fl [.int .i64,.int .i64,.int .i64,.int .i64] ((v45_0 xa xb xc xd xe)++([AV.agg [Ai a1,Ai (IntKind.i64.wrap (fI (xa.getD (IntKind.i64.wrap ((xa.length:Int) - 1)).toNat .undef) 1+1)),Ai (IntKind.i64.wrap ((v45_1 xa xb xc xd xe)+1)),Ai (-1)]])),Ai (IntKind.i64.wrap ((v45_1 xa xb xc xd xe)+1)),AV.fl [.int .i64] (v46_0 xc xd xe a1 (IntKind.i64.wrap (fI (xa.getD (IntKind.i64.wrap ((xa.length:Int) - 1)).toNat .undef) 1+1))),AV.fl [.int .i64] (v46_1 xc xd xe a1 (IntKind.i64.wrap (fI (xa.getD (IntKind.i64.wrap ((xa.length:Int) - 1)).toNat .undef) 1+1))),AV.fl [.int .i64,.int .i64] (v46_2 xc xd xe a1 (IntKind.i64.wrap (fI (xa.getD (IntKind.i64.wrap ((xa.length:Int) - 1)).toNat .undef) 1+1)))],Ai (IntKind.i64.wrap (fI (xa.getD (IntKind.i64.wrap ((xa.length:Int) - 1)).toNat .undef) 1+1)),AV.bool true])
 else none))
 else none)
 else none)
 else (bif q46 xc xd xe a1 0 then (bif !(v46_4 xc xd xe a1 0) then some (AV.tup [AV.agg [AV.fl [.int .i64,.int .i64,.int .i64,.int .i64] (v45_0 xa xb xc xd xe),Ai (v45_1 xa xb xc xd xe),AV.fl [.int .i64] (v45_2 xa xb xc xd xe),AV.fl [.int .i64] (v45_3 xa xb xc xd xe),AV.fl [.int .i64,.int .i64] (v45_4 xa xb xc xd xe)],Ai 0,AV.bool false])
 else (bif (decide (((v45_0 xa xb xc xd xe).length+([AV.agg [Ai a1,Ai 0,Ai (IntKind.i64.wrap ((v45_1 xa xb xc xd xe)+1)),Ai (-1)]]).length)*32≤140737488355328) && decide (((v45_0 xa xb xc xd xe).length+([AV.agg [Ai a1,Ai 0,Ai (IntKind.i64.wrap ((v45_1 xa xb xc xd xe)+1)),Ai (-1)]]).length)≤140737488355328)) then some (AV.tup [AV.agg [AV.fl [.int .i64,.int .i64,.int .i64,.int .i64] ((v45_0 xa xb xc xd xe)++([AV.agg [Ai a1,Ai 0,Ai (IntKind.i64.wrap ((v45_1 xa xb xc xd xe)+1)),Ai (-1)]])),Ai (IntKind.i64.wrap ((v45_1 xa xb xc xd xe)+1)),AV.fl [.int .i64] (v46_0 xc xd xe a1 0),AV.fl [.int .i64] (v46_1 xc xd xe a1 0),AV.fl [.int .i64,.int .i64] (v46_2 xc xd xe a1 0)],Ai 0,AV.bool true])
 else none))
 else none))))
 else none)
 else none):=by kernel_rfl
def m15:TModel
 | [.agg [.sl g0 xa,.int .i64 xb,.sl g1 xc,.sl g2 xd,.sl g3 xe],.int .i64 a1]=>bif ctsEq g0 ([.int .i64,.int .i64,.int .i64,.int .i64]) && ctsEq g1 ([.int .i64]) && ctsEq g2 ([.int .i64]) && ctsEq g3 ([.int .i64,.int .i64]) then some (q15 xa xb xc xd xe a1,AV.tup [AV.agg [AV.fl [.int .i64,.int .i64,.int .i64,.int .i64] (v15_0 xa xb xc xd xe a1),AV.int .i64 (v15_1 xa xb xc xd xe a1),AV.fl [.int .i64] (v15_2 xa xb xc xd xe a1),AV.fl [.int .i64] (v15_3 xa xb xc xd xe a1),AV.fl [.int .i64,.int .i64] (v15_4 xa xb xc xd xe a1)],AV.int .i64 (v15_5 xa xb xc xd xe a1),AV.bool (v15_6 xa xb xc xd xe a1)]) else none
 | _=>none
theorem k15:Known Try.prog 15:=⟨Try.f15,Try.func15,by kernel_rfl,by kernel_rfl⟩
theorem meets15:Meets Try.prog 15 m15:=by
 refine meet (f:=Try.f15) (l:=[]) (hs:=[(15,999,[4,5,6])]) (ts:=[(18,m18),(45,m45),(46,m46)]) (ws:=[]) (is:=[]) (ls:=[]) (lvl:=0) mixed k15 Try.func15 (by kernel_rfl) noLoop (allT_cons meets18 (allT_cons meets45 (allT_cons meets46 allT_nil))) allM_nil noI fun w xs us r hl hv h=>?_
 unfold m15 at h
 split at h
 ·rename_i g0 xa xb g1 xc g2 xd g3 xe a1
  obtain ⟨hg,h⟩:=bif_pair h
  simp only [Bool.and_eq_true] at hg
  obtain ⟨⟨⟨q0,q1⟩,q2⟩,q3⟩:=hg
  obtain rfl:=ctsEq_eq _ _ q0
  obtain rfl:=ctsEq_eq _ _ q1
  obtain rfl:=ctsEq_eq _ _ q2
  obtain rfl:=ctsEq_eq _ _ q3
  obtain ⟨h1,rfl⟩:=pair_inj h
  exact (e15 xa xb xc xd xe a1).trans ((brL (brL (br (fun b=>some (AV.tup [AV.agg [AV.fl [.int .i64,.int .i64,.int .i64,.int .i64] (bif b then (v45_0 xa xb xc xd xe) else (bif decide (xb ≥ 1000) then (v45_0 xa xb xc xd xe) else (bif decide ((xa.length:Int) > 0) then (bif !(v46_4 xc xd xe a1 (IntKind.i64.wrap (fI (xa.getD (IntKind.i64.wrap ((xa.length:Int) - 1)).toNat .undef) 1+1))) then (v45_0 xa xb xc xd xe) else (v45_0 xa xb xc xd xe)++([AV.agg [Ai a1,Ai (IntKind.i64.wrap (fI (xa.getD (IntKind.i64.wrap ((xa.length:Int) - 1)).toNat .undef) 1+1)),Ai (IntKind.i64.wrap ((v45_1 xa xb xc xd xe)+1)),Ai (-1)]])) else (bif !(v46_4 xc xd xe a1 0) then (v45_0 xa xb xc xd xe) else (v45_0 xa xb xc xd xe)++([AV.agg [Ai a1,Ai 0,Ai (IntKind.i64.wrap ((v45_1 xa xb xc xd xe)+1)),Ai (-1)]]))))),Ai (bif b then (v45_1 xa xb xc xd xe) else (bif decide (xb ≥ 1000) then (v45_1 xa xb xc xd xe) else (bif decide ((xa.length:Int) > 0) then (bif !(v46_4 xc xd xe a1 (IntKind.i64.wrap (fI (xa.getD (IntKind.i64.wrap ((xa.length:Int) - 1)).toNat .undef) 1+1))) then (v45_1 xa xb xc xd xe) else IntKind.i64.wrap ((v45_1 xa xb xc xd xe)+1)) else (bif !(v46_4 xc xd xe a1 0) then (v45_1 xa xb xc xd xe) else IntKind.i64.wrap ((v45_1 xa xb xc xd xe)+1))))),AV.fl [.int .i64] (bif b then (v45_2 xa xb xc xd xe) else (bif decide (xb ≥ 1000) then (v45_2 xa xb xc xd xe) else (bif decide ((xa.length:Int) > 0) then (bif !(v46_4 xc xd xe a1 (IntKind.i64.wrap (fI (xa.getD (IntKind.i64.wrap ((xa.length:Int) - 1)).toNat .undef) 1+1))) then (v45_2 xa xb xc xd xe) else (v46_0 xc xd xe a1 (IntKind.i64.wrap (fI (xa.getD (IntKind.i64.wrap ((xa.length:Int) - 1)).toNat .undef) 1+1)))) else (bif !(v46_4 xc xd xe a1 0) then (v45_2 xa xb xc xd xe) else (v46_0 xc xd xe a1 0))))),AV.fl [.int .i64] (bif b then (v45_3 xa xb xc xd xe) else (bif decide (xb ≥ 1000) then (v45_3 xa xb xc xd xe) else (bif decide ((xa.length:Int) > 0) then (bif !(v46_4 xc xd xe a1 (IntKind.i64.wrap (fI (xa.getD (IntKind.i64.wrap ((xa.length:Int) - 1)).toNat .undef) 1+1))) then (v45_3 xa xb xc xd xe) else (v46_1 xc xd xe a1 (IntKind.i64.wrap (fI (xa.getD (IntKind.i64.wrap ((xa.length:Int) - 1)).toNat .undef) 1+1)))) else (bif !(v46_4 xc xd xe a1 0) then (v45_3 xa xb xc xd xe) else (v46_1 xc xd xe a1 0))))),AV.fl [.int .i64,.int .i64] (bif b then (v45_4 xa xb xc xd xe) else (bif decide (xb ≥ 1000) then (v45_4 xa xb xc xd xe) else (bif decide ((xa.length:Int) > 0) then (bif !(v46_4 xc xd xe a1 (IntKind.i64.wrap (fI (xa.getD (IntKind.i64.wrap ((xa.length:Int) - 1)).toNat .undef) 1+1))) then (v45_4 xa xb xc xd xe) else (v46_2 xc xd xe a1 (IntKind.i64.wrap (fI (xa.getD (IntKind.i64.wrap ((xa.length:Int) - 1)).toNat .undef) 1+1)))) else (bif !(v46_4 xc xd xe a1 0) then (v45_4 xa xb xc xd xe) else (v46_2 xc xd xe a1 0)))))],Ai (bif b then 0 else (bif decide (xb ≥ 1000) then 0 else (bif decide ((xa.length:Int) > 0) then (bif !(v46_4 xc xd xe a1 (IntKind.i64.wrap (fI (xa.getD (IntKind.i64.wrap ((xa.length:Int) - 1)).toNat .undef) 1+1))) then 0 else IntKind.i64.wrap (fI (xa.getD (IntKind.i64.wrap ((xa.length:Int) - 1)).toNat .undef) 1+1)) else 0))),AV.bool (bif b then false else (bif decide (xb ≥ 1000) then false else (bif decide ((xa.length:Int) > 0) then (bif !(v46_4 xc xd xe a1 (IntKind.i64.wrap (fI (xa.getD (IntKind.i64.wrap ((xa.length:Int) - 1)).toNat .undef) 1+1))) then false else true) else (bif !(v46_4 xc xd xe a1 0) then false else true))))])) (fun _=>rfl) (br (fun b=>some (AV.tup [AV.agg [AV.fl [.int .i64,.int .i64,.int .i64,.int .i64] (bif b then (v45_0 xa xb xc xd xe) else (bif decide ((xa.length:Int) > 0) then (bif !(v46_4 xc xd xe a1 (IntKind.i64.wrap (fI (xa.getD (IntKind.i64.wrap ((xa.length:Int) - 1)).toNat .undef) 1+1))) then (v45_0 xa xb xc xd xe) else (v45_0 xa xb xc xd xe)++([AV.agg [Ai a1,Ai (IntKind.i64.wrap (fI (xa.getD (IntKind.i64.wrap ((xa.length:Int) - 1)).toNat .undef) 1+1)),Ai (IntKind.i64.wrap ((v45_1 xa xb xc xd xe)+1)),Ai (-1)]])) else (bif !(v46_4 xc xd xe a1 0) then (v45_0 xa xb xc xd xe) else (v45_0 xa xb xc xd xe)++([AV.agg [Ai a1,Ai 0,Ai (IntKind.i64.wrap ((v45_1 xa xb xc xd xe)+1)),Ai (-1)]])))),Ai (bif b then (v45_1 xa xb xc xd xe) else (bif decide ((xa.length:Int) > 0) then (bif !(v46_4 xc xd xe a1 (IntKind.i64.wrap (fI (xa.getD (IntKind.i64.wrap ((xa.length:Int) - 1)).toNat .undef) 1+1))) then (v45_1 xa xb xc xd xe) else IntKind.i64.wrap ((v45_1 xa xb xc xd xe)+1)) else (bif !(v46_4 xc xd xe a1 0) then (v45_1 xa xb xc xd xe) else IntKind.i64.wrap ((v45_1 xa xb xc xd xe)+1)))),AV.fl [.int .i64] (bif b then (v45_2 xa xb xc xd xe) else (bif decide ((xa.length:Int) > 0) then (bif !(v46_4 xc xd xe a1 (IntKind.i64.wrap (fI (xa.getD (IntKind.i64.wrap ((xa.length:Int) - 1)).toNat .undef) 1+1))) then (v45_2 xa xb xc xd xe) else (v46_0 xc xd xe a1 (IntKind.i64.wrap (fI (xa.getD (IntKind.i64.wrap ((xa.length:Int) - 1)).toNat .undef) 1+1)))) else (bif !(v46_4 xc xd xe a1 0) then (v45_2 xa xb xc xd xe) else (v46_0 xc xd xe a1 0)))),AV.fl [.int .i64] (bif b then (v45_3 xa xb xc xd xe) else (bif decide ((xa.length:Int) > 0) then (bif !(v46_4 xc xd xe a1 (IntKind.i64.wrap (fI (xa.getD (IntKind.i64.wrap ((xa.length:Int) - 1)).toNat .undef) 1+1))) then (v45_3 xa xb xc xd xe) else (v46_1 xc xd xe a1 (IntKind.i64.wrap (fI (xa.getD (IntKind.i64.wrap ((xa.length:Int) - 1)).toNat .undef) 1+1)))) else (bif !(v46_4 xc xd xe a1 0) then (v45_3 xa xb xc xd xe) else (v46_1 xc xd xe a1 0)))),AV.fl [.int .i64,.int .i64] (bif b then (v45_4 xa xb xc xd xe) else (bif decide ((xa.length:Int) > 0) then (bif !(v46_4 xc xd xe a1 (IntKind.i64.wrap (fI (xa.getD (IntKind.i64.wrap ((xa.length:Int) - 1)).toNat .undef) 1+1))) then (v45_4 xa xb xc xd xe) else (v46_2 xc xd xe a1 (IntKind.i64.wrap (fI (xa.getD (IntKind.i64.wrap ((xa.length:Int) - 1)).toNat .undef) 1+1)))) else (bif !(v46_4 xc xd xe a1 0) then (v45_4 xa xb xc xd xe) else (v46_2 xc xd xe a1 0))))],Ai (bif b then 0 else (bif decide ((xa.length:Int) > 0) then (bif !(v46_4 xc xd xe a1 (IntKind.i64.wrap (fI (xa.getD (IntKind.i64.wrap ((xa.length:Int) - 1)).toNat .undef) 1+1))) then 0 else IntKind.i64.wrap (fI (xa.getD (IntKind.i64.wrap ((xa.length:Int) - 1)).toNat .undef) 1+1)) else 0)),AV.bool (bif b then false else (bif decide ((xa.length:Int) > 0) then (bif !(v46_4 xc xd xe a1 (IntKind.i64.wrap (fI (xa.getD (IntKind.i64.wrap ((xa.length:Int) - 1)).toNat .undef) 1+1))) then false else true) else (bif !(v46_4 xc xd xe a1 0) then false else true)))])) (fun _=>rfl) (br (fun b=>some (AV.tup [AV.agg [AV.fl [.int .i64,.int .i64,.int .i64,.int .i64] (bif b then (bif !(v46_4 xc xd xe a1 (IntKind.i64.wrap (fI (xa.getD (IntKind.i64.wrap ((xa.length:Int) - 1)).toNat .undef) 1+1))) then (v45_0 xa xb xc xd xe) else (v45_0 xa xb xc xd xe)++([AV.agg [Ai a1,Ai (IntKind.i64.wrap (fI (xa.getD (IntKind.i64.wrap ((xa.length:Int) - 1)).toNat .undef) 1+1)),Ai (IntKind.i64.wrap ((v45_1 xa xb xc xd xe)+1)),Ai (-1)]])) else (bif !(v46_4 xc xd xe a1 0) then (v45_0 xa xb xc xd xe) else (v45_0 xa xb xc xd xe)++([AV.agg [Ai a1,Ai 0,Ai (IntKind.i64.wrap ((v45_1 xa xb xc xd xe)+1)),Ai (-1)]]))),Ai (bif b then (bif !(v46_4 xc xd xe a1 (IntKind.i64.wrap (fI (xa.getD (IntKind.i64.wrap ((xa.length:Int) - 1)).toNat .undef) 1+1))) then (v45_1 xa xb xc xd xe) else IntKind.i64.wrap ((v45_1 xa xb xc xd xe)+1)) else (bif !(v46_4 xc xd xe a1 0) then (v45_1 xa xb xc xd xe) else IntKind.i64.wrap ((v45_1 xa xb xc xd xe)+1))),AV.fl [.int .i64] (bif b then (bif !(v46_4 xc xd xe a1 (IntKind.i64.wrap (fI (xa.getD (IntKind.i64.wrap ((xa.length:Int) - 1)).toNat .undef) 1+1))) then (v45_2 xa xb xc xd xe) else (v46_0 xc xd xe a1 (IntKind.i64.wrap (fI (xa.getD (IntKind.i64.wrap ((xa.length:Int) - 1)).toNat .undef) 1+1)))) else (bif !(v46_4 xc xd xe a1 0) then (v45_2 xa xb xc xd xe) else (v46_0 xc xd xe a1 0))),AV.fl [.int .i64] (bif b then (bif !(v46_4 xc xd xe a1 (IntKind.i64.wrap (fI (xa.getD (IntKind.i64.wrap ((xa.length:Int) - 1)).toNat .undef) 1+1))) then (v45_3 xa xb xc xd xe) else (v46_1 xc xd xe a1 (IntKind.i64.wrap (fI (xa.getD (IntKind.i64.wrap ((xa.length:Int) - 1)).toNat .undef) 1+1)))) else (bif !(v46_4 xc xd xe a1 0) then (v45_3 xa xb xc xd xe) else (v46_1 xc xd xe a1 0))),AV.fl [.int .i64,.int .i64] (bif b then (bif !(v46_4 xc xd xe a1 (IntKind.i64.wrap (fI (xa.getD (IntKind.i64.wrap ((xa.length:Int) - 1)).toNat .undef) 1+1))) then (v45_4 xa xb xc xd xe) else (v46_2 xc xd xe a1 (IntKind.i64.wrap (fI (xa.getD (IntKind.i64.wrap ((xa.length:Int) - 1)).toNat .undef) 1+1)))) else (bif !(v46_4 xc xd xe a1 0) then (v45_4 xa xb xc xd xe) else (v46_2 xc xd xe a1 0)))],Ai (bif b then (bif !(v46_4 xc xd xe a1 (IntKind.i64.wrap (fI (xa.getD (IntKind.i64.wrap ((xa.length:Int) - 1)).toNat .undef) 1+1))) then 0 else IntKind.i64.wrap (fI (xa.getD (IntKind.i64.wrap ((xa.length:Int) - 1)).toNat .undef) 1+1)) else 0),AV.bool (bif b then (bif !(v46_4 xc xd xe a1 (IntKind.i64.wrap (fI (xa.getD (IntKind.i64.wrap ((xa.length:Int) - 1)).toNat .undef) 1+1))) then false else true) else (bif !(v46_4 xc xd xe a1 0) then false else true))])) (brL (brL (br (fun b=>some (AV.tup [AV.agg [AV.fl [.int .i64,.int .i64,.int .i64,.int .i64] (bif b then (v45_0 xa xb xc xd xe) else (v45_0 xa xb xc xd xe)++([AV.agg [Ai a1,Ai (IntKind.i64.wrap (fI (xa.getD (IntKind.i64.wrap ((xa.length:Int) - 1)).toNat .undef) 1+1)),Ai (IntKind.i64.wrap ((v45_1 xa xb xc xd xe)+1)),Ai (-1)]])),Ai (bif b then (v45_1 xa xb xc xd xe) else IntKind.i64.wrap ((v45_1 xa xb xc xd xe)+1)),AV.fl [.int .i64] (bif b then (v45_2 xa xb xc xd xe) else (v46_0 xc xd xe a1 (IntKind.i64.wrap (fI (xa.getD (IntKind.i64.wrap ((xa.length:Int) - 1)).toNat .undef) 1+1)))),AV.fl [.int .i64] (bif b then (v45_3 xa xb xc xd xe) else (v46_1 xc xd xe a1 (IntKind.i64.wrap (fI (xa.getD (IntKind.i64.wrap ((xa.length:Int) - 1)).toNat .undef) 1+1)))),AV.fl [.int .i64,.int .i64] (bif b then (v45_4 xa xb xc xd xe) else (v46_2 xc xd xe a1 (IntKind.i64.wrap (fI (xa.getD (IntKind.i64.wrap ((xa.length:Int) - 1)).toNat .undef) 1+1))))],Ai (bif b then 0 else IntKind.i64.wrap (fI (xa.getD (IntKind.i64.wrap ((xa.length:Int) - 1)).toNat .undef) 1+1)),AV.bool (bif b then false else true)])) (fun _=>rfl) (brL1 (fun _=>rfl))))) (brL (br (fun b=>some (AV.tup [AV.agg [AV.fl [.int .i64,.int .i64,.int .i64,.int .i64] (bif b then (v45_0 xa xb xc xd xe) else (v45_0 xa xb xc xd xe)++([AV.agg [Ai a1,Ai 0,Ai (IntKind.i64.wrap ((v45_1 xa xb xc xd xe)+1)),Ai (-1)]])),Ai (bif b then (v45_1 xa xb xc xd xe) else IntKind.i64.wrap ((v45_1 xa xb xc xd xe)+1)),AV.fl [.int .i64] (bif b then (v45_2 xa xb xc xd xe) else (v46_0 xc xd xe a1 0)),AV.fl [.int .i64] (bif b then (v45_3 xa xb xc xd xe) else (v46_1 xc xd xe a1 0)),AV.fl [.int .i64,.int .i64] (bif b then (v45_4 xa xb xc xd xe) else (v46_2 xc xd xe a1 0))],Ai 0,AV.bool (bif b then false else true)])) (fun _=>rfl) (brL1 (fun _=>rfl))))))))) h1)
 ·cases h
def F40_0 (t0 t1:List AV) (t5:Int):Out (Int) (Unit ⊕ Unit):=(bif decide (t5<(t0.length:Int)) then (bif (decide (0≤t5) && decide (t5<(t0.length:Int))) then (bif (decide (0≤t5) && decide (t5<(t1.length:Int))) then (bif !decide (fI (t0.getD t5.toNat .undef) 0=fI (t1.getD t5.toNat .undef) 0) then .stop (.inr ())
 else .next (IntKind.i64.wrap (t5+1)))
 else .fail)
 else .fail)
 else .stop (.inl ()))
def R40_0 (t0 t1:List AV):(Int)→Out (Int) (Unit ⊕ Unit):=fun s:Int=>F40_0 t0 t1 s
def E40_0 (t0 t1:List AV):(Int)→St:=fun s:Int=>⟨[(0,AV.sl [.int .i64] t0),(1,AV.sl [.int .i64] t1),(5,Ai s)],[]⟩
def K40_0 (k:Kont):(Unit ⊕ Unit)→Option AV:=sumE (fun _:Unit=>k (.exit 0) ⟨[],[]⟩) (fun _:Unit=>k .ret ⟨[(4,AV.bool false)],[]⟩)
def l40_0:LModel:=fun _ _ st k=>match st with
 | ⟨[(0,.sl g0 t0),(1,.sl g1 t1),(5,.int .i64 t5)],[]⟩=>bif ctsEq g0 ([.int .i64]) && ctsEq g1 ([.int .i64]) then ro (runW (R40_0 t0 t1) (((t0.length:Int) - t5:Int).toNat+1) t5) none (K40_0 k) else none
 | _=>none
noncomputable def c40:Cfg:=cfg Try.prog [(40,0,[0,1,5]),(40,999,[4]),(40,1000,[]),(40,1001,[0,1,5])] [] [] [] [(40,0,l40_0)]
theorem s40_0 (ce:CallE) (t0 t1:List AV) (t5:Int) (next:St→Option AV) (k:Kont):stepA (codeA c40 ce [] 40 0 (sub [1,1,0,1,0,0] (body Try.f40))) (normA [] [0,1,5]) next ⟨[(0,AV.sl [.int .i64] t0),(1,AV.sl [.int .i64] t1),(5,Ai t5)],[]⟩ k=(bif decide (t5<(t0.length:Int)) then (bif (decide (0≤t5) && decide (t5<(t0.length:Int))) then (bif (decide (0≤t5) && decide (t5<(t1.length:Int))) then (bif !decide (fI (t0.getD t5.toNat .undef) 0=fI (t1.getD t5.toNat .undef) 0) then k .ret ⟨[(4,AV.bool false)],[]⟩
 else next ⟨[(0,AV.sl [.int .i64] t0),(1,AV.sl [.int .i64] t1),(5,Ai (IntKind.i64.wrap (t5+1)))],[]⟩)
 else none)
 else none)
 else k (.exit 0) ⟨[],[]⟩):=by kernel_rfl
theorem st40_0 (t0 t1:List AV) (ce:CallE) (k:Kont) (s:Int) (next:St→Option AV):stepA (codeA c40 ce [] 40 0 (sub [1,1,0,1,0,0] (body Try.f40))) (normA [] [0,1,5]) next ((E40_0 t0 t1) s) k=(R40_0 t0 t1 s).el none (fun s=>next ((E40_0 t0 t1) s)) (K40_0 k):=(s40_0 ce t0 t1 s next k).trans (by unfold R40_0;unfold F40_0;simp only [el_cond,el_ro,el_sum,el_fail,el_next,el_stop] <;> rfl)
theorem ok40_0 {ce:CallE}:LoopOK c40 ce [] 40 0 (sub [1,1,0,1,0,0] (body Try.f40)):=by
 intro m hm st k r h
 obtain rfl:l40_0=m:=Option.some.inj hm
 unfold l40_0 at h
 split at h
 ·rename_i g0 t0 g1 t1 t5
  obtain ⟨hg,h⟩:=bif_some h
  simp only [Bool.and_eq_true] at hg
  obtain ⟨q0,q1⟩:=hg
  obtain rfl:=ctsEq_eq _ _ q0
  obtain rfl:=ctsEq_eq _ _ q1
  refine ⟨(((t0.length:Int) - t5:Int).toNat+1),?_⟩
  rw [← h]
  exact loop_run (E40_0 t0 t1) (K40_0 k) (st40_0 t0 t1 ce k) _ t5
 ·cases h
def q40 (a0 a1:List AV):Bool:=(bif !decide ((a0.length:Int)=(a1.length:Int)) then true else (ro (runW (R40_0 a0 a1) (((a0.length:Int) - 0:Int).toNat+1) 0) false (sumE (fun _=>true) (fun _=>true))))
def v40_0 (a0 a1:List AV):Bool:=(bif !decide ((a0.length:Int)=(a1.length:Int)) then false else (ro (runW (R40_0 a0 a1) (((a0.length:Int) - 0:Int).toNat+1) 0) false (sumE (fun _=>true) (fun _=>false))))
theorem e40 (a0 a1:List AV):funA c40 0 40 [AV.sl [.int .i64] a0,AV.sl [.int .i64] a1]=(bif !decide ((a0.length:Int)=(a1.length:Int)) then some (AV.bool false)
 else (ro (runW (R40_0 a0 a1) (((a0.length:Int) - 0:Int).toNat+1) 0) none (sumE (fun _=>some (AV.bool true)) (fun _=>some (AV.bool false))))):=by kernel_rfl
def m40:TModel
 | [.sl g0 a0,.sl g1 a1]=>bif ctsEq g0 ([.int .i64]) && ctsEq g1 ([.int .i64]) then some (q40 a0 a1,AV.bool (v40_0 a0 a1)) else none
 | _=>none
theorem k40:Known Try.prog 40:=⟨Try.f40,Try.func40,by kernel_rfl,by kernel_rfl⟩
theorem meets40:Meets Try.prog 40 m40:=by
 refine meet (f:=Try.f40) (l:=[(0,sub [1,1,0,1,0,0] (body Try.f40))]) (hs:=[(40,0,[0,1,5]),(40,999,[4]),(40,1000,[]),(40,1001,[0,1,5])]) (ts:=[]) (ws:=[]) (is:=[]) (ls:=[(40,0,l40_0)]) (lvl:=0) mixed k40 Try.func40 (by kernel_rfl) (loops_cons ok40_0 noLoop) allT_nil allM_nil noI fun w xs us r hl hv h=>?_
 unfold m40 at h
 split at h
 ·rename_i g0 a0 g1 a1
  obtain ⟨hg,h⟩:=bif_pair h
  simp only [Bool.and_eq_true] at hg
  obtain ⟨q0,q1⟩:=hg
  obtain rfl:=ctsEq_eq _ _ q0
  obtain rfl:=ctsEq_eq _ _ q1
  obtain ⟨h1,rfl⟩:=pair_inj h
  exact (e40 a0 a1).trans ((br (fun b=>some (AV.bool (bif b then false else (ro (runW (R40_0 a0 a1) (((a0.length:Int) - 0:Int).toNat+1) 0) false (sumE (fun _=>true) (fun _=>false)))))) (fun _=>rfl) (brO (fun o:Option (Unit ⊕ Unit)=>some (AV.bool (ro o false (sumE (fun _=>true) (fun _=>false))))) (brS (fun o:Unit ⊕ Unit=>some (AV.bool ((sumE (fun _=>true) (fun _=>false)) o))) (fun _=>(fun _=>rfl)) (fun _=>(fun _=>rfl))))) h1)
 ·cases h
def F41_0 (t0 t1:List AV) (t5:Int):Out (Int) (Unit ⊕ Unit):=(bif decide (t5<(t0.length:Int)) then (bif (decide (0≤t5) && decide (t5<(t0.length:Int))) then (bif (decide (0≤t5) && decide (t5<(t1.length:Int))) then (bif !(bif decide (fI (t0.getD t5.toNat .undef) 0=fI (t1.getD t5.toNat .undef) 0) then (bif decide (fI (t0.getD t5.toNat .undef) 1=fI (t1.getD t5.toNat .undef) 1) then true else false) else false) then .stop (.inr ())
 else .next (IntKind.i64.wrap (t5+1)))
 else .fail)
 else .fail)
 else .stop (.inl ()))
def R41_0 (t0 t1:List AV):(Int)→Out (Int) (Unit ⊕ Unit):=fun s:Int=>F41_0 t0 t1 s
def E41_0 (t0 t1:List AV):(Int)→St:=fun s:Int=>⟨[(0,AV.sl [.int .i64,.int .i64] t0),(1,AV.sl [.int .i64,.int .i64] t1),(5,Ai s)],[]⟩
def K41_0 (k:Kont):(Unit ⊕ Unit)→Option AV:=sumE (fun _:Unit=>k (.exit 0) ⟨[],[]⟩) (fun _:Unit=>k .ret ⟨[(4,AV.bool false)],[]⟩)
def l41_0:LModel:=fun _ _ st k=>match st with
 | ⟨[(0,.sl g0 t0),(1,.sl g1 t1),(5,.int .i64 t5)],[]⟩=>bif ctsEq g0 ([.int .i64,.int .i64]) && ctsEq g1 ([.int .i64,.int .i64]) then ro (runW (R41_0 t0 t1) (((t0.length:Int) - t5:Int).toNat+1) t5) none (K41_0 k) else none
 | _=>none
noncomputable def c41:Cfg:=cfg Try.prog [(41,0,[0,1,5]),(41,999,[4]),(41,1000,[]),(41,1001,[0,1,5])] [] [] [] [(41,0,l41_0)]
theorem s41_0 (ce:CallE) (t0 t1:List AV) (t5:Int) (next:St→Option AV) (k:Kont):stepA (codeA c41 ce [] 41 0 (sub [1,1,0,1,0,0] (body Try.f41))) (normA [] [0,1,5]) next ⟨[(0,AV.sl [.int .i64,.int .i64] t0),(1,AV.sl [.int .i64,.int .i64] t1),(5,Ai t5)],[]⟩ k=(bif decide (t5<(t0.length:Int)) then (bif (decide (0≤t5) && decide (t5<(t0.length:Int))) then (bif (decide (0≤t5) && decide (t5<(t1.length:Int))) then (bif !(bif decide (fI (t0.getD t5.toNat .undef) 0=fI (t1.getD t5.toNat .undef) 0) then (bif decide (fI (t0.getD t5.toNat .undef) 1=fI (t1.getD t5.toNat .undef) 1) then true else false) else false) then k .ret ⟨[(4,AV.bool false)],[]⟩
 else next ⟨[(0,AV.sl [.int .i64,.int .i64] t0),(1,AV.sl [.int .i64,.int .i64] t1),(5,Ai (IntKind.i64.wrap (t5+1)))],[]⟩)
 else none)
 else none)
 else k (.exit 0) ⟨[],[]⟩):=by kernel_rfl
theorem st41_0 (t0 t1:List AV) (ce:CallE) (k:Kont) (s:Int) (next:St→Option AV):stepA (codeA c41 ce [] 41 0 (sub [1,1,0,1,0,0] (body Try.f41))) (normA [] [0,1,5]) next ((E41_0 t0 t1) s) k=(R41_0 t0 t1 s).el none (fun s=>next ((E41_0 t0 t1) s)) (K41_0 k):=(s41_0 ce t0 t1 s next k).trans (by unfold R41_0;unfold F41_0;simp only [el_cond,el_ro,el_sum,el_fail,el_next,el_stop] <;> rfl)
theorem ok41_0 {ce:CallE}:LoopOK c41 ce [] 41 0 (sub [1,1,0,1,0,0] (body Try.f41)):=by
 intro m hm st k r h
 obtain rfl:l41_0=m:=Option.some.inj hm
 unfold l41_0 at h
 split at h
 ·rename_i g0 t0 g1 t1 t5
  obtain ⟨hg,h⟩:=bif_some h
  simp only [Bool.and_eq_true] at hg
  obtain ⟨q0,q1⟩:=hg
  obtain rfl:=ctsEq_eq _ _ q0
  obtain rfl:=ctsEq_eq _ _ q1
  refine ⟨(((t0.length:Int) - t5:Int).toNat+1),?_⟩
  rw [← h]
  exact loop_run (E41_0 t0 t1) (K41_0 k) (st41_0 t0 t1 ce k) _ t5
 ·cases h
def q41 (a0 a1:List AV):Bool:=(bif !decide ((a0.length:Int)=(a1.length:Int)) then true else (ro (runW (R41_0 a0 a1) (((a0.length:Int) - 0:Int).toNat+1) 0) false (sumE (fun _=>true) (fun _=>true))))
def v41_0 (a0 a1:List AV):Bool:=(bif !decide ((a0.length:Int)=(a1.length:Int)) then false else (ro (runW (R41_0 a0 a1) (((a0.length:Int) - 0:Int).toNat+1) 0) false (sumE (fun _=>true) (fun _=>false))))
theorem e41 (a0 a1:List AV):funA c41 0 41 [AV.sl [.int .i64,.int .i64] a0,AV.sl [.int .i64,.int .i64] a1]=(bif !decide ((a0.length:Int)=(a1.length:Int)) then some (AV.bool false)
 else (ro (runW (R41_0 a0 a1) (((a0.length:Int) - 0:Int).toNat+1) 0) none (sumE (fun _=>some (AV.bool true)) (fun _=>some (AV.bool false))))):=by kernel_rfl
def m41:TModel
 | [.sl g0 a0,.sl g1 a1]=>bif ctsEq g0 ([.int .i64,.int .i64]) && ctsEq g1 ([.int .i64,.int .i64]) then some (q41 a0 a1,AV.bool (v41_0 a0 a1)) else none
 | _=>none
theorem k41:Known Try.prog 41:=⟨Try.f41,Try.func41,by kernel_rfl,by kernel_rfl⟩
theorem meets41:Meets Try.prog 41 m41:=by
 refine meet (f:=Try.f41) (l:=[(0,sub [1,1,0,1,0,0] (body Try.f41))]) (hs:=[(41,0,[0,1,5]),(41,999,[4]),(41,1000,[]),(41,1001,[0,1,5])]) (ts:=[]) (ws:=[]) (is:=[]) (ls:=[(41,0,l41_0)]) (lvl:=0) mixed k41 Try.func41 (by kernel_rfl) (loops_cons ok41_0 noLoop) allT_nil allM_nil noI fun w xs us r hl hv h=>?_
 unfold m41 at h
 split at h
 ·rename_i g0 a0 g1 a1
  obtain ⟨hg,h⟩:=bif_pair h
  simp only [Bool.and_eq_true] at hg
  obtain ⟨q0,q1⟩:=hg
  obtain rfl:=ctsEq_eq _ _ q0
  obtain rfl:=ctsEq_eq _ _ q1
  obtain ⟨h1,rfl⟩:=pair_inj h
  exact (e41 a0 a1).trans ((br (fun b=>some (AV.bool (bif b then false else (ro (runW (R41_0 a0 a1) (((a0.length:Int) - 0:Int).toNat+1) 0) false (sumE (fun _=>true) (fun _=>false)))))) (fun _=>rfl) (brO (fun o:Option (Unit ⊕ Unit)=>some (AV.bool (ro o false (sumE (fun _=>true) (fun _=>false))))) (brS (fun o:Unit ⊕ Unit=>some (AV.bool ((sumE (fun _=>true) (fun _=>false)) o))) (fun _=>(fun _=>rfl)) (fun _=>(fun _=>rfl))))) h1)
 ·cases h
noncomputable def c9:Cfg:=cfg Try.prog [(9,999,[4])] [(40,m40),(41,m41)] [] [] []
def q9 (xa xb xc ya yb yc:List AV):Bool:=(q40 xa ya && (bif (v40_0 xa ya) then (q40 xb yb && (bif (v40_0 xb yb) then q41 xc yc else true)) else true))
def v9_0 (xa xb xc ya yb yc:List AV):Bool:=(bif (v40_0 xa ya) then (bif (v40_0 xb yb) then (v41_0 xc yc) else false) else false)
theorem e9 (xa xb xc ya yb yc:List AV):funA c9 0 9 [AV.agg [AV.sl [.int .i64] xa,AV.sl [.int .i64] xb,AV.sl [.int .i64,.int .i64] xc],AV.agg [AV.sl [.int .i64] ya,AV.sl [.int .i64] yb,AV.sl [.int .i64,.int .i64] yc]]=(bif q40 xa ya then (bif (v40_0 xa ya) then (bif q40 xb yb then (bif (v40_0 xb yb) then (bif q41 xc yc then some (AV.bool (v41_0 xc yc))
 else none)
 else some (AV.bool false))
 else none)
 else some (AV.bool false))
 else none):=by kernel_rfl
def m9:TModel
 | [.agg [.sl g0 xa,.sl g1 xb,.sl g2 xc],.agg [.sl g3 ya,.sl g4 yb,.sl g5 yc]]=>bif ctsEq g0 ([.int .i64]) && ctsEq g1 ([.int .i64]) && ctsEq g2 ([.int .i64,.int .i64]) && ctsEq g3 ([.int .i64]) && ctsEq g4 ([.int .i64]) && ctsEq g5 ([.int .i64,.int .i64]) then some (q9 xa xb xc ya yb yc,AV.bool (v9_0 xa xb xc ya yb yc)) else none
 | _=>none
theorem k9:Known Try.prog 9:=⟨Try.f9,Try.func9,by kernel_rfl,by kernel_rfl⟩
theorem meets9:Meets Try.prog 9 m9:=by
 refine meet (f:=Try.f9) (l:=[]) (hs:=[(9,999,[4])]) (ts:=[(40,m40),(41,m41)]) (ws:=[]) (is:=[]) (ls:=[]) (lvl:=0) mixed k9 Try.func9 (by kernel_rfl) noLoop (allT_cons meets40 (allT_cons meets41 allT_nil)) allM_nil noI fun w xs us r hl hv h=>?_
 unfold m9 at h
 split at h
 ·rename_i g0 xa g1 xb g2 xc g3 ya g4 yb g5 yc
  obtain ⟨hg,h⟩:=bif_pair h
  simp only [Bool.and_eq_true] at hg
  obtain ⟨⟨⟨⟨⟨q0,q1⟩,q2⟩,q3⟩,q4⟩,q5⟩:=hg
  obtain rfl:=ctsEq_eq _ _ q0
  obtain rfl:=ctsEq_eq _ _ q1
  obtain rfl:=ctsEq_eq _ _ q2
  obtain rfl:=ctsEq_eq _ _ q3
  obtain rfl:=ctsEq_eq _ _ q4
  obtain rfl:=ctsEq_eq _ _ q5
  obtain ⟨h1,rfl⟩:=pair_inj h
  exact (e9 xa xb xc ya yb yc).trans ((brL (br (fun b=>some (AV.bool (bif b then (bif (v40_0 xb yb) then (v41_0 xc yc) else false) else false))) (brL (br (fun b=>some (AV.bool (bif b then (v41_0 xc yc) else false))) (brL1 (fun _=>rfl)) (fun _=>rfl))) (fun _=>rfl))) h1)
 ·cases h
end
end Go.Proofs.Ytkdnhnkhcldonaa
