import Derived.Test.YteppndjaglhehaaDoorP6
import Derived.Test.YteppndjaglhehaaDoorP7
import Derived.Test.YteppndjaglhehaaDoorP8
import Derived.Test.YteppndjaglhehaaDoorP14
import Derived.Test.YteppndjaglhehaaDoorP13
import Derived.Test.YteppndjaglhehaaDoorProg
import Derived.KernelRfl
import Derived.Test.YteppndjaglhehaaDoorP9
import Derived.Test.YteppndjaglhehaaDoorP2
import Derived.Lib.AtoiTie
import Derived.Test.YteppndjaglhehaaDoorP3
namespace Go.Proofs.YteppndjaglhehaaDoor
open Go Go.Proofs.VE
set_option linter.unusedVariables false
set_option linter.unusedSimpArgs false
set_option maxRecDepth 100000
set_option maxHeartbeats 4000000
theorem mixed:Tryd.prog.follows .mixedOrders=true:=by kernel_rfl
noncomputable section
noncomputable def c5:Cfg:=cfg Tryd.prog [(5,999,[2])] [] [] [] []
def q5 (a0:List AV):Bool:=true
def v5_0 (a0:List AV):Bool:=decide ((a0.length:Int) > 1048576)
theorem e5 (a0:List AV):funA c5 0 5 [AV.sl [.int .u8] a0]=some (AV.bool (decide ((a0.length:Int) > 1048576))):=by kernel_rfl
def m5:TModel
 | [.sl g0 a0]=>bif ctsEq g0 ([.int .u8]) then some (true,AV.bool (v5_0 a0)) else none
 | _=>none
theorem k5:Known Tryd.prog 5:=⟨Tryd.f5,Tryd.func5,by kernel_rfl,by kernel_rfl⟩
theorem meets5:Meets Tryd.prog 5 m5:=by
 refine mt (lvl:=0) (cf:=c5) rfl mixed k5 Tryd.func5 (by kernel_rfl) noLoop allT_nil allM_nil noI fun xs r h=>?_
 unfold m5 at h
 split at h
 ·rename_i g0 a0
  obtain ⟨hg,h⟩:=bif_pair h
  have q0:=hg
  obtain rfl:=cE q0
  obtain ⟨h1,rfl⟩:=pair_inj h
  exact (e5 a0).trans (of_tt (fun _=>rfl))
 ·cases h
noncomputable def c74:Cfg:=cfg Tryd.prog [(74,999,[2])] [] [] [] []
def q74 (ua:List AV) (ub uc:Int):Bool:=(bif decide (ub<(ua.length:Int)) then (decide (0≤ub) && decide (ub<(ua.length:Int))) else true)
def v74_0 (ua:List AV) (ub uc:Int):Int:=VE.hid (fun (ua:List AV) (ub:Int) (uc:Int)=>(bif decide (ub<(ua.length:Int)) then IntKind.i64.wrap ((BitVec.ofInt 64 (IntKind.i64.wrap (IntKind.i64.wrap ((BitVec.ofInt 64 (IntKind.i64.wrap ((BitVec.ofInt 64 (Int.fdiv (IntKind.i64.wrap (IntKind.i64.wrap (uc*6364136223846793005)+1442695040888963407)) (2 ^ 33)) ^^^ BitVec.ofInt 64 (Int.fdiv (IntKind.i64.wrap (IntKind.i64.wrap (uc*6364136223846793005)+1442695040888963407)) (2 ^ 45))).toNat:Int)) &&& BitVec.ofInt 64 255).toNat:Int)+IntKind.i64.wrap (fI (ua.getD ub.toNat .undef) 0))) &&& BitVec.ofInt 64 255).toNat:Int) else IntKind.i64.wrap ((BitVec.ofInt 64 (IntKind.i64.wrap ((BitVec.ofInt 64 (Int.fdiv (IntKind.i64.wrap (IntKind.i64.wrap (uc*6364136223846793005)+1442695040888963407)) (2 ^ 33)) ^^^ BitVec.ofInt 64 (Int.fdiv (IntKind.i64.wrap (IntKind.i64.wrap (uc*6364136223846793005)+1442695040888963407)) (2 ^ 45))).toNat:Int)) &&& BitVec.ofInt 64 255).toNat:Int))) ua ub uc
def v74_1 (ua:List AV) (ub uc:Int):List AV:=ua
def v74_2 (ua:List AV) (ub uc:Int):Int:=VE.hid (fun (ua:List AV) (ub:Int) (uc:Int)=>(bif decide (ub<(ua.length:Int)) then IntKind.i64.wrap (ub+1) else ub)) ua ub uc
def v74_3 (ua:List AV) (ub uc:Int):Int:=VE.hid (fun (ua:List AV) (ub:Int) (uc:Int)=>IntKind.i64.wrap (IntKind.i64.wrap (uc*6364136223846793005)+1442695040888963407)) ua ub uc
theorem e74 (ua:List AV) (ub uc:Int) (K:List AV→List (Option Blk)→Option AV):inlA c74 1 74 [AV.ptr [1] 0 0] [0] (canH 1 [⟨true,[],[AV.agg [AV.sl [.int .u8] ua,Ai ub,Ai uc]]⟩]) (keepG Tryd.prog 1 [3] [] K)=(bif decide (ub<(ua.length:Int)) then (bif (decide (0≤ub) && decide (ub<(ua.length:Int))) then K [Ai (IntKind.i64.wrap ((BitVec.ofInt 64 (IntKind.i64.wrap (IntKind.i64.wrap ((BitVec.ofInt 64 (IntKind.i64.wrap ((BitVec.ofInt 64 (Int.fdiv (IntKind.i64.wrap (IntKind.i64.wrap (uc*6364136223846793005)+1442695040888963407)) (2 ^ 33)) ^^^ BitVec.ofInt 64 (Int.fdiv (IntKind.i64.wrap (IntKind.i64.wrap (uc*6364136223846793005)+1442695040888963407)) (2 ^ 45))).toNat:Int)) &&& BitVec.ofInt 64 255).toNat:Int)+IntKind.i64.wrap (fI (ua.getD ub.toNat .undef) 0))) &&& BitVec.ofInt 64 255).toNat:Int))] [some ⟨true,[],[AV.agg [AV.sl [.int .u8] ua,Ai (IntKind.i64.wrap (ub+1)),Ai (IntKind.i64.wrap (IntKind.i64.wrap (uc*6364136223846793005)+1442695040888963407))]]⟩]
 else none)
 else K [Ai (IntKind.i64.wrap ((BitVec.ofInt 64 (IntKind.i64.wrap ((BitVec.ofInt 64 (Int.fdiv (IntKind.i64.wrap (IntKind.i64.wrap (uc*6364136223846793005)+1442695040888963407)) (2 ^ 33)) ^^^ BitVec.ofInt 64 (Int.fdiv (IntKind.i64.wrap (IntKind.i64.wrap (uc*6364136223846793005)+1442695040888963407)) (2 ^ 45))).toNat:Int)) &&& BitVec.ofInt 64 255).toNat:Int))] [some ⟨true,[],[AV.agg [AV.sl [.int .u8] ua,Ai ub,Ai (IntKind.i64.wrap (IntKind.i64.wrap (uc*6364136223846793005)+1442695040888963407))]]⟩]):=by kernel_rfl
theorem r74 (ua:List AV) (ub uc:Int) (K:List AV→List (Option Blk)→Option AV) (h:q74 ua ub uc=true):inlA c74 1 74 [AV.ptr [1] 0 0] [0] (canH 1 [⟨true,[],[AV.agg [AV.sl [.int .u8] ua,AV.int .i64 ub,AV.int .i64 uc]]⟩]) (keepG Tryd.prog 1 [3] [] K)=K [AV.int .i64 (v74_0 ua ub uc)] [some ⟨true,[],[AV.agg [AV.sl [.int .u8] (v74_1 ua ub uc),AV.int .i64 (v74_2 ua ub uc),AV.int .i64 (v74_3 ua ub uc)]]⟩]:=by
 unfold v74_0 v74_2 v74_3
 simp only [VE.hid_eq]
 exact (e74 ua ub uc K).trans ((br (fun b=>K [AV.int .i64 (bif b then IntKind.i64.wrap ((BitVec.ofInt 64 (IntKind.i64.wrap (IntKind.i64.wrap ((BitVec.ofInt 64 (IntKind.i64.wrap ((BitVec.ofInt 64 (Int.fdiv (IntKind.i64.wrap (IntKind.i64.wrap (uc*6364136223846793005)+1442695040888963407)) (2 ^ 33)) ^^^ BitVec.ofInt 64 (Int.fdiv (IntKind.i64.wrap (IntKind.i64.wrap (uc*6364136223846793005)+1442695040888963407)) (2 ^ 45))).toNat:Int)) &&& BitVec.ofInt 64 255).toNat:Int)+IntKind.i64.wrap (fI (ua.getD ub.toNat .undef) 0))) &&& BitVec.ofInt 64 255).toNat:Int) else IntKind.i64.wrap ((BitVec.ofInt 64 (IntKind.i64.wrap ((BitVec.ofInt 64 (Int.fdiv (IntKind.i64.wrap (IntKind.i64.wrap (uc*6364136223846793005)+1442695040888963407)) (2 ^ 33)) ^^^ BitVec.ofInt 64 (Int.fdiv (IntKind.i64.wrap (IntKind.i64.wrap (uc*6364136223846793005)+1442695040888963407)) (2 ^ 45))).toNat:Int)) &&& BitVec.ofInt 64 255).toNat:Int))] [some ⟨true,[],[AV.agg [AV.sl [.int .u8] ua,AV.int .i64 (bif b then IntKind.i64.wrap (ub+1) else ub),AV.int .i64 (IntKind.i64.wrap (IntKind.i64.wrap (uc*6364136223846793005)+1442695040888963407))]]⟩]) (brL1 (fun _=>rfl)) (fun _=>rfl)) h)
def m74:GModel
 | [.ptr g0 g1 g2],[⟨true,[],[.agg [.sl g3 ua,.int .i64 ub,.int .i64 uc]]⟩]=>bif nmEq g0 ([1]) && Nat.beq g1 0 && Nat.beq g2 0 && ctsEq g3 ([.int .u8]) then some (q74 ua ub uc,[AV.int .i64 (v74_0 ua ub uc)],[some ⟨true,[],[AV.agg [AV.sl [.int .u8] (v74_1 ua ub uc),AV.int .i64 (v74_2 ua ub uc),AV.int .i64 (v74_3 ua ub uc)]]⟩]) else none
 | _,_=>none
theorem k74:Known Tryd.prog 74:=⟨Tryd.f74,Tryd.func74,by kernel_rfl,by kernel_rfl⟩
theorem meets74:MeetsG Tryd.prog 74 m74:=by
 refine mg (rt:=[3]) (gs:=[]) (lvl:=0) (cf:=c74) rfl mixed k74 Tryd.func74 (by kernel_rfl) noLoop allT_nil allM_nil noI fun xs bs r bs' h K=>?_
 unfold m74 at h
 split at h
 ·rename_i g0 g1 g2 g3 ua ub uc
  obtain ⟨hg,h⟩:=bif_pair h
  simp only [Bool.and_eq_true] at hg
  obtain ⟨⟨⟨q0,q1⟩,q2⟩,q3⟩:=hg
  obtain rfl:=nE q0
  obtain rfl:=bE q1
  obtain rfl:=bE q2
  obtain rfl:=cE q3
  obtain ⟨h1,rfl,rfl⟩:=trip_inj h
  exact r74 ua ub uc K h1
 ·cases h
noncomputable def c49:Cfg:=cfg Tryd.prog [(49,999,[4])] [] [(74,.g m74)] [] []
def q49 (a1:Int) (ua:List AV) (ub uc:Int):Bool:=(bif decide (a1≤0) then true else (bif decide (a1≤256) then (q74 ua ub uc && !decide (a1=0)) else (q74 ua ub uc && (q74 (v74_1 ua ub uc) (v74_2 ua ub uc) (v74_3 ua ub uc) && (q74 (v74_1 (v74_1 ua ub uc) (v74_2 ua ub uc) (v74_3 ua ub uc)) (v74_2 (v74_1 ua ub uc) (v74_2 ua ub uc) (v74_3 ua ub uc)) (v74_3 (v74_1 ua ub uc) (v74_2 ua ub uc) (v74_3 ua ub uc)) && (q74 (v74_1 (v74_1 (v74_1 ua ub uc) (v74_2 ua ub uc) (v74_3 ua ub uc)) (v74_2 (v74_1 ua ub uc) (v74_2 ua ub uc) (v74_3 ua ub uc)) (v74_3 (v74_1 ua ub uc) (v74_2 ua ub uc) (v74_3 ua ub uc))) (v74_2 (v74_1 (v74_1 ua ub uc) (v74_2 ua ub uc) (v74_3 ua ub uc)) (v74_2 (v74_1 ua ub uc) (v74_2 ua ub uc) (v74_3 ua ub uc)) (v74_3 (v74_1 ua ub uc) (v74_2 ua ub uc) (v74_3 ua ub uc))) (v74_3 (v74_1 (v74_1 ua ub uc) (v74_2 ua ub uc) (v74_3 ua ub uc)) (v74_2 (v74_1 ua ub uc) (v74_2 ua ub uc) (v74_3 ua ub uc)) (v74_3 (v74_1 ua ub uc) (v74_2 ua ub uc) (v74_3 ua ub uc))) && !decide (a1=0)))))))
def v49_0 (a1:Int) (ua:List AV) (ub uc:Int):Int:=VE.hid (fun (a1:Int) (ua:List AV) (ub:Int) (uc:Int)=>(bif decide (a1≤0) then 0 else (bif decide (a1≤256) then Int.tmod (v74_0 ua ub uc) a1 else Int.tmod (IntKind.i64.wrap (IntKind.i64.wrap (IntKind.i64.wrap (IntKind.i64.wrap ((v74_0 ua ub uc)*16777216)+IntKind.i64.wrap ((v74_0 (v74_1 ua ub uc) (v74_2 ua ub uc) (v74_3 ua ub uc))*65536))+IntKind.i64.wrap ((v74_0 (v74_1 (v74_1 ua ub uc) (v74_2 ua ub uc) (v74_3 ua ub uc)) (v74_2 (v74_1 ua ub uc) (v74_2 ua ub uc) (v74_3 ua ub uc)) (v74_3 (v74_1 ua ub uc) (v74_2 ua ub uc) (v74_3 ua ub uc)))*256))+(v74_0 (v74_1 (v74_1 (v74_1 ua ub uc) (v74_2 ua ub uc) (v74_3 ua ub uc)) (v74_2 (v74_1 ua ub uc) (v74_2 ua ub uc) (v74_3 ua ub uc)) (v74_3 (v74_1 ua ub uc) (v74_2 ua ub uc) (v74_3 ua ub uc))) (v74_2 (v74_1 (v74_1 ua ub uc) (v74_2 ua ub uc) (v74_3 ua ub uc)) (v74_2 (v74_1 ua ub uc) (v74_2 ua ub uc) (v74_3 ua ub uc)) (v74_3 (v74_1 ua ub uc) (v74_2 ua ub uc) (v74_3 ua ub uc))) (v74_3 (v74_1 (v74_1 ua ub uc) (v74_2 ua ub uc) (v74_3 ua ub uc)) (v74_2 (v74_1 ua ub uc) (v74_2 ua ub uc) (v74_3 ua ub uc)) (v74_3 (v74_1 ua ub uc) (v74_2 ua ub uc) (v74_3 ua ub uc)))))) a1))) a1 ua ub uc
def v49_1 (a1:Int) (ua:List AV) (ub uc:Int):List AV:=VE.hid (fun (a1:Int) (ua:List AV) (ub:Int) (uc:Int)=>(bif decide (a1≤0) then ua else (bif decide (a1≤256) then (v74_1 ua ub uc) else (v74_1 (v74_1 (v74_1 (v74_1 ua ub uc) (v74_2 ua ub uc) (v74_3 ua ub uc)) (v74_2 (v74_1 ua ub uc) (v74_2 ua ub uc) (v74_3 ua ub uc)) (v74_3 (v74_1 ua ub uc) (v74_2 ua ub uc) (v74_3 ua ub uc))) (v74_2 (v74_1 (v74_1 ua ub uc) (v74_2 ua ub uc) (v74_3 ua ub uc)) (v74_2 (v74_1 ua ub uc) (v74_2 ua ub uc) (v74_3 ua ub uc)) (v74_3 (v74_1 ua ub uc) (v74_2 ua ub uc) (v74_3 ua ub uc))) (v74_3 (v74_1 (v74_1 ua ub uc) (v74_2 ua ub uc) (v74_3 ua ub uc)) (v74_2 (v74_1 ua ub uc) (v74_2 ua ub uc) (v74_3 ua ub uc)) (v74_3 (v74_1 ua ub uc) (v74_2 ua ub uc) (v74_3 ua ub uc))))))) a1 ua ub uc
def v49_2 (a1:Int) (ua:List AV) (ub uc:Int):Int:=VE.hid (fun (a1:Int) (ua:List AV) (ub:Int) (uc:Int)=>(bif decide (a1≤0) then ub else (bif decide (a1≤256) then (v74_2 ua ub uc) else (v74_2 (v74_1 (v74_1 (v74_1 ua ub uc) (v74_2 ua ub uc) (v74_3 ua ub uc)) (v74_2 (v74_1 ua ub uc) (v74_2 ua ub uc) (v74_3 ua ub uc)) (v74_3 (v74_1 ua ub uc) (v74_2 ua ub uc) (v74_3 ua ub uc))) (v74_2 (v74_1 (v74_1 ua ub uc) (v74_2 ua ub uc) (v74_3 ua ub uc)) (v74_2 (v74_1 ua ub uc) (v74_2 ua ub uc) (v74_3 ua ub uc)) (v74_3 (v74_1 ua ub uc) (v74_2 ua ub uc) (v74_3 ua ub uc))) (v74_3 (v74_1 (v74_1 ua ub uc) (v74_2 ua ub uc) (v74_3 ua ub uc)) (v74_2 (v74_1 ua ub uc) (v74_2 ua ub uc) (v74_3 ua ub uc)) (v74_3 (v74_1 ua ub uc) (v74_2 ua ub uc) (v74_3 ua ub uc))))))) a1 ua ub uc
def v49_3 (a1:Int) (ua:List AV) (ub uc:Int):Int:=VE.hid (fun (a1:Int) (ua:List AV) (ub:Int) (uc:Int)=>(bif decide (a1≤0) then uc else (bif decide (a1≤256) then (v74_3 ua ub uc) else (v74_3 (v74_1 (v74_1 (v74_1 ua ub uc) (v74_2 ua ub uc) (v74_3 ua ub uc)) (v74_2 (v74_1 ua ub uc) (v74_2 ua ub uc) (v74_3 ua ub uc)) (v74_3 (v74_1 ua ub uc) (v74_2 ua ub uc) (v74_3 ua ub uc))) (v74_2 (v74_1 (v74_1 ua ub uc) (v74_2 ua ub uc) (v74_3 ua ub uc)) (v74_2 (v74_1 ua ub uc) (v74_2 ua ub uc) (v74_3 ua ub uc)) (v74_3 (v74_1 ua ub uc) (v74_2 ua ub uc) (v74_3 ua ub uc))) (v74_3 (v74_1 (v74_1 ua ub uc) (v74_2 ua ub uc) (v74_3 ua ub uc)) (v74_2 (v74_1 ua ub uc) (v74_2 ua ub uc) (v74_3 ua ub uc)) (v74_3 (v74_1 ua ub uc) (v74_2 ua ub uc) (v74_3 ua ub uc))))))) a1 ua ub uc
theorem e49 (a1:Int) (ua:List AV) (ub uc:Int) (K:List AV→List (Option Blk)→Option AV):inlA c49 1 49 [AV.ptr [1] 0 0,Ai a1] [0] (canH 1 [⟨true,[],[AV.agg [AV.sl [.int .u8] ua,Ai ub,Ai uc]]⟩]) (keepG Tryd.prog 1 [3] [] K)=((fun (x1:Int) (x2:List AV) (x3:Int) (x4:Int)=>((fun (x5:Int) (x6:List AV) (x7:Int) (x8:Int)=>((fun (x9:Int) (x10:List AV) (x11:Int) (x12:Int)=>(bif decide (a1≤0) then K [Ai 0] [some ⟨true,[],[AV.agg [AV.sl [.int .u8] ua,Ai ub,Ai uc]]⟩]
 else (bif decide (a1≤256) then (bif q74 ua ub uc then (bif !decide (a1=0) then K [Ai (Int.tmod x1 a1)] [some ⟨true,[],[AV.agg [AV.sl [.int .u8] x2,Ai x3,Ai x4]]⟩]
 else none)
 else none)
 else (bif q74 ua ub uc then (bif q74 x2 x3 x4 then (bif q74 x6 x7 x8 then (bif q74 x10 x11 x12 then (bif !decide (a1=0) then K [Ai (Int.tmod (IntKind.i64.wrap (IntKind.i64.wrap (IntKind.i64.wrap (IntKind.i64.wrap (x1*16777216)+IntKind.i64.wrap (x5*65536))+IntKind.i64.wrap (x9*256))+(v74_0 x10 x11 x12))) a1)] [some ⟨true,[],[AV.agg [AV.sl [.int .u8] (v74_1 x10 x11 x12),Ai (v74_2 x10 x11 x12),Ai (v74_3 x10 x11 x12)]]⟩]
 else none)
 else none)
 else none)
 else none)
 else none)))) (v74_0 x6 x7 x8) (v74_1 x6 x7 x8) (v74_2 x6 x7 x8) (v74_3 x6 x7 x8))) (v74_0 x2 x3 x4) (v74_1 x2 x3 x4) (v74_2 x2 x3 x4) (v74_3 x2 x3 x4))) (v74_0 ua ub uc) (v74_1 ua ub uc) (v74_2 ua ub uc) (v74_3 ua ub uc)):=by kernel_rfl
theorem r49 (a1:Int) (ua:List AV) (ub uc:Int) (K:List AV→List (Option Blk)→Option AV) (h:q49 a1 ua ub uc=true):inlA c49 1 49 [AV.ptr [1] 0 0,AV.int .i64 a1] [0] (canH 1 [⟨true,[],[AV.agg [AV.sl [.int .u8] ua,AV.int .i64 ub,AV.int .i64 uc]]⟩]) (keepG Tryd.prog 1 [3] [] K)=K [AV.int .i64 (v49_0 a1 ua ub uc)] [some ⟨true,[],[AV.agg [AV.sl [.int .u8] (v49_1 a1 ua ub uc),AV.int .i64 (v49_2 a1 ua ub uc),AV.int .i64 (v49_3 a1 ua ub uc)]]⟩]:=by
 unfold v49_0 v49_1 v49_2 v49_3
 simp only [VE.hid_eq]
 exact (e49 a1 ua ub uc K).trans ((br (fun b=>K [AV.int .i64 (bif b then 0 else (bif decide (a1≤256) then Int.tmod (v74_0 ua ub uc) a1 else Int.tmod (IntKind.i64.wrap (IntKind.i64.wrap (IntKind.i64.wrap (IntKind.i64.wrap ((v74_0 ua ub uc)*16777216)+IntKind.i64.wrap ((v74_0 (v74_1 ua ub uc) (v74_2 ua ub uc) (v74_3 ua ub uc))*65536))+IntKind.i64.wrap ((v74_0 (v74_1 (v74_1 ua ub uc) (v74_2 ua ub uc) (v74_3 ua ub uc)) (v74_2 (v74_1 ua ub uc) (v74_2 ua ub uc) (v74_3 ua ub uc)) (v74_3 (v74_1 ua ub uc) (v74_2 ua ub uc) (v74_3 ua ub uc)))*256))+(v74_0 (v74_1 (v74_1 (v74_1 ua ub uc) (v74_2 ua ub uc) (v74_3 ua ub uc)) (v74_2 (v74_1 ua ub uc) (v74_2 ua ub uc) (v74_3 ua ub uc)) (v74_3 (v74_1 ua ub uc) (v74_2 ua ub uc) (v74_3 ua ub uc))) (v74_2 (v74_1 (v74_1 ua ub uc) (v74_2 ua ub uc) (v74_3 ua ub uc)) (v74_2 (v74_1 ua ub uc) (v74_2 ua ub uc) (v74_3 ua ub uc)) (v74_3 (v74_1 ua ub uc) (v74_2 ua ub uc) (v74_3 ua ub uc))) (v74_3 (v74_1 (v74_1 ua ub uc) (v74_2 ua ub uc) (v74_3 ua ub uc)) (v74_2 (v74_1 ua ub uc) (v74_2 ua ub uc) (v74_3 ua ub uc)) (v74_3 (v74_1 ua ub uc) (v74_2 ua ub uc) (v74_3 ua ub uc)))))) a1))] [some ⟨true,[],[AV.agg [AV.sl [.int .u8] (bif b then ua else (bif decide (a1≤256) then (v74_1 ua ub uc) else (v74_1 (v74_1 (v74_1 (v74_1 ua ub uc) (v74_2 ua ub uc) (v74_3 ua ub uc)) (v74_2 (v74_1 ua ub uc) (v74_2 ua ub uc) (v74_3 ua ub uc)) (v74_3 (v74_1 ua ub uc) (v74_2 ua ub uc) (v74_3 ua ub uc))) (v74_2 (v74_1 (v74_1 ua ub uc) (v74_2 ua ub uc) (v74_3 ua ub uc)) (v74_2 (v74_1 ua ub uc) (v74_2 ua ub uc) (v74_3 ua ub uc)) (v74_3 (v74_1 ua ub uc) (v74_2 ua ub uc) (v74_3 ua ub uc))) (v74_3 (v74_1 (v74_1 ua ub uc) (v74_2 ua ub uc) (v74_3 ua ub uc)) (v74_2 (v74_1 ua ub uc) (v74_2 ua ub uc) (v74_3 ua ub uc)) (v74_3 (v74_1 ua ub uc) (v74_2 ua ub uc) (v74_3 ua ub uc)))))),AV.int .i64 (bif b then ub else (bif decide (a1≤256) then (v74_2 ua ub uc) else (v74_2 (v74_1 (v74_1 (v74_1 ua ub uc) (v74_2 ua ub uc) (v74_3 ua ub uc)) (v74_2 (v74_1 ua ub uc) (v74_2 ua ub uc) (v74_3 ua ub uc)) (v74_3 (v74_1 ua ub uc) (v74_2 ua ub uc) (v74_3 ua ub uc))) (v74_2 (v74_1 (v74_1 ua ub uc) (v74_2 ua ub uc) (v74_3 ua ub uc)) (v74_2 (v74_1 ua ub uc) (v74_2 ua ub uc) (v74_3 ua ub uc)) (v74_3 (v74_1 ua ub uc) (v74_2 ua ub uc) (v74_3 ua ub uc))) (v74_3 (v74_1 (v74_1 ua ub uc) (v74_2 ua ub uc) (v74_3 ua ub uc)) (v74_2 (v74_1 ua ub uc) (v74_2 ua ub uc) (v74_3 ua ub uc)) (v74_3 (v74_1 ua ub uc) (v74_2 ua ub uc) (v74_3 ua ub uc)))))),AV.int .i64 (bif b then uc else (bif decide (a1≤256) then (v74_3 ua ub uc) else (v74_3 (v74_1 (v74_1 (v74_1 ua ub uc) (v74_2 ua ub uc) (v74_3 ua ub uc)) (v74_2 (v74_1 ua ub uc) (v74_2 ua ub uc) (v74_3 ua ub uc)) (v74_3 (v74_1 ua ub uc) (v74_2 ua ub uc) (v74_3 ua ub uc))) (v74_2 (v74_1 (v74_1 ua ub uc) (v74_2 ua ub uc) (v74_3 ua ub uc)) (v74_2 (v74_1 ua ub uc) (v74_2 ua ub uc) (v74_3 ua ub uc)) (v74_3 (v74_1 ua ub uc) (v74_2 ua ub uc) (v74_3 ua ub uc))) (v74_3 (v74_1 (v74_1 ua ub uc) (v74_2 ua ub uc) (v74_3 ua ub uc)) (v74_2 (v74_1 ua ub uc) (v74_2 ua ub uc) (v74_3 ua ub uc)) (v74_3 (v74_1 ua ub uc) (v74_2 ua ub uc) (v74_3 ua ub uc))))))]]⟩]) (fun _=>rfl) (br (fun b=>K [AV.int .i64 (bif b then Int.tmod (v74_0 ua ub uc) a1 else Int.tmod (IntKind.i64.wrap (IntKind.i64.wrap (IntKind.i64.wrap (IntKind.i64.wrap ((v74_0 ua ub uc)*16777216)+IntKind.i64.wrap ((v74_0 (v74_1 ua ub uc) (v74_2 ua ub uc) (v74_3 ua ub uc))*65536))+IntKind.i64.wrap ((v74_0 (v74_1 (v74_1 ua ub uc) (v74_2 ua ub uc) (v74_3 ua ub uc)) (v74_2 (v74_1 ua ub uc) (v74_2 ua ub uc) (v74_3 ua ub uc)) (v74_3 (v74_1 ua ub uc) (v74_2 ua ub uc) (v74_3 ua ub uc)))*256))+(v74_0 (v74_1 (v74_1 (v74_1 ua ub uc) (v74_2 ua ub uc) (v74_3 ua ub uc)) (v74_2 (v74_1 ua ub uc) (v74_2 ua ub uc) (v74_3 ua ub uc)) (v74_3 (v74_1 ua ub uc) (v74_2 ua ub uc) (v74_3 ua ub uc))) (v74_2 (v74_1 (v74_1 ua ub uc) (v74_2 ua ub uc) (v74_3 ua ub uc)) (v74_2 (v74_1 ua ub uc) (v74_2 ua ub uc) (v74_3 ua ub uc)) (v74_3 (v74_1 ua ub uc) (v74_2 ua ub uc) (v74_3 ua ub uc))) (v74_3 (v74_1 (v74_1 ua ub uc) (v74_2 ua ub uc) (v74_3 ua ub uc)) (v74_2 (v74_1 ua ub uc) (v74_2 ua ub uc) (v74_3 ua ub uc)) (v74_3 (v74_1 ua ub uc) (v74_2 ua ub uc) (v74_3 ua ub uc)))))) a1)] [some ⟨true,[],[AV.agg [AV.sl [.int .u8] (bif b then (v74_1 ua ub uc) else (v74_1 (v74_1 (v74_1 (v74_1 ua ub uc) (v74_2 ua ub uc) (v74_3 ua ub uc)) (v74_2 (v74_1 ua ub uc) (v74_2 ua ub uc) (v74_3 ua ub uc)) (v74_3 (v74_1 ua ub uc) (v74_2 ua ub uc) (v74_3 ua ub uc))) (v74_2 (v74_1 (v74_1 ua ub uc) (v74_2 ua ub uc) (v74_3 ua ub uc)) (v74_2 (v74_1 ua ub uc) (v74_2 ua ub uc) (v74_3 ua ub uc)) (v74_3 (v74_1 ua ub uc) (v74_2 ua ub uc) (v74_3 ua ub uc))) (v74_3 (v74_1 (v74_1 ua ub uc) (v74_2 ua ub uc) (v74_3 ua ub uc)) (v74_2 (v74_1 ua ub uc) (v74_2 ua ub uc) (v74_3 ua ub uc)) (v74_3 (v74_1 ua ub uc) (v74_2 ua ub uc) (v74_3 ua ub uc))))),AV.int .i64 (bif b then (v74_2 ua ub uc) else (v74_2 (v74_1 (v74_1 (v74_1 ua ub uc) (v74_2 ua ub uc) (v74_3 ua ub uc)) (v74_2 (v74_1 ua ub uc) (v74_2 ua ub uc) (v74_3 ua ub uc)) (v74_3 (v74_1 ua ub uc) (v74_2 ua ub uc) (v74_3 ua ub uc))) (v74_2 (v74_1 (v74_1 ua ub uc) (v74_2 ua ub uc) (v74_3 ua ub uc)) (v74_2 (v74_1 ua ub uc) (v74_2 ua ub uc) (v74_3 ua ub uc)) (v74_3 (v74_1 ua ub uc) (v74_2 ua ub uc) (v74_3 ua ub uc))) (v74_3 (v74_1 (v74_1 ua ub uc) (v74_2 ua ub uc) (v74_3 ua ub uc)) (v74_2 (v74_1 ua ub uc) (v74_2 ua ub uc) (v74_3 ua ub uc)) (v74_3 (v74_1 ua ub uc) (v74_2 ua ub uc) (v74_3 ua ub uc))))),AV.int .i64 (bif b then (v74_3 ua ub uc) else (v74_3 (v74_1 (v74_1 (v74_1 ua ub uc) (v74_2 ua ub uc) (v74_3 ua ub uc)) (v74_2 (v74_1 ua ub uc) (v74_2 ua ub uc) (v74_3 ua ub uc)) (v74_3 (v74_1 ua ub uc) (v74_2 ua ub uc) (v74_3 ua ub uc))) (v74_2 (v74_1 (v74_1 ua ub uc) (v74_2 ua ub uc) (v74_3 ua ub uc)) (v74_2 (v74_1 ua ub uc) (v74_2 ua ub uc) (v74_3 ua ub uc)) (v74_3 (v74_1 ua ub uc) (v74_2 ua ub uc) (v74_3 ua ub uc))) (v74_3 (v74_1 (v74_1 ua ub uc) (v74_2 ua ub uc) (v74_3 ua ub uc)) (v74_2 (v74_1 ua ub uc) (v74_2 ua ub uc) (v74_3 ua ub uc)) (v74_3 (v74_1 ua ub uc) (v74_2 ua ub uc) (v74_3 ua ub uc)))))]]⟩]) (brL (brL1 (fun _=>rfl))) (brL (brL (brL (brL (brL1 (fun _=>rfl)))))))) h)
def m49:GModel
 | [.ptr g0 g1 g2,.int .i64 a1],[⟨true,[],[.agg [.sl g3 ua,.int .i64 ub,.int .i64 uc]]⟩]=>bif nmEq g0 ([1]) && Nat.beq g1 0 && Nat.beq g2 0 && ctsEq g3 ([.int .u8]) then some (q49 a1 ua ub uc,[AV.int .i64 (v49_0 a1 ua ub uc)],[some ⟨true,[],[AV.agg [AV.sl [.int .u8] (v49_1 a1 ua ub uc),AV.int .i64 (v49_2 a1 ua ub uc),AV.int .i64 (v49_3 a1 ua ub uc)]]⟩]) else none
 | _,_=>none
theorem k49:Known Tryd.prog 49:=⟨Tryd.f49,Tryd.func49,by kernel_rfl,by kernel_rfl⟩
theorem meets49:MeetsG Tryd.prog 49 m49:=by
 refine mg (rt:=[3]) (gs:=[]) (lvl:=0) (cf:=c49) rfl mixed k49 Tryd.func49 (by kernel_rfl) noLoop allT_nil (allG_cons meets74 allM_nil) noI fun xs bs r bs' h K=>?_
 unfold m49 at h
 split at h
 ·rename_i g0 g1 g2 a1 g3 ua ub uc
  obtain ⟨hg,h⟩:=bif_pair h
  simp only [Bool.and_eq_true] at hg
  obtain ⟨⟨⟨q0,q1⟩,q2⟩,q3⟩:=hg
  obtain rfl:=nE q0
  obtain rfl:=bE q1
  obtain rfl:=bE q2
  obtain rfl:=cE q3
  obtain ⟨h1,rfl,rfl⟩:=trip_inj h
  exact r49 a1 ua ub uc K h1
 ·cases h
noncomputable def c50:Cfg:=cfg Tryd.prog [(50,999,[4])] [] [(49,.g m49)] [] []
def T50 {β:Type} (k:(Int × (List AV) × Int × Int × (List AV))→β) (n:β) (ua:List AV) (ub:Int) (uc:Int) (b1:List AV):β:=(bif q49 (b1.length:Int) ua ub uc then (bif (decide (0≤(v49_0 (b1.length:Int) ua ub uc)) && decide ((v49_0 (b1.length:Int) ua ub uc)<(b1.length:Int))) then k (fI (b1.getD (v49_0 (b1.length:Int) ua ub uc).toNat .undef) 0,(v49_1 (b1.length:Int) ua ub uc),(v49_2 (b1.length:Int) ua ub uc),(v49_3 (b1.length:Int) ua ub uc),b1)
 else n)
 else n)
abbrev W50 (ua:List AV) (ub:Int) (uc:Int) (b1:List AV):Option (Int × (List AV) × Int × Int × (List AV)):=T50 some none ua ub uc b1
theorem n50 {β:Type} (k:(Int × (List AV) × Int × Int × (List AV))→β) (n:β) (ua:List AV) (ub:Int) (uc:Int) (b1:List AV):T50 k n ua ub uc b1=oe k n (W50 ua ub uc b1):=by
 unfold W50 T50
 simp only [oe_cond,oe_ro,oe_sum,oe_some,oe_none]
def q50 (ua:List AV) (ub uc:Int) (b1:List AV):Bool:=(W50 ua ub uc b1).isSome
def v50_0 (ua:List AV) (ub uc:Int) (b1:List AV):Int:=oe (fun t=>t.1) 0 (W50 ua ub uc b1)
def v50_1 (ua:List AV) (ub uc:Int) (b1:List AV):List AV:=oe (fun t=>t.2.1) [] (W50 ua ub uc b1)
def v50_2 (ua:List AV) (ub uc:Int) (b1:List AV):Int:=oe (fun t=>t.2.2.1) 0 (W50 ua ub uc b1)
def v50_3 (ua:List AV) (ub uc:Int) (b1:List AV):Int:=oe (fun t=>t.2.2.2.1) 0 (W50 ua ub uc b1)
def v50_4 (ua:List AV) (ub uc:Int) (b1:List AV):List AV:=oe (fun t=>t.2.2.2.2) [] (W50 ua ub uc b1)
theorem e50 (ua:List AV) (ub uc:Int) (b1:List AV) (K:List AV→List (Option Blk)→Option AV):inlA c50 1 50 [AV.ptr [1] 0 0,AV.own [2]] [0] (canH 1 [⟨true,[],[AV.agg [AV.sl [.int .u8] ua,Ai ub,Ai uc]]⟩,⟨false,[.int .i64],b1⟩]) (keepG Tryd.prog 2 [3] [] K)=T50 (fun t=>K [Ai t.1] [some ⟨true,[],[AV.agg [AV.sl [.int .u8] t.2.1,Ai t.2.2.1,Ai t.2.2.2.1]]⟩,some ⟨false,[.int .i64],t.2.2.2.2⟩]) none ua ub uc b1:=by kernel_rfl
theorem r50 (ua:List AV) (ub uc:Int) (b1:List AV) (K:List AV→List (Option Blk)→Option AV) (h:q50 ua ub uc b1=true):inlA c50 1 50 [AV.ptr [1] 0 0,AV.own [2]] [0] (canH 1 [⟨true,[],[AV.agg [AV.sl [.int .u8] ua,AV.int .i64 ub,AV.int .i64 uc]]⟩,⟨false,[.int .i64],b1⟩]) (keepG Tryd.prog 2 [3] [] K)=K [AV.int .i64 (v50_0 ua ub uc b1)] [some ⟨true,[],[AV.agg [AV.sl [.int .u8] (v50_1 ua ub uc b1),AV.int .i64 (v50_2 ua ub uc b1),AV.int .i64 (v50_3 ua ub uc b1)]]⟩,some ⟨false,[.int .i64],(v50_4 ua ub uc b1)⟩]:=by
 refine ((e50 ua ub uc b1 K).trans (n50 _ _ ua ub uc b1)).trans ?_
 unfold q50 at h
 unfold v50_0 v50_1 v50_2 v50_3 v50_4
 generalize W50 ua ub uc b1=o at *
 cases o with
 | none=>cases h
 | some t=>rfl
def m50:GModel
 | [.ptr g0 g1 g2,.own g3],[⟨true,[],[.agg [.sl g4 ua,.int .i64 ub,.int .i64 uc]]⟩,⟨false,g5,b1⟩]=>bif nmEq g0 ([1]) && Nat.beq g1 0 && Nat.beq g2 0 && nmEq g3 ([2]) && ctsEq g4 ([.int .u8]) && ctsEq g5 ([.int .i64]) then some (q50 ua ub uc b1,[AV.int .i64 (v50_0 ua ub uc b1)],[some ⟨true,[],[AV.agg [AV.sl [.int .u8] (v50_1 ua ub uc b1),AV.int .i64 (v50_2 ua ub uc b1),AV.int .i64 (v50_3 ua ub uc b1)]]⟩,some ⟨false,[.int .i64],(v50_4 ua ub uc b1)⟩]) else none
 | _,_=>none
theorem k50:Known Tryd.prog 50:=⟨Tryd.f50,Tryd.func50,by kernel_rfl,by kernel_rfl⟩
theorem meets50:MeetsG Tryd.prog 50 m50:=by
 refine mg (rt:=[3]) (gs:=[]) (lvl:=0) (cf:=c50) rfl mixed k50 Tryd.func50 (by kernel_rfl) noLoop allT_nil (allG_cons meets49 allM_nil) noI fun xs bs r bs' h K=>?_
 unfold m50 at h
 split at h
 ·rename_i g0 g1 g2 g3 g4 ua ub uc g5 b1
  obtain ⟨hg,h⟩:=bif_pair h
  simp only [Bool.and_eq_true] at hg
  obtain ⟨⟨⟨⟨⟨q0,q1⟩,q2⟩,q3⟩,q4⟩,q5⟩:=hg
  obtain rfl:=nE q0
  obtain rfl:=bE q1
  obtain rfl:=bE q2
  obtain rfl:=nE q3
  obtain rfl:=cE q4
  obtain rfl:=cE q5
  obtain ⟨h1,rfl,rfl⟩:=trip_inj h
  exact r50 ua ub uc b1 K h1
 ·cases h
def G19i30_0 {β:Type} (t0:List AV) (t3:Int) (t4:Int) (N:((Int × Int))→β) (K:(Int)→β) (d:β):β:=(bif decide (t4<(t0.length:Int)) then (bif decide (t4<4000) then (bif (decide (0≤t4) && decide (t4<(t0.length:Int))) then N (IntKind.i64.wrap ((BitVec.ofInt 64 (IntKind.i64.wrap (IntKind.i64.wrap (IntKind.i64.wrap (t3*131)+IntKind.i64.wrap (fI (t0.getD t4.toNat .undef) 0))+7)) &&& BitVec.ofInt 64 1073741823).toNat:Int),IntKind.i64.wrap (t4+1))
 else d)
 else K t3)
 else K t3)
def F19i30_0 (t0:List AV) (t3 t4:Int):Out ((Int × Int)) (Int):=G19i30_0 t0 t3 t4 .next .stop .fail
def R19i30_0 (t0:List AV):((Int × Int))→Out ((Int × Int)) (Int):=fun s:Int × Int=>F19i30_0 t0 s.1 s.2
def E19i30_0 (t0:List AV):((Int × Int))→St:=fun s:Int × Int=>⟨[(0,AV.sl [.int .u8] t0),(3,Ai s.1),(4,Ai s.2)],[]⟩
def K19i30_0 (t0:List AV) (k:Kont):(Int)→Option AV:=fun p:Int=>k (.exit 0) ⟨[(0,AV.sl [.int .u8] t0),(3,Ai p)],[]⟩
def l19i30_0:LModel:=fun _ π st k=>match st with
 | ⟨[(0,.sl g1 t0),(3,.int .i64 t3),(4,.int .i64 t4)],[]⟩=>bif nmEq π ([13]) && ctsEq g1 ([.int .u8]) then ro (runW (R19i30_0 t0) (((t0.length:Int) - t4:Int).toNat+1) (t3,t4)) none (K19i30_0 t0 k) else none
 | _=>none
noncomputable def c19:Cfg:=cfg Tryd.prog [(19,999,[2,3,4,5,6]),(30,0,[0,3,4]),(30,999,[2]),(30,1000,[0,3]),(30,1001,[0,3,4])] [] [(49,.g m49),(50,.g m50)] [30] [(30,0,l19i30_0)]
theorem s19i30_0 (t0:List AV) (ce:CallE) (k:Kont) (s:Int × Int) (next:St→Option AV):stepA (codeA c19 ce [13] 30 0 (sub [1,1,0,1,0,0] (body Tryd.f30))) (normA [13] [0,3,4]) next ((E19i30_0 t0) s) k=G19i30_0 t0 s.1 s.2 (fun s=>next ((E19i30_0 t0) s)) (K19i30_0 t0 k) none:=by kernel_rfl
theorem st19i30_0 (t0:List AV) (ce:CallE) (k:Kont) (s:(Int × Int)) (next:St→Option AV):stepA (codeA c19 ce [13] 30 0 (sub [1,1,0,1,0,0] (body Tryd.f30))) (normA [13] [0,3,4]) next ((E19i30_0 t0) s) k=(R19i30_0 t0 s).el none (fun s=>next ((E19i30_0 t0) s)) (K19i30_0 t0 k):=(s19i30_0 t0 ce k s next).trans (by unfold R19i30_0;unfold F19i30_0 G19i30_0;simp only [el_cond,el_ro,el_sum,el_fail,el_next,el_stop] <;> rfl)
theorem ok19i30_0 {ce:CallE} {π:Nm}:LoopOK c19 ce π 30 0 (sub [1,1,0,1,0,0] (body Tryd.f30)):=by
 intro m hm st k r h
 obtain rfl:l19i30_0=m:=Option.some.inj hm
 unfold l19i30_0 at h
 split at h
 ·rename_i g1 t0 t3 t4
  obtain ⟨hg,h⟩:=bif_some h
  simp only [Bool.and_eq_true] at hg
  obtain ⟨q0,q1⟩:=hg
  obtain rfl:=nE q0
  obtain rfl:=cE q1
  refine ⟨(((t0.length:Int) - t4:Int).toNat+1),?_⟩
  rw [← h]
  exact loop_run (E19i30_0 t0) (K19i30_0 t0 k) (st19i30_0 t0 ce k) _ (t3,t4)
 ·cases h
def T19 {β:Type} (k:(Int × Int × Int × Int × Int)→β) (n:β) (a0:List AV):β:=(ro (runW (R19i30_0 a0) (((a0.length:Int) - 0:Int).toNat+1) (IntKind.i64.wrap (10101+(a0.length:Int)),0)) n (fun p1=>(bif q49 5 a0 0 p1 then (bif q50 (v49_1 5 a0 0 p1) (v49_2 5 a0 0 p1) (v49_3 5 a0 0 p1) ([AV.int .i64 0,AV.int .i64 (-5),AV.int .i64 (-1000),AV.int .i64 1000,AV.int .i64 (-1001)]) then (bif q50 (v50_1 (v49_1 5 a0 0 p1) (v49_2 5 a0 0 p1) (v49_3 5 a0 0 p1) ([AV.int .i64 0,AV.int .i64 (-5),AV.int .i64 (-1000),AV.int .i64 1000,AV.int .i64 (-1001)])) (v50_2 (v49_1 5 a0 0 p1) (v49_2 5 a0 0 p1) (v49_3 5 a0 0 p1) ([AV.int .i64 0,AV.int .i64 (-5),AV.int .i64 (-1000),AV.int .i64 1000,AV.int .i64 (-1001)])) (v50_3 (v49_1 5 a0 0 p1) (v49_2 5 a0 0 p1) (v49_3 5 a0 0 p1) ([AV.int .i64 0,AV.int .i64 (-5),AV.int .i64 (-1000),AV.int .i64 1000,AV.int .i64 (-1001)])) ([AV.int .i64 20,AV.int .i64 7,AV.int .i64 0,AV.int .i64 1000,AV.int .i64 1001]) then (bif q50 (v50_1 (v50_1 (v49_1 5 a0 0 p1) (v49_2 5 a0 0 p1) (v49_3 5 a0 0 p1) ([AV.int .i64 0,AV.int .i64 (-5),AV.int .i64 (-1000),AV.int .i64 1000,AV.int .i64 (-1001)])) (v50_2 (v49_1 5 a0 0 p1) (v49_2 5 a0 0 p1) (v49_3 5 a0 0 p1) ([AV.int .i64 0,AV.int .i64 (-5),AV.int .i64 (-1000),AV.int .i64 1000,AV.int .i64 (-1001)])) (v50_3 (v49_1 5 a0 0 p1) (v49_2 5 a0 0 p1) (v49_3 5 a0 0 p1) ([AV.int .i64 0,AV.int .i64 (-5),AV.int .i64 (-1000),AV.int .i64 1000,AV.int .i64 (-1001)])) ([AV.int .i64 20,AV.int .i64 7,AV.int .i64 0,AV.int .i64 1000,AV.int .i64 1001])) (v50_2 (v50_1 (v49_1 5 a0 0 p1) (v49_2 5 a0 0 p1) (v49_3 5 a0 0 p1) ([AV.int .i64 0,AV.int .i64 (-5),AV.int .i64 (-1000),AV.int .i64 1000,AV.int .i64 (-1001)])) (v50_2 (v49_1 5 a0 0 p1) (v49_2 5 a0 0 p1) (v49_3 5 a0 0 p1) ([AV.int .i64 0,AV.int .i64 (-5),AV.int .i64 (-1000),AV.int .i64 1000,AV.int .i64 (-1001)])) (v50_3 (v49_1 5 a0 0 p1) (v49_2 5 a0 0 p1) (v49_3 5 a0 0 p1) ([AV.int .i64 0,AV.int .i64 (-5),AV.int .i64 (-1000),AV.int .i64 1000,AV.int .i64 (-1001)])) ([AV.int .i64 20,AV.int .i64 7,AV.int .i64 0,AV.int .i64 1000,AV.int .i64 1001])) (v50_3 (v50_1 (v49_1 5 a0 0 p1) (v49_2 5 a0 0 p1) (v49_3 5 a0 0 p1) ([AV.int .i64 0,AV.int .i64 (-5),AV.int .i64 (-1000),AV.int .i64 1000,AV.int .i64 (-1001)])) (v50_2 (v49_1 5 a0 0 p1) (v49_2 5 a0 0 p1) (v49_3 5 a0 0 p1) ([AV.int .i64 0,AV.int .i64 (-5),AV.int .i64 (-1000),AV.int .i64 1000,AV.int .i64 (-1001)])) (v50_3 (v49_1 5 a0 0 p1) (v49_2 5 a0 0 p1) (v49_3 5 a0 0 p1) ([AV.int .i64 0,AV.int .i64 (-5),AV.int .i64 (-1000),AV.int .i64 1000,AV.int .i64 (-1001)])) ([AV.int .i64 20,AV.int .i64 7,AV.int .i64 0,AV.int .i64 1000,AV.int .i64 1001])) ([AV.int .i64 0,AV.int .i64 1,AV.int .i64 5,AV.int .i64 30,AV.int .i64 31,AV.int .i64 (-1)]) then (bif q50 (v50_1 (v50_1 (v50_1 (v49_1 5 a0 0 p1) (v49_2 5 a0 0 p1) (v49_3 5 a0 0 p1) ([AV.int .i64 0,AV.int .i64 (-5),AV.int .i64 (-1000),AV.int .i64 1000,AV.int .i64 (-1001)])) (v50_2 (v49_1 5 a0 0 p1) (v49_2 5 a0 0 p1) (v49_3 5 a0 0 p1) ([AV.int .i64 0,AV.int .i64 (-5),AV.int .i64 (-1000),AV.int .i64 1000,AV.int .i64 (-1001)])) (v50_3 (v49_1 5 a0 0 p1) (v49_2 5 a0 0 p1) (v49_3 5 a0 0 p1) ([AV.int .i64 0,AV.int .i64 (-5),AV.int .i64 (-1000),AV.int .i64 1000,AV.int .i64 (-1001)])) ([AV.int .i64 20,AV.int .i64 7,AV.int .i64 0,AV.int .i64 1000,AV.int .i64 1001])) (v50_2 (v50_1 (v49_1 5 a0 0 p1) (v49_2 5 a0 0 p1) (v49_3 5 a0 0 p1) ([AV.int .i64 0,AV.int .i64 (-5),AV.int .i64 (-1000),AV.int .i64 1000,AV.int .i64 (-1001)])) (v50_2 (v49_1 5 a0 0 p1) (v49_2 5 a0 0 p1) (v49_3 5 a0 0 p1) ([AV.int .i64 0,AV.int .i64 (-5),AV.int .i64 (-1000),AV.int .i64 1000,AV.int .i64 (-1001)])) (v50_3 (v49_1 5 a0 0 p1) (v49_2 5 a0 0 p1) (v49_3 5 a0 0 p1) ([AV.int .i64 0,AV.int .i64 (-5),AV.int .i64 (-1000),AV.int .i64 1000,AV.int .i64 (-1001)])) ([AV.int .i64 20,AV.int .i64 7,AV.int .i64 0,AV.int .i64 1000,AV.int .i64 1001])) (v50_3 (v50_1 (v49_1 5 a0 0 p1) (v49_2 5 a0 0 p1) (v49_3 5 a0 0 p1) ([AV.int .i64 0,AV.int .i64 (-5),AV.int .i64 (-1000),AV.int .i64 1000,AV.int .i64 (-1001)])) (v50_2 (v49_1 5 a0 0 p1) (v49_2 5 a0 0 p1) (v49_3 5 a0 0 p1) ([AV.int .i64 0,AV.int .i64 (-5),AV.int .i64 (-1000),AV.int .i64 1000,AV.int .i64 (-1001)])) (v50_3 (v49_1 5 a0 0 p1) (v49_2 5 a0 0 p1) (v49_3 5 a0 0 p1) ([AV.int .i64 0,AV.int .i64 (-5),AV.int .i64 (-1000),AV.int .i64 1000,AV.int .i64 (-1001)])) ([AV.int .i64 20,AV.int .i64 7,AV.int .i64 0,AV.int .i64 1000,AV.int .i64 1001])) ([AV.int .i64 0,AV.int .i64 1,AV.int .i64 5,AV.int .i64 30,AV.int .i64 31,AV.int .i64 (-1)])) (v50_2 (v50_1 (v50_1 (v49_1 5 a0 0 p1) (v49_2 5 a0 0 p1) (v49_3 5 a0 0 p1) ([AV.int .i64 0,AV.int .i64 (-5),AV.int .i64 (-1000),AV.int .i64 1000,AV.int .i64 (-1001)])) (v50_2 (v49_1 5 a0 0 p1) (v49_2 5 a0 0 p1) (v49_3 5 a0 0 p1) ([AV.int .i64 0,AV.int .i64 (-5),AV.int .i64 (-1000),AV.int .i64 1000,AV.int .i64 (-1001)])) (v50_3 (v49_1 5 a0 0 p1) (v49_2 5 a0 0 p1) (v49_3 5 a0 0 p1) ([AV.int .i64 0,AV.int .i64 (-5),AV.int .i64 (-1000),AV.int .i64 1000,AV.int .i64 (-1001)])) ([AV.int .i64 20,AV.int .i64 7,AV.int .i64 0,AV.int .i64 1000,AV.int .i64 1001])) (v50_2 (v50_1 (v49_1 5 a0 0 p1) (v49_2 5 a0 0 p1) (v49_3 5 a0 0 p1) ([AV.int .i64 0,AV.int .i64 (-5),AV.int .i64 (-1000),AV.int .i64 1000,AV.int .i64 (-1001)])) (v50_2 (v49_1 5 a0 0 p1) (v49_2 5 a0 0 p1) (v49_3 5 a0 0 p1) ([AV.int .i64 0,AV.int .i64 (-5),AV.int .i64 (-1000),AV.int .i64 1000,AV.int .i64 (-1001)])) (v50_3 (v49_1 5 a0 0 p1) (v49_2 5 a0 0 p1) (v49_3 5 a0 0 p1) ([AV.int .i64 0,AV.int .i64 (-5),AV.int .i64 (-1000),AV.int .i64 1000,AV.int .i64 (-1001)])) ([AV.int .i64 20,AV.int .i64 7,AV.int .i64 0,AV.int .i64 1000,AV.int .i64 1001])) (v50_3 (v50_1 (v49_1 5 a0 0 p1) (v49_2 5 a0 0 p1) (v49_3 5 a0 0 p1) ([AV.int .i64 0,AV.int .i64 (-5),AV.int .i64 (-1000),AV.int .i64 1000,AV.int .i64 (-1001)])) (v50_2 (v49_1 5 a0 0 p1) (v49_2 5 a0 0 p1) (v49_3 5 a0 0 p1) ([AV.int .i64 0,AV.int .i64 (-5),AV.int .i64 (-1000),AV.int .i64 1000,AV.int .i64 (-1001)])) (v50_3 (v49_1 5 a0 0 p1) (v49_2 5 a0 0 p1) (v49_3 5 a0 0 p1) ([AV.int .i64 0,AV.int .i64 (-5),AV.int .i64 (-1000),AV.int .i64 1000,AV.int .i64 (-1001)])) ([AV.int .i64 20,AV.int .i64 7,AV.int .i64 0,AV.int .i64 1000,AV.int .i64 1001])) ([AV.int .i64 0,AV.int .i64 1,AV.int .i64 5,AV.int .i64 30,AV.int .i64 31,AV.int .i64 (-1)])) (v50_3 (v50_1 (v50_1 (v49_1 5 a0 0 p1) (v49_2 5 a0 0 p1) (v49_3 5 a0 0 p1) ([AV.int .i64 0,AV.int .i64 (-5),AV.int .i64 (-1000),AV.int .i64 1000,AV.int .i64 (-1001)])) (v50_2 (v49_1 5 a0 0 p1) (v49_2 5 a0 0 p1) (v49_3 5 a0 0 p1) ([AV.int .i64 0,AV.int .i64 (-5),AV.int .i64 (-1000),AV.int .i64 1000,AV.int .i64 (-1001)])) (v50_3 (v49_1 5 a0 0 p1) (v49_2 5 a0 0 p1) (v49_3 5 a0 0 p1) ([AV.int .i64 0,AV.int .i64 (-5),AV.int .i64 (-1000),AV.int .i64 1000,AV.int .i64 (-1001)])) ([AV.int .i64 20,AV.int .i64 7,AV.int .i64 0,AV.int .i64 1000,AV.int .i64 1001])) (v50_2 (v50_1 (v49_1 5 a0 0 p1) (v49_2 5 a0 0 p1) (v49_3 5 a0 0 p1) ([AV.int .i64 0,AV.int .i64 (-5),AV.int .i64 (-1000),AV.int .i64 1000,AV.int .i64 (-1001)])) (v50_2 (v49_1 5 a0 0 p1) (v49_2 5 a0 0 p1) (v49_3 5 a0 0 p1) ([AV.int .i64 0,AV.int .i64 (-5),AV.int .i64 (-1000),AV.int .i64 1000,AV.int .i64 (-1001)])) (v50_3 (v49_1 5 a0 0 p1) (v49_2 5 a0 0 p1) (v49_3 5 a0 0 p1) ([AV.int .i64 0,AV.int .i64 (-5),AV.int .i64 (-1000),AV.int .i64 1000,AV.int .i64 (-1001)])) ([AV.int .i64 20,AV.int .i64 7,AV.int .i64 0,AV.int .i64 1000,AV.int .i64 1001])) (v50_3 (v50_1 (v49_1 5 a0 0 p1) (v49_2 5 a0 0 p1) (v49_3 5 a0 0 p1) ([AV.int .i64 0,AV.int .i64 (-5),AV.int .i64 (-1000),AV.int .i64 1000,AV.int .i64 (-1001)])) (v50_2 (v49_1 5 a0 0 p1) (v49_2 5 a0 0 p1) (v49_3 5 a0 0 p1) ([AV.int .i64 0,AV.int .i64 (-5),AV.int .i64 (-1000),AV.int .i64 1000,AV.int .i64 (-1001)])) (v50_3 (v49_1 5 a0 0 p1) (v49_2 5 a0 0 p1) (v49_3 5 a0 0 p1) ([AV.int .i64 0,AV.int .i64 (-5),AV.int .i64 (-1000),AV.int .i64 1000,AV.int .i64 (-1001)])) ([AV.int .i64 20,AV.int .i64 7,AV.int .i64 0,AV.int .i64 1000,AV.int .i64 1001])) ([AV.int .i64 0,AV.int .i64 1,AV.int .i64 5,AV.int .i64 30,AV.int .i64 31,AV.int .i64 (-1)])) ([AV.int .i64 0,AV.int .i64 7,AV.int .i64 (-3),AV.int .i64 10006]) then k (IntKind.i64.wrap ((v49_0 5 a0 0 p1) - 1),(v50_0 (v49_1 5 a0 0 p1) (v49_2 5 a0 0 p1) (v49_3 5 a0 0 p1) ([AV.int .i64 0,AV.int .i64 (-5),AV.int .i64 (-1000),AV.int .i64 1000,AV.int .i64 (-1001)])),(v50_0 (v50_1 (v49_1 5 a0 0 p1) (v49_2 5 a0 0 p1) (v49_3 5 a0 0 p1) ([AV.int .i64 0,AV.int .i64 (-5),AV.int .i64 (-1000),AV.int .i64 1000,AV.int .i64 (-1001)])) (v50_2 (v49_1 5 a0 0 p1) (v49_2 5 a0 0 p1) (v49_3 5 a0 0 p1) ([AV.int .i64 0,AV.int .i64 (-5),AV.int .i64 (-1000),AV.int .i64 1000,AV.int .i64 (-1001)])) (v50_3 (v49_1 5 a0 0 p1) (v49_2 5 a0 0 p1) (v49_3 5 a0 0 p1) ([AV.int .i64 0,AV.int .i64 (-5),AV.int .i64 (-1000),AV.int .i64 1000,AV.int .i64 (-1001)])) ([AV.int .i64 20,AV.int .i64 7,AV.int .i64 0,AV.int .i64 1000,AV.int .i64 1001])),(v50_0 (v50_1 (v50_1 (v49_1 5 a0 0 p1) (v49_2 5 a0 0 p1) (v49_3 5 a0 0 p1) ([AV.int .i64 0,AV.int .i64 (-5),AV.int .i64 (-1000),AV.int .i64 1000,AV.int .i64 (-1001)])) (v50_2 (v49_1 5 a0 0 p1) (v49_2 5 a0 0 p1) (v49_3 5 a0 0 p1) ([AV.int .i64 0,AV.int .i64 (-5),AV.int .i64 (-1000),AV.int .i64 1000,AV.int .i64 (-1001)])) (v50_3 (v49_1 5 a0 0 p1) (v49_2 5 a0 0 p1) (v49_3 5 a0 0 p1) ([AV.int .i64 0,AV.int .i64 (-5),AV.int .i64 (-1000),AV.int .i64 1000,AV.int .i64 (-1001)])) ([AV.int .i64 20,AV.int .i64 7,AV.int .i64 0,AV.int .i64 1000,AV.int .i64 1001])) (v50_2 (v50_1 (v49_1 5 a0 0 p1) (v49_2 5 a0 0 p1) (v49_3 5 a0 0 p1) ([AV.int .i64 0,AV.int .i64 (-5),AV.int .i64 (-1000),AV.int .i64 1000,AV.int .i64 (-1001)])) (v50_2 (v49_1 5 a0 0 p1) (v49_2 5 a0 0 p1) (v49_3 5 a0 0 p1) ([AV.int .i64 0,AV.int .i64 (-5),AV.int .i64 (-1000),AV.int .i64 1000,AV.int .i64 (-1001)])) (v50_3 (v49_1 5 a0 0 p1) (v49_2 5 a0 0 p1) (v49_3 5 a0 0 p1) ([AV.int .i64 0,AV.int .i64 (-5),AV.int .i64 (-1000),AV.int .i64 1000,AV.int .i64 (-1001)])) ([AV.int .i64 20,AV.int .i64 7,AV.int .i64 0,AV.int .i64 1000,AV.int .i64 1001])) (v50_3 (v50_1 (v49_1 5 a0 0 p1) (v49_2 5 a0 0 p1) (v49_3 5 a0 0 p1) ([AV.int .i64 0,AV.int .i64 (-5),AV.int .i64 (-1000),AV.int .i64 1000,AV.int .i64 (-1001)])) (v50_2 (v49_1 5 a0 0 p1) (v49_2 5 a0 0 p1) (v49_3 5 a0 0 p1) ([AV.int .i64 0,AV.int .i64 (-5),AV.int .i64 (-1000),AV.int .i64 1000,AV.int .i64 (-1001)])) (v50_3 (v49_1 5 a0 0 p1) (v49_2 5 a0 0 p1) (v49_3 5 a0 0 p1) ([AV.int .i64 0,AV.int .i64 (-5),AV.int .i64 (-1000),AV.int .i64 1000,AV.int .i64 (-1001)])) ([AV.int .i64 20,AV.int .i64 7,AV.int .i64 0,AV.int .i64 1000,AV.int .i64 1001])) ([AV.int .i64 0,AV.int .i64 1,AV.int .i64 5,AV.int .i64 30,AV.int .i64 31,AV.int .i64 (-1)])),(v50_0 (v50_1 (v50_1 (v50_1 (v49_1 5 a0 0 p1) (v49_2 5 a0 0 p1) (v49_3 5 a0 0 p1) ([AV.int .i64 0,AV.int .i64 (-5),AV.int .i64 (-1000),AV.int .i64 1000,AV.int .i64 (-1001)])) (v50_2 (v49_1 5 a0 0 p1) (v49_2 5 a0 0 p1) (v49_3 5 a0 0 p1) ([AV.int .i64 0,AV.int .i64 (-5),AV.int .i64 (-1000),AV.int .i64 1000,AV.int .i64 (-1001)])) (v50_3 (v49_1 5 a0 0 p1) (v49_2 5 a0 0 p1) (v49_3 5 a0 0 p1) ([AV.int .i64 0,AV.int .i64 (-5),AV.int .i64 (-1000),AV.int .i64 1000,AV.int .i64 (-1001)])) ([AV.int .i64 20,AV.int .i64 7,AV.int .i64 0,AV.int .i64 1000,AV.int .i64 1001])) (v50_2 (v50_1 (v49_1 5 a0 0 p1) (v49_2 5 a0 0 p1) (v49_3 5 a0 0 p1) ([AV.int .i64 0,AV.int .i64 (-5),AV.int .i64 (-1000),AV.int .i64 1000,AV.int .i64 (-1001)])) (v50_2 (v49_1 5 a0 0 p1) (v49_2 5 a0 0 p1) (v49_3 5 a0 0 p1) ([AV.int .i64 0,AV.int .i64 (-5),AV.int .i64 (-1000),AV.int .i64 1000,AV.int .i64 (-1001)])) (v50_3 (v49_1 5 a0 0 p1) (v49_2 5 a0 0 p1) (v49_3 5 a0 0 p1) ([AV.int .i64 0,AV.int .i64 (-5),AV.int .i64 (-1000),AV.int .i64 1000,AV.int .i64 (-1001)])) ([AV.int .i64 20,AV.int .i64 7,AV.int .i64 0,AV.int .i64 1000,AV.int .i64 1001])) (v50_3 (v50_1 (v49_1 5 a0 0 p1) (v49_2 5 a0 0 p1) (v49_3 5 a0 0 p1) ([AV.int .i64 0,AV.int .i64 (-5),AV.int .i64 (-1000),AV.int .i64 1000,AV.int .i64 (-1001)])) (v50_2 (v49_1 5 a0 0 p1) (v49_2 5 a0 0 p1) (v49_3 5 a0 0 p1) ([AV.int .i64 0,AV.int .i64 (-5),AV.int .i64 (-1000),AV.int .i64 1000,AV.int .i64 (-1001)])) (v50_3 (v49_1 5 a0 0 p1) (v49_2 5 a0 0 p1) (v49_3 5 a0 0 p1) ([AV.int .i64 0,AV.int .i64 (-5),AV.int .i64 (-1000),AV.int .i64 1000,AV.int .i64 (-1001)])) ([AV.int .i64 20,AV.int .i64 7,AV.int .i64 0,AV.int .i64 1000,AV.int .i64 1001])) ([AV.int .i64 0,AV.int .i64 1,AV.int .i64 5,AV.int .i64 30,AV.int .i64 31,AV.int .i64 (-1)])) (v50_2 (v50_1 (v50_1 (v49_1 5 a0 0 p1) (v49_2 5 a0 0 p1) (v49_3 5 a0 0 p1) ([AV.int .i64 0,AV.int .i64 (-5),AV.int .i64 (-1000),AV.int .i64 1000,AV.int .i64 (-1001)])) (v50_2 (v49_1 5 a0 0 p1) (v49_2 5 a0 0 p1) (v49_3 5 a0 0 p1) ([AV.int .i64 0,AV.int .i64 (-5),AV.int .i64 (-1000),AV.int .i64 1000,AV.int .i64 (-1001)])) (v50_3 (v49_1 5 a0 0 p1) (v49_2 5 a0 0 p1) (v49_3 5 a0 0 p1) ([AV.int .i64 0,AV.int .i64 (-5),AV.int .i64 (-1000),AV.int .i64 1000,AV.int .i64 (-1001)])) ([AV.int .i64 20,AV.int .i64 7,AV.int .i64 0,AV.int .i64 1000,AV.int .i64 1001])) (v50_2 (v50_1 (v49_1 5 a0 0 p1) (v49_2 5 a0 0 p1) (v49_3 5 a0 0 p1) ([AV.int .i64 0,AV.int .i64 (-5),AV.int .i64 (-1000),AV.int .i64 1000,AV.int .i64 (-1001)])) (v50_2 (v49_1 5 a0 0 p1) (v49_2 5 a0 0 p1) (v49_3 5 a0 0 p1) ([AV.int .i64 0,AV.int .i64 (-5),AV.int .i64 (-1000),AV.int .i64 1000,AV.int .i64 (-1001)])) (v50_3 (v49_1 5 a0 0 p1) (v49_2 5 a0 0 p1) (v49_3 5 a0 0 p1) ([AV.int .i64 0,AV.int .i64 (-5),AV.int .i64 (-1000),AV.int .i64 1000,AV.int .i64 (-1001)])) ([AV.int .i64 20,AV.int .i64 7,AV.int .i64 0,AV.int .i64 1000,AV.int .i64 1001])) (v50_3 (v50_1 (v49_1 5 a0 0 p1) (v49_2 5 a0 0 p1) (v49_3 5 a0 0 p1) ([AV.int .i64 0,AV.int .i64 (-5),AV.int .i64 (-1000),AV.int .i64 1000,AV.int .i64 (-1001)])) (v50_2 (v49_1 5 a0 0 p1) (v49_2 5 a0 0 p1) (v49_3 5 a0 0 p1) ([AV.int .i64 0,AV.int .i64 (-5),AV.int .i64 (-1000),AV.int .i64 1000,AV.int .i64 (-1001)])) (v50_3 (v49_1 5 a0 0 p1) (v49_2 5 a0 0 p1) (v49_3 5 a0 0 p1) ([AV.int .i64 0,AV.int .i64 (-5),AV.int .i64 (-1000),AV.int .i64 1000,AV.int .i64 (-1001)])) ([AV.int .i64 20,AV.int .i64 7,AV.int .i64 0,AV.int .i64 1000,AV.int .i64 1001])) ([AV.int .i64 0,AV.int .i64 1,AV.int .i64 5,AV.int .i64 30,AV.int .i64 31,AV.int .i64 (-1)])) (v50_3 (v50_1 (v50_1 (v49_1 5 a0 0 p1) (v49_2 5 a0 0 p1) (v49_3 5 a0 0 p1) ([AV.int .i64 0,AV.int .i64 (-5),AV.int .i64 (-1000),AV.int .i64 1000,AV.int .i64 (-1001)])) (v50_2 (v49_1 5 a0 0 p1) (v49_2 5 a0 0 p1) (v49_3 5 a0 0 p1) ([AV.int .i64 0,AV.int .i64 (-5),AV.int .i64 (-1000),AV.int .i64 1000,AV.int .i64 (-1001)])) (v50_3 (v49_1 5 a0 0 p1) (v49_2 5 a0 0 p1) (v49_3 5 a0 0 p1) ([AV.int .i64 0,AV.int .i64 (-5),AV.int .i64 (-1000),AV.int .i64 1000,AV.int .i64 (-1001)])) ([AV.int .i64 20,AV.int .i64 7,AV.int .i64 0,AV.int .i64 1000,AV.int .i64 1001])) (v50_2 (v50_1 (v49_1 5 a0 0 p1) (v49_2 5 a0 0 p1) (v49_3 5 a0 0 p1) ([AV.int .i64 0,AV.int .i64 (-5),AV.int .i64 (-1000),AV.int .i64 1000,AV.int .i64 (-1001)])) (v50_2 (v49_1 5 a0 0 p1) (v49_2 5 a0 0 p1) (v49_3 5 a0 0 p1) ([AV.int .i64 0,AV.int .i64 (-5),AV.int .i64 (-1000),AV.int .i64 1000,AV.int .i64 (-1001)])) (v50_3 (v49_1 5 a0 0 p1) (v49_2 5 a0 0 p1) (v49_3 5 a0 0 p1) ([AV.int .i64 0,AV.int .i64 (-5),AV.int .i64 (-1000),AV.int .i64 1000,AV.int .i64 (-1001)])) ([AV.int .i64 20,AV.int .i64 7,AV.int .i64 0,AV.int .i64 1000,AV.int .i64 1001])) (v50_3 (v50_1 (v49_1 5 a0 0 p1) (v49_2 5 a0 0 p1) (v49_3 5 a0 0 p1) ([AV.int .i64 0,AV.int .i64 (-5),AV.int .i64 (-1000),AV.int .i64 1000,AV.int .i64 (-1001)])) (v50_2 (v49_1 5 a0 0 p1) (v49_2 5 a0 0 p1) (v49_3 5 a0 0 p1) ([AV.int .i64 0,AV.int .i64 (-5),AV.int .i64 (-1000),AV.int .i64 1000,AV.int .i64 (-1001)])) (v50_3 (v49_1 5 a0 0 p1) (v49_2 5 a0 0 p1) (v49_3 5 a0 0 p1) ([AV.int .i64 0,AV.int .i64 (-5),AV.int .i64 (-1000),AV.int .i64 1000,AV.int .i64 (-1001)])) ([AV.int .i64 20,AV.int .i64 7,AV.int .i64 0,AV.int .i64 1000,AV.int .i64 1001])) ([AV.int .i64 0,AV.int .i64 1,AV.int .i64 5,AV.int .i64 30,AV.int .i64 31,AV.int .i64 (-1)])) ([AV.int .i64 0,AV.int .i64 7,AV.int .i64 (-3),AV.int .i64 10006])))
 else n)
 else n)
 else n)
 else n)
 else n)))
abbrev W19 (a0:List AV):Option (Int × Int × Int × Int × Int):=T19 some none a0
theorem n19 {β:Type} (k:(Int × Int × Int × Int × Int)→β) (n:β) (a0:List AV):T19 k n a0=oe k n (W19 a0):=by
 unfold W19 T19
 simp only [oe_cond,oe_ro,oe_sum,oe_some,oe_none]
def q19 (a0:List AV):Bool:=(W19 a0).isSome
def v19_0 (a0:List AV):Int:=oe (fun t=>t.1) 0 (W19 a0)
def v19_1 (a0:List AV):Int:=oe (fun t=>t.2.1) 0 (W19 a0)
def v19_2 (a0:List AV):Int:=oe (fun t=>t.2.2.1) 0 (W19 a0)
def v19_3 (a0:List AV):Int:=oe (fun t=>t.2.2.2.1) 0 (W19 a0)
def v19_4 (a0:List AV):Int:=oe (fun t=>t.2.2.2.2) 0 (W19 a0)
theorem e19 (a0:List AV):funA c19 1 19 [AV.sl [.int .u8] a0]=T19 (fun t=>some (AV.tup [Ai t.1,Ai t.2.1,Ai t.2.2.1,Ai t.2.2.2.1,Ai t.2.2.2.2])) none a0:=by kernel_rfl
theorem r19 (a0:List AV) (h:q19 a0=true):funA c19 1 19 [AV.sl [.int .u8] a0]=some (AV.tup [AV.int .i64 (v19_0 a0),AV.int .i64 (v19_1 a0),AV.int .i64 (v19_2 a0),AV.int .i64 (v19_3 a0),AV.int .i64 (v19_4 a0)]):=by
 refine ((e19 a0).trans (n19 _ _ a0)).trans ?_
 unfold q19 at h
 unfold v19_0 v19_1 v19_2 v19_3 v19_4
 generalize W19 a0=o at *
 cases o with
 | none=>cases h
 | some t=>rfl
def m19:TModel
 | [.sl g0 a0]=>bif ctsEq g0 ([.int .u8]) then some (q19 a0,AV.tup [AV.int .i64 (v19_0 a0),AV.int .i64 (v19_1 a0),AV.int .i64 (v19_2 a0),AV.int .i64 (v19_3 a0),AV.int .i64 (v19_4 a0)]) else none
 | _=>none
theorem k19:Known Tryd.prog 19:=⟨Tryd.f19,Tryd.func19,by kernel_rfl,by kernel_rfl⟩
theorem i19_30:InlK Tryd.prog [(19,999,[2,3,4,5,6]),(30,0,[0,3,4]),(30,999,[2]),(30,1000,[0,3]),(30,1001,[0,3,4])] [] [(49,.g m49),(50,.g m50)] [30] [(30,0,l19i30_0)] 30:=⟨⟨Tryd.f30,Tryd.func30,by kernel_rfl,by kernel_rfl⟩,Tryd.f30,[(0,sub [1,1,0,1,0,0] (body Tryd.f30))],Tryd.func30,by kernel_rfl,fun ce π=>(loops_cons (ok19i30_0 (ce:=ce) (π:=π)) noLoop)⟩
theorem meets19:Meets Tryd.prog 19 m19:=by
 refine mt (lvl:=1) (cf:=c19) rfl mixed k19 Tryd.func19 (by kernel_rfl) noLoop allT_nil (allG_cons meets49 (allG_cons meets50 allM_nil)) (allI_cons i19_30 noI) fun xs r h=>?_
 unfold m19 at h
 split at h
 ·rename_i g0 a0
  obtain ⟨hg,h⟩:=bif_pair h
  have q0:=hg
  obtain rfl:=cE q0
  obtain ⟨h1,rfl⟩:=pair_inj h
  exact r19 a0 h1
 ·cases h
noncomputable def c51:Cfg:=cfg Tryd.prog [(51,999,[2])] [] [] [] []
def v51_0 (xa xb:Int):Bool:=(bif decide ((-1000)≤xa) then (bif decide (xa≤xb) then decide (xb≤1000) else false) else false)
theorem e51 (xa xb:Int):funA c51 0 51 [AV.agg [Ai xa,Ai xb]]=(bif decide ((-1000)≤xa) then (bif decide (xa≤xb) then some (AV.bool (decide (xb≤1000)))
 else some (AV.bool false))
 else some (AV.bool false)):=by kernel_rfl
def m51:TModel
 | [.agg [.int .i64 xa,.int .i64 xb]]=>some (true,AV.bool (v51_0 xa xb))
 | _=>none
theorem k51:Known Tryd.prog 51:=⟨Tryd.f51,Tryd.func51,by kernel_rfl,by kernel_rfl⟩
theorem meets51:Meets Tryd.prog 51 m51:=by
 refine mt (lvl:=0) (cf:=c51) rfl mixed k51 Tryd.func51 (by kernel_rfl) noLoop allT_nil allM_nil noI fun xs r h=>?_
 unfold m51 at h
 split at h
 ·rename_i xa xb
  obtain ⟨h1,rfl⟩:=pair_inj h
  exact (e51 xa xb).trans (of_tt (brT (fun b=>some (AV.bool (bif b then (bif decide (xa≤xb) then decide (xb≤1000) else false) else false))) (brT (fun b=>some (AV.bool (bif b then decide (xb≤1000) else false))) (fun _=>rfl) (fun _=>rfl)) (fun _=>rfl)))
 ·cases h
noncomputable def c53:Cfg:=cfg Tryd.prog [(53,999,[2])] [] [] [] []
def q53 (a0:Int):Bool:=(!decide (10007=0) && (bif decide (Int.tmod a0 10007<0) then !decide (10007=0) else !decide (10007=0)))
def v53_0 (a0:Int):Int:=(bif decide (Int.tmod a0 10007<0) then Int.tmod (IntKind.i64.wrap (IntKind.i64.wrap (IntKind.i64.wrap (Int.tmod a0 10007+10007)*1103)+2345)) 10007 else Int.tmod (IntKind.i64.wrap (IntKind.i64.wrap (Int.tmod a0 10007*1103)+2345)) 10007)
theorem e53 (a0:Int):funA c53 0 53 [Ai a0]=(bif !decide (10007=0) then (bif decide (Int.tmod a0 10007<0) then (bif !decide (10007=0) then some (Ai (Int.tmod (IntKind.i64.wrap (IntKind.i64.wrap (IntKind.i64.wrap (Int.tmod a0 10007+10007)*1103)+2345)) 10007))
 else none)
 else (bif !decide (10007=0) then some (Ai (Int.tmod (IntKind.i64.wrap (IntKind.i64.wrap (Int.tmod a0 10007*1103)+2345)) 10007))
 else none))
 else none):=by kernel_rfl
def m53:TModel
 | [.int .i64 a0]=>some (q53 a0,AV.int .i64 (v53_0 a0))
 | _=>none
theorem k53:Known Tryd.prog 53:=⟨Tryd.f53,Tryd.func53,by kernel_rfl,by kernel_rfl⟩
theorem meets53:Meets Tryd.prog 53 m53:=by
 refine mt (lvl:=0) (cf:=c53) rfl mixed k53 Tryd.func53 (by kernel_rfl) noLoop allT_nil allM_nil noI fun xs r h=>?_
 unfold m53 at h
 split at h
 ·rename_i a0
  obtain ⟨h1,rfl⟩:=pair_inj h
  exact (e53 a0).trans ((brL (br (fun b=>some (Ai (bif b then Int.tmod (IntKind.i64.wrap (IntKind.i64.wrap (IntKind.i64.wrap (Int.tmod a0 10007+10007)*1103)+2345)) 10007 else Int.tmod (IntKind.i64.wrap (IntKind.i64.wrap (Int.tmod a0 10007*1103)+2345)) 10007))) (brL1 (fun _=>rfl)) (brL1 (fun _=>rfl)))) h1)
 ·cases h
noncomputable def c52:Cfg:=cfg Tryd.prog [(52,999,[3])] [(53,m53)] [] [] []
def q52 (b0 b1 b2:Int):Bool:=(q53 b0 && !decide (IntKind.i64.wrap (IntKind.i64.wrap (b2 - b1)+1)=0))
def v52_0 (b0 b1 b2:Int):Int:=IntKind.i64.wrap (b1+Int.tmod (v53_0 b0) (IntKind.i64.wrap (IntKind.i64.wrap (b2 - b1)+1)))
def v52_1 (b0 b1 b2:Int):Int:=(v53_0 b0)
def v52_2 (b0 b1 b2:Int):Int:=b1
def v52_3 (b0 b1 b2:Int):Int:=b2
theorem e52 (b0 b1 b2:Int) (K:AV→List Blk→Option AV):inlA c52 1 52 [AV.ptr [1] 0 0,AV.ptr [2] 0 0,AV.ptr [3] 0 0] [0] (canH 1 [⟨true,[],[Ai b0]⟩,⟨true,[],[Ai b1]⟩,⟨true,[],[Ai b2]⟩]) (keepB 3 K)=(bif q53 b0 then (bif !decide (IntKind.i64.wrap (IntKind.i64.wrap (b2 - b1)+1)=0) then K (Ai (IntKind.i64.wrap (b1+Int.tmod (v53_0 b0) (IntKind.i64.wrap (IntKind.i64.wrap (b2 - b1)+1))))) [⟨true,[],[Ai (v53_0 b0)]⟩,⟨true,[],[Ai b1]⟩,⟨true,[],[Ai b2]⟩]
 else none)
 else none):=by kernel_rfl
theorem r52 (b0 b1 b2:Int) (K:AV→List Blk→Option AV) (h:q52 b0 b1 b2=true):inlA c52 1 52 [AV.ptr [1] 0 0,AV.ptr [2] 0 0,AV.ptr [3] 0 0] [0] (canH 1 [⟨true,[],[AV.int .i64 b0]⟩,⟨true,[],[AV.int .i64 b1]⟩,⟨true,[],[AV.int .i64 b2]⟩]) (keepB 3 K)=K (AV.int .i64 (v52_0 b0 b1 b2)) [⟨true,[],[AV.int .i64 (v52_1 b0 b1 b2)]⟩,⟨true,[],[AV.int .i64 (v52_2 b0 b1 b2)]⟩,⟨true,[],[AV.int .i64 (v52_3 b0 b1 b2)]⟩]:=(e52 b0 b1 b2 K).trans ((brL (brL1 (fun _=>rfl))) h)
def m52:WModel
 | [.ptr g0 g1 g2,.ptr g3 g4 g5,.ptr g6 g7 g8],[⟨true,[],[.int .i64 b0]⟩,⟨true,[],[.int .i64 b1]⟩,⟨true,[],[.int .i64 b2]⟩]=>bif nmEq g0 ([1]) && Nat.beq g1 0 && Nat.beq g2 0 && nmEq g3 ([2]) && Nat.beq g4 0 && Nat.beq g5 0 && nmEq g6 ([3]) && Nat.beq g7 0 && Nat.beq g8 0 then some (q52 b0 b1 b2,AV.int .i64 (v52_0 b0 b1 b2),[⟨true,[],[AV.int .i64 (v52_1 b0 b1 b2)]⟩,⟨true,[],[AV.int .i64 (v52_2 b0 b1 b2)]⟩,⟨true,[],[AV.int .i64 (v52_3 b0 b1 b2)]⟩]) else none
 | _,_=>none
theorem k52:Known Tryd.prog 52:=⟨Tryd.f52,Tryd.func52,by kernel_rfl,by kernel_rfl⟩
theorem meets52:MeetsM Tryd.prog 52 m52:=by
 refine mw (lvl:=0) (cf:=c52) rfl mixed k52 Tryd.func52 (by kernel_rfl) noLoop (allT_cons meets53 allT_nil) allM_nil noI fun xs bs r bs' h K=>?_
 unfold m52 at h
 split at h
 ·rename_i g0 g1 g2 g3 g4 g5 g6 g7 g8 b0 b1 b2
  obtain ⟨hg,h⟩:=bif_pair h
  simp only [Bool.and_eq_true] at hg
  obtain ⟨⟨⟨⟨⟨⟨⟨⟨q0,q1⟩,q2⟩,q3⟩,q4⟩,q5⟩,q6⟩,q7⟩,q8⟩:=hg
  obtain rfl:=nE q0
  obtain rfl:=bE q1
  obtain rfl:=bE q2
  obtain rfl:=nE q3
  obtain rfl:=bE q4
  obtain rfl:=bE q5
  obtain rfl:=nE q6
  obtain rfl:=bE q7
  obtain rfl:=bE q8
  obtain ⟨h1,rfl,rfl⟩:=trip_inj h
  exact r52 b0 b1 b2 K h1
 ·cases h
def G20_0 {β:Type} (t0:Int) (t3:Int) (t46:Int) (t47:Int) (h0:Int) (h1:Int) (h2:Int) (h3:List AV) (h4_0:Int) (h4_1:Int) (N:((Int × Int × Int × Int × (List AV) × Int × Int))→β) (K:((Int × Int × Int × (List AV) × Int × Int))→β) (d:β):β:=by
 refine (?f0:Int→Int→Int→Int→β) (v52_0 h0 h1 h2) (v52_1 h0 h1 h2) (v52_2 h0 h1 h2) (v52_3 h0 h1 h2);intro x1 x2 x3 x4
 exact (bif decide (t47<t46) then (bif decide (t0=0) then (bif q52 h0 h1 h2 then (bif q52 x2 x3 x4 then (bif (decide ((h3.length+([AV.agg [AV.int .i64 (if (v52_0 x2 x3 x4)<x1 then (v52_0 x2 x3 x4) else x1),AV.int .i64 (if (v52_0 x2 x3 x4) > x1 then (v52_0 x2 x3 x4) else x1)]]).length)*16≤140737488355328) && decide ((h3.length+([AV.agg [AV.int .i64 (if (v52_0 x2 x3 x4)<x1 then (v52_0 x2 x3 x4) else x1),AV.int .i64 (if (v52_0 x2 x3 x4) > x1 then (v52_0 x2 x3 x4) else x1)]]).length)≤140737488355328)) then N (IntKind.i64.wrap (t47+1),(v52_1 x2 x3 x4),(v52_2 x2 x3 x4),(v52_3 x2 x3 x4),h3++([AV.agg [AV.int .i64 (if (v52_0 x2 x3 x4)<x1 then (v52_0 x2 x3 x4) else x1),AV.int .i64 (if (v52_0 x2 x3 x4) > x1 then (v52_0 x2 x3 x4) else x1)]]),h4_0,h4_1)
 else d)
 else d)
 else d)
 else (bif decide (t0=1) then (bif !decide (t3=0) then (bif !decide (t3=0) then (bif (decide ((h3.length+([AV.agg [AV.int .i64 (IntKind.i64.wrap (h1+IntKind.i64.wrap (Int.tdiv (IntKind.i64.wrap (IntKind.i64.wrap (h2 - h1)*t47)) t3))),AV.int .i64 (IntKind.i64.wrap (h1+IntKind.i64.wrap (Int.tdiv (IntKind.i64.wrap (IntKind.i64.wrap (h2 - h1)*IntKind.i64.wrap (t47+1))) t3)))]]).length)*16≤140737488355328) && decide ((h3.length+([AV.agg [AV.int .i64 (IntKind.i64.wrap (h1+IntKind.i64.wrap (Int.tdiv (IntKind.i64.wrap (IntKind.i64.wrap (h2 - h1)*t47)) t3))),AV.int .i64 (IntKind.i64.wrap (h1+IntKind.i64.wrap (Int.tdiv (IntKind.i64.wrap (IntKind.i64.wrap (h2 - h1)*IntKind.i64.wrap (t47+1))) t3)))]]).length)≤140737488355328)) then N (IntKind.i64.wrap (t47+1),h0,h1,h2,h3++([AV.agg [AV.int .i64 (IntKind.i64.wrap (h1+IntKind.i64.wrap (Int.tdiv (IntKind.i64.wrap (IntKind.i64.wrap (h2 - h1)*t47)) t3))),AV.int .i64 (IntKind.i64.wrap (h1+IntKind.i64.wrap (Int.tdiv (IntKind.i64.wrap (IntKind.i64.wrap (h2 - h1)*IntKind.i64.wrap (t47+1))) t3)))]]),h4_0,h4_1)
 else d)
 else d)
 else d)
 else (bif decide (t0=2) then (bif (decide ((h3.length+([AV.agg [AV.int .i64 h4_0,AV.int .i64 h4_1]]).length)*16≤140737488355328) && decide ((h3.length+([AV.agg [AV.int .i64 h4_0,AV.int .i64 h4_1]]).length)≤140737488355328)) then (bif !decide (4=0) then N (IntKind.i64.wrap (t47+1),h0,h1,h2,h3++([AV.agg [AV.int .i64 h4_0,AV.int .i64 h4_1]]),IntKind.i64.wrap (h4_0+IntKind.i64.wrap (Int.tdiv (IntKind.i64.wrap (h4_1 - h4_0)) 4)),IntKind.i64.wrap (h4_1 - IntKind.i64.wrap (Int.tdiv (IntKind.i64.wrap (h4_1 - h4_0)) 4)))
 else d)
 else d)
 else N (IntKind.i64.wrap (t47+1),h0,h1,h2,h3,h4_0,h4_1))))
 else K (h0,h1,h2,h3,h4_0,h4_1))
def F20_0 (t0 t3 t46 t47 h0 h1 h2:Int) (h3:List AV) (h4_0 h4_1:Int):Out ((Int × Int × Int × Int × (List AV) × Int × Int)) ((Int × Int × Int × (List AV) × Int × Int)):=G20_0 t0 t3 t46 t47 h0 h1 h2 h3 h4_0 h4_1 .next .stop .fail
def R20_0 (t0 t3 t46:Int):((Int × Int × Int × Int × (List AV) × Int × Int))→Out ((Int × Int × Int × Int × (List AV) × Int × Int)) ((Int × Int × Int × (List AV) × Int × Int)):=fun s:Int × Int × Int × Int × (List AV) × Int × Int=>F20_0 t0 t3 t46 s.1 s.2.1 s.2.2.1 s.2.2.2.1 s.2.2.2.2.1 s.2.2.2.2.2.1 s.2.2.2.2.2.2
def E20_0 (t0 t3 t46:Int):((Int × Int × Int × Int × (List AV) × Int × Int))→St:=fun s:Int × Int × Int × Int × (List AV) × Int × Int=>⟨[(0,Ai t0),(3,Ai t3),(6,AV.ptr [0,6] 0 0),(7,AV.ptr [0,7] 0 0),(11,AV.own [0,11]),(13,AV.ptr [0,13] 0 0),(14,AV.fn 52 [AV.ptr [0,0,14] 0 0,AV.ptr [0,6] 0 0,AV.ptr [0,7] 0 0]),(46,Ai t46),(47,Ai s.1)],[([0,0,14],⟨true,[],[Ai s.2.1]⟩),([0,6],⟨true,[],[Ai s.2.2.1]⟩),([0,7],⟨true,[],[Ai s.2.2.2.1]⟩),([0,11],⟨false,[.int .i64,.int .i64],s.2.2.2.2.1⟩),([0,13],⟨true,[],[AV.agg [Ai s.2.2.2.2.2.1,Ai s.2.2.2.2.2.2]]⟩)]⟩
def K20_0 (t0 t3 t46:Int) (k:Kont):((Int × Int × Int × (List AV) × Int × Int))→Option AV:=fun p:Int × Int × Int × (List AV) × Int × Int=>k (.exit 0) ⟨[(11,AV.own [0,11])],[([0,0,14],⟨true,[],[Ai p.1]⟩),([0,6],⟨true,[],[Ai p.2.1]⟩),([0,7],⟨true,[],[Ai p.2.2.1]⟩),([0,11],⟨false,[.int .i64,.int .i64],p.2.2.2.1⟩),([0,13],⟨true,[],[AV.agg [Ai p.2.2.2.2.1,Ai p.2.2.2.2.2]]⟩)]⟩
def l20_0:LModel:=fun _ _ st k=>match st with
 | ⟨[(0,.int .i64 t0),(3,.int .i64 t3),(6,.ptr g0 g1 g2),(7,.ptr g3 g4 g5),(11,.own g6),(13,.ptr g7 g8 g9),(14,.fn g10 [.ptr g11 g12 g13,.ptr g14 g15 g16,.ptr g17 g18 g19]),(46,.int .i64 t46),(47,.int .i64 t47)],[(g20,⟨true,[],[.int .i64 h0]⟩),(g21,⟨true,[],[.int .i64 h1]⟩),(g22,⟨true,[],[.int .i64 h2]⟩),(g23,⟨false,g24,h3⟩),(g25,⟨true,[],[.agg [.int .i64 h4_0,.int .i64 h4_1]]⟩)]⟩=>bif nmEq g0 ([0,6]) && Nat.beq g1 0 && Nat.beq g2 0 && nmEq g3 ([0,7]) && Nat.beq g4 0 && Nat.beq g5 0 && nmEq g6 ([0,11]) && nmEq g7 ([0,13]) && Nat.beq g8 0 && Nat.beq g9 0 && Nat.beq g10 52 && nmEq g11 ([0,0,14]) && Nat.beq g12 0 && Nat.beq g13 0 && nmEq g14 ([0,6]) && Nat.beq g15 0 && Nat.beq g16 0 && nmEq g17 ([0,7]) && Nat.beq g18 0 && Nat.beq g19 0 && nmEq g20 ([0,0,14]) && nmEq g21 ([0,6]) && nmEq g22 ([0,7]) && nmEq g23 ([0,11]) && ctsEq g24 ([.int .i64,.int .i64]) && nmEq g25 ([0,13]) then ro (runW (R20_0 t0 t3 t46) ((t46 - t47:Int).toNat+1) (t47,h0,h1,h2,h3,h4_0,h4_1)) none (K20_0 t0 t3 t46 k) else none
 | _=>none
noncomputable def c20:Cfg:=cfg Tryd.prog [(20,0,[0,3,6,7,11,13,14,46,47]),(20,999,[10]),(20,1000,[11]),(20,1001,[0,3,6,7,11,13,14,46,47]),(20,1002,[0,3,6,7,11,13,14,46,47])] [(51,m51)] [(52,.w m52)] [] [(20,0,l20_0)]
theorem s20_0 (t0 t3 t46:Int) (ce:CallE) (k:Kont) (s:Int × Int × Int × Int × (List AV) × Int × Int) (next:St→Option AV):stepA (codeA c20 ce [] 20 0 (sub [1,1,1,1,0,1,0,0] (body Tryd.f20))) (normA [] [0,3,6,7,11,13,14,46,47]) next ((E20_0 t0 t3 t46) s) k=G20_0 t0 t3 t46 s.1 s.2.1 s.2.2.1 s.2.2.2.1 s.2.2.2.2.1 s.2.2.2.2.2.1 s.2.2.2.2.2.2 (fun s=>next ((E20_0 t0 t3 t46) s)) (K20_0 t0 t3 t46 k) none:=by kernel_rfl
theorem st20_0 (t0 t3 t46:Int) (ce:CallE) (k:Kont) (s:(Int × Int × Int × Int × (List AV) × Int × Int)) (next:St→Option AV):stepA (codeA c20 ce [] 20 0 (sub [1,1,1,1,0,1,0,0] (body Tryd.f20))) (normA [] [0,3,6,7,11,13,14,46,47]) next ((E20_0 t0 t3 t46) s) k=(R20_0 t0 t3 t46 s).el none (fun s=>next ((E20_0 t0 t3 t46) s)) (K20_0 t0 t3 t46 k):=(s20_0 t0 t3 t46 ce k s next).trans (by unfold R20_0;unfold F20_0 G20_0;simp only [el_cond,el_ro,el_sum,el_fail,el_next,el_stop] <;> rfl)
theorem ok20_0 {ce:CallE}:LoopOK c20 ce [] 20 0 (sub [1,1,1,1,0,1,0,0] (body Tryd.f20)):=by
 intro m hm st k r h
 obtain rfl:l20_0=m:=Option.some.inj hm
 unfold l20_0 at h
 split at h
 ·rename_i t0 t3 g0 g1 g2 g3 g4 g5 g6 g7 g8 g9 g10 g11 g12 g13 g14 g15 g16 g17 g18 g19 t46 t47 g20 h0 g21 h1 g22 h2 g23 g24 h3 g25 h4_0 h4_1
  obtain ⟨hg,h⟩:=bif_some h
  simp only [Bool.and_eq_true] at hg
  obtain ⟨⟨⟨⟨⟨⟨⟨⟨⟨⟨⟨⟨⟨⟨⟨⟨⟨⟨⟨⟨⟨⟨⟨⟨⟨q0,q1⟩,q2⟩,q3⟩,q4⟩,q5⟩,q6⟩,q7⟩,q8⟩,q9⟩,q10⟩,q11⟩,q12⟩,q13⟩,q14⟩,q15⟩,q16⟩,q17⟩,q18⟩,q19⟩,q20⟩,q21⟩,q22⟩,q23⟩,q24⟩,q25⟩:=hg
  obtain rfl:=nE q0
  obtain rfl:=bE q1
  obtain rfl:=bE q2
  obtain rfl:=nE q3
  obtain rfl:=bE q4
  obtain rfl:=bE q5
  obtain rfl:=nE q6
  obtain rfl:=nE q7
  obtain rfl:=bE q8
  obtain rfl:=bE q9
  obtain rfl:=bE q10
  obtain rfl:=nE q11
  obtain rfl:=bE q12
  obtain rfl:=bE q13
  obtain rfl:=nE q14
  obtain rfl:=bE q15
  obtain rfl:=bE q16
  obtain rfl:=nE q17
  obtain rfl:=bE q18
  obtain rfl:=bE q19
  obtain rfl:=nE q20
  obtain rfl:=nE q21
  obtain rfl:=nE q22
  obtain rfl:=nE q23
  obtain rfl:=cE q24
  obtain rfl:=nE q25
  refine ⟨((t46 - t47:Int).toNat+1),?_⟩
  rw [← h]
  exact loop_run (E20_0 t0 t3 t46) (K20_0 t0 t3 t46 k) (st20_0 t0 t3 t46 ce k) _ (t47,h0,h1,h2,h3,h4_0,h4_1)
 ·cases h
def q20 (a0 a1 a2 a3 a4:Int):Bool:=(bif decide (a0<0) then true else (bif decide (a0 > 2) then true else (bif !(v51_0 a1 a2) then true else (bif decide (a3<0) then true else (bif decide (a3 > 30) then true else (ro (runW (R20_0 a0 a3 a3) ((a3 - 0:Int).toNat+1) (0,a4,a1,a2,([]:List AV),a1,a2)) false (fun p2=>true)))))))
def v20_0 (a0 a1 a2 a3 a4:Int):List AV:=(bif decide (a0<0) then ([]:List AV) else (bif decide (a0 > 2) then ([]:List AV) else (bif !(v51_0 a1 a2) then ([]:List AV) else (bif decide (a3<0) then ([]:List AV) else (bif decide (a3 > 30) then ([]:List AV) else (ro (runW (R20_0 a0 a3 a3) ((a3 - 0:Int).toNat+1) (0,a4,a1,a2,([]:List AV),a1,a2)) [] (fun p2=>p2.2.2.2.1)))))))
theorem e20 (a0 a1 a2 a3 a4:Int):funA c20 0 20 [Ai a0,Ai a1,Ai a2,Ai a3,Ai a4]=(bif decide (a0<0) then some (AV.fl [.int .i64,.int .i64] ([]:List AV))
 else (bif decide (a0 > 2) then some (AV.fl [.int .i64,.int .i64] ([]:List AV))
 else (bif !(v51_0 a1 a2) then some (AV.fl [.int .i64,.int .i64] ([]:List AV))
 else (bif decide (a3<0) then some (AV.fl [.int .i64,.int .i64] ([]:List AV))
 else (bif decide (a3 > 30) then some (AV.fl [.int .i64,.int .i64] ([]:List AV))
 else (ro (runW (R20_0 a0 a3 a3) ((a3 - 0:Int).toNat+1) (0,a4,a1,a2,([]:List AV),a1,a2)) none (fun p2=>some (AV.fl [.int .i64,.int .i64] p2.2.2.2.1)))))))):=by kernel_rfl
theorem r20 (a0 a1 a2 a3 a4:Int) (h:q20 a0 a1 a2 a3 a4=true):funA c20 0 20 [AV.int .i64 a0,AV.int .i64 a1,AV.int .i64 a2,AV.int .i64 a3,AV.int .i64 a4]=some (AV.fl [.int .i64,.int .i64] (v20_0 a0 a1 a2 a3 a4)):=by
 refine (e20 a0 a1 a2 a3 a4).trans ?_
 unfold q20 at h
 unfold v20_0
 refine ifG (fun hc=>?_) (fun hc=>?_) <;> first|rw [hc] at h ⊢|rw [hc] at h|rw [hc]|skip
 ·rfl
 ·refine ifG (fun hc=>?_) (fun hc=>?_) <;> first|rw [hc] at h ⊢|rw [hc] at h|rw [hc]|skip
  ·rfl
  ·refine ifG (fun hc=>?_) (fun hc=>?_) <;> first|rw [hc] at h ⊢|rw [hc] at h|rw [hc]|skip
   ·rfl
   ·refine ifG (fun hc=>?_) (fun hc=>?_) <;> first|rw [hc] at h ⊢|rw [hc] at h|rw [hc]|skip
    ·rfl
    ·refine ifG (fun hc=>?_) (fun hc=>?_) <;> first|rw [hc] at h ⊢|rw [hc] at h|rw [hc]|skip
     ·rfl
     ·refine roG (fun hc=>?_) (fun r hc=>?_) <;> first|rw [hc] at h ⊢|rw [hc] at h|rw [hc]|skip
      ·exact Bool.noConfusion h
      ·try simp only [ro] at h ⊢
       rfl
def m20:TModel
 | [.int .i64 a0,.int .i64 a1,.int .i64 a2,.int .i64 a3,.int .i64 a4]=>some (q20 a0 a1 a2 a3 a4,AV.fl [.int .i64,.int .i64] (v20_0 a0 a1 a2 a3 a4))
 | _=>none
theorem k20:Known Tryd.prog 20:=⟨Tryd.f20,Tryd.func20,by kernel_rfl,by kernel_rfl⟩
theorem meets20:Meets Tryd.prog 20 m20:=by
 refine mt (lvl:=0) (cf:=c20) rfl mixed k20 Tryd.func20 (by kernel_rfl) (loops_cons ok20_0 noLoop) (allT_cons meets51 allT_nil) (allM_cons meets52 allM_nil) noI fun xs r h=>?_
 unfold m20 at h
 split at h
 ·rename_i a0 a1 a2 a3 a4
  obtain ⟨h1,rfl⟩:=pair_inj h
  exact r20 a0 a1 a2 a3 a4 h1
 ·cases h
noncomputable def c38:Cfg:=cfg Tryd.prog [(38,999,[6])] [] [] [] []
def v38_0 (a0 a1 a2:Int):Bool:=(bif decide (a0 ≥ a1) then decide (a0≤a2) else false)
theorem e38 (a0 a1 a2:Int):funA c38 0 38 [Ai a0,Ai a1,Ai a2]=(bif decide (a0 ≥ a1) then some (AV.bool (decide (a0≤a2)))
 else some (AV.bool false)):=by kernel_rfl
def m38:TModel
 | [.int .i64 a0,.int .i64 a1,.int .i64 a2]=>some (true,AV.bool (v38_0 a0 a1 a2))
 | _=>none
theorem k38:Known Tryd.prog 38:=⟨Tryd.f38,Tryd.func38,by kernel_rfl,by kernel_rfl⟩
theorem meets38:Meets Tryd.prog 38 m38:=by
 refine mt (lvl:=0) (cf:=c38) rfl mixed k38 Tryd.func38 (by kernel_rfl) noLoop allT_nil allM_nil noI fun xs r h=>?_
 unfold m38 at h
 split at h
 ·rename_i a0 a1 a2
  obtain ⟨h1,rfl⟩:=pair_inj h
  exact (e38 a0 a1 a2).trans (of_tt (brT (fun b=>some (AV.bool (bif b then decide (a0≤a2) else false))) (fun _=>rfl) (fun _=>rfl)))
 ·cases h
noncomputable def c54:Cfg:=cfg Tryd.prog [(54,999,[2])] [] [] [] []
def q54 (a0:Int):Bool:=(!decide (10007=0) && (!decide (10007=0) && !decide (10007=0)))
def v54_0 (a0:Int):Int:=Int.tmod (IntKind.i64.wrap (IntKind.i64.wrap (Int.tmod (IntKind.i64.wrap (Int.tmod a0 10007+10007)) 10007*1103)+2345)) 10007
theorem e54 (a0:Int):funA c54 0 54 [Ai a0]=(bif !decide (10007=0) then (bif !decide (10007=0) then (bif !decide (10007=0) then some (Ai (Int.tmod (IntKind.i64.wrap (IntKind.i64.wrap (Int.tmod (IntKind.i64.wrap (Int.tmod a0 10007+10007)) 10007*1103)+2345)) 10007))
 else none)
 else none)
 else none):=by kernel_rfl
def m54:TModel
 | [.int .i64 a0]=>some (q54 a0,AV.int .i64 (v54_0 a0))
 | _=>none
theorem k54:Known Tryd.prog 54:=⟨Tryd.f54,Tryd.func54,by kernel_rfl,by kernel_rfl⟩
theorem meets54:Meets Tryd.prog 54 m54:=by
 refine mt (lvl:=0) (cf:=c54) rfl mixed k54 Tryd.func54 (by kernel_rfl) noLoop allT_nil allM_nil noI fun xs r h=>?_
 unfold m54 at h
 split at h
 ·rename_i a0
  obtain ⟨h1,rfl⟩:=pair_inj h
  exact (e54 a0).trans ((brL (brL (brL1 (fun _=>rfl)))) h1)
 ·cases h
def G21_0 {β:Type} (t0:Int) (t1:Int) (t2:Int) (t3:Int) (t12:Int) (t13:Int) (t14:Int) (t15:Int) (h0:List AV) (N:((Int × Int × Int × Int × (List AV)))→β) (K:(((List AV)))→β) (d:β):β:=by
 refine (?f0:Int→β) (v54_0 t12);intro x1
 exact (bif decide (t15<t3) then (bif decide (t0=0) then (bif q54 t12 then (bif !decide (IntKind.i64.wrap (IntKind.i64.wrap (t2 - t1)+1)=0) then (bif q54 x1 then (bif !decide (IntKind.i64.wrap (IntKind.i64.wrap (t2 - t1)+1)=0) then (bif (decide ((h0.length+([AV.agg [AV.int .i64 (if IntKind.i64.wrap (t1+Int.tmod (v54_0 x1) (IntKind.i64.wrap (IntKind.i64.wrap (t2 - t1)+1)))<IntKind.i64.wrap (t1+Int.tmod x1 (IntKind.i64.wrap (IntKind.i64.wrap (t2 - t1)+1))) then IntKind.i64.wrap (t1+Int.tmod (v54_0 x1) (IntKind.i64.wrap (IntKind.i64.wrap (t2 - t1)+1))) else IntKind.i64.wrap (t1+Int.tmod x1 (IntKind.i64.wrap (IntKind.i64.wrap (t2 - t1)+1)))),AV.int .i64 (if IntKind.i64.wrap (t1+Int.tmod (v54_0 x1) (IntKind.i64.wrap (IntKind.i64.wrap (t2 - t1)+1))) > IntKind.i64.wrap (t1+Int.tmod x1 (IntKind.i64.wrap (IntKind.i64.wrap (t2 - t1)+1))) then IntKind.i64.wrap (t1+Int.tmod (v54_0 x1) (IntKind.i64.wrap (IntKind.i64.wrap (t2 - t1)+1))) else IntKind.i64.wrap (t1+Int.tmod x1 (IntKind.i64.wrap (IntKind.i64.wrap (t2 - t1)+1))))]]).length)*16≤140737488355328) && decide ((h0.length+([AV.agg [AV.int .i64 (if IntKind.i64.wrap (t1+Int.tmod (v54_0 x1) (IntKind.i64.wrap (IntKind.i64.wrap (t2 - t1)+1)))<IntKind.i64.wrap (t1+Int.tmod x1 (IntKind.i64.wrap (IntKind.i64.wrap (t2 - t1)+1))) then IntKind.i64.wrap (t1+Int.tmod (v54_0 x1) (IntKind.i64.wrap (IntKind.i64.wrap (t2 - t1)+1))) else IntKind.i64.wrap (t1+Int.tmod x1 (IntKind.i64.wrap (IntKind.i64.wrap (t2 - t1)+1)))),AV.int .i64 (if IntKind.i64.wrap (t1+Int.tmod (v54_0 x1) (IntKind.i64.wrap (IntKind.i64.wrap (t2 - t1)+1))) > IntKind.i64.wrap (t1+Int.tmod x1 (IntKind.i64.wrap (IntKind.i64.wrap (t2 - t1)+1))) then IntKind.i64.wrap (t1+Int.tmod (v54_0 x1) (IntKind.i64.wrap (IntKind.i64.wrap (t2 - t1)+1))) else IntKind.i64.wrap (t1+Int.tmod x1 (IntKind.i64.wrap (IntKind.i64.wrap (t2 - t1)+1))))]]).length)≤140737488355328)) then N ((v54_0 x1),t13,t14,IntKind.i64.wrap (t15+1),h0++([AV.agg [AV.int .i64 (if IntKind.i64.wrap (t1+Int.tmod (v54_0 x1) (IntKind.i64.wrap (IntKind.i64.wrap (t2 - t1)+1)))<IntKind.i64.wrap (t1+Int.tmod x1 (IntKind.i64.wrap (IntKind.i64.wrap (t2 - t1)+1))) then IntKind.i64.wrap (t1+Int.tmod (v54_0 x1) (IntKind.i64.wrap (IntKind.i64.wrap (t2 - t1)+1))) else IntKind.i64.wrap (t1+Int.tmod x1 (IntKind.i64.wrap (IntKind.i64.wrap (t2 - t1)+1)))),AV.int .i64 (if IntKind.i64.wrap (t1+Int.tmod (v54_0 x1) (IntKind.i64.wrap (IntKind.i64.wrap (t2 - t1)+1))) > IntKind.i64.wrap (t1+Int.tmod x1 (IntKind.i64.wrap (IntKind.i64.wrap (t2 - t1)+1))) then IntKind.i64.wrap (t1+Int.tmod (v54_0 x1) (IntKind.i64.wrap (IntKind.i64.wrap (t2 - t1)+1))) else IntKind.i64.wrap (t1+Int.tmod x1 (IntKind.i64.wrap (IntKind.i64.wrap (t2 - t1)+1))))]]))
 else d)
 else d)
 else d)
 else d)
 else d)
 else (bif decide (t0=1) then (bif !decide (t3=0) then (bif !decide (t3=0) then (bif (decide ((h0.length+([AV.agg [AV.int .i64 (IntKind.i64.wrap (t1+IntKind.i64.wrap (Int.tdiv (IntKind.i64.wrap (IntKind.i64.wrap (t2 - t1)*t15)) t3))),AV.int .i64 (IntKind.i64.wrap (t1+IntKind.i64.wrap (Int.tdiv (IntKind.i64.wrap (IntKind.i64.wrap (t2 - t1)*IntKind.i64.wrap (t15+1))) t3)))]]).length)*16≤140737488355328) && decide ((h0.length+([AV.agg [AV.int .i64 (IntKind.i64.wrap (t1+IntKind.i64.wrap (Int.tdiv (IntKind.i64.wrap (IntKind.i64.wrap (t2 - t1)*t15)) t3))),AV.int .i64 (IntKind.i64.wrap (t1+IntKind.i64.wrap (Int.tdiv (IntKind.i64.wrap (IntKind.i64.wrap (t2 - t1)*IntKind.i64.wrap (t15+1))) t3)))]]).length)≤140737488355328)) then N (t12,t13,t14,IntKind.i64.wrap (t15+1),h0++([AV.agg [AV.int .i64 (IntKind.i64.wrap (t1+IntKind.i64.wrap (Int.tdiv (IntKind.i64.wrap (IntKind.i64.wrap (t2 - t1)*t15)) t3))),AV.int .i64 (IntKind.i64.wrap (t1+IntKind.i64.wrap (Int.tdiv (IntKind.i64.wrap (IntKind.i64.wrap (t2 - t1)*IntKind.i64.wrap (t15+1))) t3)))]]))
 else d)
 else d)
 else d)
 else (bif (decide ((h0.length+([AV.agg [AV.int .i64 t13,AV.int .i64 t14]]).length)*16≤140737488355328) && decide ((h0.length+([AV.agg [AV.int .i64 t13,AV.int .i64 t14]]).length)≤140737488355328)) then (bif !decide (4=0) then N (t12,IntKind.i64.wrap (t13+IntKind.i64.wrap (Int.tdiv (IntKind.i64.wrap (t14 - t13)) 4)),IntKind.i64.wrap (t14 - IntKind.i64.wrap (Int.tdiv (IntKind.i64.wrap (t14 - t13)) 4)),IntKind.i64.wrap (t15+1),h0++([AV.agg [AV.int .i64 t13,AV.int .i64 t14]]))
 else d)
 else d)))
 else K h0)
def F21_0 (t0 t1 t2 t3 t12 t13 t14 t15:Int) (h0:List AV):Out ((Int × Int × Int × Int × (List AV))) (((List AV))):=G21_0 t0 t1 t2 t3 t12 t13 t14 t15 h0 .next .stop .fail
def R21_0 (t0 t1 t2 t3:Int):((Int × Int × Int × Int × (List AV)))→Out ((Int × Int × Int × Int × (List AV))) (((List AV))):=fun s:Int × Int × Int × Int × (List AV)=>F21_0 t0 t1 t2 t3 s.1 s.2.1 s.2.2.1 s.2.2.2.1 s.2.2.2.2
def E21_0 (t0 t1 t2 t3:Int):((Int × Int × Int × Int × (List AV)))→St:=fun s:Int × Int × Int × Int × (List AV)=>⟨[(0,Ai t0),(1,Ai t1),(2,Ai t2),(3,Ai t3),(11,AV.own [0,11]),(12,Ai s.1),(13,Ai s.2.1),(14,Ai s.2.2.1),(15,Ai s.2.2.2.1)],[([0,11],⟨false,[.int .i64,.int .i64],s.2.2.2.2⟩)]⟩
def K21_0 (t0 t1 t2 t3:Int) (k:Kont):(((List AV)))→Option AV:=fun p:(List AV)=>k (.exit 0) ⟨[(11,AV.own [0,11])],[([0,11],⟨false,[.int .i64,.int .i64],p⟩)]⟩
def l21_0:LModel:=fun _ _ st k=>match st with
 | ⟨[(0,.int .i64 t0),(1,.int .i64 t1),(2,.int .i64 t2),(3,.int .i64 t3),(11,.own g0),(12,.int .i64 t12),(13,.int .i64 t13),(14,.int .i64 t14),(15,.int .i64 t15)],[(g1,⟨false,g2,h0⟩)]⟩=>bif nmEq g0 ([0,11]) && nmEq g1 ([0,11]) && ctsEq g2 ([.int .i64,.int .i64]) then ro (runW (R21_0 t0 t1 t2 t3) ((t3 - t15:Int).toNat+1) (t12,t13,t14,t15,h0)) none (K21_0 t0 t1 t2 t3 k) else none
 | _=>none
noncomputable def c21:Cfg:=cfg Tryd.prog [(21,0,[0,1,2,3,11,12,13,14,15]),(21,999,[10]),(21,1000,[11]),(21,1001,[0,1,2,3,11,12,13,14,15]),(21,1002,[0,1,2,3,11,12,13,14,15])] [(38,m38),(54,m54)] [] [] [(21,0,l21_0)]
theorem s21_0 (t0 t1 t2 t3:Int) (ce:CallE) (k:Kont) (s:Int × Int × Int × Int × (List AV)) (next:St→Option AV):stepA (codeA c21 ce [] 21 0 (sub [1,1,1,1,1,1,0,1,0,0] (body Tryd.f21))) (normA [] [0,1,2,3,11,12,13,14,15]) next ((E21_0 t0 t1 t2 t3) s) k=G21_0 t0 t1 t2 t3 s.1 s.2.1 s.2.2.1 s.2.2.2.1 s.2.2.2.2 (fun s=>next ((E21_0 t0 t1 t2 t3) s)) (K21_0 t0 t1 t2 t3 k) none:=by kernel_rfl
theorem st21_0 (t0 t1 t2 t3:Int) (ce:CallE) (k:Kont) (s:(Int × Int × Int × Int × (List AV))) (next:St→Option AV):stepA (codeA c21 ce [] 21 0 (sub [1,1,1,1,1,1,0,1,0,0] (body Tryd.f21))) (normA [] [0,1,2,3,11,12,13,14,15]) next ((E21_0 t0 t1 t2 t3) s) k=(R21_0 t0 t1 t2 t3 s).el none (fun s=>next ((E21_0 t0 t1 t2 t3) s)) (K21_0 t0 t1 t2 t3 k):=(s21_0 t0 t1 t2 t3 ce k s next).trans (by unfold R21_0;unfold F21_0 G21_0;simp only [el_cond,el_ro,el_sum,el_fail,el_next,el_stop] <;> rfl)
theorem ok21_0 {ce:CallE}:LoopOK c21 ce [] 21 0 (sub [1,1,1,1,1,1,0,1,0,0] (body Tryd.f21)):=by
 intro m hm st k r h
 obtain rfl:l21_0=m:=Option.some.inj hm
 unfold l21_0 at h
 split at h
 ·rename_i t0 t1 t2 t3 g0 t12 t13 t14 t15 g1 g2 h0
  obtain ⟨hg,h⟩:=bif_some h
  simp only [Bool.and_eq_true] at hg
  obtain ⟨⟨q0,q1⟩,q2⟩:=hg
  obtain rfl:=nE q0
  obtain rfl:=nE q1
  obtain rfl:=cE q2
  refine ⟨((t3 - t15:Int).toNat+1),?_⟩
  rw [← h]
  exact loop_run (E21_0 t0 t1 t2 t3) (K21_0 t0 t1 t2 t3 k) (st21_0 t0 t1 t2 t3 ce k) _ (t12,t13,t14,t15,h0)
 ·cases h
def q21 (a0 a1 a2 a3 a4:Int):Bool:=(bif !(v38_0 a0 0 2) then true else (bif !(v38_0 a1 (-1000) 1000) then true else (bif !(v38_0 a2 a1 1000) then true else (bif !(v38_0 a3 0 30) then true else (ro (runW (R21_0 a0 a1 a2 a3) ((a3 - 0:Int).toNat+1) (a4,a1,a2,0,([]:List AV))) false (fun p3=>true))))))
def v21_0 (a0 a1 a2 a3 a4:Int):List AV:=(bif !(v38_0 a0 0 2) then ([]:List AV) else (bif !(v38_0 a1 (-1000) 1000) then ([]:List AV) else (bif !(v38_0 a2 a1 1000) then ([]:List AV) else (bif !(v38_0 a3 0 30) then ([]:List AV) else (ro (runW (R21_0 a0 a1 a2 a3) ((a3 - 0:Int).toNat+1) (a4,a1,a2,0,([]:List AV))) [] (fun p3=>p3))))))
theorem e21 (a0 a1 a2 a3 a4:Int):funA c21 0 21 [Ai a0,Ai a1,Ai a2,Ai a3,Ai a4]=(bif !(v38_0 a0 0 2) then some (AV.fl [.int .i64,.int .i64] ([]:List AV))
 else (bif !(v38_0 a1 (-1000) 1000) then some (AV.fl [.int .i64,.int .i64] ([]:List AV))
 else (bif !(v38_0 a2 a1 1000) then some (AV.fl [.int .i64,.int .i64] ([]:List AV))
 else (bif !(v38_0 a3 0 30) then some (AV.fl [.int .i64,.int .i64] ([]:List AV))
 else (ro (runW (R21_0 a0 a1 a2 a3) ((a3 - 0:Int).toNat+1) (a4,a1,a2,0,([]:List AV))) none (fun p3=>some (AV.fl [.int .i64,.int .i64] p3))))))):=by kernel_rfl
def m21:TModel
 | [.int .i64 a0,.int .i64 a1,.int .i64 a2,.int .i64 a3,.int .i64 a4]=>some (q21 a0 a1 a2 a3 a4,AV.fl [.int .i64,.int .i64] (v21_0 a0 a1 a2 a3 a4))
 | _=>none
theorem k21:Known Tryd.prog 21:=⟨Tryd.f21,Tryd.func21,by kernel_rfl,by kernel_rfl⟩
theorem meets21:Meets Tryd.prog 21 m21:=by
 refine mt (lvl:=0) (cf:=c21) rfl mixed k21 Tryd.func21 (by kernel_rfl) (loops_cons ok21_0 noLoop) (allT_cons meets38 (allT_cons meets54 allT_nil)) allM_nil noI fun xs r h=>?_
 unfold m21 at h
 split at h
 ·rename_i a0 a1 a2 a3 a4
  obtain ⟨h1,rfl⟩:=pair_inj h
  exact (e21 a0 a1 a2 a3 a4).trans ((br (fun b=>some (AV.fl [.int .i64,.int .i64] (bif b then ([]:List AV) else (bif !(v38_0 a1 (-1000) 1000) then ([]:List AV) else (bif !(v38_0 a2 a1 1000) then ([]:List AV) else (bif !(v38_0 a3 0 30) then ([]:List AV) else (ro (runW (R21_0 a0 a1 a2 a3) ((a3 - 0:Int).toNat+1) (a4,a1,a2,0,([]:List AV))) [] (fun p3=>p3)))))))) (fun _=>rfl) (br (fun b=>some (AV.fl [.int .i64,.int .i64] (bif b then ([]:List AV) else (bif !(v38_0 a2 a1 1000) then ([]:List AV) else (bif !(v38_0 a3 0 30) then ([]:List AV) else (ro (runW (R21_0 a0 a1 a2 a3) ((a3 - 0:Int).toNat+1) (a4,a1,a2,0,([]:List AV))) [] (fun p3=>p3))))))) (fun _=>rfl) (br (fun b=>some (AV.fl [.int .i64,.int .i64] (bif b then ([]:List AV) else (bif !(v38_0 a3 0 30) then ([]:List AV) else (ro (runW (R21_0 a0 a1 a2 a3) ((a3 - 0:Int).toNat+1) (a4,a1,a2,0,([]:List AV))) [] (fun p3=>p3)))))) (fun _=>rfl) (br (fun b=>some (AV.fl [.int .i64,.int .i64] (bif b then ([]:List AV) else (ro (runW (R21_0 a0 a1 a2 a3) ((a3 - 0:Int).toNat+1) (a4,a1,a2,0,([]:List AV))) [] (fun p3=>p3))))) (fun _=>rfl) (brO (fun o:Option (((List AV)))=>some (AV.fl [.int .i64,.int .i64] (ro o [] (fun p3=>p3)))) (fun p3=>(fun _=>rfl))))))) h1)
 ·cases h
noncomputable def c22:Cfg:=cfg Tryd.prog [(22,999,[2])] [(38,m38)] [] [] []
def q22 (xa xb:Int):Bool:=true
def v22_0 (xa xb:Int):Bool:=(bif (v38_0 xa (-1000) 1000) then (v38_0 xb xa 1000) else false)
theorem e22 (xa xb:Int):funA c22 0 22 [AV.agg [Ai xa,Ai xb]]=(bif (v38_0 xa (-1000) 1000) then some (AV.bool (v38_0 xb xa 1000))
 else some (AV.bool false)):=by kernel_rfl
def m22:TModel
 | [.agg [.int .i64 xa,.int .i64 xb]]=>some (true,AV.bool (v22_0 xa xb))
 | _=>none
theorem k22:Known Tryd.prog 22:=⟨Tryd.f22,Tryd.func22,by kernel_rfl,by kernel_rfl⟩
theorem meets22:Meets Tryd.prog 22 m22:=by
 refine mt (lvl:=0) (cf:=c22) rfl mixed k22 Tryd.func22 (by kernel_rfl) noLoop (allT_cons meets38 allT_nil) allM_nil noI fun xs r h=>?_
 unfold m22 at h
 split at h
 ·rename_i xa xb
  obtain ⟨h1,rfl⟩:=pair_inj h
  exact (e22 xa xb).trans (of_tt (brT (fun b=>some (AV.bool (bif b then (v38_0 xb xa 1000) else false))) (fun _=>rfl) (fun _=>rfl)))
 ·cases h
noncomputable def c76:Cfg:=cfg Tryd.prog [(76,999,[2])] [(51,m51)] [] [] []
def v76_0 (xa xb:Int):Bool := !(v51_0 xa xb)
theorem e76 (xa xb:Int):funA c76 0 76 [AV.agg [Ai xa,Ai xb]]=some (AV.bool (!(v51_0 xa xb))):=by kernel_rfl
def m76:TModel
 | [.agg [.int .i64 xa,.int .i64 xb]]=>some (true,AV.bool (v76_0 xa xb))
 | _=>none
theorem k76:Known Tryd.prog 76:=⟨Tryd.f76,Tryd.func76,by kernel_rfl,by kernel_rfl⟩
theorem meets76:Meets Tryd.prog 76 m76:=by
 refine mt (lvl:=0) (cf:=c76) rfl mixed k76 Tryd.func76 (by kernel_rfl) noLoop (allT_cons meets51 allT_nil) allM_nil noI fun xs r h=>?_
 unfold m76 at h
 split at h
 ·rename_i xa xb
  obtain ⟨h1,rfl⟩:=pair_inj h
  exact (e76 xa xb).trans (of_tt (fun _=>rfl))
 ·cases h
def G91_0 {β:Type} (t0:List AV) (t7:Int) (t8:Int) (N:(Int)→β) (K:(Unit ⊕ Int)→β) (d:β):β:=(bif decide (t8<t7) then (bif (decide (0≤t8) && decide (t8<(t0.length:Int))) then (bif (v76_0 (fI (t0.getD t8.toNat .undef) 0) (fI (t0.getD t8.toNat .undef) 1)) then K (.inr t8)
 else N (IntKind.i64.wrap (t8+1)))
 else d)
 else K (.inl ()))
def F91_0 (t0:List AV) (t7 t8:Int):Out (Int) (Unit ⊕ Int):=G91_0 t0 t7 t8 .next .stop .fail
def R91_0 (t0:List AV) (t7:Int):(Int)→Out (Int) (Unit ⊕ Int):=fun s:Int=>F91_0 t0 t7 s
def E91_0 (t0:List AV) (t7:Int):(Int)→St:=fun s:Int=>⟨[(0,AV.sl [.int .i64,.int .i64] t0),(1,AV.fn 76 []),(7,Ai t7),(8,Ai s)],[]⟩
def K91_0 (t0:List AV) (t7:Int) (k:Kont):(Unit ⊕ Int)→Option AV:=sumE (fun _:Unit=>k (.exit 0) ⟨[],[]⟩) (fun p:Int=>k .ret ⟨[(4,Ai p)],[]⟩)
def l91_0:LModel:=fun _ _ st k=>match st with
 | ⟨[(0,.sl g0 t0),(1,.fn g1 []),(7,.int .i64 t7),(8,.int .i64 t8)],[]⟩=>bif ctsEq g0 ([.int .i64,.int .i64]) && Nat.beq g1 76 then ro (runW (R91_0 t0 t7) ((t7 - t8:Int).toNat+1) t8) none (K91_0 t0 t7 k) else none
 | _=>none
noncomputable def c91:Cfg:=cfg Tryd.prog [(91,0,[0,1,7,8]),(91,999,[4]),(91,1000,[]),(91,1001,[0,1,7,8])] [(76,m76)] [] [] [(91,0,l91_0)]
theorem s91_0 (t0:List AV) (t7:Int) (ce:CallE) (k:Kont) (s:Int) (next:St→Option AV):stepA (codeA c91 ce [] 91 0 (sub [1,0,1,0,0] (body Tryd.f91))) (normA [] [0,1,7,8]) next ((E91_0 t0 t7) s) k=G91_0 t0 t7 s (fun s=>next ((E91_0 t0 t7) s)) (K91_0 t0 t7 k) none:=by kernel_rfl
theorem st91_0 (t0:List AV) (t7:Int) (ce:CallE) (k:Kont) (s:Int) (next:St→Option AV):stepA (codeA c91 ce [] 91 0 (sub [1,0,1,0,0] (body Tryd.f91))) (normA [] [0,1,7,8]) next ((E91_0 t0 t7) s) k=(R91_0 t0 t7 s).el none (fun s=>next ((E91_0 t0 t7) s)) (K91_0 t0 t7 k):=(s91_0 t0 t7 ce k s next).trans (by unfold R91_0;unfold F91_0 G91_0;simp only [el_cond,el_ro,el_sum,el_fail,el_next,el_stop] <;> rfl)
theorem ok91_0 {ce:CallE}:LoopOK c91 ce [] 91 0 (sub [1,0,1,0,0] (body Tryd.f91)):=by
 intro m hm st k r h
 obtain rfl:l91_0=m:=Option.some.inj hm
 unfold l91_0 at h
 split at h
 ·rename_i g0 t0 g1 t7 t8
  obtain ⟨hg,h⟩:=bif_some h
  simp only [Bool.and_eq_true] at hg
  obtain ⟨q0,q1⟩:=hg
  obtain rfl:=cE q0
  obtain rfl:=bE q1
  refine ⟨((t7 - t8:Int).toNat+1),?_⟩
  rw [← h]
  exact loop_run (E91_0 t0 t7) (K91_0 t0 t7 k) (st91_0 t0 t7 ce k) _ t8
 ·cases h
def q91 (a0:List AV):Bool:=(ro (runW (R91_0 a0 (a0.length:Int)) (((a0.length:Int) - 0:Int).toNat+1) 0) false (sumE (fun _=>true) (fun p6=>true)))
def v91_0 (a0:List AV):Int:=(ro (runW (R91_0 a0 (a0.length:Int)) (((a0.length:Int) - 0:Int).toNat+1) 0) 0 (sumE (fun _=>(-1)) (fun p6=>p6)))
theorem e91 (a0:List AV):funA c91 0 91 [AV.sl [.int .i64,.int .i64] a0,AV.fn 76 []]=(ro (runW (R91_0 a0 (a0.length:Int)) (((a0.length:Int) - 0:Int).toNat+1) 0) none (sumE (fun _=>some (Ai (-1))) (fun p6=>some (Ai p6)))):=by kernel_rfl
def m91:TModel
 | [.sl g0 a0,.fn g1 []]=>bif ctsEq g0 ([.int .i64,.int .i64]) && Nat.beq g1 76 then some (q91 a0,AV.int .i64 (v91_0 a0)) else none
 | _=>none
theorem k91:Known Tryd.prog 91:=⟨Tryd.f91,Tryd.func91,by kernel_rfl,by kernel_rfl⟩
theorem meets91:Meets Tryd.prog 91 m91:=by
 refine mt (lvl:=0) (cf:=c91) rfl mixed k91 Tryd.func91 (by kernel_rfl) (loops_cons ok91_0 noLoop) (allT_cons meets76 allT_nil) allM_nil noI fun xs r h=>?_
 unfold m91 at h
 split at h
 ·rename_i g0 a0 g1
  obtain ⟨hg,h⟩:=bif_pair h
  simp only [Bool.and_eq_true] at hg
  obtain ⟨q0,q1⟩:=hg
  obtain rfl:=cE q0
  obtain rfl:=bE q1
  obtain ⟨h1,rfl⟩:=pair_inj h
  exact (e91 a0).trans ((brO (fun o:Option (Unit ⊕ Int)=>some (Ai (ro o 0 (sumE (fun _=>(-1)) (fun p6=>p6))))) (brS (fun o:Unit ⊕ Int=>some (Ai ((sumE (fun _=>(-1)) (fun p6=>p6)) o))) (fun _=>(fun _=>rfl)) (fun p6=>(fun _=>rfl)))) h1)
 ·cases h
noncomputable def c75:Cfg:=cfg Tryd.prog [(75,999,[4])] [(91,m91)] [] [] []
def q75 (a0:List AV):Bool:=q91 a0
def v75_0 (a0:List AV):Bool:=decide ((v91_0 a0) ≥ 0)
theorem e75 (a0:List AV):funA c75 0 75 [AV.sl [.int .i64,.int .i64] a0,AV.fn 76 []]=(bif q91 a0 then some (AV.bool (decide ((v91_0 a0) ≥ 0)))
 else none):=by kernel_rfl
def m75:TModel
 | [.sl g0 a0,.fn g1 []]=>bif ctsEq g0 ([.int .i64,.int .i64]) && Nat.beq g1 76 then some (q75 a0,AV.bool (v75_0 a0)) else none
 | _=>none
theorem k75:Known Tryd.prog 75:=⟨Tryd.f75,Tryd.func75,by kernel_rfl,by kernel_rfl⟩
theorem meets75:Meets Tryd.prog 75 m75:=by
 refine mt (lvl:=0) (cf:=c75) rfl mixed k75 Tryd.func75 (by kernel_rfl) noLoop (allT_cons meets91 allT_nil) allM_nil noI fun xs r h=>?_
 unfold m75 at h
 split at h
 ·rename_i g0 a0 g1
  obtain ⟨hg,h⟩:=bif_pair h
  simp only [Bool.and_eq_true] at hg
  obtain ⟨q0,q1⟩:=hg
  obtain rfl:=cE q0
  obtain rfl:=bE q1
  obtain ⟨h1,rfl⟩:=pair_inj h
  exact (e75 a0).trans ((brL1 (fun _=>rfl)) h1)
 ·cases h
noncomputable def c55:Cfg:=cfg Tryd.prog [(55,999,[2])] [(75,m75)] [] [] []
def q55 (a0:List AV):Bool:=(bif decide ((a0.length:Int)≤30) then q75 a0 else true)
def v55_0 (a0:List AV):Bool:=(bif decide ((a0.length:Int)≤30) then !(v75_0 a0) else false)
theorem e55 (a0:List AV):funA c55 0 55 [AV.sl [.int .i64,.int .i64] a0]=(bif decide ((a0.length:Int)≤30) then (bif q75 a0 then some (AV.bool (!(v75_0 a0)))
 else none)
 else some (AV.bool false)):=by kernel_rfl
def m55:TModel
 | [.sl g0 a0]=>bif ctsEq g0 ([.int .i64,.int .i64]) then some (q55 a0,AV.bool (v55_0 a0)) else none
 | _=>none
theorem k55:Known Tryd.prog 55:=⟨Tryd.f55,Tryd.func55,by kernel_rfl,by kernel_rfl⟩
theorem meets55:Meets Tryd.prog 55 m55:=by
 refine mt (lvl:=0) (cf:=c55) rfl mixed k55 Tryd.func55 (by kernel_rfl) noLoop (allT_cons meets75 allT_nil) allM_nil noI fun xs r h=>?_
 unfold m55 at h
 split at h
 ·rename_i g0 a0
  obtain ⟨hg,h⟩:=bif_pair h
  have q0:=hg
  obtain rfl:=cE q0
  obtain ⟨h1,rfl⟩:=pair_inj h
  exact (e55 a0).trans ((br (fun b=>some (AV.bool (bif b then !(v75_0 a0) else false))) (brL1 (fun _=>rfl)) (fun _=>rfl)) h1)
 ·cases h
def q67 (a0:Int):Bool:=decide (-9223372036854775808≤a0) && decide (a0≤9223372036854775807)
def v67_0 (a0:Int):ByteArray:=itoaB a0
def m67:TModel:=itoaM
theorem k67:Known Tryd.prog 67:=⟨Tryd.f67,Tryd.func67,by kernel_rfl,by kernel_rfl⟩
theorem meets67:Meets Tryd.prog 67 m67:=itoa_meets ⟨k67,fun n w h0 h1 hG=>Any.strconv_Itoa lays171 n h0 h1 w (show GOk w from hG).tab⟩
noncomputable def c41:Cfg:=cfg Tryd.prog [(41,999,[2])] [(67,m67)] [] [] []
def q41 (a0:Int):Bool:=q67 a0
def v41_0 (a0:Int):ByteArray:=(v67_0 a0)
theorem e41 (a0:Int):funA c41 0 41 [Ai a0]=(bif q67 a0 then some (AV.str (v67_0 a0))
 else none):=by kernel_rfl
def m41:TModel
 | [.int .i64 a0]=>some (q41 a0,AV.str (v41_0 a0))
 | _=>none
theorem k41:Known Tryd.prog 41:=⟨Tryd.f41,Tryd.func41,by kernel_rfl,by kernel_rfl⟩
theorem meets41:Meets Tryd.prog 41 m41:=by
 refine mt (lvl:=0) (cf:=c41) rfl mixed k41 Tryd.func41 (by kernel_rfl) noLoop (allT_cons meets67 allT_nil) allM_nil noI fun xs r h=>?_
 unfold m41 at h
 split at h
 ·rename_i a0
  obtain ⟨h1,rfl⟩:=pair_inj h
  exact (e41 a0).trans ((brL1 (fun _=>rfl)) h1)
 ·cases h
noncomputable def c56:Cfg:=cfg Tryd.prog [(56,999,[2])] [(41,m41),(51,m51)] [] [] []
def q56 (xa xb:Int):Bool:=(bif !(v51_0 xa xb) then true else (q41 xa && (decide ((v41_0 xa).size+(ByteArray.mk #[46,46]).size≤4611686018427387904) && (q41 xb && decide (((v41_0 xa)++(ByteArray.mk #[46,46])).size+(v41_0 xb).size≤4611686018427387904)))))
def v56_0 (xa xb:Int):ByteArray:=(bif !(v51_0 xa xb) then ByteArray.empty else ((v41_0 xa)++(ByteArray.mk #[46,46]))++(v41_0 xb))
theorem e56 (xa xb:Int):funA c56 0 56 [AV.agg [Ai xa,Ai xb]]=(bif !(v51_0 xa xb) then some (AV.str ByteArray.empty)
 else (bif q41 xa then (bif decide ((v41_0 xa).size+(ByteArray.mk #[46,46]).size≤4611686018427387904) then (bif q41 xb then (bif decide (((v41_0 xa)++(ByteArray.mk #[46,46])).size+(v41_0 xb).size≤4611686018427387904) then some (AV.str (((v41_0 xa)++(ByteArray.mk #[46,46]))++(v41_0 xb)))
 else none)
 else none)
 else none)
 else none)):=by kernel_rfl
def m56:TModel
 | [.agg [.int .i64 xa,.int .i64 xb]]=>some (q56 xa xb,AV.str (v56_0 xa xb))
 | _=>none
theorem k56:Known Tryd.prog 56:=⟨Tryd.f56,Tryd.func56,by kernel_rfl,by kernel_rfl⟩
theorem meets56:Meets Tryd.prog 56 m56:=by
 refine mt (lvl:=0) (cf:=c56) rfl mixed k56 Tryd.func56 (by kernel_rfl) noLoop (allT_cons meets41 (allT_cons meets51 allT_nil)) allM_nil noI fun xs r h=>?_
 unfold m56 at h
 split at h
 ·rename_i xa xb
  obtain ⟨h1,rfl⟩:=pair_inj h
  exact (e56 xa xb).trans ((br (fun b=>some (AV.str (bif b then ByteArray.empty else ((v41_0 xa)++(ByteArray.mk #[46,46]))++(v41_0 xb)))) (fun _=>rfl) (brL (brL (brL (brL1 (fun _=>rfl)))))) h1)
 ·cases h
def q42 (a0:List AV) (a1:ByteArray):Bool:=decide (a0.length≤140737488355328) && decide ((joinB a0 a1).size≤140737488355328)
def v42_0 (a0:List AV) (a1:ByteArray):ByteArray:=joinB a0 a1
def m42:TModel:=joinM
theorem k42:Known Tryd.prog 42:=⟨Tryd.f42,Tryd.func42,by kernel_rfl,by kernel_rfl⟩
theorem meets42:Meets Tryd.prog 42 m42:=join_meets ⟨k42,fun a c sep w=>Any.strings_Join_none lays156 extra156 a c sep w,fun bk o c xs sep w h1 h2 h3 h4 h5=>Any.strings_Join lays156 extra156 bk o c xs sep w h1 h2 h3 h4 h5⟩
def G23_0 {β:Type} (t10:List AV) (t11:Int) (t12:Int) (h0:List AV) (N:((Int × (List AV)))→β) (K:(((List AV)))→β) (d:β):β:=by
 refine (?f0:ByteArray→β) (v56_0 (fI (t10.getD t12.toNat .undef) 0) (fI (t10.getD t12.toNat .undef) 1));intro x1
 exact (bif decide (t12<t11) then (bif (decide (0≤t12) && decide (t12<(t10.length:Int))) then (bif q56 (fI (t10.getD t12.toNat .undef) 0) (fI (t10.getD t12.toNat .undef) 1) then (bif (decide ((h0.length+([AV.str x1]).length)*16≤140737488355328) && decide ((h0.length+([AV.str x1]).length)≤140737488355328)) then N (IntKind.i64.wrap (t12+1),h0++([AV.str x1]))
 else d)
 else d)
 else d)
 else K h0)
def F23_0 (t10:List AV) (t11 t12:Int) (h0:List AV):Out ((Int × (List AV))) (((List AV))):=G23_0 t10 t11 t12 h0 .next .stop .fail
def R23_0 (t10:List AV) (t11:Int):((Int × (List AV)))→Out ((Int × (List AV))) (((List AV))):=fun s:Int × (List AV)=>F23_0 t10 t11 s.1 s.2
def E23_0 (t10:List AV) (t11:Int):((Int × (List AV)))→St:=fun s:Int × (List AV)=>⟨[(3,AV.own [0,3]),(10,AV.sl [.int .i64,.int .i64] t10),(11,Ai t11),(12,Ai s.1)],[([0,3],⟨false,[.str],s.2⟩)]⟩
def K23_0 (t10:List AV) (t11:Int) (k:Kont):(((List AV)))→Option AV:=fun p:(List AV)=>k (.exit 0) ⟨[(3,AV.own [0,3])],[([0,3],⟨false,[.str],p⟩)]⟩
def l23_0:LModel:=fun _ _ st k=>match st with
 | ⟨[(3,.own g0),(10,.sl g1 t10),(11,.int .i64 t11),(12,.int .i64 t12)],[(g2,⟨false,g3,h0⟩)]⟩=>bif nmEq g0 ([0,3]) && ctsEq g1 ([.int .i64,.int .i64]) && nmEq g2 ([0,3]) && ctsEq g3 ([.str]) then ro (runW (R23_0 t10 t11) ((t11 - t12:Int).toNat+1) (t12,h0)) none (K23_0 t10 t11 k) else none
 | _=>none
noncomputable def c23:Cfg:=cfg Tryd.prog [(23,0,[3,10,11,12]),(23,999,[2]),(23,1000,[3]),(23,1001,[3,10,11,12])] [(42,m42),(55,m55),(56,m56)] [] [] [(23,0,l23_0)]
theorem s23_0 (t10:List AV) (t11:Int) (ce:CallE) (k:Kont) (s:Int × (List AV)) (next:St→Option AV):stepA (codeA c23 ce [] 23 0 (sub [1,1,1,0,1,0,0] (body Tryd.f23))) (normA [] [3,10,11,12]) next ((E23_0 t10 t11) s) k=G23_0 t10 t11 s.1 s.2 (fun s=>next ((E23_0 t10 t11) s)) (K23_0 t10 t11 k) none:=by kernel_rfl
theorem st23_0 (t10:List AV) (t11:Int) (ce:CallE) (k:Kont) (s:(Int × (List AV))) (next:St→Option AV):stepA (codeA c23 ce [] 23 0 (sub [1,1,1,0,1,0,0] (body Tryd.f23))) (normA [] [3,10,11,12]) next ((E23_0 t10 t11) s) k=(R23_0 t10 t11 s).el none (fun s=>next ((E23_0 t10 t11) s)) (K23_0 t10 t11 k):=(s23_0 t10 t11 ce k s next).trans (by unfold R23_0;unfold F23_0 G23_0;simp only [el_cond,el_ro,el_sum,el_fail,el_next,el_stop] <;> rfl)
theorem ok23_0 {ce:CallE}:LoopOK c23 ce [] 23 0 (sub [1,1,1,0,1,0,0] (body Tryd.f23)):=by
 intro m hm st k r h
 obtain rfl:l23_0=m:=Option.some.inj hm
 unfold l23_0 at h
 split at h
 ·rename_i g0 g1 t10 t11 t12 g2 g3 h0
  obtain ⟨hg,h⟩:=bif_some h
  simp only [Bool.and_eq_true] at hg
  obtain ⟨⟨⟨q0,q1⟩,q2⟩,q3⟩:=hg
  obtain rfl:=nE q0
  obtain rfl:=cE q1
  obtain rfl:=nE q2
  obtain rfl:=cE q3
  refine ⟨((t11 - t12:Int).toNat+1),?_⟩
  rw [← h]
  exact loop_run (E23_0 t10 t11) (K23_0 t10 t11 k) (st23_0 t10 t11 ce k) _ (t12,h0)
 ·cases h
def q23 (a0:List AV):Bool:=(q55 a0 && (bif !(v55_0 a0) then true else (ro (runW (R23_0 a0 (a0.length:Int)) (((a0.length:Int) - 0:Int).toNat+1) (0,([]:List AV))) false (fun p7=>(bif decide ((p7.length:Int)=0) then true else q42 p7 (ByteArray.mk #[32]))))))
def v23_0 (a0:List AV):ByteArray:=(bif !(v55_0 a0) then ByteArray.empty else (ro (runW (R23_0 a0 (a0.length:Int)) (((a0.length:Int) - 0:Int).toNat+1) (0,([]:List AV))) ByteArray.empty (fun p7=>(bif decide ((p7.length:Int)=0) then (ByteArray.mk #[110,111,110,101]) else (v42_0 p7 (ByteArray.mk #[32]))))))
theorem e23 (a0:List AV):funA c23 0 23 [AV.sl [.int .i64,.int .i64] a0]=(bif q55 a0 then (bif !(v55_0 a0) then some (AV.str ByteArray.empty)
 else (ro (runW (R23_0 a0 (a0.length:Int)) (((a0.length:Int) - 0:Int).toNat+1) (0,([]:List AV))) none (fun p7=>(bif decide ((p7.length:Int)=0) then some (AV.str (ByteArray.mk #[110,111,110,101]))
 else (bif q42 p7 (ByteArray.mk #[32]) then some (AV.str (v42_0 p7 (ByteArray.mk #[32])))
 else none)))))
 else none):=by kernel_rfl
def m23:TModel
 | [.sl g0 a0]=>bif ctsEq g0 ([.int .i64,.int .i64]) then some (q23 a0,AV.str (v23_0 a0)) else none
 | _=>none
theorem k23:Known Tryd.prog 23:=⟨Tryd.f23,Tryd.func23,by kernel_rfl,by kernel_rfl⟩
theorem meets23:Meets Tryd.prog 23 m23:=by
 refine mt (lvl:=0) (cf:=c23) rfl mixed k23 Tryd.func23 (by kernel_rfl) (loops_cons ok23_0 noLoop) (allT_cons meets42 (allT_cons meets55 (allT_cons meets56 allT_nil))) allM_nil noI fun xs r h=>?_
 unfold m23 at h
 split at h
 ·rename_i g0 a0
  obtain ⟨hg,h⟩:=bif_pair h
  have q0:=hg
  obtain rfl:=cE q0
  obtain ⟨h1,rfl⟩:=pair_inj h
  exact (e23 a0).trans ((brL (br (fun b=>some (AV.str (bif b then ByteArray.empty else (ro (runW (R23_0 a0 (a0.length:Int)) (((a0.length:Int) - 0:Int).toNat+1) (0,([]:List AV))) ByteArray.empty (fun p7=>(bif decide ((p7.length:Int)=0) then (ByteArray.mk #[110,111,110,101]) else (v42_0 p7 (ByteArray.mk #[32])))))))) (fun _=>rfl) (brO (fun o:Option (((List AV)))=>some (AV.str (ro o ByteArray.empty (fun p7=>(bif decide ((p7.length:Int)=0) then (ByteArray.mk #[110,111,110,101]) else (v42_0 p7 (ByteArray.mk #[32]))))))) (fun p7=>(br (fun b=>some (AV.str (bif b then (ByteArray.mk #[110,111,110,101]) else (v42_0 p7 (ByteArray.mk #[32]))))) (fun _=>rfl) (brL1 (fun _=>rfl))))))) h1)
 ·cases h
def q57 (a0 a1:ByteArray):Bool:=decide (a0.size<4294967281) && decide (1≤a1.size)
def v57_0 (a0 a1:ByteArray):List AV:=splitL a0 a1
def m57:TModel:=splitM
theorem k57:Known Tryd.prog 57:=⟨Tryd.f57,Tryd.func57,by kernel_rfl,by kernel_rfl⟩
theorem meets57:Meets Tryd.prog 57 m57:=split_meets (splitWalk k57)
def q78 (a0 a1:ByteArray):Bool:=decide (a0.size<4294967281)
def v78_0 (a0 a1:ByteArray):ByteArray:=cutA a0 a1
def v78_1 (a0 a1:ByteArray):ByteArray:=cutB a0 a1
def m78:TModel:=cutM
theorem k78:Known Tryd.prog 78:=⟨Tryd.f78,Tryd.func78,by kernel_rfl,by kernel_rfl⟩
theorem meets78:Meets Tryd.prog 78 m78:=cut_meets (cutWalk k78)
def q79 (a0:ByteArray):Bool:=decide (a0.size≤281474976710656)
def v79_0 (a0:ByteArray):Int:=(pintN a0).getD 0
def m79:TModel:=pintM
theorem k79:Known Tryd.prog 79:=⟨Tryd.f79,Tryd.func79,by kernel_rfl,by kernel_rfl⟩
theorem meets79:Meets Tryd.prog 79 m79:=pint_meets (pintWalk k79)
noncomputable def c58:Cfg:=cfg Tryd.prog [(58,999,[2,3])] [(56,m56),(78,m78),(79,m79)] [] [] []
def q58 (a0:ByteArray):Bool:=(q78 a0 (ByteArray.mk #[46,46]) && (q79 (v78_0 a0 (ByteArray.mk #[46,46])) && (q79 (v78_1 a0 (ByteArray.mk #[46,46])) && (bif (a0.toList == ByteArray.empty.toList) then true else q56 (v79_0 (v78_0 a0 (ByteArray.mk #[46,46]))) (v79_0 (v78_1 a0 (ByteArray.mk #[46,46])))))))
def v58_0 (a0:ByteArray):Int:=(bif (a0.toList == ByteArray.empty.toList) then 0 else (bif !((v56_0 (v79_0 (v78_0 a0 (ByteArray.mk #[46,46]))) (v79_0 (v78_1 a0 (ByteArray.mk #[46,46])))).toList == a0.toList) then 0 else (v79_0 (v78_0 a0 (ByteArray.mk #[46,46])))))
def v58_1 (a0:ByteArray):Int:=(bif (a0.toList == ByteArray.empty.toList) then 0 else (bif !((v56_0 (v79_0 (v78_0 a0 (ByteArray.mk #[46,46]))) (v79_0 (v78_1 a0 (ByteArray.mk #[46,46])))).toList == a0.toList) then 0 else (v79_0 (v78_1 a0 (ByteArray.mk #[46,46])))))
def v58_2 (a0:ByteArray):Bool:=(bif (a0.toList == ByteArray.empty.toList) then false else (bif !((v56_0 (v79_0 (v78_0 a0 (ByteArray.mk #[46,46]))) (v79_0 (v78_1 a0 (ByteArray.mk #[46,46])))).toList == a0.toList) then false else true))
theorem e58 (a0:ByteArray):funA c58 0 58 [AV.str a0]=((fun (x1:ByteArray) (x2:ByteArray)=>(bif q78 a0 (ByteArray.mk #[46,46]) then (bif q79 x1 then (bif q79 x2 then (bif (a0.toList == ByteArray.empty.toList) then some (AV.tup [AV.agg [Ai 0,Ai 0],AV.bool false])
 else (bif q56 (v79_0 x1) (v79_0 x2) then (bif !((v56_0 (v79_0 x1) (v79_0 x2)).toList == a0.toList) then some (AV.tup [AV.agg [Ai 0,Ai 0],AV.bool false])
 else some (AV.tup [AV.agg [Ai (v79_0 x1),Ai (v79_0 x2)],AV.bool true]))
 else none))
 else none)
 else none)
 else none)) (v78_0 a0 (ByteArray.mk #[46,46])) (v78_1 a0 (ByteArray.mk #[46,46]))):=by kernel_rfl
def m58:TModel
 | [.str a0]=>some (q58 a0,AV.tup [AV.agg [AV.int .i64 (v58_0 a0),AV.int .i64 (v58_1 a0)],AV.bool (v58_2 a0)])
 | _=>none
theorem k58:Known Tryd.prog 58:=⟨Tryd.f58,Tryd.func58,by kernel_rfl,by kernel_rfl⟩
theorem meets58:Meets Tryd.prog 58 m58:=by
 refine mt (lvl:=0) (cf:=c58) rfl mixed k58 Tryd.func58 (by kernel_rfl) noLoop (allT_cons meets56 (allT_cons meets78 (allT_cons meets79 allT_nil))) allM_nil noI fun xs r h=>?_
 unfold m58 at h
 split at h
 ·rename_i a0
  obtain ⟨h1,rfl⟩:=pair_inj h
  exact (e58 a0).trans ((brL (brL (brL (br (fun b=>some (AV.tup [AV.agg [Ai (bif b then 0 else (bif !((v56_0 (v79_0 (v78_0 a0 (ByteArray.mk #[46,46]))) (v79_0 (v78_1 a0 (ByteArray.mk #[46,46])))).toList == a0.toList) then 0 else (v79_0 (v78_0 a0 (ByteArray.mk #[46,46]))))),Ai (bif b then 0 else (bif !((v56_0 (v79_0 (v78_0 a0 (ByteArray.mk #[46,46]))) (v79_0 (v78_1 a0 (ByteArray.mk #[46,46])))).toList == a0.toList) then 0 else (v79_0 (v78_1 a0 (ByteArray.mk #[46,46])))))],AV.bool (bif b then false else (bif !((v56_0 (v79_0 (v78_0 a0 (ByteArray.mk #[46,46]))) (v79_0 (v78_1 a0 (ByteArray.mk #[46,46])))).toList == a0.toList) then false else true))])) (fun _=>rfl) (brL1 (brT (fun b=>some (AV.tup [AV.agg [Ai (bif b then 0 else (v79_0 (v78_0 a0 (ByteArray.mk #[46,46])))),Ai (bif b then 0 else (v79_0 (v78_1 a0 (ByteArray.mk #[46,46]))))],AV.bool (bif b then false else true)])) (fun _=>rfl) (fun _=>rfl))))))) h1)
 ·cases h
def G24_0 {β:Type} (t14:Int) (h1:List AV) (t15:Int) (h0:List AV) (N:((Int × (List AV)))→β) (K:(((List AV)) ⊕ ((List AV) × Int × Int))→β) (d:β):β:=by
 refine (?f0:Int→Int→Bool→β) (v58_0 (fS (h1.getD t15.toNat .undef) 0)) (v58_1 (fS (h1.getD t15.toNat .undef) 0)) (v58_2 (fS (h1.getD t15.toNat .undef) 0));intro x1 x2 x3
 exact (bif decide (t15<t14) then (bif (decide (0≤t15) && decide (t15<(h1.length:Int))) then (bif q58 (fS (h1.getD t15.toNat .undef) 0) then (bif !x3 then K (.inr (h0,x1,x2))
 else (bif decide ((h0.length:Int)=30) then K (.inr (h0,x1,x2))
 else (bif (decide ((h0.length+([AV.agg [AV.int .i64 x1,AV.int .i64 x2]]).length)*16≤140737488355328) && decide ((h0.length+([AV.agg [AV.int .i64 x1,AV.int .i64 x2]]).length)≤140737488355328)) then N (IntKind.i64.wrap (t15+1),h0++([AV.agg [AV.int .i64 x1,AV.int .i64 x2]]))
 else d)))
 else d)
 else d)
 else K (.inl h0))
def F24_0 (t14:Int) (h1:List AV) (t15:Int) (h0:List AV):Out ((Int × (List AV))) (((List AV)) ⊕ ((List AV) × Int × Int)):=G24_0 t14 h1 t15 h0 .next .stop .fail
def R24_0 (t14:Int) (h1:List AV):((Int × (List AV)))→Out ((Int × (List AV))) (((List AV)) ⊕ ((List AV) × Int × Int)):=fun s:Int × (List AV)=>F24_0 t14 h1 s.1 s.2
def E24_0 (t14:Int) (h1:List AV):((Int × (List AV)))→St:=fun s:Int × (List AV)=>⟨[(4,AV.own [0,4]),(13,AV.own [0,13]),(14,Ai t14),(15,Ai s.1)],[([0,4],⟨false,[.int .i64,.int .i64],s.2⟩),([0,13],⟨false,[.str],h1⟩)]⟩
def K24_0 (t14:Int) (h1:List AV) (k:Kont):(((List AV)) ⊕ ((List AV) × Int × Int))→Option AV:=sumE (fun p:(List AV)=>k (.exit 0) ⟨[(4,AV.own [0,4])],[([0,4],⟨false,[.int .i64,.int .i64],p⟩),([0,13],⟨false,[.str],h1⟩)]⟩) (fun p:(List AV) × Int × Int=>k .ret ⟨[(2,AV.snil),(3,AV.bool false)],[([0,4],⟨false,[.int .i64,.int .i64],p.1⟩),([0,13],⟨false,[.str],h1⟩),([1,7],⟨true,[],[AV.agg [Ai p.2.1,Ai p.2.2]]⟩)]⟩)
def l24_0:LModel:=fun _ _ st k=>match st with
 | ⟨[(4,.own g0),(13,.own g1),(14,.int .i64 t14),(15,.int .i64 t15)],[(g2,⟨false,g3,h0⟩),(g4,⟨false,g5,h1⟩)]⟩=>bif nmEq g0 ([0,4]) && nmEq g1 ([0,13]) && nmEq g2 ([0,4]) && ctsEq g3 ([.int .i64,.int .i64]) && nmEq g4 ([0,13]) && ctsEq g5 ([.str]) then ro (runW (R24_0 t14 h1) ((t14 - t15:Int).toNat+1) (t15,h0)) none (K24_0 t14 h1 k) else none
 | _=>none
noncomputable def c24:Cfg:=cfg Tryd.prog [(24,0,[4,13,14,15]),(24,999,[2,3]),(24,1000,[4]),(24,1001,[4,13,14,15])] [(57,m57),(58,m58)] [] [] [(24,0,l24_0)]
theorem s24_0 (t14:Int) (h1:List AV) (ce:CallE) (k:Kont) (s:Int × (List AV)) (next:St→Option AV):stepA (codeA c24 ce [] 24 0 (sub [1,1,1,0,1,0,0] (body Tryd.f24))) (normA [] [4,13,14,15]) next ((E24_0 t14 h1) s) k=G24_0 t14 h1 s.1 s.2 (fun s=>next ((E24_0 t14 h1) s)) (K24_0 t14 h1 k) none:=by kernel_rfl
theorem st24_0 (t14:Int) (h1:List AV) (ce:CallE) (k:Kont) (s:(Int × (List AV))) (next:St→Option AV):stepA (codeA c24 ce [] 24 0 (sub [1,1,1,0,1,0,0] (body Tryd.f24))) (normA [] [4,13,14,15]) next ((E24_0 t14 h1) s) k=(R24_0 t14 h1 s).el none (fun s=>next ((E24_0 t14 h1) s)) (K24_0 t14 h1 k):=(s24_0 t14 h1 ce k s next).trans (by unfold R24_0;unfold F24_0 G24_0;simp only [el_cond,el_ro,el_sum,el_fail,el_next,el_stop] <;> rfl)
theorem ok24_0 {ce:CallE}:LoopOK c24 ce [] 24 0 (sub [1,1,1,0,1,0,0] (body Tryd.f24)):=by
 intro m hm st k r h
 obtain rfl:l24_0=m:=Option.some.inj hm
 unfold l24_0 at h
 split at h
 ·rename_i g0 g1 t14 t15 g2 g3 h0 g4 g5 h1
  obtain ⟨hg,h⟩:=bif_some h
  simp only [Bool.and_eq_true] at hg
  obtain ⟨⟨⟨⟨⟨q0,q1⟩,q2⟩,q3⟩,q4⟩,q5⟩:=hg
  obtain rfl:=nE q0
  obtain rfl:=nE q1
  obtain rfl:=nE q2
  obtain rfl:=cE q3
  obtain rfl:=nE q4
  obtain rfl:=cE q5
  refine ⟨((t14 - t15:Int).toNat+1),?_⟩
  rw [← h]
  exact loop_run (E24_0 t14 h1) (K24_0 t14 h1 k) (st24_0 t14 h1 ce k) _ (t15,h0)
 ·cases h
def q24 (a0:ByteArray):Bool:=(bif (a0.toList == (ByteArray.mk #[110,111,110,101]).toList) then true else (q57 a0 (ByteArray.mk #[32]) && (ro (runW (R24_0 ((v57_0 a0 (ByteArray.mk #[32])).length:Int) (v57_0 a0 (ByteArray.mk #[32]))) ((((v57_0 a0 (ByteArray.mk #[32])).length:Int) - 0:Int).toNat+1) (0,([]:List AV))) false (sumE (fun p8=>true) (fun p9=>true)))))
def v24_0 (a0:ByteArray):List AV:=(bif (a0.toList == (ByteArray.mk #[110,111,110,101]).toList) then ([]:List AV) else (ro (runW (R24_0 ((v57_0 a0 (ByteArray.mk #[32])).length:Int) (v57_0 a0 (ByteArray.mk #[32]))) ((((v57_0 a0 (ByteArray.mk #[32])).length:Int) - 0:Int).toNat+1) (0,([]:List AV))) [] (sumE (fun p8=>p8) (fun p9=>([]:List AV)))))
def v24_1 (a0:ByteArray):Bool:=(bif (a0.toList == (ByteArray.mk #[110,111,110,101]).toList) then true else (ro (runW (R24_0 ((v57_0 a0 (ByteArray.mk #[32])).length:Int) (v57_0 a0 (ByteArray.mk #[32]))) ((((v57_0 a0 (ByteArray.mk #[32])).length:Int) - 0:Int).toNat+1) (0,([]:List AV))) false (sumE (fun p8=>true) (fun p9=>false))))
theorem e24 (a0:ByteArray):funA c24 0 24 [AV.str a0]=(bif (a0.toList == (ByteArray.mk #[110,111,110,101]).toList) then some (AV.tup [AV.fl [.int .i64,.int .i64] ([]:List AV),AV.bool true])
 else (bif q57 a0 (ByteArray.mk #[32]) then (ro (runW (R24_0 ((v57_0 a0 (ByteArray.mk #[32])).length:Int) (v57_0 a0 (ByteArray.mk #[32]))) ((((v57_0 a0 (ByteArray.mk #[32])).length:Int) - 0:Int).toNat+1) (0,([]:List AV))) none (sumE (fun p8=>some (AV.tup [AV.fl [.int .i64,.int .i64] p8,AV.bool true])) (fun p9=>some (AV.tup [AV.fl [.int .i64,.int .i64] ([]:List AV),AV.bool false]))))
 else none)):=by kernel_rfl
def m24:TModel
 | [.str a0]=>some (q24 a0,AV.tup [AV.fl [.int .i64,.int .i64] (v24_0 a0),AV.bool (v24_1 a0)])
 | _=>none
theorem k24:Known Tryd.prog 24:=⟨Tryd.f24,Tryd.func24,by kernel_rfl,by kernel_rfl⟩
theorem meets24:Meets Tryd.prog 24 m24:=by
 refine mt (lvl:=0) (cf:=c24) rfl mixed k24 Tryd.func24 (by kernel_rfl) (loops_cons ok24_0 noLoop) (allT_cons meets57 (allT_cons meets58 allT_nil)) allM_nil noI fun xs r h=>?_
 unfold m24 at h
 split at h
 ·rename_i a0
  obtain ⟨h1,rfl⟩:=pair_inj h
  exact (e24 a0).trans ((br (fun b=>some (AV.tup [AV.fl [.int .i64,.int .i64] (bif b then ([]:List AV) else (ro (runW (R24_0 ((v57_0 a0 (ByteArray.mk #[32])).length:Int) (v57_0 a0 (ByteArray.mk #[32]))) ((((v57_0 a0 (ByteArray.mk #[32])).length:Int) - 0:Int).toNat+1) (0,([]:List AV))) [] (sumE (fun p8=>p8) (fun p9=>([]:List AV))))),AV.bool (bif b then true else (ro (runW (R24_0 ((v57_0 a0 (ByteArray.mk #[32])).length:Int) (v57_0 a0 (ByteArray.mk #[32]))) ((((v57_0 a0 (ByteArray.mk #[32])).length:Int) - 0:Int).toNat+1) (0,([]:List AV))) false (sumE (fun p8=>true) (fun p9=>false))))])) (fun _=>rfl) (brL (brO (fun o:Option (((List AV)) ⊕ ((List AV) × Int × Int))=>some (AV.tup [AV.fl [.int .i64,.int .i64] (ro o [] (sumE (fun p8=>p8) (fun p9=>([]:List AV)))),AV.bool (ro o false (sumE (fun p8=>true) (fun p9=>false)))])) (brS (fun o:((List AV)) ⊕ ((List AV) × Int × Int)=>some (AV.tup [AV.fl [.int .i64,.int .i64] ((sumE (fun p8=>p8) (fun p9=>([]:List AV))) o),AV.bool ((sumE (fun p8=>true) (fun p9=>false)) o)])) (fun p8=>(fun _=>rfl)) (fun p9=>(fun _=>rfl)))))) h1)
 ·cases h
noncomputable def c80:Cfg:=cfg Tryd.prog [(80,999,[2])] [] [(49,.g m49),(50,.g m50)] [] []
def T80 {β:Type} (k:(Int × Int × (List AV) × Int × Int)→β) (n:β) (ua:List AV) (ub:Int) (uc:Int):β:=by
 refine (?f0:Int→(List AV)→Int→Int→β) (v50_0 ua ub uc ([AV.int .i64 3,AV.int .i64 10,AV.int .i64 30,AV.int .i64 1000])) (v50_1 ua ub uc ([AV.int .i64 3,AV.int .i64 10,AV.int .i64 30,AV.int .i64 1000])) (v50_2 ua ub uc ([AV.int .i64 3,AV.int .i64 10,AV.int .i64 30,AV.int .i64 1000])) (v50_3 ua ub uc ([AV.int .i64 3,AV.int .i64 10,AV.int .i64 30,AV.int .i64 1000]));intro x1 x2 x3 x4
 refine (?f1:Int→(List AV)→Int→Int→β) (v49_0 x1 x2 x3 x4) (v49_1 x1 x2 x3 x4) (v49_2 x1 x2 x3 x4) (v49_3 x1 x2 x3 x4);intro x5 x6 x7 x8
 exact (bif q50 ua ub uc ([AV.int .i64 3,AV.int .i64 10,AV.int .i64 30,AV.int .i64 1000]) then (bif q49 x1 x2 x3 x4 then (bif !decide (3=0) then (bif q49 x1 x6 x7 x8 then k (IntKind.i64.wrap (x5 - IntKind.i64.wrap (Int.tdiv x1 3)),(if IntKind.i64.wrap (IntKind.i64.wrap (x5 - IntKind.i64.wrap (Int.tdiv x1 3))+(v49_0 x1 x6 x7 x8))<1000 then IntKind.i64.wrap (IntKind.i64.wrap (x5 - IntKind.i64.wrap (Int.tdiv x1 3))+(v49_0 x1 x6 x7 x8)) else 1000),(v49_1 x1 x6 x7 x8),(v49_2 x1 x6 x7 x8),(v49_3 x1 x6 x7 x8))
 else n)
 else n)
 else n)
 else n)
abbrev W80 (ua:List AV) (ub:Int) (uc:Int):Option (Int × Int × (List AV) × Int × Int):=T80 some none ua ub uc
theorem n80 {β:Type} (k:(Int × Int × (List AV) × Int × Int)→β) (n:β) (ua:List AV) (ub:Int) (uc:Int):T80 k n ua ub uc=oe k n (W80 ua ub uc):=by
 unfold W80 T80
 simp only [oe_cond,oe_ro,oe_sum,oe_some,oe_none]
def q80 (ua:List AV) (ub uc:Int):Bool:=(W80 ua ub uc).isSome
def v80_0 (ua:List AV) (ub uc:Int):Int:=oe (fun t=>t.1) 0 (W80 ua ub uc)
def v80_1 (ua:List AV) (ub uc:Int):Int:=oe (fun t=>t.2.1) 0 (W80 ua ub uc)
def v80_2 (ua:List AV) (ub uc:Int):List AV:=oe (fun t=>t.2.2.1) [] (W80 ua ub uc)
def v80_3 (ua:List AV) (ub uc:Int):Int:=oe (fun t=>t.2.2.2.1) 0 (W80 ua ub uc)
def v80_4 (ua:List AV) (ub uc:Int):Int:=oe (fun t=>t.2.2.2.2) 0 (W80 ua ub uc)
theorem e80 (ua:List AV) (ub uc:Int) (K:List AV→List (Option Blk)→Option AV):inlA c80 1 80 [AV.ptr [1] 0 0] [0] (canH 1 [⟨true,[],[AV.agg [AV.sl [.int .u8] ua,Ai ub,Ai uc]]⟩]) (keepG Tryd.prog 1 [45] [] K)=T80 (fun t=>K [AV.agg [Ai t.1,Ai t.2.1]] [some ⟨true,[],[AV.agg [AV.sl [.int .u8] t.2.2.1,Ai t.2.2.2.1,Ai t.2.2.2.2]]⟩]) none ua ub uc:=by kernel_rfl
theorem r80 (ua:List AV) (ub uc:Int) (K:List AV→List (Option Blk)→Option AV) (h:q80 ua ub uc=true):inlA c80 1 80 [AV.ptr [1] 0 0] [0] (canH 1 [⟨true,[],[AV.agg [AV.sl [.int .u8] ua,AV.int .i64 ub,AV.int .i64 uc]]⟩]) (keepG Tryd.prog 1 [45] [] K)=K [AV.agg [AV.int .i64 (v80_0 ua ub uc),AV.int .i64 (v80_1 ua ub uc)]] [some ⟨true,[],[AV.agg [AV.sl [.int .u8] (v80_2 ua ub uc),AV.int .i64 (v80_3 ua ub uc),AV.int .i64 (v80_4 ua ub uc)]]⟩]:=by
 refine ((e80 ua ub uc K).trans (n80 _ _ ua ub uc)).trans ?_
 unfold q80 at h
 unfold v80_0 v80_1 v80_2 v80_3 v80_4
 generalize W80 ua ub uc=o at *
 cases o with
 | none=>cases h
 | some t=>rfl
def m80:GModel
 | [.ptr g0 g1 g2],[⟨true,[],[.agg [.sl g3 ua,.int .i64 ub,.int .i64 uc]]⟩]=>bif nmEq g0 ([1]) && Nat.beq g1 0 && Nat.beq g2 0 && ctsEq g3 ([.int .u8]) then some (q80 ua ub uc,[AV.agg [AV.int .i64 (v80_0 ua ub uc),AV.int .i64 (v80_1 ua ub uc)]],[some ⟨true,[],[AV.agg [AV.sl [.int .u8] (v80_2 ua ub uc),AV.int .i64 (v80_3 ua ub uc),AV.int .i64 (v80_4 ua ub uc)]]⟩]) else none
 | _,_=>none
theorem k80:Known Tryd.prog 80:=⟨Tryd.f80,Tryd.func80,by kernel_rfl,by kernel_rfl⟩
theorem meets80:MeetsG Tryd.prog 80 m80:=by
 refine mg (rt:=[45]) (gs:=[]) (lvl:=0) (cf:=c80) rfl mixed k80 Tryd.func80 (by kernel_rfl) noLoop allT_nil (allG_cons meets49 (allG_cons meets50 allM_nil)) noI fun xs bs r bs' h K=>?_
 unfold m80 at h
 split at h
 ·rename_i g0 g1 g2 g3 ua ub uc
  obtain ⟨hg,h⟩:=bif_pair h
  simp only [Bool.and_eq_true] at hg
  obtain ⟨⟨⟨q0,q1⟩,q2⟩,q3⟩:=hg
  obtain rfl:=nE q0
  obtain rfl:=bE q1
  obtain rfl:=bE q2
  obtain rfl:=cE q3
  obtain ⟨h1,rfl,rfl⟩:=trip_inj h
  exact r80 ua ub uc K h1
 ·cases h
noncomputable def c59:Cfg:=cfg Tryd.prog [(59,999,[2]),(59,1000,[2,3])] [] [(49,.g m49),(50,.g m50),(80,.g m80)] [] []
def T59 {β:Type} (k:(Int × Int × (List AV) × Int × Int)→β) (n:β) (ua:List AV) (ub:Int) (uc:Int):β:=by
 refine (?f0:Int→Int→(List AV)→Int→Int→β) (v80_0 ua ub uc) (v80_1 ua ub uc) (v80_2 ua ub uc) (v80_3 ua ub uc) (v80_4 ua ub uc);intro x1 x2 x3 x4 x5
 refine (?f1:Int→(List AV)→Int→Int→β) (v49_0 10 x3 x4 x5) (v49_1 10 x3 x4 x5) (v49_2 10 x3 x4 x5) (v49_3 10 x3 x4 x5);intro x6 x7 x8 x9
 refine (?f2:Int→(List AV)→Int→Int→β) (v50_0 x7 x8 x9 ([AV.int .i64 (-1001),AV.int .i64 (-1000),AV.int .i64 1000,AV.int .i64 1001])) (v50_1 x7 x8 x9 ([AV.int .i64 (-1001),AV.int .i64 (-1000),AV.int .i64 1000,AV.int .i64 1001])) (v50_2 x7 x8 x9 ([AV.int .i64 (-1001),AV.int .i64 (-1000),AV.int .i64 1000,AV.int .i64 1001])) (v50_3 x7 x8 x9 ([AV.int .i64 (-1001),AV.int .i64 (-1000),AV.int .i64 1000,AV.int .i64 1001]));intro x10 x11 x12 x13
 exact (bif q80 ua ub uc then (bif q49 10 x3 x4 x5 then (bif decide (x6=0) then (bif q50 x7 x8 x9 ([AV.int .i64 (-1001),AV.int .i64 (-1000),AV.int .i64 1000,AV.int .i64 1001]) then k (x10,x2,x11,x12,x13)
 else n)
 else (bif decide (x6=1) then (bif q50 x7 x8 x9 ([AV.int .i64 (-1001),AV.int .i64 (-1000),AV.int .i64 1000,AV.int .i64 1001]) then k (x1,x10,x11,x12,x13)
 else n)
 else k (x1,x2,x7,x8,x9)))
 else n)
 else n)
abbrev W59 (ua:List AV) (ub:Int) (uc:Int):Option (Int × Int × (List AV) × Int × Int):=T59 some none ua ub uc
theorem n59 {β:Type} (k:(Int × Int × (List AV) × Int × Int)→β) (n:β) (ua:List AV) (ub:Int) (uc:Int):T59 k n ua ub uc=oe k n (W59 ua ub uc):=by
 unfold W59 T59
 simp only [oe_cond,oe_ro,oe_sum,oe_some,oe_none]
def q59 (ua:List AV) (ub uc:Int):Bool:=(W59 ua ub uc).isSome
def v59_0 (ua:List AV) (ub uc:Int):Int:=oe (fun t=>t.1) 0 (W59 ua ub uc)
def v59_1 (ua:List AV) (ub uc:Int):Int:=oe (fun t=>t.2.1) 0 (W59 ua ub uc)
def v59_2 (ua:List AV) (ub uc:Int):List AV:=oe (fun t=>t.2.2.1) [] (W59 ua ub uc)
def v59_3 (ua:List AV) (ub uc:Int):Int:=oe (fun t=>t.2.2.2.1) 0 (W59 ua ub uc)
def v59_4 (ua:List AV) (ub uc:Int):Int:=oe (fun t=>t.2.2.2.2) 0 (W59 ua ub uc)
theorem e59 (ua:List AV) (ub uc:Int) (K:List AV→List (Option Blk)→Option AV):inlA c59 1 59 [AV.ptr [1] 0 0] [0] (canH 1 [⟨true,[],[AV.agg [AV.sl [.int .u8] ua,Ai ub,Ai uc]]⟩]) (keepG Tryd.prog 1 [45] [] K)=T59 (fun t=>K [AV.agg [Ai t.1,Ai t.2.1]] [some ⟨true,[],[AV.agg [AV.sl [.int .u8] t.2.2.1,Ai t.2.2.2.1,Ai t.2.2.2.2]]⟩]) none ua ub uc:=by kernel_rfl
theorem r59 (ua:List AV) (ub uc:Int) (K:List AV→List (Option Blk)→Option AV) (h:q59 ua ub uc=true):inlA c59 1 59 [AV.ptr [1] 0 0] [0] (canH 1 [⟨true,[],[AV.agg [AV.sl [.int .u8] ua,AV.int .i64 ub,AV.int .i64 uc]]⟩]) (keepG Tryd.prog 1 [45] [] K)=K [AV.agg [AV.int .i64 (v59_0 ua ub uc),AV.int .i64 (v59_1 ua ub uc)]] [some ⟨true,[],[AV.agg [AV.sl [.int .u8] (v59_2 ua ub uc),AV.int .i64 (v59_3 ua ub uc),AV.int .i64 (v59_4 ua ub uc)]]⟩]:=by
 refine ((e59 ua ub uc K).trans (n59 _ _ ua ub uc)).trans ?_
 unfold q59 at h
 unfold v59_0 v59_1 v59_2 v59_3 v59_4
 generalize W59 ua ub uc=o at *
 cases o with
 | none=>cases h
 | some t=>rfl
def m59:GModel
 | [.ptr g0 g1 g2],[⟨true,[],[.agg [.sl g3 ua,.int .i64 ub,.int .i64 uc]]⟩]=>bif nmEq g0 ([1]) && Nat.beq g1 0 && Nat.beq g2 0 && ctsEq g3 ([.int .u8]) then some (q59 ua ub uc,[AV.agg [AV.int .i64 (v59_0 ua ub uc),AV.int .i64 (v59_1 ua ub uc)]],[some ⟨true,[],[AV.agg [AV.sl [.int .u8] (v59_2 ua ub uc),AV.int .i64 (v59_3 ua ub uc),AV.int .i64 (v59_4 ua ub uc)]]⟩]) else none
 | _,_=>none
theorem k59:Known Tryd.prog 59:=⟨Tryd.f59,Tryd.func59,by kernel_rfl,by kernel_rfl⟩
theorem meets59:MeetsG Tryd.prog 59 m59:=by
 refine mg (rt:=[45]) (gs:=[]) (lvl:=0) (cf:=c59) rfl mixed k59 Tryd.func59 (by kernel_rfl) noLoop allT_nil (allG_cons meets49 (allG_cons meets50 (allG_cons meets80 allM_nil))) noI fun xs bs r bs' h K=>?_
 unfold m59 at h
 split at h
 ·rename_i g0 g1 g2 g3 ua ub uc
  obtain ⟨hg,h⟩:=bif_pair h
  simp only [Bool.and_eq_true] at hg
  obtain ⟨⟨⟨q0,q1⟩,q2⟩,q3⟩:=hg
  obtain rfl:=nE q0
  obtain rfl:=bE q1
  obtain rfl:=bE q2
  obtain rfl:=cE q3
  obtain ⟨h1,rfl,rfl⟩:=trip_inj h
  exact r59 ua ub uc K h1
 ·cases h
def G25_0 {β:Type} (t5:Int) (h0_0:List AV) (h0_1:Int) (h0_2:Int) (h1:List AV) (N:((Int × (List AV) × Int × Int × (List AV)))→β) (K:(((List AV) × Int × Int × (List AV)))→β) (d:β):β:=(bif decide (t5 > 0) then (bif q59 h0_0 h0_1 h0_2 then (bif (decide ((h1.length+([AV.agg [AV.int .i64 (v59_0 h0_0 h0_1 h0_2),AV.int .i64 (v59_1 h0_0 h0_1 h0_2)]]).length)*16≤140737488355328) && decide ((h1.length+([AV.agg [AV.int .i64 (v59_0 h0_0 h0_1 h0_2),AV.int .i64 (v59_1 h0_0 h0_1 h0_2)]]).length)≤140737488355328)) then N (IntKind.i64.wrap (t5 - 1),(v59_2 h0_0 h0_1 h0_2),(v59_3 h0_0 h0_1 h0_2),(v59_4 h0_0 h0_1 h0_2),h1++([AV.agg [AV.int .i64 (v59_0 h0_0 h0_1 h0_2),AV.int .i64 (v59_1 h0_0 h0_1 h0_2)]]))
 else d)
 else d)
 else K (h0_0,h0_1,h0_2,h1))
def F25_0 (t5:Int) (h0_0:List AV) (h0_1 h0_2:Int) (h1:List AV):Out ((Int × (List AV) × Int × Int × (List AV))) (((List AV) × Int × Int × (List AV))):=G25_0 t5 h0_0 h0_1 h0_2 h1 .next .stop .fail
def R25_0:((Int × (List AV) × Int × Int × (List AV)))→Out ((Int × (List AV) × Int × Int × (List AV))) (((List AV) × Int × Int × (List AV))):=fun s:Int × (List AV) × Int × Int × (List AV)=>F25_0 s.1 s.2.1 s.2.2.1 s.2.2.2.1 s.2.2.2.2
def E25_0:((Int × (List AV) × Int × Int × (List AV)))→St:=fun s:Int × (List AV) × Int × Int × (List AV)=>⟨[(3,AV.ptr [0,3] 0 0),(4,AV.own [0,4]),(5,Ai s.1)],[([0,3],⟨true,[],[AV.agg [AV.sl [.int .u8] s.2.1,Ai s.2.2.1,Ai s.2.2.2.1]]⟩),([0,4],⟨false,[.int .i64,.int .i64],s.2.2.2.2⟩)]⟩
def K25_0 (k:Kont):(((List AV) × Int × Int × (List AV)))→Option AV:=fun p:(List AV) × Int × Int × (List AV)=>k (.exit 0) ⟨[(4,AV.own [0,4])],[([0,3],⟨true,[],[AV.agg [AV.sl [.int .u8] p.1,Ai p.2.1,Ai p.2.2.1]]⟩),([0,4],⟨false,[.int .i64,.int .i64],p.2.2.2⟩)]⟩
def l25_0:LModel:=fun _ _ st k=>match st with
 | ⟨[(3,.ptr g0 g1 g2),(4,.own g3),(5,.int .i64 t5)],[(g4,⟨true,[],[.agg [.sl g5 h0_0,.int .i64 h0_1,.int .i64 h0_2]]⟩),(g6,⟨false,g7,h1⟩)]⟩=>bif nmEq g0 ([0,3]) && Nat.beq g1 0 && Nat.beq g2 0 && nmEq g3 ([0,4]) && nmEq g4 ([0,3]) && ctsEq g5 ([.int .u8]) && nmEq g6 ([0,4]) && ctsEq g7 ([.int .i64,.int .i64]) then ro (runW (R25_0) ((t5 - 0:Int).toNat+1) (t5,h0_0,h0_1,h0_2,h1)) none (K25_0 k) else none
 | _=>none
def G25i30_0 {β:Type} (t0:List AV) (t3:Int) (t4:Int) (N:((Int × Int))→β) (K:(Int)→β) (d:β):β:=(bif decide (t4<(t0.length:Int)) then (bif decide (t4<4000) then (bif (decide (0≤t4) && decide (t4<(t0.length:Int))) then N (IntKind.i64.wrap ((BitVec.ofInt 64 (IntKind.i64.wrap (IntKind.i64.wrap (IntKind.i64.wrap (t3*131)+IntKind.i64.wrap (fI (t0.getD t4.toNat .undef) 0))+7)) &&& BitVec.ofInt 64 1073741823).toNat:Int),IntKind.i64.wrap (t4+1))
 else d)
 else K t3)
 else K t3)
def F25i30_0 (t0:List AV) (t3 t4:Int):Out ((Int × Int)) (Int):=G25i30_0 t0 t3 t4 .next .stop .fail
def R25i30_0 (t0:List AV):((Int × Int))→Out ((Int × Int)) (Int):=fun s:Int × Int=>F25i30_0 t0 s.1 s.2
def E25i30_0 (t0:List AV):((Int × Int))→St:=fun s:Int × Int=>⟨[(0,AV.sl [.int .u8] t0),(3,Ai s.1),(4,Ai s.2)],[]⟩
def K25i30_0 (t0:List AV) (k:Kont):(Int)→Option AV:=fun p:Int=>k (.exit 0) ⟨[(0,AV.sl [.int .u8] t0),(3,Ai p)],[]⟩
def l25i30_0:LModel:=fun _ π st k=>match st with
 | ⟨[(0,.sl g1 t0),(3,.int .i64 t3),(4,.int .i64 t4)],[]⟩=>bif nmEq π ([8]) && ctsEq g1 ([.int .u8]) then ro (runW (R25i30_0 t0) (((t0.length:Int) - t4:Int).toNat+1) (t3,t4)) none (K25i30_0 t0 k) else none
 | _=>none
noncomputable def c25:Cfg:=cfg Tryd.prog [(25,0,[3,4,5]),(25,999,[2]),(25,1000,[4]),(25,1001,[3,4,5]),(30,0,[0,3,4]),(30,999,[2]),(30,1000,[0,3]),(30,1001,[0,3,4])] [] [(49,.g m49),(59,.g m59)] [30] [(25,0,l25_0),(30,0,l25i30_0)]
theorem s25_0 (k:Kont) (s:Int × (List AV) × Int × Int × (List AV)) (next:St→Option AV):stepA (codeA c25 (inlA c25 1) [] 25 0 (sub [1,1,1,0,1,0,0] (body Tryd.f25))) (normA [] [3,4,5]) next (E25_0 s) k=G25_0 s.1 s.2.1 s.2.2.1 s.2.2.2.1 s.2.2.2.2 (fun s=>next (E25_0 s)) (K25_0 k) none:=by kernel_rfl
theorem st25_0 (k:Kont) (s:(Int × (List AV) × Int × Int × (List AV))) (next:St→Option AV):stepA (codeA c25 (inlA c25 1) [] 25 0 (sub [1,1,1,0,1,0,0] (body Tryd.f25))) (normA [] [3,4,5]) next (E25_0 s) k=(R25_0 s).el none (fun s=>next (E25_0 s)) (K25_0 k):=(s25_0 k s next).trans (by unfold R25_0;unfold F25_0 G25_0;simp only [el_cond,el_ro,el_sum,el_fail,el_next,el_stop] <;> rfl)
theorem ok25_0:LoopOK c25 (inlA c25 1) [] 25 0 (sub [1,1,1,0,1,0,0] (body Tryd.f25)):=by
 intro m hm st k r h
 obtain rfl:l25_0=m:=Option.some.inj hm
 unfold l25_0 at h
 split at h
 ·rename_i g0 g1 g2 g3 t5 g4 g5 h0_0 h0_1 h0_2 g6 g7 h1
  obtain ⟨hg,h⟩:=bif_some h
  simp only [Bool.and_eq_true] at hg
  obtain ⟨⟨⟨⟨⟨⟨⟨q0,q1⟩,q2⟩,q3⟩,q4⟩,q5⟩,q6⟩,q7⟩:=hg
  obtain rfl:=nE q0
  obtain rfl:=bE q1
  obtain rfl:=bE q2
  obtain rfl:=nE q3
  obtain rfl:=nE q4
  obtain rfl:=cE q5
  obtain rfl:=nE q6
  obtain rfl:=cE q7
  refine ⟨((t5 - 0:Int).toNat+1),?_⟩
  rw [← h]
  exact loop_run E25_0 (K25_0 k) (st25_0 k) _ (t5,h0_0,h0_1,h0_2,h1)
 ·cases h
theorem s25i30_0 (t0:List AV) (ce:CallE) (k:Kont) (s:Int × Int) (next:St→Option AV):stepA (codeA c25 ce [8] 30 0 (sub [1,1,0,1,0,0] (body Tryd.f30))) (normA [8] [0,3,4]) next ((E25i30_0 t0) s) k=G25i30_0 t0 s.1 s.2 (fun s=>next ((E25i30_0 t0) s)) (K25i30_0 t0 k) none:=by kernel_rfl
theorem st25i30_0 (t0:List AV) (ce:CallE) (k:Kont) (s:(Int × Int)) (next:St→Option AV):stepA (codeA c25 ce [8] 30 0 (sub [1,1,0,1,0,0] (body Tryd.f30))) (normA [8] [0,3,4]) next ((E25i30_0 t0) s) k=(R25i30_0 t0 s).el none (fun s=>next ((E25i30_0 t0) s)) (K25i30_0 t0 k):=(s25i30_0 t0 ce k s next).trans (by unfold R25i30_0;unfold F25i30_0 G25i30_0;simp only [el_cond,el_ro,el_sum,el_fail,el_next,el_stop] <;> rfl)
theorem ok25i30_0 {ce:CallE} {π:Nm}:LoopOK c25 ce π 30 0 (sub [1,1,0,1,0,0] (body Tryd.f30)):=by
 intro m hm st k r h
 obtain rfl:l25i30_0=m:=Option.some.inj hm
 unfold l25i30_0 at h
 split at h
 ·rename_i g1 t0 t3 t4
  obtain ⟨hg,h⟩:=bif_some h
  simp only [Bool.and_eq_true] at hg
  obtain ⟨q0,q1⟩:=hg
  obtain rfl:=nE q0
  obtain rfl:=cE q1
  refine ⟨(((t0.length:Int) - t4:Int).toNat+1),?_⟩
  rw [← h]
  exact loop_run (E25i30_0 t0) (K25i30_0 t0 k) (st25i30_0 t0 ce k) _ (t3,t4)
 ·cases h
def T25 {β:Type} (k:((List AV))→β) (n:β) (a0:List AV):β:=(ro (runW (R25i30_0 a0) (((a0.length:Int) - 0:Int).toNat+1) (IntKind.i64.wrap (10101+(a0.length:Int)),0)) n (fun p10=>(bif q49 5 a0 0 p10 then (ro (runW (R25_0) (((v49_0 5 a0 0 p10) - 0:Int).toNat+1) ((v49_0 5 a0 0 p10),(v49_1 5 a0 0 p10),(v49_2 5 a0 0 p10),(v49_3 5 a0 0 p10),([]:List AV))) n (fun p11=>k p11.2.2.2))
 else n)))
abbrev W25 (a0:List AV):Option ((List AV)):=T25 some none a0
theorem n25 {β:Type} (k:((List AV))→β) (n:β) (a0:List AV):T25 k n a0=oe k n (W25 a0):=by
 unfold W25 T25
 simp only [oe_cond,oe_ro,oe_sum,oe_some,oe_none]
def q25 (a0:List AV):Bool:=(W25 a0).isSome
def v25_0 (a0:List AV):List AV:=oe (fun t=>t) [] (W25 a0)
theorem e25 (a0:List AV):funA c25 1 25 [AV.sl [.int .u8] a0]=T25 (fun t=>some (AV.fl [.int .i64,.int .i64] t)) none a0:=by kernel_rfl
theorem r25 (a0:List AV) (h:q25 a0=true):funA c25 1 25 [AV.sl [.int .u8] a0]=some (AV.fl [.int .i64,.int .i64] (v25_0 a0)):=by
 refine ((e25 a0).trans (n25 _ _ a0)).trans ?_
 unfold q25 at h
 unfold v25_0
 generalize W25 a0=o at *
 cases o with
 | none=>cases h
 | some t=>rfl
def m25:TModel
 | [.sl g0 a0]=>bif ctsEq g0 ([.int .u8]) then some (q25 a0,AV.fl [.int .i64,.int .i64] (v25_0 a0)) else none
 | _=>none
theorem k25:Known Tryd.prog 25:=⟨Tryd.f25,Tryd.func25,by kernel_rfl,by kernel_rfl⟩
theorem i25_30:InlK Tryd.prog [(25,0,[3,4,5]),(25,999,[2]),(25,1000,[4]),(25,1001,[3,4,5]),(30,0,[0,3,4]),(30,999,[2]),(30,1000,[0,3]),(30,1001,[0,3,4])] [] [(49,.g m49),(59,.g m59)] [30] [(25,0,l25_0),(30,0,l25i30_0)] 30:=⟨⟨Tryd.f30,Tryd.func30,by kernel_rfl,by kernel_rfl⟩,Tryd.f30,[(0,sub [1,1,0,1,0,0] (body Tryd.f30))],Tryd.func30,by kernel_rfl,fun ce π=>(loops_cons (ok25i30_0 (ce:=ce) (π:=π)) noLoop)⟩
theorem meets25:Meets Tryd.prog 25 m25:=by
 refine mt (lvl:=1) (cf:=c25) rfl mixed k25 Tryd.func25 (by kernel_rfl) (loops_cons ok25_0 noLoop) allT_nil (allG_cons meets49 (allG_cons meets59 allM_nil)) (allI_cons i25_30 noI) fun xs r h=>?_
 unfold m25 at h
 split at h
 ·rename_i g0 a0
  obtain ⟨hg,h⟩:=bif_pair h
  have q0:=hg
  obtain rfl:=cE q0
  obtain ⟨h1,rfl⟩:=pair_inj h
  exact r25 a0 h1
 ·cases h
def G60_0 {β:Type} (t0:List AV) (t3:Int) (N:(Int)→β) (K:(Unit ⊕ Unit)→β) (d:β):β:=(bif decide (t3<(t0.length:Int)) then (bif (decide (0≤t3) && decide (t3<(t0.length:Int))) then (bif !(v22_0 (fI (t0.getD t3.toNat .undef) 0) (fI (t0.getD t3.toNat .undef) 1)) then K (.inr ())
 else N (IntKind.i64.wrap (t3+1)))
 else d)
 else K (.inl ()))
def F60_0 (t0:List AV) (t3:Int):Out (Int) (Unit ⊕ Unit):=G60_0 t0 t3 .next .stop .fail
def R60_0 (t0:List AV):(Int)→Out (Int) (Unit ⊕ Unit):=fun s:Int=>F60_0 t0 s
def E60_0 (t0:List AV):(Int)→St:=fun s:Int=>⟨[(0,AV.sl [.int .i64,.int .i64] t0),(3,Ai s)],[]⟩
def K60_0 (t0:List AV) (k:Kont):(Unit ⊕ Unit)→Option AV:=sumE (fun _:Unit=>k (.exit 0) ⟨[(0,AV.sl [.int .i64,.int .i64] t0)],[]⟩) (fun _:Unit=>k .ret ⟨[(2,AV.bool false)],[]⟩)
def l60_0:LModel:=fun _ _ st k=>match st with
 | ⟨[(0,.sl g0 t0),(3,.int .i64 t3)],[]⟩=>bif ctsEq g0 ([.int .i64,.int .i64]) then ro (runW (R60_0 t0) (((t0.length:Int) - t3:Int).toNat+1) t3) none (K60_0 t0 k) else none
 | _=>none
noncomputable def c60:Cfg:=cfg Tryd.prog [(60,0,[0,3]),(60,999,[2]),(60,1000,[0]),(60,1001,[0,3])] [(22,m22)] [] [] [(60,0,l60_0)]
theorem s60_0 (t0:List AV) (ce:CallE) (k:Kont) (s:Int) (next:St→Option AV):stepA (codeA c60 ce [] 60 0 (sub [1,0,1,0,0] (body Tryd.f60))) (normA [] [0,3]) next ((E60_0 t0) s) k=G60_0 t0 s (fun s=>next ((E60_0 t0) s)) (K60_0 t0 k) none:=by kernel_rfl
theorem st60_0 (t0:List AV) (ce:CallE) (k:Kont) (s:Int) (next:St→Option AV):stepA (codeA c60 ce [] 60 0 (sub [1,0,1,0,0] (body Tryd.f60))) (normA [] [0,3]) next ((E60_0 t0) s) k=(R60_0 t0 s).el none (fun s=>next ((E60_0 t0) s)) (K60_0 t0 k):=(s60_0 t0 ce k s next).trans (by unfold R60_0;unfold F60_0 G60_0;simp only [el_cond,el_ro,el_sum,el_fail,el_next,el_stop] <;> rfl)
theorem ok60_0 {ce:CallE}:LoopOK c60 ce [] 60 0 (sub [1,0,1,0,0] (body Tryd.f60)):=by
 intro m hm st k r h
 obtain rfl:l60_0=m:=Option.some.inj hm
 unfold l60_0 at h
 split at h
 ·rename_i g0 t0 t3
  obtain ⟨hg,h⟩:=bif_some h
  have q0:=hg
  obtain rfl:=cE q0
  refine ⟨(((t0.length:Int) - t3:Int).toNat+1),?_⟩
  rw [← h]
  exact loop_run (E60_0 t0) (K60_0 t0 k) (st60_0 t0 ce k) _ t3
 ·cases h
def q60 (a0:List AV):Bool:=(ro (runW (R60_0 a0) (((a0.length:Int) - 0:Int).toNat+1) 0) false (sumE (fun _=>true) (fun _=>true)))
def v60_0 (a0:List AV):Bool:=(ro (runW (R60_0 a0) (((a0.length:Int) - 0:Int).toNat+1) 0) false (sumE (fun _=>decide ((a0.length:Int)≤30)) (fun _=>false)))
theorem e60 (a0:List AV):funA c60 0 60 [AV.sl [.int .i64,.int .i64] a0]=(ro (runW (R60_0 a0) (((a0.length:Int) - 0:Int).toNat+1) 0) none (sumE (fun _=>some (AV.bool (decide ((a0.length:Int)≤30)))) (fun _=>some (AV.bool false)))):=by kernel_rfl
def m60:TModel
 | [.sl g0 a0]=>bif ctsEq g0 ([.int .i64,.int .i64]) then some (q60 a0,AV.bool (v60_0 a0)) else none
 | _=>none
theorem k60:Known Tryd.prog 60:=⟨Tryd.f60,Tryd.func60,by kernel_rfl,by kernel_rfl⟩
theorem meets60:Meets Tryd.prog 60 m60:=by
 refine mt (lvl:=0) (cf:=c60) rfl mixed k60 Tryd.func60 (by kernel_rfl) (loops_cons ok60_0 noLoop) (allT_cons meets22 allT_nil) allM_nil noI fun xs r h=>?_
 unfold m60 at h
 split at h
 ·rename_i g0 a0
  obtain ⟨hg,h⟩:=bif_pair h
  have q0:=hg
  obtain rfl:=cE q0
  obtain ⟨h1,rfl⟩:=pair_inj h
  exact (e60 a0).trans ((brO (fun o:Option (Unit ⊕ Unit)=>some (AV.bool (ro o false (sumE (fun _=>decide ((a0.length:Int)≤30)) (fun _=>false))))) (brS (fun o:Unit ⊕ Unit=>some (AV.bool ((sumE (fun _=>decide ((a0.length:Int)≤30)) (fun _=>false)) o))) (fun _=>(fun _=>rfl)) (fun _=>(fun _=>rfl)))) h1)
 ·cases h
def G43_0 {β:Type} (t4:Bool) (t0:Int) (t3:ByteArray) (N:((Int × ByteArray))→β) (K:(ByteArray)→β) (d:β):β:=(bif !decide (t0=0) then (bif !decide (10=0) then (bif decide (Int.tmod t0 10<0) then (bif decide ((bytesA ([AV.int .u8 (IntKind.u8.wrap (IntKind.i64.wrap (48+IntKind.i64.wrap (0 - (Int.tmod t0 10)))))])).size+t3.size≤4611686018427387904) then (bif !decide (10=0) then N (IntKind.i64.wrap (Int.tdiv t0 10),(bytesA ([AV.int .u8 (IntKind.u8.wrap (IntKind.i64.wrap (48+IntKind.i64.wrap (0 - (Int.tmod t0 10)))))]))++t3)
 else d)
 else d)
 else (bif decide ((bytesA ([AV.int .u8 (IntKind.u8.wrap (IntKind.i64.wrap (48+Int.tmod t0 10)))])).size+t3.size≤4611686018427387904) then (bif !decide (10=0) then N (IntKind.i64.wrap (Int.tdiv t0 10),(bytesA ([AV.int .u8 (IntKind.u8.wrap (IntKind.i64.wrap (48+Int.tmod t0 10)))]))++t3)
 else d)
 else d))
 else d)
 else K t3)
def F43_0 (t4:Bool) (t0:Int) (t3:ByteArray):Out ((Int × ByteArray)) (ByteArray):=G43_0 t4 t0 t3 .next .stop .fail
def R43_0 (t4:Bool):((Int × ByteArray))→Out ((Int × ByteArray)) (ByteArray):=fun s:Int × ByteArray=>F43_0 t4 s.1 s.2
def E43_0 (t4:Bool):((Int × ByteArray))→St:=fun s:Int × ByteArray=>⟨[(0,Ai s.1),(3,AV.str s.2),(4,AV.bool t4)],[]⟩
def K43_0 (t4:Bool) (k:Kont):(ByteArray)→Option AV:=fun p:ByteArray=>k (.exit 0) ⟨[(3,AV.str p),(4,AV.bool t4)],[]⟩
def l43_0:LModel:=fun _ _ st k=>match st with
 | ⟨[(0,.int .i64 t0),(3,.str t3),(4,.bool t4)],[]⟩=>ro (runW (R43_0 t4) (t0.natAbs+1) (t0,t3)) none (K43_0 t4 k)
 | _=>none
noncomputable def c43:Cfg:=cfg Tryd.prog [(43,0,[0,3,4]),(43,999,[2]),(43,1000,[3,4]),(43,1001,[0,3,4])] [] [] [] [(43,0,l43_0)]
theorem s43_0 (t4:Bool) (ce:CallE) (k:Kont) (s:Int × ByteArray) (next:St→Option AV):stepA (codeA c43 ce [] 43 0 (sub [1,1,1,1,0,0,0] (body Tryd.f43))) (normA [] [0,3,4]) next ((E43_0 t4) s) k=G43_0 t4 s.1 s.2 (fun s=>next ((E43_0 t4) s)) (K43_0 t4 k) none:=by kernel_rfl
theorem st43_0 (t4:Bool) (ce:CallE) (k:Kont) (s:(Int × ByteArray)) (next:St→Option AV):stepA (codeA c43 ce [] 43 0 (sub [1,1,1,1,0,0,0] (body Tryd.f43))) (normA [] [0,3,4]) next ((E43_0 t4) s) k=(R43_0 t4 s).el none (fun s=>next ((E43_0 t4) s)) (K43_0 t4 k):=(s43_0 t4 ce k s next).trans (by unfold R43_0;unfold F43_0 G43_0;simp only [el_cond,el_ro,el_sum,el_fail,el_next,el_stop] <;> rfl)
theorem ok43_0 {ce:CallE}:LoopOK c43 ce [] 43 0 (sub [1,1,1,1,0,0,0] (body Tryd.f43)):=by
 intro m hm st k r h
 obtain rfl:l43_0=m:=Option.some.inj hm
 unfold l43_0 at h
 split at h
 ·rename_i t0 t3 t4
  refine ⟨(t0.natAbs+1),?_⟩
  rw [← h]
  exact loop_run (E43_0 t4) (K43_0 t4 k) (st43_0 t4 ce k) _ (t0,t3)
 ·cases h
def q43 (a0:Int):Bool:=(bif decide (a0=0) then true else (ro (runW (R43_0 (decide (a0<0))) (a0.natAbs+1) (a0,ByteArray.empty)) false (fun p14=>(bif decide (a0<0) then decide ((ByteArray.mk #[45]).size+p14.size≤4611686018427387904) else true))))
def v43_0 (a0:Int):ByteArray:=(bif decide (a0=0) then (ByteArray.mk #[48]) else (ro (runW (R43_0 (decide (a0<0))) (a0.natAbs+1) (a0,ByteArray.empty)) ByteArray.empty (fun p14=>(bif decide (a0<0) then (ByteArray.mk #[45])++p14 else p14))))
theorem e43 (a0:Int):funA c43 0 43 [Ai a0]=(bif decide (a0=0) then some (AV.str (ByteArray.mk #[48]))
 else (ro (runW (R43_0 (decide (a0<0))) (a0.natAbs+1) (a0,ByteArray.empty)) none (fun p14=>(bif decide (a0<0) then (bif decide ((ByteArray.mk #[45]).size+p14.size≤4611686018427387904) then some (AV.str ((ByteArray.mk #[45])++p14))
 else none)
 else some (AV.str p14))))):=by kernel_rfl
def m43:TModel
 | [.int .i64 a0]=>some (q43 a0,AV.str (v43_0 a0))
 | _=>none
theorem k43:Known Tryd.prog 43:=⟨Tryd.f43,Tryd.func43,by kernel_rfl,by kernel_rfl⟩
theorem meets43:Meets Tryd.prog 43 m43:=by
 refine mt (lvl:=0) (cf:=c43) rfl mixed k43 Tryd.func43 (by kernel_rfl) (loops_cons ok43_0 noLoop) allT_nil allM_nil noI fun xs r h=>?_
 unfold m43 at h
 split at h
 ·rename_i a0
  obtain ⟨h1,rfl⟩:=pair_inj h
  exact (e43 a0).trans ((br (fun b=>some (AV.str (bif b then (ByteArray.mk #[48]) else (ro (runW (R43_0 (decide (a0<0))) (a0.natAbs+1) (a0,ByteArray.empty)) ByteArray.empty (fun p14=>(bif decide (a0<0) then (ByteArray.mk #[45])++p14 else p14)))))) (fun _=>rfl) (brO (fun o:Option (ByteArray)=>some (AV.str (ro o ByteArray.empty (fun p14=>(bif decide (a0<0) then (ByteArray.mk #[45])++p14 else p14))))) (fun p14=>(br (fun b=>some (AV.str (bif b then (ByteArray.mk #[45])++p14 else p14))) (brL1 (fun _=>rfl)) (fun _=>rfl))))) h1)
 ·cases h
noncomputable def c61:Cfg:=cfg Tryd.prog [(61,999,[2])] [(22,m22),(43,m43)] [] [] []
def q61 (xa xb:Int):Bool:=(bif !(v22_0 xa xb) then true else (q43 xa && (decide ((v43_0 xa).size+(ByteArray.mk #[46,46]).size≤4611686018427387904) && (q43 xb && decide (((v43_0 xa)++(ByteArray.mk #[46,46])).size+(v43_0 xb).size≤4611686018427387904)))))
def v61_0 (xa xb:Int):ByteArray:=(bif !(v22_0 xa xb) then ByteArray.empty else ((v43_0 xa)++(ByteArray.mk #[46,46]))++(v43_0 xb))
theorem e61 (xa xb:Int):funA c61 0 61 [AV.agg [Ai xa,Ai xb]]=(bif !(v22_0 xa xb) then some (AV.str ByteArray.empty)
 else (bif q43 xa then (bif decide ((v43_0 xa).size+(ByteArray.mk #[46,46]).size≤4611686018427387904) then (bif q43 xb then (bif decide (((v43_0 xa)++(ByteArray.mk #[46,46])).size+(v43_0 xb).size≤4611686018427387904) then some (AV.str (((v43_0 xa)++(ByteArray.mk #[46,46]))++(v43_0 xb)))
 else none)
 else none)
 else none)
 else none)):=by kernel_rfl
def m61:TModel
 | [.agg [.int .i64 xa,.int .i64 xb]]=>some (q61 xa xb,AV.str (v61_0 xa xb))
 | _=>none
theorem k61:Known Tryd.prog 61:=⟨Tryd.f61,Tryd.func61,by kernel_rfl,by kernel_rfl⟩
theorem meets61:Meets Tryd.prog 61 m61:=by
 refine mt (lvl:=0) (cf:=c61) rfl mixed k61 Tryd.func61 (by kernel_rfl) noLoop (allT_cons meets22 (allT_cons meets43 allT_nil)) allM_nil noI fun xs r h=>?_
 unfold m61 at h
 split at h
 ·rename_i xa xb
  obtain ⟨h1,rfl⟩:=pair_inj h
  exact (e61 xa xb).trans ((br (fun b=>some (AV.str (bif b then ByteArray.empty else ((v43_0 xa)++(ByteArray.mk #[46,46]))++(v43_0 xb)))) (fun _=>rfl) (brL (brL (brL (brL1 (fun _=>rfl)))))) h1)
 ·cases h
def G26_0 {β:Type} (t0:List AV) (t3:ByteArray) (t4:Int) (N:((ByteArray × Int))→β) (K:(ByteArray)→β) (d:β):β:=by
 refine (?f0:ByteArray→β) (v61_0 (fI (t0.getD t4.toNat .undef) 0) (fI (t0.getD t4.toNat .undef) 1));intro x1
 exact (bif decide (t4<(t0.length:Int)) then (bif decide (t4 > 0) then (bif decide (t3.size+(ByteArray.mk #[32]).size≤4611686018427387904) then (bif (decide (0≤t4) && decide (t4<(t0.length:Int))) then (bif q61 (fI (t0.getD t4.toNat .undef) 0) (fI (t0.getD t4.toNat .undef) 1) then (bif decide ((t3++(ByteArray.mk #[32])).size+x1.size≤4611686018427387904) then N ((t3++(ByteArray.mk #[32]))++x1,IntKind.i64.wrap (t4+1))
 else d)
 else d)
 else d)
 else d)
 else (bif (decide (0≤t4) && decide (t4<(t0.length:Int))) then (bif q61 (fI (t0.getD t4.toNat .undef) 0) (fI (t0.getD t4.toNat .undef) 1) then (bif decide (t3.size+x1.size≤4611686018427387904) then N (t3++x1,IntKind.i64.wrap (t4+1))
 else d)
 else d)
 else d))
 else K t3)
def F26_0 (t0:List AV) (t3:ByteArray) (t4:Int):Out ((ByteArray × Int)) (ByteArray):=G26_0 t0 t3 t4 .next .stop .fail
def R26_0 (t0:List AV):((ByteArray × Int))→Out ((ByteArray × Int)) (ByteArray):=fun s:ByteArray × Int=>F26_0 t0 s.1 s.2
def E26_0 (t0:List AV):((ByteArray × Int))→St:=fun s:ByteArray × Int=>⟨[(0,AV.sl [.int .i64,.int .i64] t0),(3,AV.str s.1),(4,Ai s.2)],[]⟩
def K26_0 (t0:List AV) (k:Kont):(ByteArray)→Option AV:=fun p:ByteArray=>k (.exit 0) ⟨[(3,AV.str p)],[]⟩
def l26_0:LModel:=fun _ _ st k=>match st with
 | ⟨[(0,.sl g0 t0),(3,.str t3),(4,.int .i64 t4)],[]⟩=>bif ctsEq g0 ([.int .i64,.int .i64]) then ro (runW (R26_0 t0) (((t0.length:Int) - t4:Int).toNat+1) (t3,t4)) none (K26_0 t0 k) else none
 | _=>none
noncomputable def c26:Cfg:=cfg Tryd.prog [(26,0,[0,3,4]),(26,999,[2]),(26,1000,[3]),(26,1001,[0,3,4])] [(60,m60),(61,m61)] [] [] [(26,0,l26_0)]
theorem s26_0 (t0:List AV) (ce:CallE) (k:Kont) (s:ByteArray × Int) (next:St→Option AV):stepA (codeA c26 ce [] 26 0 (sub [1,1,1,0,1,0,0] (body Tryd.f26))) (normA [] [0,3,4]) next ((E26_0 t0) s) k=G26_0 t0 s.1 s.2 (fun s=>next ((E26_0 t0) s)) (K26_0 t0 k) none:=by kernel_rfl
theorem st26_0 (t0:List AV) (ce:CallE) (k:Kont) (s:(ByteArray × Int)) (next:St→Option AV):stepA (codeA c26 ce [] 26 0 (sub [1,1,1,0,1,0,0] (body Tryd.f26))) (normA [] [0,3,4]) next ((E26_0 t0) s) k=(R26_0 t0 s).el none (fun s=>next ((E26_0 t0) s)) (K26_0 t0 k):=(s26_0 t0 ce k s next).trans (by unfold R26_0;unfold F26_0 G26_0;simp only [el_cond,el_ro,el_sum,el_fail,el_next,el_stop] <;> rfl)
theorem ok26_0 {ce:CallE}:LoopOK c26 ce [] 26 0 (sub [1,1,1,0,1,0,0] (body Tryd.f26)):=by
 intro m hm st k r h
 obtain rfl:l26_0=m:=Option.some.inj hm
 unfold l26_0 at h
 split at h
 ·rename_i g0 t0 t3 t4
  obtain ⟨hg,h⟩:=bif_some h
  have q0:=hg
  obtain rfl:=cE q0
  refine ⟨(((t0.length:Int) - t4:Int).toNat+1),?_⟩
  rw [← h]
  exact loop_run (E26_0 t0) (K26_0 t0 k) (st26_0 t0 ce k) _ (t3,t4)
 ·cases h
def q26 (a0:List AV):Bool:=(q60 a0 && (bif !(v60_0 a0) then true else (ro (runW (R26_0 a0) (((a0.length:Int) - 0:Int).toNat+1) (ByteArray.empty,0)) false (fun p15=>true))))
def v26_0 (a0:List AV):ByteArray:=(bif !(v60_0 a0) then ByteArray.empty else (ro (runW (R26_0 a0) (((a0.length:Int) - 0:Int).toNat+1) (ByteArray.empty,0)) ByteArray.empty (fun p15=>(bif (p15.toList == ByteArray.empty.toList) then (ByteArray.mk #[110,111,110,101]) else p15))))
theorem e26 (a0:List AV):funA c26 0 26 [AV.sl [.int .i64,.int .i64] a0]=(bif q60 a0 then (bif !(v60_0 a0) then some (AV.str ByteArray.empty)
 else (ro (runW (R26_0 a0) (((a0.length:Int) - 0:Int).toNat+1) (ByteArray.empty,0)) none (fun p15=>(bif (p15.toList == ByteArray.empty.toList) then some (AV.str (ByteArray.mk #[110,111,110,101]))
 else some (AV.str p15)))))
 else none):=by kernel_rfl
def m26:TModel
 | [.sl g0 a0]=>bif ctsEq g0 ([.int .i64,.int .i64]) then some (q26 a0,AV.str (v26_0 a0)) else none
 | _=>none
theorem k26:Known Tryd.prog 26:=⟨Tryd.f26,Tryd.func26,by kernel_rfl,by kernel_rfl⟩
theorem meets26:Meets Tryd.prog 26 m26:=by
 refine mt (lvl:=0) (cf:=c26) rfl mixed k26 Tryd.func26 (by kernel_rfl) (loops_cons ok26_0 noLoop) (allT_cons meets60 (allT_cons meets61 allT_nil)) allM_nil noI fun xs r h=>?_
 unfold m26 at h
 split at h
 ·rename_i g0 a0
  obtain ⟨hg,h⟩:=bif_pair h
  have q0:=hg
  obtain rfl:=cE q0
  obtain ⟨h1,rfl⟩:=pair_inj h
  exact (e26 a0).trans ((brL (br (fun b=>some (AV.str (bif b then ByteArray.empty else (ro (runW (R26_0 a0) (((a0.length:Int) - 0:Int).toNat+1) (ByteArray.empty,0)) ByteArray.empty (fun p15=>(bif (p15.toList == ByteArray.empty.toList) then (ByteArray.mk #[110,111,110,101]) else p15)))))) (fun _=>rfl) (brO (fun o:Option (ByteArray)=>some (AV.str (ro o ByteArray.empty (fun p15=>(bif (p15.toList == ByteArray.empty.toList) then (ByteArray.mk #[110,111,110,101]) else p15))))) (fun p15=>(brT (fun b=>some (AV.str (bif b then (ByteArray.mk #[110,111,110,101]) else p15))) (fun _=>rfl) (fun _=>rfl)))))) h1)
 ·cases h
def G27_0 {β:Type} (t0:List AV) (t14:List AV) (t15:Int) (t3:Int) (t16:Int) (N:((Int × Int))→β) (K:(Int)→β) (d:β):β:=(bif decide (t16<t15) then (bif (decide (0≤t16) && decide (t16<(t14.length:Int))) then N (IntKind.i64.wrap (t3+IntKind.i64.wrap (fI (t14.getD t16.toNat .undef) 1 - fI (t14.getD t16.toNat .undef) 0)),IntKind.i64.wrap (t16+1))
 else d)
 else K t3)
def F27_0 (t0 t14:List AV) (t15 t3 t16:Int):Out ((Int × Int)) (Int):=G27_0 t0 t14 t15 t3 t16 .next .stop .fail
def R27_0 (t0 t14:List AV) (t15:Int):((Int × Int))→Out ((Int × Int)) (Int):=fun s:Int × Int=>F27_0 t0 t14 t15 s.1 s.2
def E27_0 (t0 t14:List AV) (t15:Int):((Int × Int))→St:=fun s:Int × Int=>⟨[(0,AV.sl [.int .i64,.int .i64] t0),(3,Ai s.1),(14,AV.sl [.int .i64,.int .i64] t14),(15,Ai t15),(16,Ai s.2)],[]⟩
def K27_0 (t0 t14:List AV) (t15:Int) (k:Kont):(Int)→Option AV:=fun p:Int=>k (.exit 0) ⟨[(0,AV.sl [.int .i64,.int .i64] t0),(3,Ai p)],[]⟩
def l27_0:LModel:=fun _ _ st k=>match st with
 | ⟨[(0,.sl g0 t0),(3,.int .i64 t3),(14,.sl g1 t14),(15,.int .i64 t15),(16,.int .i64 t16)],[]⟩=>bif ctsEq g0 ([.int .i64,.int .i64]) && ctsEq g1 ([.int .i64,.int .i64]) then ro (runW (R27_0 t0 t14 t15) ((t15 - t16:Int).toNat+1) (t3,t16)) none (K27_0 t0 t14 t15 k) else none
 | _=>none
noncomputable def c27:Cfg:=cfg Tryd.prog [(27,0,[0,3,14,15,16]),(27,999,[2]),(27,1000,[0,3]),(27,1001,[0,3,14,15,16])] [(55,m55)] [] [] [(27,0,l27_0)]
theorem s27_0 (t0 t14:List AV) (t15:Int) (ce:CallE) (k:Kont) (s:Int × Int) (next:St→Option AV):stepA (codeA c27 ce [] 27 0 (sub [1,1,1,0,1,0,0] (body Tryd.f27))) (normA [] [0,3,14,15,16]) next ((E27_0 t0 t14 t15) s) k=G27_0 t0 t14 t15 s.1 s.2 (fun s=>next ((E27_0 t0 t14 t15) s)) (K27_0 t0 t14 t15 k) none:=by kernel_rfl
theorem st27_0 (t0 t14:List AV) (t15:Int) (ce:CallE) (k:Kont) (s:(Int × Int)) (next:St→Option AV):stepA (codeA c27 ce [] 27 0 (sub [1,1,1,0,1,0,0] (body Tryd.f27))) (normA [] [0,3,14,15,16]) next ((E27_0 t0 t14 t15) s) k=(R27_0 t0 t14 t15 s).el none (fun s=>next ((E27_0 t0 t14 t15) s)) (K27_0 t0 t14 t15 k):=(s27_0 t0 t14 t15 ce k s next).trans (by unfold R27_0;unfold F27_0 G27_0;simp only [el_cond,el_ro,el_sum,el_fail,el_next,el_stop] <;> rfl)
theorem ok27_0 {ce:CallE}:LoopOK c27 ce [] 27 0 (sub [1,1,1,0,1,0,0] (body Tryd.f27)):=by
 intro m hm st k r h
 obtain rfl:l27_0=m:=Option.some.inj hm
 unfold l27_0 at h
 split at h
 ·rename_i g0 t0 t3 g1 t14 t15 t16
  obtain ⟨hg,h⟩:=bif_some h
  simp only [Bool.and_eq_true] at hg
  obtain ⟨q0,q1⟩:=hg
  obtain rfl:=cE q0
  obtain rfl:=cE q1
  refine ⟨((t15 - t16:Int).toNat+1),?_⟩
  rw [← h]
  exact loop_run (E27_0 t0 t14 t15) (K27_0 t0 t14 t15 k) (st27_0 t0 t14 t15 ce k) _ (t3,t16)
 ·cases h
def q27 (a0:List AV):Bool:=(bif decide ((a0.length:Int)=0) then true else (q55 a0 && (bif !(v55_0 a0) then true else (ro (runW (R27_0 a0 a0 (a0.length:Int)) (((a0.length:Int) - 0:Int).toNat+1) (0,0)) false (fun p16 => !decide ((a0.length:Int)=0))))))
def v27_0 (a0:List AV):Int:=(bif decide ((a0.length:Int)=0) then 0 else (bif !(v55_0 a0) then 0 else (ro (runW (R27_0 a0 a0 (a0.length:Int)) (((a0.length:Int) - 0:Int).toNat+1) (0,0)) 0 (fun p16=>IntKind.i64.wrap (Int.tdiv p16 (a0.length:Int))))))
theorem e27 (a0:List AV):funA c27 0 27 [AV.sl [.int .i64,.int .i64] a0]=(bif decide ((a0.length:Int)=0) then some (Ai 0)
 else (bif q55 a0 then (bif !(v55_0 a0) then some (Ai 0)
 else (ro (runW (R27_0 a0 a0 (a0.length:Int)) (((a0.length:Int) - 0:Int).toNat+1) (0,0)) none (fun p16=>(bif !decide ((a0.length:Int)=0) then some (Ai (IntKind.i64.wrap (Int.tdiv p16 (a0.length:Int))))
 else none))))
 else none)):=by kernel_rfl
def m27:TModel
 | [.sl g0 a0]=>bif ctsEq g0 ([.int .i64,.int .i64]) then some (q27 a0,AV.int .i64 (v27_0 a0)) else none
 | _=>none
theorem k27:Known Tryd.prog 27:=⟨Tryd.f27,Tryd.func27,by kernel_rfl,by kernel_rfl⟩
theorem meets27:Meets Tryd.prog 27 m27:=by
 refine mt (lvl:=0) (cf:=c27) rfl mixed k27 Tryd.func27 (by kernel_rfl) (loops_cons ok27_0 noLoop) (allT_cons meets55 allT_nil) allM_nil noI fun xs r h=>?_
 unfold m27 at h
 split at h
 ·rename_i g0 a0
  obtain ⟨hg,h⟩:=bif_pair h
  have q0:=hg
  obtain rfl:=cE q0
  obtain ⟨h1,rfl⟩:=pair_inj h
  exact (e27 a0).trans ((br (fun b=>some (Ai (bif b then 0 else (bif !(v55_0 a0) then 0 else (ro (runW (R27_0 a0 a0 (a0.length:Int)) (((a0.length:Int) - 0:Int).toNat+1) (0,0)) 0 (fun p16=>IntKind.i64.wrap (Int.tdiv p16 (a0.length:Int)))))))) (fun _=>rfl) (brL (br (fun b=>some (Ai (bif b then 0 else (ro (runW (R27_0 a0 a0 (a0.length:Int)) (((a0.length:Int) - 0:Int).toNat+1) (0,0)) 0 (fun p16=>IntKind.i64.wrap (Int.tdiv p16 (a0.length:Int))))))) (fun _=>rfl) (brO (fun o:Option (Int)=>some (Ai (ro o 0 (fun p16=>IntKind.i64.wrap (Int.tdiv p16 (a0.length:Int)))))) (fun p16=>(brL1 (fun _=>rfl))))))) h1)
 ·cases h
def G28_0 {β:Type} (t0:List AV) (t3:Int) (t4:Int) (N:((Int × Int))→β) (K:(Int)→β) (d:β):β:=(bif decide (t4<(t0.length:Int)) then (bif (decide (0≤t4) && decide (t4<(t0.length:Int))) then (bif (decide (0≤t4) && decide (t4<(t0.length:Int))) then N (IntKind.i64.wrap (IntKind.i64.wrap (t3+fI (t0.getD t4.toNat .undef) 1) - fI (t0.getD t4.toNat .undef) 0),IntKind.i64.wrap (t4+1))
 else d)
 else d)
 else K t3)
def F28_0 (t0:List AV) (t3 t4:Int):Out ((Int × Int)) (Int):=G28_0 t0 t3 t4 .next .stop .fail
def R28_0 (t0:List AV):((Int × Int))→Out ((Int × Int)) (Int):=fun s:Int × Int=>F28_0 t0 s.1 s.2
def E28_0 (t0:List AV):((Int × Int))→St:=fun s:Int × Int=>⟨[(0,AV.sl [.int .i64,.int .i64] t0),(3,Ai s.1),(4,Ai s.2)],[]⟩
def K28_0 (t0:List AV) (k:Kont):(Int)→Option AV:=fun p:Int=>k (.exit 0) ⟨[(0,AV.sl [.int .i64,.int .i64] t0),(3,Ai p)],[]⟩
def l28_0:LModel:=fun _ _ st k=>match st with
 | ⟨[(0,.sl g0 t0),(3,.int .i64 t3),(4,.int .i64 t4)],[]⟩=>bif ctsEq g0 ([.int .i64,.int .i64]) then ro (runW (R28_0 t0) (((t0.length:Int) - t4:Int).toNat+1) (t3,t4)) none (K28_0 t0 k) else none
 | _=>none
noncomputable def c28:Cfg:=cfg Tryd.prog [(28,0,[0,3,4]),(28,999,[2]),(28,1000,[0,3]),(28,1001,[0,3,4])] [(60,m60)] [] [] [(28,0,l28_0)]
theorem s28_0 (t0:List AV) (ce:CallE) (k:Kont) (s:Int × Int) (next:St→Option AV):stepA (codeA c28 ce [] 28 0 (sub [1,1,1,0,1,0,0] (body Tryd.f28))) (normA [] [0,3,4]) next ((E28_0 t0) s) k=G28_0 t0 s.1 s.2 (fun s=>next ((E28_0 t0) s)) (K28_0 t0 k) none:=by kernel_rfl
theorem st28_0 (t0:List AV) (ce:CallE) (k:Kont) (s:(Int × Int)) (next:St→Option AV):stepA (codeA c28 ce [] 28 0 (sub [1,1,1,0,1,0,0] (body Tryd.f28))) (normA [] [0,3,4]) next ((E28_0 t0) s) k=(R28_0 t0 s).el none (fun s=>next ((E28_0 t0) s)) (K28_0 t0 k):=(s28_0 t0 ce k s next).trans (by unfold R28_0;unfold F28_0 G28_0;simp only [el_cond,el_ro,el_sum,el_fail,el_next,el_stop] <;> rfl)
theorem ok28_0 {ce:CallE}:LoopOK c28 ce [] 28 0 (sub [1,1,1,0,1,0,0] (body Tryd.f28)):=by
 intro m hm st k r h
 obtain rfl:l28_0=m:=Option.some.inj hm
 unfold l28_0 at h
 split at h
 ·rename_i g0 t0 t3 t4
  obtain ⟨hg,h⟩:=bif_some h
  have q0:=hg
  obtain rfl:=cE q0
  refine ⟨(((t0.length:Int) - t4:Int).toNat+1),?_⟩
  rw [← h]
  exact loop_run (E28_0 t0) (K28_0 t0 k) (st28_0 t0 ce k) _ (t3,t4)
 ·cases h
def q28 (a0:List AV):Bool:=(q60 a0 && (bif !(v60_0 a0) then true else (bif decide ((a0.length:Int)=0) then true else (ro (runW (R28_0 a0) (((a0.length:Int) - 0:Int).toNat+1) (0,0)) false (fun p17 => !decide ((a0.length:Int)=0))))))
def v28_0 (a0:List AV):Int:=(bif !(v60_0 a0) then 0 else (bif decide ((a0.length:Int)=0) then 0 else (ro (runW (R28_0 a0) (((a0.length:Int) - 0:Int).toNat+1) (0,0)) 0 (fun p17=>IntKind.i64.wrap (Int.tdiv p17 (a0.length:Int))))))
theorem e28 (a0:List AV):funA c28 0 28 [AV.sl [.int .i64,.int .i64] a0]=(bif q60 a0 then (bif !(v60_0 a0) then some (Ai 0)
 else (bif decide ((a0.length:Int)=0) then some (Ai 0)
 else (ro (runW (R28_0 a0) (((a0.length:Int) - 0:Int).toNat+1) (0,0)) none (fun p17=>(bif !decide ((a0.length:Int)=0) then some (Ai (IntKind.i64.wrap (Int.tdiv p17 (a0.length:Int))))
 else none)))))
 else none):=by kernel_rfl
def m28:TModel
 | [.sl g0 a0]=>bif ctsEq g0 ([.int .i64,.int .i64]) then some (q28 a0,AV.int .i64 (v28_0 a0)) else none
 | _=>none
theorem k28:Known Tryd.prog 28:=⟨Tryd.f28,Tryd.func28,by kernel_rfl,by kernel_rfl⟩
theorem meets28:Meets Tryd.prog 28 m28:=by
 refine mt (lvl:=0) (cf:=c28) rfl mixed k28 Tryd.func28 (by kernel_rfl) (loops_cons ok28_0 noLoop) (allT_cons meets60 allT_nil) allM_nil noI fun xs r h=>?_
 unfold m28 at h
 split at h
 ·rename_i g0 a0
  obtain ⟨hg,h⟩:=bif_pair h
  have q0:=hg
  obtain rfl:=cE q0
  obtain ⟨h1,rfl⟩:=pair_inj h
  exact (e28 a0).trans ((brL (br (fun b=>some (Ai (bif b then 0 else (bif decide ((a0.length:Int)=0) then 0 else (ro (runW (R28_0 a0) (((a0.length:Int) - 0:Int).toNat+1) (0,0)) 0 (fun p17=>IntKind.i64.wrap (Int.tdiv p17 (a0.length:Int)))))))) (fun _=>rfl) (br (fun b=>some (Ai (bif b then 0 else (ro (runW (R28_0 a0) (((a0.length:Int) - 0:Int).toNat+1) (0,0)) 0 (fun p17=>IntKind.i64.wrap (Int.tdiv p17 (a0.length:Int))))))) (fun _=>rfl) (brO (fun o:Option (Int)=>some (Ai (ro o 0 (fun p17=>IntKind.i64.wrap (Int.tdiv p17 (a0.length:Int)))))) (fun p17=>(brL1 (fun _=>rfl))))))) h1)
 ·cases h
def G4_0 {β:Type} (t0:List AV) (t3:Int) (t4:Int) (t5:Int) (h0:List AV) (h1:List AV) (t10:Int) (N:(Int)→β) (K:(Unit ⊕ Unit)→β) (d:β):β:=(bif decide (t10<(h0.length:Int)) then (bif (decide (0≤t10) && decide (t10<(h0.length:Int))) then (bif (decide (0≤t10) && decide (t10<(h1.length:Int))) then (bif !(bif decide (fI (h0.getD t10.toNat .undef) 0=fI (h1.getD t10.toNat .undef) 0) then (bif decide (fI (h0.getD t10.toNat .undef) 1=fI (h1.getD t10.toNat .undef) 1) then true else false) else false) then K (.inr ())
 else (bif (decide (0≤t10) && decide (t10<(h0.length:Int))) then (bif !(v22_0 (fI (h0.getD t10.toNat .undef) 0) (fI (h0.getD t10.toNat .undef) 1)) then K (.inr ())
 else (bif (decide (0≤t10) && decide (t10<(h0.length:Int))) then (bif decide (fI (h0.getD t10.toNat .undef) 0<t4) then K (.inr ())
 else (bif (decide (0≤t10) && decide (t10<(h0.length:Int))) then (bif decide (fI (h0.getD t10.toNat .undef) 1 > t5) then K (.inr ())
 else (bif decide (t3=1) then (bif decide (t10 > 0) then (bif (decide (0≤t10) && decide (t10<(h0.length:Int))) then (bif (decide (0≤IntKind.i64.wrap (t10 - 1)) && decide (IntKind.i64.wrap (t10 - 1)<(h0.length:Int))) then (bif !decide (fI (h0.getD t10.toNat .undef) 0=fI (h0.getD (IntKind.i64.wrap (t10 - 1)).toNat .undef) 1) then K (.inr ())
 else (bif decide (t3=2) then (bif decide (t10 > 0) then (bif (decide (0≤t10) && decide (t10<(h0.length:Int))) then (bif (decide (0≤IntKind.i64.wrap (t10 - 1)) && decide (IntKind.i64.wrap (t10 - 1)<(h0.length:Int))) then (bif decide (fI (h0.getD t10.toNat .undef) 0<fI (h0.getD (IntKind.i64.wrap (t10 - 1)).toNat .undef) 0) then K (.inr ())
 else (bif (decide (0≤t10) && decide (t10<(h0.length:Int))) then (bif (decide (0≤IntKind.i64.wrap (t10 - 1)) && decide (IntKind.i64.wrap (t10 - 1)<(h0.length:Int))) then (bif decide (fI (h0.getD t10.toNat .undef) 1 > fI (h0.getD (IntKind.i64.wrap (t10 - 1)).toNat .undef) 1) then K (.inr ())
 else N (IntKind.i64.wrap (t10+1)))
 else d)
 else d))
 else d)
 else d)
 else N (IntKind.i64.wrap (t10+1)))
 else N (IntKind.i64.wrap (t10+1))))
 else d)
 else d)
 else (bif decide (t3=2) then (bif decide (t10 > 0) then (bif (decide (0≤t10) && decide (t10<(h0.length:Int))) then (bif (decide (0≤IntKind.i64.wrap (t10 - 1)) && decide (IntKind.i64.wrap (t10 - 1)<(h0.length:Int))) then (bif decide (fI (h0.getD t10.toNat .undef) 0<fI (h0.getD (IntKind.i64.wrap (t10 - 1)).toNat .undef) 0) then K (.inr ())
 else (bif (decide (0≤t10) && decide (t10<(h0.length:Int))) then (bif (decide (0≤IntKind.i64.wrap (t10 - 1)) && decide (IntKind.i64.wrap (t10 - 1)<(h0.length:Int))) then (bif decide (fI (h0.getD t10.toNat .undef) 1 > fI (h0.getD (IntKind.i64.wrap (t10 - 1)).toNat .undef) 1) then K (.inr ())
 else N (IntKind.i64.wrap (t10+1)))
 else d)
 else d))
 else d)
 else d)
 else N (IntKind.i64.wrap (t10+1)))
 else N (IntKind.i64.wrap (t10+1))))
 else (bif decide (t3=2) then (bif decide (t10 > 0) then (bif (decide (0≤t10) && decide (t10<(h0.length:Int))) then (bif (decide (0≤IntKind.i64.wrap (t10 - 1)) && decide (IntKind.i64.wrap (t10 - 1)<(h0.length:Int))) then (bif decide (fI (h0.getD t10.toNat .undef) 0<fI (h0.getD (IntKind.i64.wrap (t10 - 1)).toNat .undef) 0) then K (.inr ())
 else (bif (decide (0≤t10) && decide (t10<(h0.length:Int))) then (bif (decide (0≤IntKind.i64.wrap (t10 - 1)) && decide (IntKind.i64.wrap (t10 - 1)<(h0.length:Int))) then (bif decide (fI (h0.getD t10.toNat .undef) 1 > fI (h0.getD (IntKind.i64.wrap (t10 - 1)).toNat .undef) 1) then K (.inr ())
 else N (IntKind.i64.wrap (t10+1)))
 else d)
 else d))
 else d)
 else d)
 else N (IntKind.i64.wrap (t10+1)))
 else N (IntKind.i64.wrap (t10+1)))))
 else d))
 else d))
 else d))
 else d)
 else d)
 else K (.inl ()))
def F4_0 (t0:List AV) (t3 t4 t5:Int) (h0 h1:List AV) (t10:Int):Out (Int) (Unit ⊕ Unit):=G4_0 t0 t3 t4 t5 h0 h1 t10 .next .stop .fail
def R4_0 (t0:List AV) (t3 t4 t5:Int) (h0 h1:List AV):(Int)→Out (Int) (Unit ⊕ Unit):=fun s:Int=>F4_0 t0 t3 t4 t5 h0 h1 s
def E4_0 (t0:List AV) (t3 t4 t5:Int) (h0 h1:List AV):(Int)→St:=fun s:Int=>⟨[(0,AV.sl [.int .u8] t0),(3,Ai t3),(4,Ai t4),(5,Ai t5),(8,AV.own [0,8]),(9,AV.own [0,9]),(10,Ai s)],[([0,8],⟨false,[.int .i64,.int .i64],h0⟩),([0,9],⟨false,[.int .i64,.int .i64],h1⟩)]⟩
def K4_0 (t0:List AV) (t3 t4 t5:Int) (h0 h1:List AV) (k:Kont):(Unit ⊕ Unit)→Option AV:=sumE (fun _:Unit=>k (.exit 0) ⟨[(0,AV.sl [.int .u8] t0),(4,Ai t4),(5,Ai t5),(8,AV.own [0,8])],[([0,8],⟨false,[.int .i64,.int .i64],h0⟩),([0,9],⟨false,[.int .i64,.int .i64],h1⟩)]⟩) (fun _:Unit=>k .ret ⟨[(2,AV.bool false)],[([0,8],⟨false,[.int .i64,.int .i64],h0⟩),([0,9],⟨false,[.int .i64,.int .i64],h1⟩)]⟩)
def l4_0:LModel:=fun _ _ st k=>match st with
 | ⟨[(0,.sl g0 t0),(3,.int .i64 t3),(4,.int .i64 t4),(5,.int .i64 t5),(8,.own g1),(9,.own g2),(10,.int .i64 t10)],[(g3,⟨false,g4,h0⟩),(g5,⟨false,g6,h1⟩)]⟩=>bif ctsEq g0 ([.int .u8]) && nmEq g1 ([0,8]) && nmEq g2 ([0,9]) && nmEq g3 ([0,8]) && ctsEq g4 ([.int .i64,.int .i64]) && nmEq g5 ([0,9]) && ctsEq g6 ([.int .i64,.int .i64]) then ro (runW (R4_0 t0 t3 t4 t5 h0 h1) (((h0.length:Int) - t10:Int).toNat+1) t10) none (K4_0 t0 t3 t4 t5 h0 h1 k) else none
 | _=>none
noncomputable def c4:Cfg:=cfg Tryd.prog [(4,0,[0,3,4,5,8,9,10]),(4,999,[2]),(4,1000,[0,4,5,8]),(4,1001,[0,3,4,5,8,9,10])] [(5,m5),(19,m19),(20,m20),(21,m21),(22,m22),(23,m23),(24,m24),(25,m25),(26,m26),(27,m27),(28,m28)] [] [] [(4,0,l4_0)]
theorem s4_0 (t0:List AV) (t3 t4 t5:Int) (h0 h1:List AV) (ce:CallE) (k:Kont) (s:Int) (next:St→Option AV):stepA (codeA c4 ce [] 4 0 (sub [1,1,1,1,1,1,0,1,0,0] (body Tryd.f4))) (normA [] [0,3,4,5,8,9,10]) next ((E4_0 t0 t3 t4 t5 h0 h1) s) k=G4_0 t0 t3 t4 t5 h0 h1 s (fun s=>next ((E4_0 t0 t3 t4 t5 h0 h1) s)) (K4_0 t0 t3 t4 t5 h0 h1 k) none:=by kernel_rfl
theorem st4_0 (t0:List AV) (t3 t4 t5:Int) (h0 h1:List AV) (ce:CallE) (k:Kont) (s:Int) (next:St→Option AV):stepA (codeA c4 ce [] 4 0 (sub [1,1,1,1,1,1,0,1,0,0] (body Tryd.f4))) (normA [] [0,3,4,5,8,9,10]) next ((E4_0 t0 t3 t4 t5 h0 h1) s) k=(R4_0 t0 t3 t4 t5 h0 h1 s).el none (fun s=>next ((E4_0 t0 t3 t4 t5 h0 h1) s)) (K4_0 t0 t3 t4 t5 h0 h1 k):=(s4_0 t0 t3 t4 t5 h0 h1 ce k s next).trans (by unfold R4_0;unfold F4_0 G4_0;simp only [el_cond,el_ro,el_sum,el_fail,el_next,el_stop] <;> rfl)
theorem ok4_0 {ce:CallE}:LoopOK c4 ce [] 4 0 (sub [1,1,1,1,1,1,0,1,0,0] (body Tryd.f4)):=by
 intro m hm st k r h
 obtain rfl:l4_0=m:=Option.some.inj hm
 unfold l4_0 at h
 split at h
 ·rename_i g0 t0 t3 t4 t5 g1 g2 t10 g3 g4 h0 g5 g6 h1
  obtain ⟨hg,h⟩:=bif_some h
  simp only [Bool.and_eq_true] at hg
  obtain ⟨⟨⟨⟨⟨⟨q0,q1⟩,q2⟩,q3⟩,q4⟩,q5⟩,q6⟩:=hg
  obtain rfl:=cE q0
  obtain rfl:=nE q1
  obtain rfl:=nE q2
  obtain rfl:=nE q3
  obtain rfl:=cE q4
  obtain rfl:=nE q5
  obtain rfl:=cE q6
  refine ⟨(((h0.length:Int) - t10:Int).toNat+1),?_⟩
  rw [← h]
  exact loop_run (E4_0 t0 t3 t4 t5 h0 h1) (K4_0 t0 t3 t4 t5 h0 h1 k) (st4_0 t0 t3 t4 t5 h0 h1 ce k) _ t10
 ·cases h
def raw4 (a0:List AV):Option AV:=by
 refine (?f0:Int→Int→Int→Int→Int→(Option AV)) (v19_0 a0) (v19_1 a0) (v19_2 a0) (v19_3 a0) (v19_4 a0);intro x1 x2 x3 x4 x5
 refine (?f1:(List AV)→(Option AV)) (v20_0 x1 x2 x3 x4 x5);intro x6
 exact (bif (v5_0 a0) then some (AV.bool true)
 else (bif q19 a0 then (bif q20 x1 x2 x3 x4 x5 then (bif q21 x1 x2 x3 x4 x5 then (bif !decide ((x6.length:Int)=((v21_0 x1 x2 x3 x4 x5).length:Int)) then some (AV.bool false)
 else (ro (runW (R4_0 a0 x1 x2 x3 x6 (v21_0 x1 x2 x3 x4 x5)) (((x6.length:Int) - 0:Int).toNat+1) 0) none (sumE (fun _=>(bif q23 x6 then (bif q24 (v23_0 x6) then (bif q25 a0 then (bif q23 (v25_0 a0) then (bif q24 (v23_0 (v25_0 a0)) then (bif (v24_1 (v23_0 x6)) then (bif decide (((v24_0 (v23_0 x6)).length:Int)=(x6.length:Int)) then (bif q26 (v25_0 a0) then (bif ((v23_0 (v25_0 a0)).toList == (v26_0 (v25_0 a0)).toList) then (bif ((v24_1 (v23_0 (v25_0 a0))) == !((v23_0 (v25_0 a0)).toList == ByteArray.empty.toList)) then (bif q27 (v25_0 a0) then (bif q28 (v25_0 a0) then (bif decide ((v27_0 (v25_0 a0))=(v28_0 (v25_0 a0))) then (bif decide ((x6.length:Int)=0) then some (AV.bool true)
 else (bif q27 x6 then some (AV.bool (decide ((v27_0 x6)≤IntKind.i64.wrap (x3 - x2))))
 else none))
 else some (AV.bool false))
 else none)
 else none)
 else some (AV.bool false))
 else some (AV.bool false))
 else none)
 else some (AV.bool false))
 else some (AV.bool false))
 else none)
 else none)
 else none)
 else none)
 else none)) (fun _=>some (AV.bool false)))))
 else none)
 else none)
 else none))
theorem e4 (a0:List AV):funA c4 0 4 [AV.sl [.int .u8] a0]=raw4 a0:=by kernel_rfl
def m4:TModel
 | [.sl g0 a0]=>bif ctsEq g0 ([.int .u8]) then (raw4 a0).map fun r=>(true,r) else none
 | _=>none
theorem k4:Known Tryd.prog 4:=⟨Tryd.f4,Tryd.func4,by kernel_rfl,by kernel_rfl⟩
theorem meets4:Meets Tryd.prog 4 m4:=by
 refine mt (lvl:=0) (cf:=c4) rfl mixed k4 Tryd.func4 (by kernel_rfl) (loops_cons ok4_0 noLoop) (allT_cons meets5 (allT_cons meets19 (allT_cons meets20 (allT_cons meets21 (allT_cons meets22 (allT_cons meets23 (allT_cons meets24 (allT_cons meets25 (allT_cons meets26 (allT_cons meets27 (allT_cons meets28 allT_nil))))))))))) allM_nil noI fun xs r h=>?_
 unfold m4 at h
 split at h
 ·rename_i g0 a0
  obtain ⟨hg,h⟩:=bif_pair h
  have q0:=hg
  obtain rfl:=cE q0
  obtain ⟨r',h1,h2⟩:=Option.map_eq_some_iff.1 h
  obtain ⟨_,rfl⟩:=Prod.mk.inj h2
  exact (e4 a0).trans h1
 ·cases h
end
end Go.Proofs.YteppndjaglhehaaDoor

namespace Go.Proofs.YteppndjaglhehaaDoor
open Go Go.Proofs.VE
set_option linter.unusedVariables false
set_option linter.unusedSimpArgs false
theorem digit_byte (d:Nat) (h:d<10):48≤(UInt8.ofNat (48+d)).toNat∧(UInt8.ofNat (48+d)).toNat≤57∧Lib.digitVal (UInt8.ofNat (48+d))=some d:=by
 have:∀ k:Fin 10,48≤(UInt8.ofNat (48+k.val)).toNat∧(UInt8.ofNat (48+k.val)).toNat≤57∧Lib.digitVal (UInt8.ofNat (48+k.val))=some k.val:=by decide
 exact this ⟨d,h⟩
theorem dd_digit (u:Nat):∀ b ∈ Lib.decDigits u,48≤b.toNat∧b.toNat≤57:=by
 induction u using Nat.strongRecOn with
 | _ u ih =>
  rw [Lib.decDigits]
  split
  ·rename_i h
   intro b hb
   obtain rfl:=List.mem_singleton.1 hb
   exact ⟨(digit_byte u h).1,(digit_byte u h).2.1⟩
  ·rename_i h
   intro b hb
   rcases List.mem_append.1 hb with h1|h1
   ·exact ih (u / 10) (by omega) b h1
   ·obtain rfl:=List.mem_singleton.1 h1
    have:=digit_byte (u % 10) (Nat.mod_lt _ (by decide))
    exact ⟨this.1,this.2.1⟩
theorem from_snoc (b:UInt8):∀ (l:List UInt8) (acc:Nat),Lib.decFrom acc (l++[b])=(Lib.decFrom acc l).bind fun m=>(Lib.digitVal b).map fun d=>m*10+d
 | [],acc=>by
  show Lib.decFrom acc [b]=(Lib.digitVal b).map fun d=>acc*10+d
  unfold Lib.decFrom
  cases Lib.digitVal b <;> rfl
 | a :: l,acc=>by
  show Lib.decFrom acc (a :: (l++[b]))=_
  unfold Lib.decFrom
  cases Lib.digitVal a with
  | none=>rfl
  | some d=>exact from_snoc b l _
theorem dd_from (u:Nat):Lib.decFrom 0 (Lib.decDigits u)=some u:=by
 induction u using Nat.strongRecOn with
 | _ u ih =>
  rw [Lib.decDigits]
  split
  ·rename_i h
   unfold Lib.decFrom
   rw [(digit_byte u h).2.2]
   simp [Lib.decFrom]
  ·rename_i h
   rw [from_snoc,ih (u / 10) (by omega),(digit_byte (u % 10) (Nat.mod_lt _ (by decide))).2.2]
   simp only [Option.bind_some,Option.map_some,Option.some.injEq]
   omega
theorem dd_cons (u:Nat):∃ b r,Lib.decDigits u=b :: r:=by
 cases h:Lib.decDigits u with
 | nil =>
  have h1:=Lib.decDigits_length u
  have h2:=Lib.nDigits_pos u
  rw [h,List.length_nil] at h1
  omega
 | cons b r=>exact ⟨b,r,rfl⟩
theorem dd_nat (u:Nat):Lib.decNat (Lib.decDigits u)=some u:=by
 unfold Lib.decNat
 rw [dd_from]
 obtain ⟨b,r,e⟩:=dd_cons u
 rw [e]
 rfl
theorem atoi_itoa (n:Int):Lib.atoi (Lib.itoa n)=some n:=by
 unfold Lib.itoa
 split
 ·rename_i h
  unfold Lib.atoi
  simp only [beq_self_eq_true,if_true]
  rw [dd_nat]
  simp only [Option.map_some,Option.some.injEq]
  omega
 ·rename_i h
  obtain ⟨b,r,e⟩:=dd_cons n.toNat
  have hb:=dd_digit n.toNat b (by rw [e];exact List.mem_cons_self)
  have n45:(b == 45)=false:=beq_eq_false_iff_ne.2 fun g=>by subst g;exact absurd hb.1 (by decide)
  have n43:(b == 43)=false:=beq_eq_false_iff_ne.2 fun g=>by subst g;exact absurd hb.1 (by decide)
  rw [e]
  unfold Lib.atoi
  simp only [n45,n43,Bool.false_eq_true,if_false]
  rw [← e,dd_nat]
  simp only [Option.map_some,Option.some.injEq]
  omega
theorem itoa_byte (n:Int):∀ b ∈ Lib.itoa n,b=45∨(48≤b.toNat∧b.toNat≤57):=by
 intro b hb
 unfold Lib.itoa at hb
 split at hb
 ·rcases List.mem_cons.1 hb with h|h
  ·exact .inl h
  ·exact .inr (dd_digit _ b h)
 ·exact .inr (dd_digit _ b hb)
theorem itoa_no (n:Int) (c:UInt8) (hc:c.toNat<45∨(45<c.toNat∧c.toNat<48)∨57<c.toNat):∀ b ∈ Lib.itoa n,b ≠ c:=fun b hb h=>by
 subst h
 rcases itoa_byte n b hb with h|h
 ·subst h
  revert hc
  decide
 ·omega
theorem dd_len:∀ (k u:Nat),u<10 ^ (k+1)→(Lib.decDigits u).length≤k+1
 | 0,u,h=>by
  rw [Lib.decDigits,dif_pos (by simpa using h)]
  simp
 | k+1,u,h=>by
  rw [Lib.decDigits]
  split
  ·simp
  ·have:u / 10<10 ^ (k+1):=by rw [Nat.pow_succ] at h;omega
   have:=dd_len k (u / 10) this
   rw [List.length_append,List.length_singleton]
   omega
theorem itoa_len9 (n:Int) (h0 : -999999999≤n) (h1:n≤999999999):(Lib.itoa n).length≤10:=by
 unfold Lib.itoa
 split
 ·have:=dd_len 8 n.natAbs (by omega)
  rw [List.length_cons]
  omega
 ·have:=dd_len 8 n.toNat (by omega)
  omega
theorem pint_iff (s:ByteArray) (n:Int):pintN s=some n ↔ s.data.toList=Lib.itoa n ∧ -999999999≤n∧n≤999999999:=by
 constructor
 ·intro h
  unfold pintN at h
  split at h
  ·rename_i v hv
   cases hc:(Lib.itoa v == s.data.toList) && (decide (-999999999≤v) && decide (v≤999999999)) with
   | false=>rw [hc] at h;cases h
   | true =>
    rw [hc] at h
    obtain rfl:=Option.some.inj h
    simp only [Bool.and_eq_true,beq_iff_eq,decide_eq_true_eq] at hc
    exact ⟨hc.1.symm,hc.2⟩
  ·cases h
 ·rintro ⟨h,h0,h1⟩
  have hl:=itoa_len9 n h0 h1
  unfold pintN
  rw [h,Lib.atoiAll_short _ (by omega),atoi_itoa]
  show (bif (Lib.itoa n == Lib.itoa n) && (decide (-999999999≤n) && decide (n≤999999999)) then some n else none)=some n
  rw [beq_self_eq_true,decide_eq_true h0,decide_eq_true h1]
  rfl
theorem pint_itoa {s:ByteArray} {n:Int} (h:s.data.toList=Lib.itoa n) (h0 : -999999999≤n) (h1:n≤999999999):(pintN s).getD 0=n∧(pintN s).isSome=true:=by
 rw [(pint_iff s n).2 ⟨h,h0,h1⟩]
 exact ⟨rfl,rfl⟩
theorem ba_ext {a b:ByteArray} (h:a.data.toList=b.data.toList):a=b:=ByteArray.ext (Array.toList_inj.1 h)
theorem ba_beq (a b:ByteArray):(a.toList == b.toList)=decide (a.data.toList=b.data.toList):=by
 rw [Lib.toList_data,Lib.toList_data]
 by_cases h:a.data.toList=b.data.toList
 ·rw [h,beq_self_eq_true]
  simp
 ·rw [decide_eq_false h]
  exact beq_eq_false_iff_ne.2 h
theorem ba_size (a:ByteArray):a.size=a.data.toList.length:=by rw [Array.length_toList];rfl
theorem ba_mk (l:List UInt8):(ByteArray.mk l.toArray).data.toList=l:=by simp
end Go.Proofs.YteppndjaglhehaaDoor

namespace Go.Proofs.YteppndjaglhehaaDoor
open Go Go.Proofs.VE
set_option linter.unusedVariables false
set_option linter.unusedSimpArgs false
def pcs (c:UInt8):List UInt8→List UInt8→List (List UInt8)
 | part,[]=>[part]
 | part,b :: r=>if b=c then part :: pcs c [] r else pcs c (part++[b]) r
theorem pcs_free (c:UInt8):∀ (l part:List UInt8),(∀ b ∈ l,b ≠ c)→pcs c part l=[part++l]
 | [],part,_=>by simp [pcs]
 | b :: l,part,h=>by
  unfold pcs
  rw [if_neg (h b List.mem_cons_self),pcs_free c l _ (fun b hb=>h b (List.mem_cons_of_mem _ hb)),List.append_assoc]
  rfl
theorem pcs_cut (c:UInt8):∀ (l part r:List UInt8),(∀ b ∈ l,b ≠ c)→pcs c part (l++c :: r)=(part++l) :: pcs c [] r
 | [],part,r,_=>by
  show pcs c part (c :: r)=_
  rw [pcs,if_pos rfl,List.append_nil]
 | b :: l,part,r,h=>by
  show pcs c part (b :: (l++c :: r))=_
  rw [pcs,if_neg (h b List.mem_cons_self),pcs_cut c l _ r (fun b hb=>h b (List.mem_cons_of_mem _ hb)),List.append_assoc]
  rfl
theorem pcs_cons (c:UInt8):∀ (l part:List UInt8),∃ v ws,pcs c part l=v :: ws
 | [],part=>⟨part,[],rfl⟩
 | b :: l,part=>by
  unfold pcs
  split
  ·exact ⟨_,_,rfl⟩
  ·exact pcs_cons c l _
theorem pcs_len (c:UInt8):∀ (l part:List UInt8),(pcs c part l).length≤l.length+1
 | [],part=>by simp [pcs]
 | b :: l,part=>by
  unfold pcs
  split
  ·have:=pcs_len c l []
   simp only [List.length_cons]
   omega
  ·have:=pcs_len c l (part++[b])
   simp only [List.length_cons]
   omega
theorem pcs_word (c:UInt8):∀ (l part:List UInt8),∀ w ∈ pcs c part l,w.length≤part.length+l.length
 | [],part,w,h=>by
  obtain rfl:=List.mem_singleton.1 h
  simp
 | b :: l,part,w,h=>by
  unfold pcs at h
  split at h
  ·rcases List.mem_cons.1 h with rfl|h
   ·omega
   ·have:=pcs_word c l [] w h
    simp only [List.length_nil,List.length_cons] at this ⊢
    omega
  ·have:=pcs_word c l _ w h
   simp only [List.length_append,List.length_singleton,List.length_nil,List.length_cons] at this ⊢
   omega
def jn (c:UInt8):List (List UInt8)→List UInt8
 | []=>[]
 | [w]=>w
 | w :: v :: ws=>w++c :: jn c (v :: ws)
theorem pcs_jn (c:UInt8):∀ (ws:List (List UInt8)),ws ≠ []→(∀ w ∈ ws,∀ b ∈ w,b ≠ c)→pcs c [] (jn c ws)=ws
 | [],h,_=>absurd rfl h
 | [w],_,h=>by
  show pcs c [] w=[w]
  rw [pcs_free c w [] (h w List.mem_cons_self)]
  rfl
 | w :: v :: ws,_,h=>by
  show pcs c [] (w++c :: jn c (v :: ws))=_
  rw [pcs_cut c w [] _ (h w List.mem_cons_self),pcs_jn c (v :: ws) (by simp) (fun w hw=>h w (List.mem_cons_of_mem _ hw))]
  rfl
theorem jn_snoc (c:UInt8):∀ (ws:List (List UInt8)) (w:List UInt8),ws ≠ []→jn c (ws++[w])=jn c ws++c :: w
 | [],_,h=>absurd rfl h
 | [v],w,_=>rfl
 | u :: v :: ws,w,_=>by
  show u++c :: jn c ((v :: ws)++[w])=(u++c :: jn c (v :: ws))++c :: w
  rw [jn_snoc c (v :: ws) w (by simp)]
  simp
theorem idx1 (c:UInt8):∀ S:List UInt8,(c ∉ S∧Lib.index S [c] = -1)∨∃ l r,S=l++c :: r∧(∀ b ∈ l,b ≠ c)∧Lib.index S [c]=l.length
 | [] => .inl ⟨by simp,rfl⟩
 | b :: S=>by
  by_cases h:b=c
  ·subst h
   exact .inr ⟨[],S,rfl,by simp,by unfold Lib.index;simp [List.isPrefixOf]⟩
  ·have hp:[c].isPrefixOf (b :: S)=false:=by simp [List.isPrefixOf,Ne.symm h]
   rcases idx1 c S with ⟨h1,h2⟩|⟨l,r,h1,h2,h3⟩
   ·refine .inl ⟨by simp [Ne.symm h,h1],?_⟩
    unfold Lib.index
    rw [hp,h2]
    rfl
   ·refine .inr ⟨b :: l,r,by rw [h1];rfl,fun x hx=>?_,?_⟩
    ·rcases List.mem_cons.1 hx with rfl|hx
     ·exact h
     ·exact h2 x hx
    ·unfold Lib.index
     rw [hp,h3,(beq_eq_false_iff_ne.2 (by omega):((l.length:Int) == -1)=false),List.length_cons]
     simp
theorem split_pcs (c:UInt8):∀ (k:Nat) (S:List UInt8),S.count c=k→Lib.splitK [c] 0 k S=pcs c [] S
 | 0,S,h=>by
  rw [pcs_free c S [] (fun b hb e=>by subst e;exact absurd (List.count_pos_iff.2 hb) (by omega))]
  rfl
 | k+1,S,h=>by
  rcases idx1 c S with ⟨h1,_⟩|⟨l,r,h1,h2,h3⟩
  ·exact absurd (List.count_eq_zero.2 h1) (by omega)
  ·unfold Lib.splitK
   have e1:(Lib.index S [c] == -1)=false:=by rw [h3];exact beq_eq_false_iff_ne.2 (by omega)
   have hl:l.count c=0:=List.count_eq_zero.2 fun hm=>h2 c hm rfl
   have hr:r.count c=k:=by
    rw [h1,List.count_append,List.count_cons_self,hl] at h
    omega
   rw [e1,h3]
   simp only [Bool.false_eq_true,if_false,Int.toNat_natCast,Nat.add_zero,List.length_singleton]
   rw [h1,pcs_cut c l [] r h2,← split_pcs c k r hr,List.take_left' rfl,show (l++c :: r).drop (l.length+1)=r by rw [List.drop_append];simp]
   rfl
def txt (l:List UInt8):AV:=AV.str ⟨l.toArray⟩
theorem txt_fS (l:List UInt8):(fS (txt l) 0).data.toList=l:=by
 show (ByteArray.mk l.toArray).data.toList=l
 exact ba_mk l
theorem splitL_pcs (s:ByteArray) (c:UInt8):splitL s ⟨#[c]⟩=(pcs c [] s.data.toList).map txt:=by
 have h1:=Lib.splitB_data ⟨#[c]⟩ 0 (Lib.countB s ⟨#[c]⟩) s
 have h2:Lib.countB s ⟨#[c]⟩=s.data.toList.count c:=Lib.count_one c _
 have h4:Lib.splitK (ByteArray.mk #[c]).data.toList 0 (Lib.countB s ⟨#[c]⟩) s.data.toList=pcs c [] s.data.toList:=split_pcs c _ _ h2.symm
 rw [h4] at h1
 unfold splitL
 rw [← h1,List.map_map]
 apply List.map_congr_left
 intro x _
 show AV.str x=AV.str ⟨x.data.toList.toArray⟩
 rw [show (⟨x.data.toList.toArray⟩:ByteArray)=x from ba_ext (by simp)]
theorem idx46:∀ (l r:List UInt8),(∀ b ∈ l,b ≠ 46)→Lib.index (l++46 :: 46 :: r) [46,46]=l.length
 | [],r,_=>by
  show Lib.index (46 :: 46 :: r) [46,46]=0
  unfold Lib.index
  simp [List.isPrefixOf]
 | b :: l,r,h=>by
  show Lib.index (b :: (l++46 :: 46 :: r)) [46,46]=_
  have hb:(46 == b)=false:=beq_eq_false_iff_ne.2 (Ne.symm (h b List.mem_cons_self))
  have hp:List.isPrefixOf [46,46] (b :: (l++46 :: 46 :: r))=false:=by
   rw [List.isPrefixOf,hb]
   rfl
  unfold Lib.index
  rw [hp,idx46 l r (fun x hx=>h x (List.mem_cons_of_mem _ hx)),(beq_eq_false_iff_ne.2 (by omega):((l.length:Int) == -1)=false),List.length_cons]
  simp
theorem cut46 {s:ByteArray} {l r:List UInt8} (h:s.data.toList=l++46 :: 46 :: r) (hl:∀ b ∈ l,b ≠ 46):(cutA s ⟨#[46,46]⟩).data.toList=l∧(cutB s ⟨#[46,46]⟩).data.toList=r:=by
 have e:Lib.cut s.data.toList [46,46]=(l,r,true):=by
  unfold Lib.cut
  rw [h,idx46 l r hl,if_pos (by omega)]
  simp only [Int.toNat_natCast,List.length_cons,List.length_nil]
  rw [List.take_left' rfl,show (l++46 :: 46 :: r).drop (l.length+(0+1+1))=r by rw [List.drop_append];simp]
 constructor
 ·show (ByteArray.mk (Lib.cut s.data.toList [46,46]).1.toArray).data.toList=l
  rw [e]
 ·show (ByteArray.mk (Lib.cut s.data.toList [46,46]).2.1.toArray).data.toList=r
  rw [e]
theorem cut_size (s sep:ByteArray):(cutA s sep).size≤s.size∧(cutB s sep).size≤s.size:=by
 rw [ba_size s,ba_size (cutA s sep),ba_size (cutB s sep)]
 unfold cutA cutB
 rw [ba_mk,ba_mk]
 unfold Lib.cut
 split
 ·simp only [List.length_take,List.length_drop]
  omega
 ·simp
def fmtL (a b:Int):List UInt8:=Lib.itoa a++46 :: 46 :: Lib.itoa b
def okR (a b:Int):Prop := -1000≤a∧a≤b∧b≤1000
instance (a b:Int):Decidable (okR a b):=by unfold okR;infer_instance
def isR (S:List UInt8) (a b:Int):Prop:=okR a b∧S=fmtL a b
theorem itoa_no46 (n:Int):∀ b ∈ Lib.itoa n,b ≠ 46:=itoa_no n 46 (by decide)
theorem itoa_no32 (n:Int):∀ b ∈ Lib.itoa n,b ≠ 32:=itoa_no n 32 (by decide)
theorem fmtL_no32 (a b:Int):∀ x ∈ fmtL a b,x ≠ 32:=by
 intro x hx
 unfold fmtL at hx
 rcases List.mem_append.1 hx with h|h
 ·exact itoa_no32 a x h
 ·rcases List.mem_cons.1 h with rfl|h
  ·decide
  ·rcases List.mem_cons.1 h with rfl|h
   ·decide
   ·exact itoa_no32 b x h
theorem fmtL_len (a b:Int):2≤(fmtL a b).length:=by
 unfold fmtL
 simp only [List.length_append,List.length_cons]
 omega
end Go.Proofs.YteppndjaglhehaaDoor

namespace Go.Proofs.YteppndjaglhehaaDoor
open Go Go.Proofs.VE
set_option linter.unusedVariables false
set_option linter.unusedSimpArgs false
theorem u8_digit:∀ d:Fin 10,IntKind.u8.wrap (48+(d.val:Int))=48+(d.val:Int)∧UInt8.ofNat (48+(d.val:Int)).toNat=UInt8.ofNat (48+d.val):=by decide +kernel
theorem digit_wrap (d:Nat) (h:d<10):IntKind.u8.wrap (IntKind.i64.wrap (48+(d:Int)))=48+(d:Int)∧UInt8.ofNat (48+(d:Int)).toNat=UInt8.ofNat (48+d):=by
 rw [wrap_in (by omega) (by omega)]
 exact u8_digit ⟨d,h⟩
theorem bytes_one (x:Int) (s:ByteArray):bytesA [AV.int .u8 x]++s=⟨(UInt8.ofNat x.toNat :: s.data.toList).toArray⟩:=by
 have e:bytesA [AV.int .u8 x]=⟨#[UInt8.ofNat x.toNat]⟩:=rfl
 rw [e]
 apply ByteArray.ext
 simp [ByteArray.data_append]
theorem bytes_one_size (x:Int):(bytesA [AV.int .u8 x]).size=1:=rfl
def digits (n:Int):List UInt8:=if n=0 then [] else Lib.decDigits n.natAbs
theorem digits_step (n:Int) (h:n ≠ 0):digits n=digits (Int.tdiv n 10)++[UInt8.ofNat (48+n.natAbs % 10)]:=by
 have e:(Int.tdiv n 10).natAbs=n.natAbs / 10:=by rw [Int.natAbs_tdiv];rfl
 unfold digits
 rw [if_neg h]
 by_cases h0:n.natAbs<10
 ·have:Int.tdiv n 10=0:=Int.natAbs_eq_zero.1 (by rw [e];omega)
  rw [if_pos this,Lib.decDigits,dif_pos h0,Nat.mod_eq_of_lt h0]
  rfl
 ·have:Int.tdiv n 10 ≠ 0:=fun h2=>by rw [h2] at e;simp at e;omega
  rw [if_neg this,e]
  conv=>lhs;rw [Lib.decDigits,dif_neg h0]
theorem fi_step (b:Bool) (n:Int) (s:ByteArray) (h:n ≠ 0) (h0 : -9223372036854775808≤n) (h1:n≤9223372036854775807) (hs:s.size≤100) :
  R43_0 b (n,s) = .next (Int.tdiv n 10,⟨(UInt8.ofNat (48+n.natAbs % 10) :: s.data.toList).toArray⟩):=by
 unfold R43_0 F43_0 G43_0
 have d0:decide (n=0)=false:=decide_eq_false h
 have d1:decide ((10:Nat)=0)=false:=rfl
 have d2:∀ x,decide ((bytesA [AV.int .u8 x]).size+s.size≤4611686018427387904)=true:=fun x=>decide_eq_true (by rw [bytes_one_size];omega)
 have ht : -9223372036854775808≤Int.tdiv n 10∧Int.tdiv n 10≤9223372036854775807:=by
  have e:(Int.tdiv n 10).natAbs=n.natAbs / 10:=by rw [Int.natAbs_tdiv];rfl
  omega
 rw [wrap_in ht.1 ht.2]
 simp only [d0,d1,d2,Bool.not_false,cond_true]
 rcases Int.lt_or_le n 0 with hn|hn
 ·have et:Int.tmod n 10 = -((n.natAbs % 10:Nat):Int):=by
   have:n = -(n.natAbs:Int):=by omega
   conv=>lhs;rw [this,Int.neg_tmod]
   rfl
  rw [et]
  by_cases hz:n.natAbs % 10=0
  ·rw [hz]
   have:=digit_wrap 0 (by decide)
   simp only [Int.ofNat_zero,Int.neg_zero,Int.add_zero] at this ⊢
   rw [show decide ((0:Int)<0)=false from rfl]
   simp only [cond_false]
   rw [bytes_one,this.1]
   rfl
  ·have d3:decide (-((n.natAbs % 10:Nat):Int)<0)=true:=decide_eq_true (by omega)
   rw [d3]
   simp only [cond_true]
   rw [wrap_in (a:=0 - -((n.natAbs % 10:Nat):Int)) (by omega) (by omega),show 0 - -((n.natAbs % 10:Nat):Int)=((n.natAbs % 10:Nat):Int) by omega,bytes_one]
   obtain ⟨e1,e2⟩:=digit_wrap (n.natAbs % 10) (Nat.mod_lt _ (by decide))
   rw [e1,e2]
 ·have et:Int.tmod n 10=((n.natAbs % 10:Nat):Int):=by
   have:n=(n.natAbs:Int):=by omega
   conv=>lhs;rw [this]
   rfl
  rw [et]
  have d3:decide (((n.natAbs % 10:Nat):Int)<0)=false:=decide_eq_false (by omega)
  rw [d3]
  simp only [cond_false]
  rw [bytes_one]
  obtain ⟨e1,e2⟩:=digit_wrap (n.natAbs % 10) (Nat.mod_lt _ (by decide))
  rw [e1,e2]
theorem fi_run (b:Bool):∀ (f k:Nat) (n:Int) (s:ByteArray),n.natAbs<10 ^ k→n.natAbs<f→s.size+k≤100 → -9223372036854775808≤n→n≤9223372036854775807 →
  runW (R43_0 b) f (n,s)=some (⟨(digits n++s.data.toList).toArray⟩)
 | 0,_,_,_,_,h,_,_,_=>by omega
 | f+1,k,n,s,hk,hf,hs,h0,h1=>by
  by_cases hz:n=0
  ·subst hz
   unfold runW R43_0 F43_0 G43_0 digits
   simp only [decide_true,Bool.not_true,cond_false,Out.el,if_true,List.nil_append]
  ·have e:(Int.tdiv n 10).natAbs=n.natAbs / 10:=by rw [Int.natAbs_tdiv];rfl
   cases k with
   | zero=>simp at hk;omega
   | succ k =>
    rw [Nat.pow_succ] at hk
    unfold runW
    rw [fi_step b n s hz h0 h1 (by omega)]
    simp only [Out.el]
    rw [fi_run b f k _ _ (by rw [e];omega) (by rw [e];omega) (by
     show (_ :: s.data.toList).toArray.size+k≤100
     rw [List.size_toArray,List.length_cons,Array.length_toList]
     have:s.data.size=s.size:=rfl
     omega) (by omega) (by omega),digits_step n hz]
    simp
theorem digits_len (n:Int) (h0 : -9223372036854775808≤n) (h1:n≤9223372036854775807):(Lib.decDigits n.natAbs).length≤19:=by
 rw [Lib.decDigits_length]
 by_cases hz:n.natAbs=0
 ·rw [hz,Lib.nDigits_small (by decide)];decide
 ·obtain ⟨k,h2,h3,hk⟩:∃ k,10 ^ k≤n.natAbs∧n.natAbs<10 ^ (k+1)∧k<19:=by
   have:∀ m,n.natAbs<10 ^ m→∃ k,10 ^ k≤n.natAbs∧n.natAbs<10 ^ (k+1)∧k<m:=by
    intro m
    induction m with
    | zero=>intro h;rw [Nat.pow_zero] at h;omega
    | succ m ih =>
     intro h
     by_cases hm:10 ^ m≤n.natAbs
     ·exact ⟨m,hm,h,Nat.lt_succ_self m⟩
     ·obtain ⟨k,a,b,c⟩:=ih (by omega)
      exact ⟨k,a,b,Nat.lt_succ_of_lt c⟩
   exact this 19 (by omega)
  rw [Lib.nDigits_unique k _ h2 h3]
  omega
theorem itoaB_len (n:Int) (h0 : -9223372036854775808≤n) (h1:n≤9223372036854775807):(itoaB n).size≤20:=by
 have:=digits_len n h0 h1
 have e:(itoaB n).size=(Lib.itoa n).length:=by simp [itoaB,ByteArray.size]
 rw [e]
 unfold Lib.itoa
 split
 ·simp only [List.length_cons];omega
 ·rename_i h
  rw [show n.toNat=n.natAbs by omega]
  omega
theorem fmtInt (n:Int) (h0 : -9223372036854775808≤n) (h1:n≤9223372036854775807):q43 n=true∧v43_0 n=itoaB n:=by
 unfold q43 v43_0
 by_cases hz:n=0
 ·subst hz
  refine ⟨rfl,?_⟩
  have:Lib.itoa 0=[48]:=by unfold Lib.itoa;rw [if_neg (by decide)];exact Lib.decDigits_one (i:=0) (by decide)
  unfold itoaB
  rw [this]
  rfl
 ·have hd:digits n=Lib.decDigits n.natAbs:=by unfold digits;rw [if_neg hz]
  have hl:=digits_len n h0 h1
  rw [decide_eq_false hz,fi_run _ _ 19 n ByteArray.empty (by omega) (Nat.lt_succ_self _) (by decide) h0 h1,hd]
  simp only [cond_false,ro]
  rcases Int.lt_or_le n 0 with hn|hn
  ·rw [decide_eq_true hn]
   simp only [cond_true]
   refine ⟨decide_eq_true ?_,?_⟩
   ·simp [ByteArray.size];omega
   ·unfold itoaB Lib.itoa
    rw [if_pos hn]
    apply ByteArray.ext
    simp [ByteArray.data_append]
  ·rw [decide_eq_false (by omega)]
   refine ⟨rfl,?_⟩
   unfold itoaB Lib.itoa
   rw [if_neg (by omega),show n.toNat=n.natAbs by omega]
   simp
theorem fmtInt' (n:Int) (h0 : -9223372036854775808≤n) (h1:n≤9223372036854775807):q41 n=true∧v41_0 n=itoaB n :=
 ⟨by unfold q41 q67;rw [decide_eq_true h0,decide_eq_true h1];rfl,rfl⟩
theorem isR34 (a b:Int):v22_0 a b=decide (okR a b):=by
 unfold v22_0 v38_0 okR
 by_cases h1:a ≥ -1000 <;> by_cases h2:a≤1000 <;> by_cases h3:b ≥ a <;> by_cases h4:b≤1000 <;> simp [h1,h2,h3,h4] <;> omega
theorem isR42 (a b:Int):v51_0 a b=decide (okR a b):=by
 unfold v51_0 okR
 by_cases h1 : -1000≤a <;> by_cases h3:a≤b <;> by_cases h4:b≤1000 <;> simp [h1,h3,h4]
theorem itoaB_list (n:Int):(itoaB n).data.toList=Lib.itoa n:=ba_mk _
theorem fmt_bytes (a b:Int):((itoaB a++ByteArray.mk #[46,46])++itoaB b).data.toList=fmtL a b:=by
 have e:(ByteArray.mk #[46,46]).data.toList=[46,46]:=rfl
 simp [ByteArray.data_append,itoaB_list,fmtL,List.append_assoc]
theorem P61 (a b:Int):q61 a b=true∧(okR a b→(v61_0 a b).data.toList=fmtL a b)∧(¬ okR a b→v61_0 a b=ByteArray.empty):=by
 unfold q61 v61_0
 rw [isR34]
 by_cases h:okR a b
 ·rw [decide_eq_true h]
  obtain ⟨h0,h1,h2⟩:=h
  obtain ⟨a1,a2⟩:=fmtInt a (by omega) (by omega)
  obtain ⟨b1,b2⟩:=fmtInt b (by omega) (by omega)
  have la:=itoaB_len a (by omega) (by omega)
  have lb:=itoaB_len b (by omega) (by omega)
  have o2:(ByteArray.mk #[46,46]).size=2:=rfl
  rw [a1,a2,b1,b2]
  refine ⟨?_,fun _=>fmt_bytes a b,fun g=>absurd ⟨h0,h1,h2⟩ g⟩
  simp only [Bool.not_true,cond_false,Bool.true_and,Bool.and_eq_true,decide_eq_true_eq,ByteArray.size_append]
  omega
 ·rw [decide_eq_false h]
  exact ⟨rfl,fun g=>absurd g h,fun _=>rfl⟩
theorem P56 (a b:Int):q56 a b=true∧v56_0 a b=v61_0 a b:=by
 unfold q56 v56_0 v61_0
 rw [isR34,isR42]
 by_cases h:okR a b
 ·rw [decide_eq_true h]
  obtain ⟨h0,h1,h2⟩:=h
  obtain ⟨a1,a2⟩:=fmtInt a (by omega) (by omega)
  obtain ⟨b1,b2⟩:=fmtInt b (by omega) (by omega)
  obtain ⟨A1,A2⟩:=fmtInt' a (by omega) (by omega)
  obtain ⟨B1,B2⟩:=fmtInt' b (by omega) (by omega)
  have la:=itoaB_len a (by omega) (by omega)
  have lb:=itoaB_len b (by omega) (by omega)
  have o2:(ByteArray.mk #[46,46]).size=2:=rfl
  rw [a2,b2,A1,A2,B1,B2]
  refine ⟨?_,rfl⟩
  simp only [Bool.not_true,cond_false,Bool.true_and,Bool.and_eq_true,decide_eq_true_eq,ByteArray.size_append]
  omega
 ·rw [decide_eq_false h]
  exact ⟨rfl,rfl⟩
theorem empty_list:ByteArray.empty.data.toList=[]:=rfl
def Rd (s:ByteArray) (x y:Int) (k:Bool):Prop:=(∃ a b,isR s.data.toList a b∧x=a∧y=b∧k=true)∨((∀ a b,¬ isR s.data.toList a b)∧x=0∧y=0∧k=false)
theorem eq_isR {s:ByteArray} {a b:Int} (he:(v61_0 a b).data.toList=s.data.toList) (hs:s.data.toList ≠ []):isR s.data.toList a b:=by
 by_cases h:okR a b
 ·exact ⟨h,by rw [← he,(P61 a b).2.1 h]⟩
 ·rw [(P61 a b).2.2 h] at he
  exact absurd he.symm hs
theorem P58 (s:ByteArray) (h:s.size≤1048576):q58 s=true∧Rd s (v58_0 s) (v58_1 s) (v58_2 s):=by
 obtain ⟨c1,c2⟩:=cut_size s ⟨#[46,46]⟩
 have hq:q78 s (ByteArray.mk #[46,46])=true:=decide_eq_true (by omega)
 have ha:q79 (v78_0 s (ByteArray.mk #[46,46]))=true:=decide_eq_true (Nat.le_trans c1 (by omega))
 have hb:q79 (v78_1 s (ByteArray.mk #[46,46]))=true:=decide_eq_true (Nat.le_trans c2 (by omega))
 unfold q58 v58_0 v58_1 v58_2
 rw [hq,ha,hb,ba_beq,empty_list]
 by_cases he:s.data.toList=[]
 ·rw [decide_eq_true he]
  refine ⟨rfl,.inr ⟨fun a b g=>?_,rfl,rfl,rfl⟩⟩
  have:=fmtL_len a b
  rw [← g.2,he] at this
  simp at this
 ·rw [decide_eq_false he]
  simp only [cond_false,Bool.true_and]
  have key:∀ a b,isR s.data.toList a b→v79_0 (v78_0 s (ByteArray.mk #[46,46]))=a∧v79_0 (v78_1 s (ByteArray.mk #[46,46]))=b:=fun a b g=>by
   obtain ⟨e1,e2⟩:=cut46 (s:=s) (l:=Lib.itoa a) (r:=Lib.itoa b) g.2 (itoa_no46 a)
   obtain ⟨g0,g1,g2⟩:=g.1
   exact ⟨(pint_itoa e1 (by omega) (by omega)).1,(pint_itoa e2 (by omega) (by omega)).1⟩
  generalize v79_0 (v78_0 s (ByteArray.mk #[46,46]))=x at *
  generalize v79_0 (v78_1 s (ByteArray.mk #[46,46]))=y at *
  rw [(P56 x y).1,(P56 x y).2,ba_beq]
  refine ⟨rfl,?_⟩
  by_cases hxy:(v61_0 x y).data.toList=s.data.toList
  ·rw [decide_eq_true hxy]
   exact .inl ⟨x,y,eq_isR hxy he,rfl,rfl,rfl⟩
  ·rw [decide_eq_false hxy]
   refine .inr ⟨fun a b g=>?_,rfl,rfl,rfl⟩
   obtain ⟨rfl,rfl⟩:=key a b g
   exact hxy (by rw [(P61 _ _).2.1 g.1,g.2])
end Go.Proofs.YteppndjaglhehaaDoor

namespace Go.Proofs.YteppndjaglhehaaDoor
open Go Go.Proofs.VE
set_option linter.unusedVariables false
set_option linter.unusedSimpArgs false
theorem v38 (a b c:Int):v38_0 a b c=(decide (b≤a) && decide (a≤c)):=by
 unfold v38_0;cases h:decide (a ≥ b) <;> simp_all
theorem isR_eq (a b:Int):v51_0 a b=v22_0 a b:=by
 unfold v51_0 v22_0
 rw [v38,v38]
 by_cases h1 : -1000≤a <;> by_cases h2:a≤b <;> by_cases h3:b≤1000 <;> simp [h1,h2,h3] <;> omega
theorem run60 (xs:List AV) (h:xs.length≤1048576):runW (R60_0 xs) (((xs.length:Int) - 0).toNat+1) 0=some (ro (findF (fun i => !v22_0 (fI (xs.getD i.toNat .undef) 0) (fI (xs.getD i.toNat .undef) 1)) xs.length 0) (.inl ()) fun _ => .inr ()):=by
 refine runW_find (fun i=>i) xs.length _ _ _ (fun i h0 hn=>?_) ?_ xs.length _ 0 (Int.le_refl 0) (by omega) (by omega)
 ·simp only [R60_0,F60_0,G60_0,h0,hn,decide_true,Bool.and_self,cond_true]
  rw [wrap_in (a:=i+1) (by omega) (by omega)]
 ·simp only [R60_0,F60_0,G60_0,Int.lt_irrefl,decide_false,cond_false]
theorem run91 (xs:List AV) (h:xs.length≤1048576):runW (R91_0 xs xs.length) (((xs.length:Int) - 0).toNat+1) 0=some (ro (findF (fun i=>v76_0 (fI (xs.getD i.toNat .undef) 0) (fI (xs.getD i.toNat .undef) 1)) xs.length 0) (.inl ()) fun i => .inr i):=by
 refine runW_find (fun i=>i) xs.length _ _ _ (fun i h0 hn=>?_) ?_ xs.length _ 0 (Int.le_refl 0) (by omega) (by omega)
 ·simp only [R91_0,F91_0,G91_0,h0,hn,decide_true,Bool.and_self,cond_true]
  rw [wrap_in (a:=i+1) (by omega) (by omega)]
 ·simp only [R91_0,F91_0,G91_0,Int.lt_irrefl,decide_false,cond_false]
theorem P60 (xs:List AV) (h:xs.length≤1048576):q60 xs=true∧v60_0 xs=((findF (fun i => !v22_0 (fI (xs.getD i.toNat .undef) 0) (fI (xs.getD i.toNat .undef) 1)) xs.length 0).isNone && decide (xs.length≤30)):=by
 unfold q60 v60_0
 rw [run60 xs h]
 cases findF (fun i => !v22_0 (fI (xs.getD i.toNat .undef) 0) (fI (xs.getD i.toNat .undef) 1)) xs.length 0 with
 | none=>refine ⟨rfl,?_⟩;simp only [ro,sumE,Option.isNone_none,Bool.true_and];congr 1;simp only [eq_iff_iff];omega
 | some j=>exact ⟨rfl,rfl⟩
theorem P55 (xs:List AV) (h:xs.length≤1048576):q55 xs=true∧v55_0 xs=v60_0 xs:=by
 rw [(P60 xs h).2]
 unfold q55 v55_0 v75_0 q75 q91 v91_0
 rw [run91 xs h]
 have e:(fun i:Int=>v76_0 (fI (xs.getD i.toNat .undef) 0) (fI (xs.getD i.toNat .undef) 1))=fun i => !v22_0 (fI (xs.getD i.toNat .undef) 0) (fI (xs.getD i.toNat .undef) 1):=by
  funext i
  unfold v76_0
  rw [isR_eq]
 rw [e]
 have e30:decide ((xs.length:Int)≤30)=decide (xs.length≤30):=by congr 1;simp only [eq_iff_iff];omega
 rw [e30]
 cases hf:findF (fun i => !v22_0 (fI (xs.getD i.toNat .undef) 0) (fI (xs.getD i.toNat .undef) 1)) xs.length 0 with
 | none=>cases decide (xs.length≤30) <;> exact ⟨rfl,rfl⟩
 | some j =>
  have:=(findF_some _ _ hf).1
  cases decide (xs.length≤30)
  ·exact ⟨rfl,rfl⟩
  ·refine ⟨rfl,?_⟩
   simp [ro,sumE]
   omega
theorem wrap_sub (n a b:Int):IntKind.i64.wrap (IntKind.i64.wrap (n+a) - b)=IntKind.i64.wrap (n+IntKind.i64.wrap (a - b)):=by
 simp only [IntKind.wrap_i64]
 omega
theorem run28 (xs:List AV) (h:xs.length≤1048576):runW (R28_0 xs) (((xs.length:Int) - 0).toNat+1) (0,0)=some (foldF (fun i t=>IntKind.i64.wrap (IntKind.i64.wrap (t+fI (xs.getD i.toNat .undef) 1) - fI (xs.getD i.toNat .undef) 0)) xs.length 0 0):=by
 refine runW_fold (fun i t=>(t,i)) xs.length _ id (fun _ _=>True) (fun i t h0 hn _=>⟨?_,trivial⟩) (fun t _=>?_) xs.length _ 0 0 (Int.le_refl 0) (by omega) (by omega) trivial
 ·simp only [R28_0,F28_0,G28_0,h0,hn,decide_true,Bool.and_self,cond_true]
  rw [wrap_in (a:=i+1) (by omega) (by omega)]
 ·simp only [R28_0,F28_0,G28_0,Int.lt_irrefl,decide_false,cond_false,id]
theorem run27 (xs:List AV) (h:xs.length≤1048576):runW (R27_0 xs xs xs.length) (((xs.length:Int) - 0).toNat+1) (0,0)=some (foldF (fun i t=>IntKind.i64.wrap (t+IntKind.i64.wrap (fI (xs.getD i.toNat .undef) 1 - fI (xs.getD i.toNat .undef) 0))) xs.length 0 0):=by
 refine runW_fold (fun i t=>(t,i)) xs.length _ id (fun _ _=>True) (fun i t h0 hn _=>⟨?_,trivial⟩) (fun t _=>?_) xs.length _ 0 0 (Int.le_refl 0) (by omega) (by omega) trivial
 ·simp only [R27_0,F27_0,G27_0,h0,hn,decide_true,Bool.and_self,cond_true]
  rw [wrap_in (a:=i+1) (by omega) (by omega)]
 ·simp only [R27_0,F27_0,G27_0,Int.lt_irrefl,decide_false,cond_false,id]
theorem same (xs:List AV) (h:xs.length≤1048576):q28 xs=true∧q27 xs=true∧v27_0 xs=v28_0 xs:=by
 unfold q28 q27 v28_0 v27_0
 rw [run28 xs h,run27 xs h,(P55 xs h).2,(P55 xs h).1,(P60 xs h).1]
 simp only [wrap_sub,ro,Bool.true_and]
 by_cases h0:(xs.length:Int)=0
 ·simp only [h0,decide_true,cond_true]
  cases v60_0 xs <;> simp
 ·simp only [h0,decide_false,cond_false]
  cases v60_0 xs <;> simp
end Go.Proofs.YteppndjaglhehaaDoor

namespace Go.Proofs.YteppndjaglhehaaDoor
open Go Go.Proofs.VE
set_option linter.unusedVariables false
set_option linter.unusedSimpArgs false
theorem tmod_lt (a:Int) : -10007<Int.tmod a 10007∧Int.tmod a 10007<10007:=by
 have h1:=Int.tmod_lt_of_pos a (show (0:Int)<10007 by omega)
 have h2:=Int.tmod_lt_of_pos (-a) (show (0:Int)<10007 by omega)
 rw [Int.neg_tmod] at h2
 omega
theorem seed (x:Int):v54_0 x=v53_0 x:=by
 unfold v54_0 v53_0
 obtain ⟨h1,h2⟩:=tmod_lt x
 generalize Int.tmod x 10007=r at *
 rw [wrap_in (a:=r+10007) (by omega) (by omega)]
 by_cases h:r<0
 ·rw [decide_eq_true h,cond_true]
  rw [Int.tmod_eq_emod_of_nonneg (a:=r+10007) (by omega),Int.emod_eq_of_lt (by omega) (by omega)]
 ·rw [decide_eq_false h,cond_false]
  rw [Int.tmod_eq_emod_of_nonneg (a:=r+10007) (by omega),show (r+10007) % 10007=r by omega]
theorem q54t (x:Int):q54 x=true:=by unfold q54;rfl
theorem q53t (x:Int):q53 x=true:=by unfold q53;cases decide (Int.tmod x 10007<0) <;> rfl
def gW (k lo hi c i:Int) (s:Int × Int × Int × List AV):Int × Int × Int × List AV :=
 bif decide (k=0) then (v53_0 (v53_0 s.1),s.2.1,s.2.2.1,s.2.2.2++[AV.agg [AV.int .i64 (if v52_0 (v53_0 s.1) lo hi<v52_0 s.1 lo hi then v52_0 (v53_0 s.1) lo hi else v52_0 s.1 lo hi),AV.int .i64 (if v52_0 (v53_0 s.1) lo hi > v52_0 s.1 lo hi then v52_0 (v53_0 s.1) lo hi else v52_0 s.1 lo hi)]])
 else bif decide (k=1) then (s.1,s.2.1,s.2.2.1,s.2.2.2++[AV.agg [AV.int .i64 (IntKind.i64.wrap (lo+IntKind.i64.wrap (Int.tdiv (IntKind.i64.wrap (IntKind.i64.wrap (hi - lo)*i)) c))),AV.int .i64 (IntKind.i64.wrap (lo+IntKind.i64.wrap (Int.tdiv (IntKind.i64.wrap (IntKind.i64.wrap (hi - lo)*IntKind.i64.wrap (i+1))) c)))]])
 else (s.1,IntKind.i64.wrap (s.2.1+IntKind.i64.wrap (Int.tdiv (IntKind.i64.wrap (s.2.2.1 - s.2.1)) 4)),IntKind.i64.wrap (s.2.2.1 - IntKind.i64.wrap (Int.tdiv (IntKind.i64.wrap (s.2.2.1 - s.2.1)) 4)),s.2.2.2++[AV.agg [AV.int .i64 s.2.1,AV.int .i64 s.2.2.1]])
theorem gW_len (k lo hi c i:Int) (s:Int × Int × Int × List AV):(gW k lo hi c i s).2.2.2.length=s.2.2.2.length+1:=by
 unfold gW
 cases decide (k=0) <;> cases decide (k=1) <;> simp
theorem stepS (k lo hi c i:Int) (s:Int × Int × Int × List AV) (hk:k=0∨k=1∨k=2) (h1 : -1000≤lo) (h2:lo≤hi) (h3:hi≤1000) (hc:c≤30) (h0:0≤i) (hn:i<c) (hl:(s.2.2.2.length:Int)≤i) :
  R21_0 k lo hi c (s.1,s.2.1,s.2.2.1,i,s.2.2.2) = .next ((gW k lo hi c i s).1,(gW k lo hi c i s).2.1,(gW k lo hi c i s).2.2.1,i+1,(gW k lo hi c i s).2.2.2):=by
 have e1:(!decide (IntKind.i64.wrap (IntKind.i64.wrap (hi - lo)+1)=0))=true:=by
  rw [wrap_in (a:=hi - lo) (by omega) (by omega),wrap_in (a:=hi - lo+1) (by omega) (by omega)]
  simp;omega
 have e2:(!decide (c=0))=true:=by simp;omega
 have c1:∀ y:AV,decide ((s.2.2.2.length+[y].length)*16≤140737488355328)=true:=fun y=>by simp only [List.length_singleton];exact decide_eq_true (by omega)
 have c2:∀ y:AV,decide (s.2.2.2.length+[y].length≤140737488355328)=true:=fun y=>by simp only [List.length_singleton];exact decide_eq_true (by omega)
 rcases hk with rfl|rfl|rfl
 ·simp only [R21_0,F21_0,G21_0,gW,hn,e1,q54t,c1,c2,seed,Bool.and_self,show decide ((0:Int)=0)=true from rfl,cond_true,decide_true]
  rw [wrap_in (a:=i+1) (by omega) (by omega)]
  try rfl
 ·simp only [R21_0,F21_0,G21_0,gW,hn,e2,c1,c2,Bool.and_self,show decide ((1:Int)=0)=false from rfl,show decide ((1:Int)=1)=true from rfl,cond_true,cond_false,decide_true]
  rw [wrap_in (a:=i+1) (by omega) (by omega)]
  try rfl
 ·simp only [R21_0,F21_0,G21_0,gW,hn,c1,c2,Bool.and_self,show decide ((2:Int)=0)=false from rfl,show decide ((2:Int)=1)=false from rfl,show decide ((4:Int)=0)=false from rfl,Bool.not_false,cond_true,cond_false,decide_true]
  rw [wrap_in (a:=i+1) (by omega) (by omega)]
  try rfl
theorem q52t (x lo hi:Int) (h1 : -1000≤lo) (h2:lo≤hi) (h3:hi≤1000):q52 x lo hi=true:=by
 unfold q52
 rw [q53t,wrap_in (a:=hi - lo) (by omega) (by omega),wrap_in (a:=hi - lo+1) (by omega) (by omega)]
 simp;omega
theorem stepI (k lo hi c i:Int) (s:Int × Int × Int × List AV) (hk:k=0∨k=1∨k=2) (h1 : -1000≤lo) (h2:lo≤hi) (h3:hi≤1000) (hc:c≤30) (h0:0≤i) (hn:i<c) (hl:(s.2.2.2.length:Int)≤i) :
  R20_0 k c c (i,s.1,lo,hi,s.2.2.2,s.2.1,s.2.2.1) = .next (i+1,(gW k lo hi c i s).1,lo,hi,(gW k lo hi c i s).2.2.2,(gW k lo hi c i s).2.1,(gW k lo hi c i s).2.2.1):=by
 have e2:(!decide (c=0))=true:=by simp;omega
 have c1:∀ y:AV,decide ((s.2.2.2.length+[y].length)*16≤140737488355328)=true:=fun y=>by simp only [List.length_singleton];exact decide_eq_true (by omega)
 have c2:∀ y:AV,decide (s.2.2.2.length+[y].length≤140737488355328)=true:=fun y=>by simp only [List.length_singleton];exact decide_eq_true (by omega)
 rcases hk with rfl|rfl|rfl
 ·simp only [R20_0,F20_0,G20_0,gW,hn,c1,c2,v52_1,v52_2,v52_3,q52t _ lo hi h1 h2 h3,Bool.and_self,show decide ((0:Int)=0)=true from rfl,cond_true,decide_true]
  rw [wrap_in (a:=i+1) (by omega) (by omega)]
  try rfl
 ·simp only [R20_0,F20_0,G20_0,gW,hn,e2,c1,c2,Bool.and_self,show decide ((1:Int)=0)=false from rfl,show decide ((1:Int)=1)=true from rfl,cond_true,cond_false,decide_true]
  rw [wrap_in (a:=i+1) (by omega) (by omega)]
  try rfl
 ·simp only [R20_0,F20_0,G20_0,gW,hn,c1,c2,Bool.and_self,show decide ((2:Int)=0)=false from rfl,show decide ((2:Int)=1)=false from rfl,show decide ((2:Int)=2)=true from rfl,show decide ((4:Int)=0)=false from rfl,Bool.not_false,cond_true,cond_false,decide_true]
  rw [wrap_in (a:=i+1) (by omega) (by omega)]
  try rfl
theorem fold_len (k lo hi c:Int):∀ (m:Nat) (i:Int) (s:Int × Int × Int × List AV),(foldF (gW k lo hi c) m i s).2.2.2.length=s.2.2.2.length+m
 | 0,_,_=>rfl
 | m+1,i,s=>by
  show (foldF (gW k lo hi c) m (i+1) (gW k lo hi c i s)).2.2.2.length=_
  rw [fold_len k lo hi c m,gW_len];omega
def isW (k lo hi c:Int):Bool:=decide (0≤k) && decide (k≤2) && (decide (-1000≤lo) && decide (lo≤1000)) && (decide (lo≤hi) && decide (hi≤1000)) && (decide (0≤c) && decide (c≤30))
def W (k lo hi c x:Int):List AV:=bif isW k lo hi c then (foldF (gW k lo hi c) c.toNat 0 (x,lo,hi,[])).2.2.2 else []
theorem W_len (k lo hi c x:Int):(W k lo hi c x).length≤1048576:=by
 unfold W isW
 by_cases h:c≤30
 ·cases (decide (0≤k) && decide (k≤2) && (decide (-1000≤lo) && decide (lo≤1000)) && (decide (lo≤hi) && decide (hi≤1000)) && (decide (0≤c) && decide (c≤30)))
  ·simp
  ·rw [cond_true,fold_len];simp;omega
 ·simp [h]
theorem isW_spec {k lo hi c:Int} (h:isW k lo hi c=true):(k=0∨k=1∨k=2) ∧ -1000≤lo∧lo≤hi∧hi≤1000∧0≤c∧c≤30:=by
 simp only [isW,Bool.and_eq_true,decide_eq_true_eq] at h
 omega
theorem P21 (k lo hi c x:Int):q21 k lo hi c x=true∧v21_0 k lo hi c x=W k lo hi c x:=by
 cases h:isW k lo hi c with
 | true =>
  obtain ⟨hk,h1,h2,h3,h4,h5⟩:=isW_spec h
  have hr:=runW_fold (f:=R21_0 k lo hi c) (fun i (s:Int × Int × Int × List AV)=>(s.1,s.2.1,s.2.2.1,i,s.2.2.2)) c (gW k lo hi c) (fun s=>s.2.2.2) (fun i s=>(s.2.2.2.length:Int)≤i)
   (fun i s h0 hn hl=>⟨stepS k lo hi c i s hk h1 h2 h3 h5 h0 hn hl,by rw [gW_len];omega⟩) (fun s _=>by simp only [R21_0,F21_0,G21_0,Int.lt_irrefl,decide_false,cond_false]) c.toNat ((c - 0).toNat+1) 0 (x,lo,hi,[]) (Int.le_refl 0) (by omega) (by omega) (by simp)
  have hw:W k lo hi c x=(foldF (gW k lo hi c) c.toNat 0 (x,lo,hi,[])).2.2.2:=by unfold W;rw [h];rfl
  simp only [isW,Bool.and_eq_true] at h
  obtain ⟨⟨⟨⟨a1,a2⟩,a3,a4⟩,a5,a6⟩,a7,a8⟩:=h
  unfold q21 v21_0
  simp only [v38,a1,a2,a3,a4,a5,a6,a7,a8,Bool.and_self,Bool.not_true,cond_false]
  simp only at hr
  rw [hr,hw]
  exact ⟨rfl,rfl⟩
 | false =>
  have hw:W k lo hi c x=[]:=by unfold W;rw [h];rfl
  rw [hw]
  unfold q21 v21_0
  simp only [v38]
  unfold isW at h
  cases e1:(decide (0≤k) && decide (k≤2)) with
  | false=>exact ⟨rfl,rfl⟩
  | true =>
   cases e2:(decide (-1000≤lo) && decide (lo≤1000)) with
   | false=>exact ⟨rfl,rfl⟩
   | true =>
    cases e3:(decide (lo≤hi) && decide (hi≤1000)) with
    | false=>exact ⟨rfl,rfl⟩
    | true =>
     rw [e1,e2,e3] at h
     simp only [Bool.true_and] at h
     rw [h]
     exact ⟨rfl,rfl⟩
theorem P20 (k lo hi c x:Int):q20 k lo hi c x=true∧v20_0 k lo hi c x=W k lo hi c x:=by
 cases h:isW k lo hi c with
 | true =>
  obtain ⟨hk,h1,h2,h3,h4,h5⟩:=isW_spec h
  have hr:=runW_fold (f:=R20_0 k c c) (fun i (s:Int × Int × Int × List AV)=>(i,s.1,lo,hi,s.2.2.2,s.2.1,s.2.2.1)) c (gW k lo hi c) (fun s=>(s.1,lo,hi,s.2.2.2,s.2.1,s.2.2.1)) (fun i s=>(s.2.2.2.length:Int)≤i)
   (fun i s h0 hn hl=>⟨stepI k lo hi c i s hk h1 h2 h3 h5 h0 hn hl,by rw [gW_len];omega⟩) (fun s _=>by simp only [R20_0,F20_0,G20_0,Int.lt_irrefl,decide_false,cond_false]) c.toNat ((c - 0).toNat+1) 0 (x,lo,hi,[]) (Int.le_refl 0) (by omega) (by omega) (by simp)
  have hw:W k lo hi c x=(foldF (gW k lo hi c) c.toNat 0 (x,lo,hi,[])).2.2.2:=by unfold W;rw [h];rfl
  have g1:decide (k<0)=false:=decide_eq_false (by omega)
  have g2:decide (k > 2)=false:=decide_eq_false (by omega)
  have g3:v51_0 lo hi=true:=by unfold v51_0;simp [h1,h2,h3]
  have g4:decide (c<0)=false:=decide_eq_false (by omega)
  have g5:decide (c > 30)=false:=decide_eq_false (by omega)
  unfold q20 v20_0
  simp only [g1,g2,g3,g4,g5,Bool.not_true,cond_false]
  simp only at hr
  rw [hr,hw]
  exact ⟨rfl,rfl⟩
 | false =>
  have hw:W k lo hi c x=[]:=by unfold W;rw [h];rfl
  rw [hw]
  unfold q20 v20_0
  by_cases g1:k<0
  ·rw [decide_eq_true g1];exact ⟨rfl,rfl⟩
  rw [decide_eq_false g1]
  by_cases g2:k > 2
  ·rw [decide_eq_true g2];exact ⟨rfl,rfl⟩
  rw [decide_eq_false g2]
  cases g3:v51_0 lo hi with
  | false=>exact ⟨rfl,rfl⟩
  | true =>
   by_cases g4:c<0
   ·rw [decide_eq_true g4];exact ⟨rfl,rfl⟩
   rw [decide_eq_false g4]
   by_cases g5:c > 30
   ·rw [decide_eq_true g5];exact ⟨rfl,rfl⟩
   exfalso
   have b1 : -1000≤lo∧lo≤hi∧hi≤1000:=by
    unfold v51_0 at g3
    by_cases x1 : -1000≤lo <;> by_cases x2:lo≤hi <;> by_cases x3:hi≤1000 <;> simp [x1,x2,x3] at g3 ⊢
   have:isW k lo hi c=true:=by
    simp only [isW,Bool.and_eq_true,decide_eq_true_eq]
    omega
   rw [this] at h
   cases h
end Go.Proofs.YteppndjaglhehaaDoor

namespace Go.Proofs.YteppndjaglhehaaDoor
open Go Go.Proofs.VE
set_option linter.unusedVariables false
set_option linter.unusedSimpArgs false
theorem beq_empty (t:ByteArray) (h:1≤t.size):(t.toList == ByteArray.empty.toList)=false:=by
 rw [Lib.toList_data,Lib.toList_data]
 cases h2:t.data.toList with
 | nil =>
  have:t.size=t.data.toList.length:=by rw [Array.length_toList];rfl
  rw [h2,List.length_nil] at this
  omega
 | cons _ _=>rfl
theorem joinB_snoc (l:List AV) (w sep:ByteArray):joinB (l++[AV.str w]) sep=bif decide (l.length=0) then w else (joinB l sep++sep)++w:=by
 apply ByteArray.ext
 apply Array.toList_inj.1
 cases l with
 | nil=>simp [joinB,Lib.join_one,fS,AV.cells]
 | cons x r =>
  simp [joinB,Lib.join_cons,Lib.joinTail,fS,AV.cells,ByteArray.data_append]
def gJ (w:Int→ByteArray) (i:Int) (t:ByteArray):ByteArray:=bif decide (i > 0) then (t++ByteArray.mk #[32])++w i else t++w i
def gL (w:Int→ByteArray) (i:Int) (l:List AV):List AV:=l++[AV.str (w i)]
theorem gL_len (w:Int→ByteArray):∀ (m:Nat) (i:Int) (l:List AV),(foldF (gL w) m i l).length=l.length+m
 | 0,_,_=>rfl
 | m+1,i,l=>by
  show (foldF (gL w) m (i+1) (l++[AV.str (w i)])).length=_
  rw [gL_len w m,List.length_append]
  simp only [List.length_cons,List.length_nil]
  omega
theorem gJ_join (w:Int→ByteArray):∀ (m:Nat) (i:Int) (t:ByteArray) (l:List AV),(l.length:Int)=i→t=joinB l (ByteArray.mk #[32])→foldF (gJ w) m i t=joinB (foldF (gL w) m i l) (ByteArray.mk #[32])
 | 0,_,_,_,_,h=>h
 | m+1,i,t,l,hi,h=>by
  refine gJ_join w m (i+1) (gJ w i t) (gL w i l) (by unfold gL;rw [List.length_append];simp only [List.length_cons,List.length_nil];omega) ?_
  unfold gJ gL
  rw [joinB_snoc,h]
  by_cases h0:i > 0
  ·rw [decide_eq_true h0,decide_eq_false (by omega:¬ l.length=0)]
   rfl
  ·have:l=[]:=List.eq_nil_of_length_eq_zero (by omega)
   subst this
   rw [decide_eq_false h0]
   apply ByteArray.ext
   simp [joinB,Lib.join_nil,ByteArray.data_append]
theorem gJ_size (w:Int→ByteArray) (K:Nat) (hw:∀ i,(w i).size≤K) (i:Int) (t:ByteArray):(gJ w i t).size≤t.size+(K+1)∧t.size≤(gJ w i t).size∧(w i).size≤(gJ w i t).size:=by
 have:=hw i
 unfold gJ
 have o1:(ByteArray.mk #[32]).size=1:=rfl
 cases decide (i > 0)
 ·simp only [cond_false,ByteArray.size_append];omega
 ·simp only [cond_true,ByteArray.size_append];omega
theorem gJ_fold (w:Int→ByteArray) (K:Nat) (hw:∀ i,(w i).size≤K):∀ (m:Nat) (i:Int) (t:ByteArray),(foldF (gJ w) m i t).size≤t.size+(K+1)*m∧t.size≤(foldF (gJ w) m i t).size
 | 0,_,_=>⟨Nat.le_refl _,Nat.le_refl _⟩
 | m+1,i,t=>by
  have h1:=gJ_fold w K hw m (i+1) (gJ w i t)
  have h2:=gJ_size w K hw i t
  show (foldF (gJ w) m (i+1) (gJ w i t)).size≤_∧_≤(foldF (gJ w) m (i+1) (gJ w i t)).size
  rw [Nat.mul_succ]
  omega
theorem gJ_pos (w:Int→ByteArray) (K:Nat) (hw:∀ i,(w i).size≤K) (h0:1≤(w 0).size) (m:Nat) (hm:1≤m):1≤(foldF (gJ w) m 0 ByteArray.empty).size:=by
 obtain ⟨k,rfl⟩:∃ k,m=k+1:=⟨m - 1,by omega⟩
 have h1:=gJ_fold w K hw k (0+1) (gJ w 0 ByteArray.empty)
 have h2:=gJ_size w K hw 0 ByteArray.empty
 show 1≤(foldF (gJ w) k (0+1) (gJ w 0 ByteArray.empty)).size
 omega
theorem rangeE (a b:Int):q61 a b=true∧q56 a b=true∧v56_0 a b=v61_0 a b∧(v61_0 a b).size≤42∧(v22_0 a b=true→1≤(v61_0 a b).size):=by
 obtain ⟨p1,p2,p3⟩:=P61 a b
 obtain ⟨q1,q2⟩:=P56 a b
 refine ⟨p1,q1,q2,?_⟩
 by_cases h:okR a b
 ·rw [ba_size,p2 h]
  have h2:=fmtL_len a b
  obtain ⟨h0,h1,h3⟩:=h
  have la:=itoaB_len a (by omega) (by omega)
  have lb:=itoaB_len b (by omega) (by omega)
  rw [ba_size,itoaB_list] at la lb
  refine ⟨?_,fun _=>by omega⟩
  unfold fmtL
  simp only [List.length_append,List.length_cons]
  omega
 ·rw [p3 h]
  refine ⟨by decide,fun g=>?_⟩
  rw [isR34,decide_eq_false h] at g
  cases g
def wR (xs:List AV) (i:Int):ByteArray:=v61_0 (fI (xs.getD i.toNat .undef) 0) (fI (xs.getD i.toNat .undef) 1)
theorem run26 (xs:List AV) (h:xs.length≤1048576) :
  runW (R26_0 xs) (((xs.length:Int) - 0).toNat+1) (ByteArray.empty,0)=some (foldF (gJ (wR xs)) xs.length 0 ByteArray.empty) :=
 runW_fold (f:=R26_0 xs) (fun i (t:ByteArray)=>(t,i)) xs.length (gJ (wR xs)) (fun t=>t) (fun i t=>(t.size:Int)≤43*i) (fun i t h0 hn hI=>by
  obtain ⟨r1,r2,r3,r4,_⟩:=rangeE (fI (xs.getD (i:Int).toNat .undef) 0) (fI (xs.getD (i:Int).toNat .undef) 1)
  have o1:(ByteArray.mk #[32]).size=1:=rfl
  have hs:(gJ (wR xs) i t).size≤t.size+(42+1):=(gJ_size (wR xs) 42 (fun j=>(rangeE (fI (xs.getD (j:Int).toNat .undef) 0) (fI (xs.getD (j:Int).toNat .undef) 1)).2.2.2.1) i t).1
  refine ⟨?_,by omega⟩
  have d0:decide (i<(xs.length:Int))=true:=decide_eq_true hn
  have d2:decide (0≤i)=true:=decide_eq_true h0
  have d3:decide (t.size+(v61_0 (fI (xs.getD i.toNat .undef) 0) (fI (xs.getD i.toNat .undef) 1)).size≤4611686018427387904)=true:=decide_eq_true (by omega)
  have d4:decide ((t++ByteArray.mk #[32]).size+(v61_0 (fI (xs.getD i.toNat .undef) 0) (fI (xs.getD i.toNat .undef) 1)).size≤4611686018427387904)=true:=decide_eq_true (by rw [ByteArray.size_append];omega)
  have d5:decide (t.size+(ByteArray.mk #[32]).size≤4611686018427387904)=true:=decide_eq_true (by omega)
  unfold R26_0 F26_0 G26_0 gJ wR
  rw [r1,d0,d2,d3,d4,d5,wrap_in (a:=i+1) (by omega) (by omega)]
  cases decide (i > 0) <;> rfl) (fun t _=>by
  unfold R26_0 F26_0 G26_0
  rw [decide_eq_false (Int.lt_irrefl _)]
  rfl) xs.length _ 0 ByteArray.empty (Int.le_refl 0) (by omega) (by omega) (by decide)
theorem run23 (xs:List AV) (h:xs.length≤1048576) :
  runW (R23_0 xs xs.length) (((xs.length:Int) - 0).toNat+1) (0,([]:List AV))=some (foldF (gL (wR xs)) xs.length 0 []) :=
 runW_fold (f:=R23_0 xs xs.length) (fun i (t:List AV)=>(i,t)) xs.length (gL (wR xs)) (fun t=>t) (fun i t=>(t.length:Int)=i) (fun i t h0 hn hI=>by
  obtain ⟨r1,r2,r3,r4,_⟩:=rangeE (fI (xs.getD (i:Int).toNat .undef) 0) (fI (xs.getD (i:Int).toNat .undef) 1)
  refine ⟨?_,by unfold gL;rw [List.length_append];simp only [List.length_cons,List.length_nil];omega⟩
  have d0:decide (i<(xs.length:Int))=true:=decide_eq_true hn
  have d2:decide (0≤i)=true:=decide_eq_true h0
  unfold R23_0 F23_0 G23_0 gL wR
  rw [r2,r3,d0,d2,wrap_in (a:=i+1) (by omega) (by omega)]
  have d3:decide ((t.length+([AV.str (v61_0 (fI (xs.getD i.toNat .undef) 0) (fI (xs.getD i.toNat .undef) 1))]).length)*16≤140737488355328)=true:=decide_eq_true (by simp only [List.length_cons,List.length_nil];omega)
  have d4:decide ((t.length+([AV.str (v61_0 (fI (xs.getD i.toNat .undef) 0) (fI (xs.getD i.toNat .undef) 1))]).length)≤140737488355328)=true:=decide_eq_true (by simp only [List.length_cons,List.length_nil];omega)
  rw [d3,d4]
  rfl) (fun t _=>by
  unfold R23_0 F23_0 G23_0
  rw [decide_eq_false (Int.lt_irrefl _)]
  rfl) xs.length _ 0 [] (Int.le_refl 0) (by omega) (by omega) rfl
theorem isNone_at (p:Int→Bool):∀ (m:Nat) (i:Int),(findF p m i).isNone=true→1≤m→p i=false
 | m+1,i,h,_=>by
  unfold findF at h
  cases hp:p i with
  | false=>rfl
  | true=>rw [hp] at h;cases h
theorem workl (xs:List AV) (h:xs.length≤1048576):q26 xs=true∧q23 xs=true∧v23_0 xs=v26_0 xs:=by
 obtain ⟨s1,s2⟩:=P60 xs h
 obtain ⟨s3,s4⟩:=P55 xs h
 have hw:∀ i,(wR xs i).size≤42:=fun j=>(rangeE (fI (xs.getD (j:Int).toNat .undef) 0) (fI (xs.getD (j:Int).toNat .undef) 1)).2.2.2.1
 have hj:foldF (gJ (wR xs)) xs.length 0 ByteArray.empty=joinB (foldF (gL (wR xs)) xs.length 0 []) (ByteArray.mk #[32]):=gJ_join (wR xs) xs.length 0 ByteArray.empty [] rfl (by
  apply ByteArray.ext
  simp [joinB,Lib.join_nil])
 have hl:(foldF (gL (wR xs)) xs.length 0 []).length=xs.length:=by rw [gL_len];simp
 have hz:=(gJ_fold (wR xs) 42 hw xs.length 0 ByteArray.empty).1
 have z0:ByteArray.empty.size=0:=rfl
 unfold q26 q23 v26_0 v23_0
 rw [s3,s4,s1,run26 xs h,run23 xs h]
 cases hc:v60_0 xs with
 | false=>exact ⟨rfl,rfl,rfl⟩
 | true =>
  simp only [ro,Bool.not_true,cond_false,Bool.true_and]
  have k:q42 (foldF (gL (wR xs)) xs.length 0 []) (ByteArray.mk #[32])=true:=by
   unfold q42
   rw [hl,← hj,decide_eq_true (by omega:xs.length≤140737488355328),decide_eq_true (by omega)]
   rfl
  rw [k]
  refine ⟨by first|trivial|rfl,by cases decide (((foldF (gL (wR xs)) xs.length 0 []).length:Int)=0) <;> rfl,?_⟩
  by_cases hn:xs.length=0
  ·rw [decide_eq_true (by omega:((foldF (gL (wR xs)) xs.length 0 []).length:Int)=0),hn]
   show _=(bif (ByteArray.empty.toList == ByteArray.empty.toList) then _ else _)
   rw [beq_self_eq_true]
   rfl
  ·rw [decide_eq_false (by omega:¬ ((foldF (gL (wR xs)) xs.length 0 []).length:Int)=0)]
   rw [s2] at hc
   have h0:=isNone_at _ _ _ (Bool.and_eq_true_iff.1 hc).1 (by omega)
   have h1:1≤(wR xs 0).size:=(rangeE (fI (xs.getD (0:Int).toNat .undef) 0) (fI (xs.getD (0:Int).toNat .undef) 1)).2.2.2.2 (by simpa using h0)
   rw [beq_empty _ (gJ_pos (wR xs) 42 hw h1 xs.length (by omega))]
   exact hj.symm
end Go.Proofs.YteppndjaglhehaaDoor

namespace Go.Proofs.YteppndjaglhehaaDoor
open Go Go.Proofs.VE
set_option linter.unusedVariables false
set_option linter.unusedSimpArgs false
def rgA (x:AV):AV:=AV.agg [AV.int .i64 (v58_0 (fS x 0)),AV.int .i64 (v58_1 (fS x 0))]
def okW (x:AV):Prop:=v58_2 (fS x 0)=true
theorem getD_mem (xs:List AV) (i:Nat) (h:i<xs.length):xs.getD i .undef=xs[i]:=by
 rw [List.getD_eq_getElem?_getD,List.getElem?_eq_getElem h]
 rfl
def g9 (ws:List AV) (i:Int) (t:List AV):List AV ⊕ (List AV × Int × Int) :=
 bif !(v58_2 (fS (ws.getD i.toNat .undef) 0)) then .inr (t,v58_0 (fS (ws.getD i.toNat .undef) 0),v58_1 (fS (ws.getD i.toNat .undef) 0))
 else bif decide ((t.length:Int)=30) then .inr (t,v58_0 (fS (ws.getD i.toNat .undef) 0),v58_1 (fS (ws.getD i.toNat .undef) 0)) else .inl (t++[rgA (ws.getD i.toNat .undef)])
theorem fE9 (ws:List AV):∀ (m i:Nat) (t:List AV),t.length=i→i+m=ws.length →
  ((∀ x ∈ ws.drop i,okW x)∧ws.length≤30→foldE (g9 ws) m (i:Int) t = .inl (t++(ws.drop i).map rgA)) ∧
  (¬ ((∀ x ∈ ws.drop i,okW x)∧ws.length≤30)→i≤30→∃ r,foldE (g9 ws) m (i:Int) t = .inr r)
 | 0,i,t,ht,h=>by
  rw [List.drop_eq_nil_of_le (by omega)]
  refine ⟨fun _=>by simp [foldE],fun hn hi=>absurd ⟨fun x hx=>(by cases hx),by omega⟩ hn⟩
 | m+1,i,t,ht,h=>by
  have hd:ws.drop i=ws[i] :: ws.drop (i+1):=List.drop_eq_getElem_cons (by omega)
  obtain ⟨ih1,ih2⟩:=fE9 ws m (i+1) (t++[rgA ws[i]]) (by rw [List.length_append,ht];rfl) (by omega)
  rw [show (((i+1:Nat):Int))=(i:Int)+1 by omega] at ih1 ih2
  have hg:g9 ws (i:Int) t=bif !(v58_2 (fS ws[i] 0)) then .inr (t,v58_0 (fS ws[i] 0),v58_1 (fS ws[i] 0))
    else bif decide ((t.length:Int)=30) then .inr (t,v58_0 (fS ws[i] 0),v58_1 (fS ws[i] 0)) else .inl (t++[rgA ws[i]]):=by
   unfold g9
   rw [Int.toNat_natCast,getD_mem ws i (by omega)]
  rw [hd]
  cases hk:v58_2 (fS ws[i] 0) with
  | false =>
   rw [hk] at hg
   refine ⟨fun hh=>absurd (hh.1 _ List.mem_cons_self) (by unfold okW;rw [hk];decide),fun _ _=>⟨(t,v58_0 (fS ws[i] 0),v58_1 (fS ws[i] 0)),?_⟩⟩
   unfold foldE
   rw [hg]
   rfl
  | true =>
   rw [hk] at hg
   by_cases h30:(t.length:Int)=30
   ·rw [decide_eq_true h30] at hg
    refine ⟨fun hh=>by omega,fun _ _=>⟨(t,v58_0 (fS ws[i] 0),v58_1 (fS ws[i] 0)),?_⟩⟩
    unfold foldE
    rw [hg]
    rfl
   ·rw [decide_eq_false h30] at hg
    have e:foldE (g9 ws) (m+1) (i:Int) t=foldE (g9 ws) m ((i:Int)+1) (t++[rgA ws[i]]):=by
     conv=>lhs;unfold foldE
     rw [hg]
     rfl
    rw [e]
    refine ⟨fun hh=>?_,fun hn hi=>?_⟩
    ·rw [ih1 ⟨fun x hx=>hh.1 x (List.mem_cons_of_mem _ hx),hh.2⟩,List.map_cons,List.append_assoc]
     rfl
    ·exact ih2 (fun hh=>hn ⟨fun x hx=>by
      rcases List.mem_cons.1 hx with rfl|hx
      ·exact hk
      ·exact hh.1 x hx,hh.2⟩) (by omega)
theorem run24 (ws:List AV) (hs:∀ x ∈ ws,(fS x 0).size≤1048576) (hl:ws.length≤1048577) :
  ((∀ x ∈ ws,okW x)∧ws.length≤30→runW (R24_0 (ws.length:Int) ws) (((ws.length:Int) - 0).toNat+1) (0,[])=some (.inl (ws.map rgA))) ∧
  (¬ ((∀ x ∈ ws,okW x)∧ws.length≤30)→∃ r,runW (R24_0 (ws.length:Int) ws) (((ws.length:Int) - 0).toNat+1) (0,[])=some (.inr r)):=by
 have hr:=runW_foldE (f:=R24_0 (ws.length:Int) ws) (fun i (t:List AV)=>(i,t)) ws.length (g9 ws) (fun t => .inl t) (fun r => .inr r) (fun i t=>(t.length:Int)=i) (fun i t h0 hn hI=>by
  have d0:decide (i<(ws.length:Int))=true:=decide_eq_true hn
  have d1:decide (0≤i)=true:=decide_eq_true h0
  have hm:ws.getD i.toNat .undef ∈ ws:=by rw [getD_mem ws i.toNat (by omega)];exact List.getElem_mem _
  have q:=(P58 _ (hs _ hm)).1
  have d4:∀ x:AV,decide ((t.length+([x]).length)*16≤140737488355328)=true:=fun x=>decide_eq_true (by simp only [List.length_cons,List.length_nil];omega)
  have d5:∀ x:AV,decide ((t.length+([x]).length)≤140737488355328)=true:=fun x=>decide_eq_true (by simp only [List.length_cons,List.length_nil];omega)
  have w1:IntKind.i64.wrap (i+1)=i+1:=wrap_in (by omega) (by omega)
  have hf:R24_0 (ws.length:Int) ws (i,t)=bif !(v58_2 (fS (ws.getD i.toNat .undef) 0)) then .stop (.inr (t,v58_0 (fS (ws.getD i.toNat .undef) 0),v58_1 (fS (ws.getD i.toNat .undef) 0)))
    else bif decide ((t.length:Int)=30) then .stop (.inr (t,v58_0 (fS (ws.getD i.toNat .undef) 0),v58_1 (fS (ws.getD i.toNat .undef) 0))) else .next (i+1,t++[rgA (ws.getD i.toNat .undef)]):=by
   unfold R24_0 F24_0 G24_0 rgA
   simp only
   rw [d0,d1,q,d4,d5,w1]
   rfl
  rw [hf]
  unfold g9
  cases v58_2 (fS (ws.getD i.toNat .undef) 0) with
  | false=>rfl
  | true =>
   cases decide ((t.length:Int)=30) with
   | true=>rfl
   | false=>exact ⟨rfl,by rw [List.length_append];simp only [List.length_cons,List.length_nil];omega⟩) (fun t _=>by
  unfold R24_0 F24_0 G24_0
  rw [decide_eq_false (Int.lt_irrefl _)]
  rfl) ws.length (((ws.length:Int) - 0).toNat+1) 0 [] (Int.le_refl 0) (by omega) (by omega) rfl
 have hf:=fE9 ws ws.length 0 [] rfl (by omega)
 rw [Int.ofNat_zero,List.drop_zero] at hf
 refine ⟨fun hh=>?_,fun hn=>?_⟩
 ·rw [hr,hf.1 hh]
  rfl
 ·obtain ⟨r,e⟩:=hf.2 hn (by omega)
  exact ⟨r,by rw [hr,e]⟩
theorem findF_none9 {p:Int→Bool}:∀ (m:Nat) (i:Int),findF p m i=none→∀ j,i≤j→j<i+m→p j=false
 | 0,_,_,j,h1,h2=>by omega
 | m+1,i,h,j,h1,h2=>by
  unfold findF at h
  cases hp:p i with
  | true=>rw [hp] at h;cases h
  | false =>
   rw [hp] at h
   by_cases hj:j=i
   ·rw [hj];exact hp
   ·exact findF_none9 m (i+1) h j (by omega) (by omega)
def okE (y:AV):Prop:=okR (fI y 0) (fI y 1)
instance (y:AV):Decidable (okE y):=by unfold okE;infer_instance
def fmtE (y:AV):List UInt8:=fmtL (fI y 0) (fI y 1)
theorem RgD (ys:List AV) (h:ys.length≤1048577):q60 ys=true∧v60_0 ys=decide ((∀ y ∈ ys,okE y)∧ys.length≤30):=by
 have hr:=runW_find (f:=R60_0 ys) (fun i=>i) ys.length (fun i => !decide (okE (ys.getD i.toNat .undef))) (.inl ()) (fun _ => .inr ()) (fun i h0 hn=>by
  have d0:decide (i<(ys.length:Int))=true:=decide_eq_true hn
  have d1:decide (0≤i)=true:=decide_eq_true h0
  unfold R60_0 F60_0 G60_0 okE
  rw [d0,d1,isR34,wrap_in (a:=i+1) (by omega) (by omega)]
  rfl) (by
  unfold R60_0 F60_0 G60_0
  rw [decide_eq_false (Int.lt_irrefl _)]
  rfl) ys.length (((ys.length:Int) - 0).toNat+1) 0 (Int.le_refl 0) (by omega) (by omega)
 unfold q60 v60_0
 rw [hr]
 cases hf:findF (fun i => !decide (okE (ys.getD i.toNat .undef))) ys.length 0 with
 | none =>
  refine ⟨rfl,?_⟩
  show decide ((ys.length:Int)≤30)=_
  have all:∀ y ∈ ys,okE y:=fun y hy=>by
   obtain ⟨j,hj,rfl⟩:=List.getElem_of_mem hy
   have:=findF_none9 _ 0 hf j (by omega) (by omega)
   simp only [Int.toNat_natCast,Bool.not_eq_false',decide_eq_true_eq] at this
   rw [getD_mem ys j hj] at this
   exact this
  by_cases h30:ys.length≤30
  ·rw [decide_eq_true (by omega),decide_eq_true ⟨all,h30⟩]
  ·rw [decide_eq_false (by omega),decide_eq_false fun g=>h30 g.2]
 | some i =>
  obtain ⟨i0,i1,i2⟩:=findF_some _ _ hf
  refine ⟨rfl,?_⟩
  show false=_
  rw [decide_eq_false fun g=>?_]
  have hm:ys.getD i.toNat .undef ∈ ys:=by rw [getD_mem ys i.toNat (by omega)];exact List.getElem_mem _
  rw [decide_eq_true (g.1 _ hm)] at i2
  cases i2
def wE (ys:List AV) (i:Int):ByteArray:=v61_0 (fI (ys.getD i.toNat .undef) 0) (fI (ys.getD i.toNat .undef) 1)
def gW9 (ys:List AV) (i:Int) (t:ByteArray):ByteArray:=bif decide (i > 0) then (t++ByteArray.mk #[32])++wE ys i else t++wE ys i
theorem wE_size (ys:List AV) (i:Int):(wE ys i).size≤42:=by
 unfold wE
 generalize fI (ys.getD i.toNat .undef) 0=a
 generalize fI (ys.getD i.toNat .undef) 1=b
 by_cases h:okR a b
 ·rw [ba_size,(P61 a b).2.1 h]
  obtain ⟨h0,h1,h2⟩:=h
  have la:=itoaB_len a (by omega) (by omega)
  have lb:=itoaB_len b (by omega) (by omega)
  rw [ba_size,itoaB_list] at la lb
  unfold fmtL
  simp only [List.length_append,List.length_cons]
  omega
 ·rw [(P61 a b).2.2 h]
  decide
theorem runFw (ys:List AV) (h:ys.length≤1048577):runW (R26_0 ys) (((ys.length:Int) - 0).toNat+1) (ByteArray.empty,0)=some (foldF (gW9 ys) ys.length 0 ByteArray.empty) :=
 runW_fold (f:=R26_0 ys) (fun i (t:ByteArray)=>(t,i)) ys.length (gW9 ys) (fun t=>t) (fun i t=>(t.size:Int)≤43*i) (fun i t h0 hn hI=>by
  have hw:=wE_size ys i
  have o1:(ByteArray.mk #[32]).size=1:=rfl
  have d0:decide (i<(ys.length:Int))=true:=decide_eq_true hn
  have d2:decide (0≤i)=true:=decide_eq_true h0
  have d3:decide (t.size+(wE ys i).size≤4611686018427387904)=true:=decide_eq_true (by omega)
  have d4:decide ((t++ByteArray.mk #[32]).size+(wE ys i).size≤4611686018427387904)=true:=decide_eq_true (by rw [ByteArray.size_append];omega)
  have d5:decide (t.size+(ByteArray.mk #[32]).size≤4611686018427387904)=true:=decide_eq_true (by omega)
  have hs:(gW9 ys i t).size≤t.size+43:=by
   unfold gW9
   cases decide (i > 0)
   ·simp only [cond_false,ByteArray.size_append];omega
   ·simp only [cond_true,ByteArray.size_append];omega
  refine ⟨?_,by omega⟩
  unfold wE at d3 d4
  unfold R26_0 F26_0 G26_0 gW9 wE
  simp only
  rw [(P61 _ _).1,d0,d2,d3,d4,d5,wrap_in (a:=i+1) (by omega) (by omega)]
  cases decide (i > 0) <;> rfl) (fun t _=>by
  unfold R26_0 F26_0 G26_0
  rw [decide_eq_false (Int.lt_irrefl _)]
  rfl) ys.length _ 0 ByteArray.empty (Int.le_refl 0) (by omega) (by omega) (by decide)
theorem gW9_jn (ys:List AV) (hk:∀ y ∈ ys,okE y):∀ (m i:Nat) (t:ByteArray),i+m=ys.length→t.data.toList=jn 32 ((ys.take i).map fmtE)→(foldF (gW9 ys) m (i:Int) t).data.toList=jn 32 (ys.map fmtE)
 | 0,i,t,h,ht=>by
  show t.data.toList=_
  rw [ht,List.take_of_length_le (by omega)]
 | m+1,i,t,h,ht=>by
  have hi:i<ys.length:=by omega
  have hw:(wE ys (i:Int)).data.toList=fmtE ys[i]:=by
   unfold wE fmtE
   rw [Int.toNat_natCast,getD_mem ys i hi]
   exact (P61 _ _).2.1 (hk _ (List.getElem_mem hi))
  have hst:(gW9 ys (i:Int) t).data.toList=jn 32 ((ys.take (i+1)).map fmtE):=by
   rw [List.take_succ_eq_append_getElem hi,List.map_append,List.map_singleton]
   unfold gW9
   by_cases h0:(i:Int) > 0
   ·have hne:(ys.take i).map fmtE ≠ []:=by
     intro g
     have:=congrArg List.length g
     simp only [List.length_map,List.length_take,List.length_nil] at this
     omega
    rw [decide_eq_true h0,jn_snoc 32 _ _ hne,← ht,← hw]
    simp [ByteArray.data_append]
   ·have:i=0:=by omega
    subst this
    rw [decide_eq_false h0]
    simp only [cond_false,ByteArray.data_append,Array.toList_append,hw,ht]
    simp [jn]
  have:=gW9_jn ys hk m (i+1) (gW9 ys (i:Int) t) (by omega) hst
  rw [show (((i+1:Nat):Int))=(i:Int)+1 by omega] at this
  exact this
theorem jn_len (c:UInt8):∀ ws:List (List UInt8),∀ w ∈ ws,w.length≤(jn c ws).length
 | [],w,h=>by cases h
 | [v],w,h=>by
  obtain rfl:=List.mem_singleton.1 h
  exact Nat.le_refl _
 | u :: v :: ws,w,h=>by
  show w.length≤(u++c :: jn c (v :: ws)).length
  rw [List.length_append,List.length_cons]
  rcases List.mem_cons.1 h with rfl|h
  ·omega
  ·have:=jn_len c (v :: ws) w h
   omega
theorem P26 (ys:List AV) (h:ys.length≤1048577):q26 ys=true∧(((∀ y ∈ ys,okE y)∧ys.length≤30)→ys ≠ []→(v26_0 ys).data.toList=jn 32 (ys.map fmtE))∧(¬ ((∀ y ∈ ys,okE y)∧ys.length≤30)→v26_0 ys=ByteArray.empty):=by
 obtain ⟨s1,s2⟩:=RgD ys h
 unfold q26 v26_0
 rw [s1,s2,runFw ys h]
 by_cases hk:(∀ y ∈ ys,okE y)∧ys.length≤30
 ·rw [decide_eq_true hk]
  refine ⟨rfl,fun _ hne=>?_,fun g=>absurd hk g⟩
  have hj:=gW9_jn ys hk.1 ys.length 0 ByteArray.empty (by omega) rfl
  rw [Int.ofNat_zero] at hj
  simp only [ro,Bool.not_true,cond_false]
  rw [ba_beq,hj,empty_list,decide_eq_false ?_]
  ·exact hj
  ·intro g
   cases ys with
   | nil=>exact hne rfl
   | cons y r =>
    have:=jn_len 32 ((y :: r).map fmtE) (fmtE y) (by simp)
    rw [g] at this
    have:=fmtL_len (fI y 0) (fI y 1)
    unfold fmtE at *
    simp only [List.length_nil] at *
    omega
 ·rw [decide_eq_false hk]
  exact ⟨rfl,fun g=>absurd g hk,fun _=>rfl⟩
def wds (s:ByteArray):List AV:=(pcs 32 [] s.data.toList).map txt
theorem wds_size (s:ByteArray) (h:s.size≤1048576):(∀ x ∈ wds s,(fS x 0).size≤1048576)∧(wds s).length≤1048577∧wds s ≠ []:=by
 have hl:=ba_size s
 unfold wds
 refine ⟨fun x hx=>?_,?_,?_⟩
 ·obtain ⟨l,hm,rfl⟩:=List.mem_map.1 hx
  have:=pcs_word 32 _ _ l hm
  rw [ba_size,txt_fS]
  simp only [List.length_nil] at this
  omega
 ·have:=pcs_len 32 s.data.toList []
  rw [List.length_map]
  omega
 ·obtain ⟨v,ws,e⟩:=pcs_cons 32 s.data.toList []
  rw [e]
  simp
def goodW (s:ByteArray):Prop:=(∀ x ∈ wds s,okW x)∧(wds s).length≤30
end Go.Proofs.YteppndjaglhehaaDoor

namespace Go.Proofs.YteppndjaglhehaaDoor
open Go Go.Proofs.VE
set_option linter.unusedVariables false
set_option linter.unusedSimpArgs false
theorem g50 {b0_0:List AV} {b0_1:Int} {b0_2:Int} {b1:List AV} {x0:Int} {x1:List AV} {x2:Int} {x3:Int} {x4:List AV} (h:W50 b0_0 b0_1 b0_2 b1=some (x0,x1,x2,x3,x4)):q50 b0_0 b0_1 b0_2 b1=true∧v50_0 b0_0 b0_1 b0_2 b1=x0∧v50_1 b0_0 b0_1 b0_2 b1=x1∧v50_2 b0_0 b0_1 b0_2 b1=x2∧v50_3 b0_0 b0_1 b0_2 b1=x3∧v50_4 b0_0 b0_1 b0_2 b1=x4:=by
 unfold q50 v50_0 v50_1 v50_2 v50_3 v50_4
 rw [h]
 exact ⟨rfl,rfl,rfl,rfl,rfl,rfl⟩
theorem g19 {a0:List AV} {x0:Int} {x1:Int} {x2:Int} {x3:Int} {x4:Int} (h:W19 a0=some (x0,x1,x2,x3,x4)):q19 a0=true∧v19_0 a0=x0∧v19_1 a0=x1∧v19_2 a0=x2∧v19_3 a0=x3∧v19_4 a0=x4:=by
 unfold q19 v19_0 v19_1 v19_2 v19_3 v19_4
 rw [h]
 exact ⟨rfl,rfl,rfl,rfl,rfl,rfl⟩
theorem g80 {b0_0:List AV} {b0_1:Int} {b0_2:Int} {x0:Int} {x1:Int} {x2:List AV} {x3:Int} {x4:Int} (h:W80 b0_0 b0_1 b0_2=some (x0,x1,x2,x3,x4)):q80 b0_0 b0_1 b0_2=true∧v80_0 b0_0 b0_1 b0_2=x0∧v80_1 b0_0 b0_1 b0_2=x1∧v80_2 b0_0 b0_1 b0_2=x2∧v80_3 b0_0 b0_1 b0_2=x3∧v80_4 b0_0 b0_1 b0_2=x4:=by
 unfold q80 v80_0 v80_1 v80_2 v80_3 v80_4
 rw [h]
 exact ⟨rfl,rfl,rfl,rfl,rfl,rfl⟩
theorem g59 {b0_0:List AV} {b0_1:Int} {b0_2:Int} {x0:Int} {x1:Int} {x2:List AV} {x3:Int} {x4:Int} (h:W59 b0_0 b0_1 b0_2=some (x0,x1,x2,x3,x4)):q59 b0_0 b0_1 b0_2=true∧v59_0 b0_0 b0_1 b0_2=x0∧v59_1 b0_0 b0_1 b0_2=x1∧v59_2 b0_0 b0_1 b0_2=x2∧v59_3 b0_0 b0_1 b0_2=x3∧v59_4 b0_0 b0_1 b0_2=x4:=by
 unfold q59 v59_0 v59_1 v59_2 v59_3 v59_4
 rw [h]
 exact ⟨rfl,rfl,rfl,rfl,rfl,rfl⟩
theorem g25 {a0:List AV} {x0:List AV} (h:W25 a0=some x0):q25 a0=true∧v25_0 a0=x0:=by
 unfold q25 v25_0
 rw [h]
 exact ⟨rfl,rfl⟩
def Cur (b:List AV) (i:Int):Prop:=0≤i∧i≤b.length∧b.length≤1048576
theorem and255 (x:Int):0≤IntKind.i64.wrap ((BitVec.ofInt 64 x &&& BitVec.ofInt 64 255).toNat:Int)∧IntKind.i64.wrap ((BitVec.ofInt 64 x &&& BitVec.ofInt 64 255).toNat:Int)≤255:=by
 have h:(BitVec.ofInt 64 x &&& BitVec.ofInt 64 255).toNat≤255:=by
  rw [BitVec.toNat_and]
  exact Nat.and_le_right
 rw [wrap_in (by omega) (by omega)]
 omega
theorem byte {b:List AV} {i:Int} (hc:Cur b i) (h:Int):q74 b i h=true∧(0≤v74_0 b i h∧v74_0 b i h≤255)∧Cur b (v74_2 b i h):=by
 obtain ⟨h0,h1,h2⟩:=hc
 unfold q74 v74_0 v74_2
 rw [hid_eq,hid_eq]
 by_cases c:i<b.length
 ·rw [decide_eq_true c,decide_eq_true h0]
  simp only [cond_true]
  refine ⟨rfl,and255 _,?_⟩
  rw [wrap_in (by omega) (by omega)]
  exact ⟨by omega,by omega,h2⟩
 ·rw [decide_eq_false c]
  simp only [cond_false]
  exact ⟨trivial,and255 _,h0,h1,h2⟩
theorem tmod_in {x n:Int} (x0:0≤x) (n0:0<n):0≤Int.tmod x n∧Int.tmod x n<n:=⟨Int.tmod_nonneg _ x0,Int.tmod_lt_of_pos _ n0⟩
theorem four {x y z w:Int} (hx:0≤x∧x≤255) (hy:0≤y∧y≤255) (hz:0≤z∧z≤255) (hw:0≤w∧w≤255):0≤IntKind.i64.wrap (IntKind.i64.wrap (IntKind.i64.wrap (IntKind.i64.wrap (x*16777216)+IntKind.i64.wrap (y*65536))+IntKind.i64.wrap (z*256))+w):=by
 rw [wrap_in (a:=x*16777216) (by omega) (by omega),wrap_in (a:=y*65536) (by omega) (by omega),wrap_in (a:=z*256) (by omega) (by omega),wrap_in (a:=x*16777216+y*65536) (by omega) (by omega),wrap_in (a:=x*16777216+y*65536+z*256) (by omega) (by omega),wrap_in (by omega) (by omega)]
 omega
theorem below {b:List AV} {i:Int} (hc:Cur b i) (h:Int) {n:Int} (n0:0<n):∃ x i' h',q49 n b i h=true∧v49_0 n b i h=x∧v49_1 n b i h=b∧v49_2 n b i h=i'∧v49_3 n b i h=h'∧0≤x∧x<n∧Cur b i':=by
 obtain ⟨x0,x1,x2⟩:=byte hc h
 obtain ⟨y0,y1,y2⟩:=byte x2 (v74_3 b i h)
 obtain ⟨z0,z1,z2⟩:=byte y2 (v74_3 b (v74_2 b i h) (v74_3 b i h))
 obtain ⟨w0,w1,w2⟩:=byte z2 (v74_3 b (v74_2 b (v74_2 b i h) (v74_3 b i h)) (v74_3 b (v74_2 b i h) (v74_3 b i h)))
 have d1:decide (n≤0)=false:=decide_eq_false (by omega)
 have d2:decide (n=0)=false:=decide_eq_false (by omega)
 refine ⟨_,_,_,?_,rfl,?_,rfl,rfl,?_⟩
 ·unfold q49
  simp only [v74_1]
  rw [d1,d2,x0,y0,z0,w0]
  cases decide (n≤256) <;> rfl
 ·unfold v49_1
  first|rfl|(rw [hid_eq];simp only [v74_1];cases decide (n≤0) <;> cases decide (n≤256) <;> rfl)|(simp only [v74_1];cases decide (n≤0) <;> cases decide (n≤256) <;> rfl)
 ·unfold v49_0 v49_2
  rw [hid_eq,hid_eq]
  simp only [v74_1]
  rw [d1]
  simp only [cond_false]
  by_cases c:n≤256
  ·rw [decide_eq_true c]
   simp only [cond_true]
   exact ⟨(tmod_in x1.1 n0).1,(tmod_in x1.1 n0).2,x2⟩
  ·rw [decide_eq_false c]
   simp only [cond_false]
   exact ⟨(tmod_in (four x1 y1 z1 w1) n0).1,(tmod_in (four x1 y1 z1 w1) n0).2,w2⟩
theorem inL {L:List AV} {x:Int} (x0:0≤x) (x1:x<(L.length:Int)):(decide (0≤x) && decide (x<(L.length:Int)))=true:=by
 rw [decide_eq_true x0,decide_eq_true x1];rfl
theorem rm16 (L:List AV) (y:AV) (h:L.length≤2000000):(decide ((L.length+[y].length)*16≤140737488355328) && decide (L.length+[y].length≤140737488355328))=true:=by
 simp only [List.length_singleton,Bool.and_eq_true,decide_eq_true_eq]
 omega
theorem wrap1 {t:Int} (h:0<t) (h':t≤9223372036854775807):IntKind.i64.wrap (t - 1)=t - 1:=wrap_in (by omega) (by omega)
theorem wide_pos {x:Int} (h:∃ j:Nat,j<([AV.int .i64 3,AV.int .i64 10,AV.int .i64 30,AV.int .i64 1000]:List AV).length∧x=fI (([AV.int .i64 3,AV.int .i64 10,AV.int .i64 30,AV.int .i64 1000]:List AV).getD j .undef) 0):0<x:=by
 obtain ⟨j,hj,rfl⟩:=h
 have:j<4:=hj
 obtain rfl|rfl|rfl|rfl:j=0∨j=1∨j=2∨j=3:=by omega
 all_goals decide
theorem pick {b:List AV} {i:Int} (hc:Cur b i) (h:Int) {L:List AV} (L0:0<L.length):∃ x i' h',W50 b i h L=some (x,b,i',h',L)∧Cur b i'∧∃ j:Nat,j<L.length∧x=fI (L.getD j .undef) 0:=by
 obtain ⟨x,i1,h1,a0,a1,a2,a3,a4,x0,x1,c1⟩:=below hc h (n:=(L.length:Int)) (by omega)
 unfold W50 T50
 simp only [a0,a1,a2,a3,a4,inL x0 x1,cond_true]
 exact ⟨_,_,_,rfl,c1,x.toNat,by omega,rfl⟩
theorem range3 {b:List AV} {i:Int} (hc:Cur b i) (h:Int):∃ x y i' h',W80 b i h=some (x,y,b,i',h')∧Cur b i':=by
 obtain ⟨w,i1,h1,hW,c1,hw⟩:=pick hc h (L:=[AV.int .i64 3,AV.int .i64 10,AV.int .i64 30,AV.int .i64 1000]) (by decide)
 obtain ⟨a0,a1,a2,a3,a4,_⟩:=g50 hW
 have pos:=wide_pos hw
 obtain ⟨y,i2,h2,b0,b1,b2,b3,b4,_,_,c2⟩:=below c1 h1 pos
 obtain ⟨z,i3,h3,d0,d1,d2,d3,d4,_,_,c3⟩:=below c2 h2 pos
 have t3:(!decide ((3:Int)=0))=true:=rfl
 unfold W80 T80
 simp only [a0,a1,a2,a3,a4,b0,b1,b2,b3,b4,d0,d1,d2,d3,d4,t3,cond_true]
 exact ⟨_,_,_,_,rfl,c3⟩
theorem rangeAny {b:List AV} {i:Int} (hc:Cur b i) (h:Int):∃ x y i' h',W59 b i h=some (x,y,b,i',h')∧Cur b i':=by
 obtain ⟨x,y,i1,h1,hW,c1⟩:=range3 hc h
 obtain ⟨a0,a1,a2,a3,a4,a5⟩:=g80 hW
 obtain ⟨m,i2,h2,b0,b1,b2,b3,b4,_,_,c2⟩:=below c1 h1 (n:=10) (by decide)
 obtain ⟨u,i3,h3,hW2,c3,_⟩:=pick c2 h2 (L:=[AV.int .i64 (-1001),AV.int .i64 (-1000),AV.int .i64 1000,AV.int .i64 1001]) (by decide)
 obtain ⟨e0,e1,e2,e3,e4,e5⟩:=g50 hW2
 unfold W59 T59
 simp only [a0,a1,a2,a3,a4,a5,b0,b1,b2,b3,b4,e0,e1,e2,e3,e4,cond_true]
 cases decide (m=0) with
 | true=>exact ⟨_,_,_,_,rfl,c3⟩
 | false =>
  cases decide (m=1) with
  | true=>exact ⟨_,_,_,_,rfl,c3⟩
  | false=>exact ⟨_,_,_,_,rfl,c2⟩
theorem start_of {f:Int × Int→Out (Int × Int) Int} (code:List AV) (h1:∀ g k:Int,0≤k→k<code.length→(∃ g',f (g,k) = .next (g',k+1))∨f (g,k) = .stop g) (h2:∀ g k:Int,¬ k<code.length→f (g,k) = .stop g) (x:Int):∃ r,runW f (((code.length:Int) - 0).toNat+1) (x,0)=some r:=by
 obtain ⟨r,r1,_⟩:=runW_ends (f:=f) (fun s:Int × Int=>0≤s.2∧s.2≤code.length) (fun _=>True) (fun s=>((code.length:Int) - s.2).toNat) (fun s hI=>by
   obtain ⟨g,k⟩:=s
   obtain ⟨k0,k1⟩:=hI
   simp only at k0 k1
   by_cases ck:k<code.length
   ·rcases h1 g k k0 ck with ⟨g',e⟩|e
    ·exact .inl ⟨(g',k+1),e,⟨by simp only;omega,by simp only;omega⟩,by simp only;omega⟩
    ·exact .inr ⟨g,e,trivial⟩
   ·exact .inr ⟨g,h2 g k ck,trivial⟩) (((code.length:Int) - 0).toNat+1) (x,0) ⟨Int.le_refl 0,by simp only;omega⟩ (by simp only;omega)
 exact ⟨r,r1⟩
end Go.Proofs.YteppndjaglhehaaDoor
