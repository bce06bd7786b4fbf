import Derived.Test.YteppndjaglhehaaDoorP6
import Derived.Test.YteppndjaglhehaaDoorP7
import Derived.Test.YteppndjaglhehaaDoorP8
import Derived.Test.YteppndjaglhehaaDoorP9
import Derived.Test.YteppndjaglhehaaDoorProg
import Derived.KernelRfl
namespace Go.Proofs.YteppndjaglhehaaDoor
open Go Go.Proofs.VE
set_option linter.unusedVariables false
set_option linter.unusedSimpArgs false
set_option maxRecDepth 100000
set_option maxHeartbeats 4000000
theorem mixed:Tryd.prog.follows .mixedOrders=true:=by kernel_rfl
noncomputable section
noncomputable def c5:Cfg:=cfg Tryd.prog [(5,999,[2])] [] [] [] []
def q5 (a0:List AV):Bool:=true
def v5_0 (a0:List AV):Bool:=decide ((a0.length:Int) > 1048576)
theorem e5 (a0:List AV):funA c5 0 5 [AV.sl [.int .u8] a0]=some (AV.bool (decide ((a0.length:Int) > 1048576))):=by kernel_rfl
def m5:TModel
 | [.sl g0 a0]=>bif ctsEq g0 ([.int .u8]) then some (true,AV.bool (v5_0 a0)) else none
 | _=>none
theorem k5:Known Tryd.prog 5:=⟨Tryd.f5,Tryd.func5,by kernel_rfl,by kernel_rfl⟩
theorem meets5:Meets Tryd.prog 5 m5:=by
 refine mt (lvl:=0) (cf:=c5) rfl mixed k5 Tryd.func5 (by kernel_rfl) noLoop allT_nil allM_nil noI fun xs r h=>?_
 unfold m5 at h
 split at h
 ·rename_i g0 a0
  obtain ⟨hg,h⟩:=bif_pair h
  have q0:=hg
  obtain rfl:=cE q0
  obtain ⟨h1,rfl⟩:=pair_inj h
  exact (e5 a0).trans (of_tt (fun _=>rfl))
 ·cases h
noncomputable def c74:Cfg:=cfg Tryd.prog [(74,999,[2])] [] [] [] []
def q74 (ua:List AV) (ub uc:Int):Bool:=(bif decide (ub<(ua.length:Int)) then (decide (0≤ub) && decide (ub<(ua.length:Int))) else true)
def v74_0 (ua:List AV) (ub uc:Int):Int:=VE.hid (fun (ua:List AV) (ub:Int) (uc:Int)=>(bif decide (ub<(ua.length:Int)) then IntKind.i64.wrap ((BitVec.ofInt 64 (IntKind.i64.wrap (IntKind.i64.wrap ((BitVec.ofInt 64 (IntKind.i64.wrap ((BitVec.ofInt 64 (Int.fdiv (IntKind.i64.wrap (IntKind.i64.wrap (uc*6364136223846793005)+1442695040888963407)) (2 ^ 33)) ^^^ BitVec.ofInt 64 (Int.fdiv (IntKind.i64.wrap (IntKind.i64.wrap (uc*6364136223846793005)+1442695040888963407)) (2 ^ 45))).toNat:Int)) &&& BitVec.ofInt 64 255).toNat:Int)+IntKind.i64.wrap (fI (ua.getD ub.toNat .undef) 0))) &&& BitVec.ofInt 64 255).toNat:Int) else IntKind.i64.wrap ((BitVec.ofInt 64 (IntKind.i64.wrap ((BitVec.ofInt 64 (Int.fdiv (IntKind.i64.wrap (IntKind.i64.wrap (uc*6364136223846793005)+1442695040888963407)) (2 ^ 33)) ^^^ BitVec.ofInt 64 (Int.fdiv (IntKind.i64.wrap (IntKind.i64.wrap (uc*6364136223846793005)+1442695040888963407)) (2 ^ 45))).toNat:Int)) &&& BitVec.ofInt 64 255).toNat:Int))) ua ub uc
def v74_1 (ua:List AV) (ub uc:Int):List AV:=ua
def v74_2 (ua:List AV) (ub uc:Int):Int:=VE.hid (fun (ua:List AV) (ub:Int) (uc:Int)=>(bif decide (ub<(ua.length:Int)) then IntKind.i64.wrap (ub+1) else ub)) ua ub uc
def v74_3 (ua:List AV) (ub uc:Int):Int:=VE.hid (fun (ua:List AV) (ub:Int) (uc:Int)=>IntKind.i64.wrap (IntKind.i64.wrap (uc*6364136223846793005)+1442695040888963407)) ua ub uc
theorem e74 (ua:List AV) (ub uc:Int) (K:List AV→List (Option Blk)→Option AV):inlA c74 1 74 [AV.ptr [1] 0 0] [0] (canH 1 [⟨true,[],[AV.agg [AV.sl [.int .u8] ua,Ai ub,Ai uc]]⟩]) (keepG Tryd.prog 1 [3] [] K)=(bif decide (ub<(ua.length:Int)) then (bif (decide (0≤ub) && decide (ub<(ua.length:Int))) then K [Ai (IntKind.i64.wrap ((BitVec.ofInt 64 (IntKind.i64.wrap (IntKind.i64.wrap ((BitVec.ofInt 64 (IntKind.i64.wrap ((BitVec.ofInt 64 (Int.fdiv (IntKind.i64.wrap (IntKind.i64.wrap (uc*6364136223846793005)+1442695040888963407)) (2 ^ 33)) ^^^ BitVec.ofInt 64 (Int.fdiv (IntKind.i64.wrap (IntKind.i64.wrap (uc*6364136223846793005)+1442695040888963407)) (2 ^ 45))).toNat:Int)) &&& BitVec.ofInt 64 255).toNat:Int)+IntKind.i64.wrap (fI (ua.getD ub.toNat .undef) 0))) &&& BitVec.ofInt 64 255).toNat:Int))] [some ⟨true,[],[AV.agg [AV.sl [.int .u8] ua,Ai (IntKind.i64.wrap (ub+1)),Ai (IntKind.i64.wrap (IntKind.i64.wrap (uc*6364136223846793005)+1442695040888963407))]]⟩]
 else none)
 else K [Ai (IntKind.i64.wrap ((BitVec.ofInt 64 (IntKind.i64.wrap ((BitVec.ofInt 64 (Int.fdiv (IntKind.i64.wrap (IntKind.i64.wrap (uc*6364136223846793005)+1442695040888963407)) (2 ^ 33)) ^^^ BitVec.ofInt 64 (Int.fdiv (IntKind.i64.wrap (IntKind.i64.wrap (uc*6364136223846793005)+1442695040888963407)) (2 ^ 45))).toNat:Int)) &&& BitVec.ofInt 64 255).toNat:Int))] [some ⟨true,[],[AV.agg [AV.sl [.int .u8] ua,Ai ub,Ai (IntKind.i64.wrap (IntKind.i64.wrap (uc*6364136223846793005)+1442695040888963407))]]⟩]):=by kernel_rfl
theorem r74 (ua:List AV) (ub uc:Int) (K:List AV→List (Option Blk)→Option AV) (h:q74 ua ub uc=true):inlA c74 1 74 [AV.ptr [1] 0 0] [0] (canH 1 [⟨true,[],[AV.agg [AV.sl [.int .u8] ua,AV.int .i64 ub,AV.int .i64 uc]]⟩]) (keepG Tryd.prog 1 [3] [] K)=K [AV.int .i64 (v74_0 ua ub uc)] [some ⟨true,[],[AV.agg [AV.sl [.int .u8] (v74_1 ua ub uc),AV.int .i64 (v74_2 ua ub uc),AV.int .i64 (v74_3 ua ub uc)]]⟩]:=by
 unfold v74_0 v74_2 v74_3
 simp only [VE.hid_eq]
 exact (e74 ua ub uc K).trans ((br (fun b=>K [AV.int .i64 (bif b then IntKind.i64.wrap ((BitVec.ofInt 64 (IntKind.i64.wrap (IntKind.i64.wrap ((BitVec.ofInt 64 (IntKind.i64.wrap ((BitVec.ofInt 64 (Int.fdiv (IntKind.i64.wrap (IntKind.i64.wrap (uc*6364136223846793005)+1442695040888963407)) (2 ^ 33)) ^^^ BitVec.ofInt 64 (Int.fdiv (IntKind.i64.wrap (IntKind.i64.wrap (uc*6364136223846793005)+1442695040888963407)) (2 ^ 45))).toNat:Int)) &&& BitVec.ofInt 64 255).toNat:Int)+IntKind.i64.wrap (fI (ua.getD ub.toNat .undef) 0))) &&& BitVec.ofInt 64 255).toNat:Int) else IntKind.i64.wrap ((BitVec.ofInt 64 (IntKind.i64.wrap ((BitVec.ofInt 64 (Int.fdiv (IntKind.i64.wrap (IntKind.i64.wrap (uc*6364136223846793005)+1442695040888963407)) (2 ^ 33)) ^^^ BitVec.ofInt 64 (Int.fdiv (IntKind.i64.wrap (IntKind.i64.wrap (uc*6364136223846793005)+1442695040888963407)) (2 ^ 45))).toNat:Int)) &&& BitVec.ofInt 64 255).toNat:Int))] [some ⟨true,[],[AV.agg [AV.sl [.int .u8] ua,AV.int .i64 (bif b then IntKind.i64.wrap (ub+1) else ub),AV.int .i64 (IntKind.i64.wrap (IntKind.i64.wrap (uc*6364136223846793005)+1442695040888963407))]]⟩]) (brL1 (fun _=>rfl)) (fun _=>rfl)) h)
def m74:GModel
 | [.ptr g0 g1 g2],[⟨true,[],[.agg [.sl g3 ua,.int .i64 ub,.int .i64 uc]]⟩]=>bif nmEq g0 ([1]) && Nat.beq g1 0 && Nat.beq g2 0 && ctsEq g3 ([.int .u8]) then some (q74 ua ub uc,[AV.int .i64 (v74_0 ua ub uc)],[some ⟨true,[],[AV.agg [AV.sl [.int .u8] (v74_1 ua ub uc),AV.int .i64 (v74_2 ua ub uc),AV.int .i64 (v74_3 ua ub uc)]]⟩]) else none
 | _,_=>none
theorem k74:Known Tryd.prog 74:=⟨Tryd.f74,Tryd.func74,by kernel_rfl,by kernel_rfl⟩
theorem meets74:MeetsG Tryd.prog 74 m74:=by
 refine mg (rt:=[3]) (gs:=[]) (lvl:=0) (cf:=c74) rfl mixed k74 Tryd.func74 (by kernel_rfl) noLoop allT_nil allM_nil noI fun xs bs r bs' h K=>?_
 unfold m74 at h
 split at h
 ·rename_i g0 g1 g2 g3 ua ub uc
  obtain ⟨hg,h⟩:=bif_pair h
  simp only [Bool.and_eq_true] at hg
  obtain ⟨⟨⟨q0,q1⟩,q2⟩,q3⟩:=hg
  obtain rfl:=nE q0
  obtain rfl:=bE q1
  obtain rfl:=bE q2
  obtain rfl:=cE q3
  obtain ⟨h1,rfl,rfl⟩:=trip_inj h
  exact r74 ua ub uc K h1
 ·cases h
noncomputable def c49:Cfg:=cfg Tryd.prog [(49,999,[4])] [] [(74,.g m74)] [] []
def q49 (a1:Int) (ua:List AV) (ub uc:Int):Bool:=(bif decide (a1≤0) then true else (bif decide (a1≤256) then (q74 ua ub uc && !decide (a1=0)) else (q74 ua ub uc && (q74 (v74_1 ua ub uc) (v74_2 ua ub uc) (v74_3 ua ub uc) && (q74 (v74_1 (v74_1 ua ub uc) (v74_2 ua ub uc) (v74_3 ua ub uc)) (v74_2 (v74_1 ua ub uc) (v74_2 ua ub uc) (v74_3 ua ub uc)) (v74_3 (v74_1 ua ub uc) (v74_2 ua ub uc) (v74_3 ua ub uc)) && (q74 (v74_1 (v74_1 (v74_1 ua ub uc) (v74_2 ua ub uc) (v74_3 ua ub uc)) (v74_2 (v74_1 ua ub uc) (v74_2 ua ub uc) (v74_3 ua ub uc)) (v74_3 (v74_1 ua ub uc) (v74_2 ua ub uc) (v74_3 ua ub uc))) (v74_2 (v74_1 (v74_1 ua ub uc) (v74_2 ua ub uc) (v74_3 ua ub uc)) (v74_2 (v74_1 ua ub uc) (v74_2 ua ub uc) (v74_3 ua ub uc)) (v74_3 (v74_1 ua ub uc) (v74_2 ua ub uc) (v74_3 ua ub uc))) (v74_3 (v74_1 (v74_1 ua ub uc) (v74_2 ua ub uc) (v74_3 ua ub uc)) (v74_2 (v74_1 ua ub uc) (v74_2 ua ub uc) (v74_3 ua ub uc)) (v74_3 (v74_1 ua ub uc) (v74_2 ua ub uc) (v74_3 ua ub uc))) && !decide (a1=0)))))))
def v49_0 (a1:Int) (ua:List AV) (ub uc:Int):Int:=VE.hid (fun (a1:Int) (ua:List AV) (ub:Int) (uc:Int)=>(bif decide (a1≤0) then 0 else (bif decide (a1≤256) then Int.tmod (v74_0 ua ub uc) a1 else Int.tmod (IntKind.i64.wrap (IntKind.i64.wrap (IntKind.i64.wrap (IntKind.i64.wrap ((v74_0 ua ub uc)*16777216)+IntKind.i64.wrap ((v74_0 (v74_1 ua ub uc) (v74_2 ua ub uc) (v74_3 ua ub uc))*65536))+IntKind.i64.wrap ((v74_0 (v74_1 (v74_1 ua ub uc) (v74_2 ua ub uc) (v74_3 ua ub uc)) (v74_2 (v74_1 ua ub uc) (v74_2 ua ub uc) (v74_3 ua ub uc)) (v74_3 (v74_1 ua ub uc) (v74_2 ua ub uc) (v74_3 ua ub uc)))*256))+(v74_0 (v74_1 (v74_1 (v74_1 ua ub uc) (v74_2 ua ub uc) (v74_3 ua ub uc)) (v74_2 (v74_1 ua ub uc) (v74_2 ua ub uc) (v74_3 ua ub uc)) (v74_3 (v74_1 ua ub uc) (v74_2 ua ub uc) (v74_3 ua ub uc))) (v74_2 (v74_1 (v74_1 ua ub uc) (v74_2 ua ub uc) (v74_3 ua ub uc)) (v74_2 (v74_1 ua ub uc) (v74_2 ua ub uc) (v74_3 ua ub uc)) (v74_3 (v74_1 ua ub uc) (v74_2 ua ub uc) (v74_3 ua ub uc))) (v74_3 (v74_1 (v74_1 ua ub uc) (v74_2 ua ub uc) (v74_3 ua ub uc)) (v74_2 (v74_1 ua ub uc) (v74_2 ua ub uc) (v74_3 ua ub uc)) (v74_3 (v74_1 ua ub uc) (v74_2 ua ub uc) (v74_3 ua ub uc)))))) a1))) a1 ua ub uc
def v49_1 (a1:Int) (ua:List AV) (ub uc:Int):List AV:=VE.hid (fun (a1:Int) (ua:List AV) (ub:Int) (uc:Int)=>(bif decide (a1≤0) then ua else (bif decide (a1≤256) then (v74_1 ua ub uc) else (v74_1 (v74_1 (v74_1 (v74_1 ua ub uc) (v74_2 ua ub uc) (v74_3 ua ub uc)) (v74_2 (v74_1 ua ub uc) (v74_2 ua ub uc) (v74_3 ua ub uc)) (v74_3 (v74_1 ua ub uc) (v74_2 ua ub uc) (v74_3 ua ub uc))) (v74_2 (v74_1 (v74_1 ua ub uc) (v74_2 ua ub uc) (v74_3 ua ub uc)) (v74_2 (v74_1 ua ub uc) (v74_2 ua ub uc) (v74_3 ua ub uc)) (v74_3 (v74_1 ua ub uc) (v74_2 ua ub uc) (v74_3 ua ub uc))) (v74_3 (v74_1 (v74_1 ua ub uc) (v74_2 ua ub uc) (v74_3 ua ub uc)) (v74_2 (v74_1 ua ub uc) (v74_2 ua ub uc) (v74_3 ua ub uc)) (v74_3 (v74_1 ua ub uc) (v74_2 ua ub uc) (v74_3 ua ub uc))))))) a1 ua ub uc
def v49_2 (a1:Int) (ua:List AV) (ub uc:Int):Int:=VE.hid (fun (a1:Int) (ua:List AV) (ub:Int) (uc:Int)=>(bif decide (a1≤0) then ub else (bif decide (a1≤256) then (v74_2 ua ub uc) else (v74_2 (v74_1 (v74_1 (v74_1 ua ub uc) (v74_2 ua ub uc) (v74_3 ua ub uc)) (v74_2 (v74_1 ua ub uc) (v74_2 ua ub uc) (v74_3 ua ub uc)) (v74_3 (v74_1 ua ub uc) (v74_2 ua ub uc) (v74_3 ua ub uc))) (v74_2 (v74_1 (v74_1 ua ub uc) (v74_2 ua ub uc) (v74_3 ua ub uc)) (v74_2 (v74_1 ua ub uc) (v74_2 ua ub uc) (v74_3 ua ub uc)) (v74_3 (v74_1 ua ub uc) (v74_2 ua ub uc) (v74_3 ua ub uc))) (v74_3 (v74_1 (v74_1 ua ub uc) (v74_2 ua ub uc) (v74_3 ua ub uc)) (v74_2 (v74_1 ua ub uc) (v74_2 ua ub uc) (v74_3 ua ub uc)) (v74_3 (v74_1 ua ub uc) (v74_2 ua ub uc) (v74_3 ua ub uc))))))) a1 ua ub uc
def v49_3 (a1:Int) (ua:List AV) (ub uc:Int):Int:=VE.hid (fun (a1:Int) (ua:List AV) (ub:Int) (uc:Int)=>(bif decide (a1≤0) then uc else (bif decide (a1≤256) then (v74_3 ua ub uc) else (v74_3 (v74_1 (v74_1 (v74_1 ua ub uc) (v74_2 ua ub uc) (v74_3 ua ub uc)) (v74_2 (v74_1 ua ub uc) (v74_2 ua ub uc) (v74_3 ua ub uc)) (v74_3 (v74_1 ua ub uc) (v74_2 ua ub uc) (v74_3 ua ub uc))) (v74_2 (v74_1 (v74_1 ua ub uc) (v74_2 ua ub uc) (v74_3 ua ub uc)) (v74_2 (v74_1 ua ub uc) (v74_2 ua ub uc) (v74_3 ua ub uc)) (v74_3 (v74_1 ua ub uc) (v74_2 ua ub uc) (v74_3 ua ub uc))) (v74_3 (v74_1 (v74_1 ua ub uc) (v74_2 ua ub uc) (v74_3 ua ub uc)) (v74_2 (v74_1 ua ub uc) (v74_2 ua ub uc) (v74_3 ua ub uc)) (v74_3 (v74_1 ua ub uc) (v74_2 ua ub uc) (v74_3 ua ub uc))))))) a1 ua ub uc
theorem e49 (a1:Int) (ua:List AV) (ub uc:Int) (K:List AV→List (Option Blk)→Option AV):inlA c49 1 49 [AV.ptr [1] 0 0,Ai a1] [0] (canH 1 [⟨true,[],[AV.agg [AV.sl [.int .u8] ua,Ai ub,Ai uc]]⟩]) (keepG Tryd.prog 1 [3] [] K)=((fun (x1:Int) (x2:List AV) (x3:Int) (x4:Int)=>((fun (x5:Int) (x6:List AV) (x7:Int) (x8:Int)=>((fun (x9:Int) (x10:List AV) (x11:Int) (x12:Int)=>(bif decide (a1≤0) then K [Ai 0] [some ⟨true,[],[AV.agg [AV.sl [.int .u8] ua,Ai ub,Ai uc]]⟩]
 else (bif decide (a1≤256) then (bif q74 ua ub uc then (bif !decide (a1=0) then K [Ai (Int.tmod x1 a1)] [some ⟨true,[],[AV.agg [AV.sl [.int .u8] x2,Ai x3,Ai x4]]⟩]
 else none)
 else none)
 else (bif q74 ua ub uc then (bif q74 x2 x3 x4 then (bif q74 x6 x7 x8 then (bif q74 x10 x11 x12 then (bif !decide (a1=0) then K [Ai (Int.tmod (IntKind.i64.wrap (IntKind.i64.wrap (IntKind.i64.wrap (IntKind.i64.wrap (x1*16777216)+IntKind.i64.wrap (x5*65536))+IntKind.i64.wrap (x9*256))+(v74_0 x10 x11 x12))) a1)] [some ⟨true,[],[AV.agg [AV.sl [.int .u8] (v74_1 x10 x11 x12),Ai (v74_2 x10 x11 x12),Ai (v74_3 x10 x11 x12)]]⟩]
 else none)
 else none)
 else none)
 else none)
 else none)))) (v74_0 x6 x7 x8) (v74_1 x6 x7 x8) (v74_2 x6 x7 x8) (v74_3 x6 x7 x8))) (v74_0 x2 x3 x4) (v74_1 x2 x3 x4) (v74_2 x2 x3 x4) (v74_3 x2 x3 x4))) (v74_0 ua ub uc) (v74_1 ua ub uc) (v74_2 ua ub uc) (v74_3 ua ub uc)):=by kernel_rfl
theorem r49 (a1:Int) (ua:List AV) (ub uc:Int) (K:List AV→List (Option Blk)→Option AV) (h:q49 a1 ua ub uc=true):inlA c49 1 49 [AV.ptr [1] 0 0,AV.int .i64 a1] [0] (canH 1 [⟨true,[],[AV.agg [AV.sl [.int .u8] ua,AV.int .i64 ub,AV.int .i64 uc]]⟩]) (keepG Tryd.prog 1 [3] [] K)=K [AV.int .i64 (v49_0 a1 ua ub uc)] [some ⟨true,[],[AV.agg [AV.sl [.int .u8] (v49_1 a1 ua ub uc),AV.int .i64 (v49_2 a1 ua ub uc),AV.int .i64 (v49_3 a1 ua ub uc)]]⟩]:=by
 unfold v49_0 v49_1 v49_2 v49_3
 simp only [VE.hid_eq]
 exact (e49 a1 ua ub uc K).trans ((br (fun b=>K [AV.int .i64 (bif b then 0 else (bif decide (a1≤256) then Int.tmod (v74_0 ua ub uc) a1 else Int.tmod (IntKind.i64.wrap (IntKind.i64.wrap (IntKind.i64.wrap (IntKind.i64.wrap ((v74_0 ua ub uc)*16777216)+IntKind.i64.wrap ((v74_0 (v74_1 ua ub uc) (v74_2 ua ub uc) (v74_3 ua ub uc))*65536))+IntKind.i64.wrap ((v74_0 (v74_1 (v74_1 ua ub uc) (v74_2 ua ub uc) (v74_3 ua ub uc)) (v74_2 (v74_1 ua ub uc) (v74_2 ua ub uc) (v74_3 ua ub uc)) (v74_3 (v74_1 ua ub uc) (v74_2 ua ub uc) (v74_3 ua ub uc)))*256))+(v74_0 (v74_1 (v74_1 (v74_1 ua ub uc) (v74_2 ua ub uc) (v74_3 ua ub uc)) (v74_2 (v74_1 ua ub uc) (v74_2 ua ub uc) (v74_3 ua ub uc)) (v74_3 (v74_1 ua ub uc) (v74_2 ua ub uc) (v74_3 ua ub uc))) (v74_2 (v74_1 (v74_1 ua ub uc) (v74_2 ua ub uc) (v74_3 ua ub uc)) (v74_2 (v74_1 ua ub uc) (v74_2 ua ub uc) (v74_3 ua ub uc)) (v74_3 (v74_1 ua ub uc) (v74_2 ua ub uc) (v74_3 ua ub uc))) (v74_3 (v74_1 (v74_1 ua ub uc) (v74_2 ua ub uc) (v74_3 ua ub uc)) (v74_2 (v74_1 ua ub uc) (v74_2 ua ub uc) (v74_3 ua ub uc)) (v74_3 (v74_1 ua ub uc) (v74_2 ua ub uc) (v74_3 ua ub uc)))))) a1))] [some ⟨true,[],[AV.agg [AV.sl [.int .u8] (bif b then ua else (bif decide (a1≤256) then (v74_1 ua ub uc) else (v74_1 (v74_1 (v74_1 (v74_1 ua ub uc) (v74_2 ua ub uc) (v74_3 ua ub uc)) (v74_2 (v74_1 ua ub uc) (v74_2 ua ub uc) (v74_3 ua ub uc)) (v74_3 (v74_1 ua ub uc) (v74_2 ua ub uc) (v74_3 ua ub uc))) (v74_2 (v74_1 (v74_1 ua ub uc) (v74_2 ua ub uc) (v74_3 ua ub uc)) (v74_2 (v74_1 ua ub uc) (v74_2 ua ub uc) (v74_3 ua ub uc)) (v74_3 (v74_1 ua ub uc) (v74_2 ua ub uc) (v74_3 ua ub uc))) (v74_3 (v74_1 (v74_1 ua ub uc) (v74_2 ua ub uc) (v74_3 ua ub uc)) (v74_2 (v74_1 ua ub uc) (v74_2 ua ub uc) (v74_3 ua ub uc)) (v74_3 (v74_1 ua ub uc) (v74_2 ua ub uc) (v74_3 ua ub uc)))))),AV.int .i64 (bif b then ub else (bif decide (a1≤256) then (v74_2 ua ub uc) else (v74_2 (v74_1 (v74_1 (v74_1 ua ub uc) (v74_2 ua ub uc) (v74_3 ua ub uc)) (v74_2 (v74_1 ua ub uc) (v74_2 ua ub uc) (v74_3 ua ub uc)) (v74_3 (v74_1 ua ub uc) (v74_2 ua ub uc) (v74_3 ua ub uc))) (v74_2 (v74_1 (v74_1 ua ub uc) (v74_2 ua ub uc) (v74_3 ua ub uc)) (v74_2 (v74_1 ua ub uc) (v74_2 ua ub uc) (v74_3 ua ub uc)) (v74_3 (v74_1 ua ub uc) (v74_2 ua ub uc) (v74_3 ua ub uc))) (v74_3 (v74_1 (v74_1 ua ub uc) (v74_2 ua ub uc) (v74_3 ua ub uc)) (v74_2 (v74_1 ua ub uc) (v74_2 ua ub uc) (v74_3 ua ub uc)) (v74_3 (v74_1 ua ub uc) (v74_2 ua ub uc) (v74_3 ua ub uc)))))),AV.int .i64 (bif b then uc else (bif decide (a1≤256) then (v74_3 ua ub uc) else (v74_3 (v74_1 (v74_1 (v74_1 ua ub uc) (v74_2 ua ub uc) (v74_3 ua ub uc)) (v74_2 (v74_1 ua ub uc) (v74_2 ua ub uc) (v74_3 ua ub uc)) (v74_3 (v74_1 ua ub uc) (v74_2 ua ub uc) (v74_3 ua ub uc))) (v74_2 (v74_1 (v74_1 ua ub uc) (v74_2 ua ub uc) (v74_3 ua ub uc)) (v74_2 (v74_1 ua ub uc) (v74_2 ua ub uc) (v74_3 ua ub uc)) (v74_3 (v74_1 ua ub uc) (v74_2 ua ub uc) (v74_3 ua ub uc))) (v74_3 (v74_1 (v74_1 ua ub uc) (v74_2 ua ub uc) (v74_3 ua ub uc)) (v74_2 (v74_1 ua ub uc) (v74_2 ua ub uc) (v74_3 ua ub uc)) (v74_3 (v74_1 ua ub uc) (v74_2 ua ub uc) (v74_3 ua ub uc))))))]]⟩]) (fun _=>rfl) (br (fun b=>K [AV.int .i64 (bif b then Int.tmod (v74_0 ua ub uc) a1 else Int.tmod (IntKind.i64.wrap (IntKind.i64.wrap (IntKind.i64.wrap (IntKind.i64.wrap ((v74_0 ua ub uc)*16777216)+IntKind.i64.wrap ((v74_0 (v74_1 ua ub uc) (v74_2 ua ub uc) (v74_3 ua ub uc))*65536))+IntKind.i64.wrap ((v74_0 (v74_1 (v74_1 ua ub uc) (v74_2 ua ub uc) (v74_3 ua ub uc)) (v74_2 (v74_1 ua ub uc) (v74_2 ua ub uc) (v74_3 ua ub uc)) (v74_3 (v74_1 ua ub uc) (v74_2 ua ub uc) (v74_3 ua ub uc)))*256))+(v74_0 (v74_1 (v74_1 (v74_1 ua ub uc) (v74_2 ua ub uc) (v74_3 ua ub uc)) (v74_2 (v74_1 ua ub uc) (v74_2 ua ub uc) (v74_3 ua ub uc)) (v74_3 (v74_1 ua ub uc) (v74_2 ua ub uc) (v74_3 ua ub uc))) (v74_2 (v74_1 (v74_1 ua ub uc) (v74_2 ua ub uc) (v74_3 ua ub uc)) (v74_2 (v74_1 ua ub uc) (v74_2 ua ub uc) (v74_3 ua ub uc)) (v74_3 (v74_1 ua ub uc) (v74_2 ua ub uc) (v74_3 ua ub uc))) (v74_3 (v74_1 (v74_1 ua ub uc) (v74_2 ua ub uc) (v74_3 ua ub uc)) (v74_2 (v74_1 ua ub uc) (v74_2 ua ub uc) (v74_3 ua ub uc)) (v74_3 (v74_1 ua ub uc) (v74_2 ua ub uc) (v74_3 ua ub uc)))))) a1)] [some ⟨true,[],[AV.agg [AV.sl [.int .u8] (bif b then (v74_1 ua ub uc) else (v74_1 (v74_1 (v74_1 (v74_1 ua ub uc) (v74_2 ua ub uc) (v74_3 ua ub uc)) (v74_2 (v74_1 ua ub uc) (v74_2 ua ub uc) (v74_3 ua ub uc)) (v74_3 (v74_1 ua ub uc) (v74_2 ua ub uc) (v74_3 ua ub uc))) (v74_2 (v74_1 (v74_1 ua ub uc) (v74_2 ua ub uc) (v74_3 ua ub uc)) (v74_2 (v74_1 ua ub uc) (v74_2 ua ub uc) (v74_3 ua ub uc)) (v74_3 (v74_1 ua ub uc) (v74_2 ua ub uc) (v74_3 ua ub uc))) (v74_3 (v74_1 (v74_1 ua ub uc) (v74_2 ua ub uc) (v74_3 ua ub uc)) (v74_2 (v74_1 ua ub uc) (v74_2 ua ub uc) (v74_3 ua ub uc)) (v74_3 (v74_1 ua ub uc) (v74_2 ua ub uc) (v74_3 ua ub uc))))),AV.int .i64 (bif b then (v74_2 ua ub uc) else (v74_2 (v74_1 (v74_1 (v74_1 ua ub uc) (v74_2 ua ub uc) (v74_3 ua ub uc)) (v74_2 (v74_1 ua ub uc) (v74_2 ua ub uc) (v74_3 ua ub uc)) (v74_3 (v74_1 ua ub uc) (v74_2 ua ub uc) (v74_3 ua ub uc))) (v74_2 (v74_1 (v74_1 ua ub uc) (v74_2 ua ub uc) (v74_3 ua ub uc)) (v74_2 (v74_1 ua ub uc) (v74_2 ua ub uc) (v74_3 ua ub uc)) (v74_3 (v74_1 ua ub uc) (v74_2 ua ub uc) (v74_3 ua ub uc))) (v74_3 (v74_1 (v74_1 ua ub uc) (v74_2 ua ub uc) (v74_3 ua ub uc)) (v74_2 (v74_1 ua ub uc) (v74_2 ua ub uc) (v74_3 ua ub uc)) (v74_3 (v74_1 ua ub uc) (v74_2 ua ub uc) (v74_3 ua ub uc))))),AV.int .i64 (bif b then (v74_3 ua ub uc) else (v74_3 (v74_1 (v74_1 (v74_1 ua ub uc) (v74_2 ua ub uc) (v74_3 ua ub uc)) (v74_2 (v74_1 ua ub uc) (v74_2 ua ub uc) (v74_3 ua ub uc)) (v74_3 (v74_1 ua ub uc) (v74_2 ua ub uc) (v74_3 ua ub uc))) (v74_2 (v74_1 (v74_1 ua ub uc) (v74_2 ua ub uc) (v74_3 ua ub uc)) (v74_2 (v74_1 ua ub uc) (v74_2 ua ub uc) (v74_3 ua ub uc)) (v74_3 (v74_1 ua ub uc) (v74_2 ua ub uc) (v74_3 ua ub uc))) (v74_3 (v74_1 (v74_1 ua ub uc) (v74_2 ua ub uc) (v74_3 ua ub uc)) (v74_2 (v74_1 ua ub uc) (v74_2 ua ub uc) (v74_3 ua ub uc)) (v74_3 (v74_1 ua ub uc) (v74_2 ua ub uc) (v74_3 ua ub uc)))))]]⟩]) (brL (brL1 (fun _=>rfl))) (brL (brL (brL (brL (brL1 (fun _=>rfl)))))))) h)
def m49:GModel
 | [.ptr g0 g1 g2,.int .i64 a1],[⟨true,[],[.agg [.sl g3 ua,.int .i64 ub,.int .i64 uc]]⟩]=>bif nmEq g0 ([1]) && Nat.beq g1 0 && Nat.beq g2 0 && ctsEq g3 ([.int .u8]) then some (q49 a1 ua ub uc,[AV.int .i64 (v49_0 a1 ua ub uc)],[some ⟨true,[],[AV.agg [AV.sl [.int .u8] (v49_1 a1 ua ub uc),AV.int .i64 (v49_2 a1 ua ub uc),AV.int .i64 (v49_3 a1 ua ub uc)]]⟩]) else none
 | _,_=>none
theorem k49:Known Tryd.prog 49:=⟨Tryd.f49,Tryd.func49,by kernel_rfl,by kernel_rfl⟩
theorem meets49:MeetsG Tryd.prog 49 m49:=by
 refine mg (rt:=[3]) (gs:=[]) (lvl:=0) (cf:=c49) rfl mixed k49 Tryd.func49 (by kernel_rfl) noLoop allT_nil (allG_cons meets74 allM_nil) noI fun xs bs r bs' h K=>?_
 unfold m49 at h
 split at h
 ·rename_i g0 g1 g2 a1 g3 ua ub uc
  obtain ⟨hg,h⟩:=bif_pair h
  simp only [Bool.and_eq_true] at hg
  obtain ⟨⟨⟨q0,q1⟩,q2⟩,q3⟩:=hg
  obtain rfl:=nE q0
  obtain rfl:=bE q1
  obtain rfl:=bE q2
  obtain rfl:=cE q3
  obtain ⟨h1,rfl,rfl⟩:=trip_inj h
  exact r49 a1 ua ub uc K h1
 ·cases h
noncomputable def c50:Cfg:=cfg Tryd.prog [(50,999,[4])] [] [(49,.g m49)] [] []
def T50 {β:Type} (k:(Int × (List AV) × Int × Int × (List AV))→β) (n:β) (ua:List AV) (ub:Int) (uc:Int) (b1:List AV):β:=(bif q49 (b1.length:Int) ua ub uc then (bif (decide (0≤(v49_0 (b1.length:Int) ua ub uc)) && decide ((v49_0 (b1.length:Int) ua ub uc)<(b1.length:Int))) then k (fI (b1.getD (v49_0 (b1.length:Int) ua ub uc).toNat .undef) 0,(v49_1 (b1.length:Int) ua ub uc),(v49_2 (b1.length:Int) ua ub uc),(v49_3 (b1.length:Int) ua ub uc),b1)
 else n)
 else n)
abbrev W50 (ua:List AV) (ub:Int) (uc:Int) (b1:List AV):Option (Int × (List AV) × Int × Int × (List AV)):=T50 some none ua ub uc b1
theorem n50 {β:Type} (k:(Int × (List AV) × Int × Int × (List AV))→β) (n:β) (ua:List AV) (ub:Int) (uc:Int) (b1:List AV):T50 k n ua ub uc b1=oe k n (W50 ua ub uc b1):=by
 unfold W50 T50
 simp only [oe_cond,oe_ro,oe_sum,oe_some,oe_none]
def q50 (ua:List AV) (ub uc:Int) (b1:List AV):Bool:=(W50 ua ub uc b1).isSome
def v50_0 (ua:List AV) (ub uc:Int) (b1:List AV):Int:=oe (fun t=>t.1) 0 (W50 ua ub uc b1)
def v50_1 (ua:List AV) (ub uc:Int) (b1:List AV):List AV:=oe (fun t=>t.2.1) [] (W50 ua ub uc b1)
def v50_2 (ua:List AV) (ub uc:Int) (b1:List AV):Int:=oe (fun t=>t.2.2.1) 0 (W50 ua ub uc b1)
def v50_3 (ua:List AV) (ub uc:Int) (b1:List AV):Int:=oe (fun t=>t.2.2.2.1) 0 (W50 ua ub uc b1)
def v50_4 (ua:List AV) (ub uc:Int) (b1:List AV):List AV:=oe (fun t=>t.2.2.2.2) [] (W50 ua ub uc b1)
theorem e50 (ua:List AV) (ub uc:Int) (b1:List AV) (K:List AV→List (Option Blk)→Option AV):inlA c50 1 50 [AV.ptr [1] 0 0,AV.own [2]] [0] (canH 1 [⟨true,[],[AV.agg [AV.sl [.int .u8] ua,Ai ub,Ai uc]]⟩,⟨false,[.int .i64],b1⟩]) (keepG Tryd.prog 2 [3] [] K)=T50 (fun t=>K [Ai t.1] [some ⟨true,[],[AV.agg [AV.sl [.int .u8] t.2.1,Ai t.2.2.1,Ai t.2.2.2.1]]⟩,some ⟨false,[.int .i64],t.2.2.2.2⟩]) none ua ub uc b1:=by kernel_rfl
theorem r50 (ua:List AV) (ub uc:Int) (b1:List AV) (K:List AV→List (Option Blk)→Option AV) (h:q50 ua ub uc b1=true):inlA c50 1 50 [AV.ptr [1] 0 0,AV.own [2]] [0] (canH 1 [⟨true,[],[AV.agg [AV.sl [.int .u8] ua,AV.int .i64 ub,AV.int .i64 uc]]⟩,⟨false,[.int .i64],b1⟩]) (keepG Tryd.prog 2 [3] [] K)=K [AV.int .i64 (v50_0 ua ub uc b1)] [some ⟨true,[],[AV.agg [AV.sl [.int .u8] (v50_1 ua ub uc b1),AV.int .i64 (v50_2 ua ub uc b1),AV.int .i64 (v50_3 ua ub uc b1)]]⟩,some ⟨false,[.int .i64],(v50_4 ua ub uc b1)⟩]:=by
 refine ((e50 ua ub uc b1 K).trans (n50 _ _ ua ub uc b1)).trans ?_
 unfold q50 at h
 unfold v50_0 v50_1 v50_2 v50_3 v50_4
 generalize W50 ua ub uc b1=o at *
 cases o with
 | none=>cases h
 | some t=>rfl
def m50:GModel
 | [.ptr g0 g1 g2,.own g3],[⟨true,[],[.agg [.sl g4 ua,.int .i64 ub,.int .i64 uc]]⟩,⟨false,g5,b1⟩]=>bif nmEq g0 ([1]) && Nat.beq g1 0 && Nat.beq g2 0 && nmEq g3 ([2]) && ctsEq g4 ([.int .u8]) && ctsEq g5 ([.int .i64]) then some (q50 ua ub uc b1,[AV.int .i64 (v50_0 ua ub uc b1)],[some ⟨true,[],[AV.agg [AV.sl [.int .u8] (v50_1 ua ub uc b1),AV.int .i64 (v50_2 ua ub uc b1),AV.int .i64 (v50_3 ua ub uc b1)]]⟩,some ⟨false,[.int .i64],(v50_4 ua ub uc b1)⟩]) else none
 | _,_=>none
theorem k50:Known Tryd.prog 50:=⟨Tryd.f50,Tryd.func50,by kernel_rfl,by kernel_rfl⟩
theorem meets50:MeetsG Tryd.prog 50 m50:=by
 refine mg (rt:=[3]) (gs:=[]) (lvl:=0) (cf:=c50) rfl mixed k50 Tryd.func50 (by kernel_rfl) noLoop allT_nil (allG_cons meets49 allM_nil) noI fun xs bs r bs' h K=>?_
 unfold m50 at h
 split at h
 ·rename_i g0 g1 g2 g3 g4 ua ub uc g5 b1
  obtain ⟨hg,h⟩:=bif_pair h
  simp only [Bool.and_eq_true] at hg
  obtain ⟨⟨⟨⟨⟨q0,q1⟩,q2⟩,q3⟩,q4⟩,q5⟩:=hg
  obtain rfl:=nE q0
  obtain rfl:=bE q1
  obtain rfl:=bE q2
  obtain rfl:=nE q3
  obtain rfl:=cE q4
  obtain rfl:=cE q5
  obtain ⟨h1,rfl,rfl⟩:=trip_inj h
  exact r50 ua ub uc b1 K h1
 ·cases h
def G82_0 {β:Type} (t6:Int) (t7:Int) (h0:List AV) (h1_0:List AV) (h1_1:Int) (h1_2:Int) (N:((Int × (List AV) × (List AV) × Int × Int))→β) (K:(((List AV) × (List AV) × Int × Int))→β) (d:β):β:=(bif decide (t7 > 0) then (bif q49 t6 h1_0 h1_1 h1_2 then (bif !decide (3=0) then (bif (decide ((h0.length+([AV.int .i64 (IntKind.i64.wrap ((v49_0 t6 h1_0 h1_1 h1_2) - IntKind.i64.wrap (Int.tdiv t6 3)))]).length)*8≤140737488355328) && decide ((h0.length+([AV.int .i64 (IntKind.i64.wrap ((v49_0 t6 h1_0 h1_1 h1_2) - IntKind.i64.wrap (Int.tdiv t6 3)))]).length)≤140737488355328)) then N (IntKind.i64.wrap (t7 - 1),h0++([AV.int .i64 (IntKind.i64.wrap ((v49_0 t6 h1_0 h1_1 h1_2) - IntKind.i64.wrap (Int.tdiv t6 3)))]),(v49_1 t6 h1_0 h1_1 h1_2),(v49_2 t6 h1_0 h1_1 h1_2),(v49_3 t6 h1_0 h1_1 h1_2))
 else d)
 else d)
 else d)
 else K (h0,h1_0,h1_1,h1_2))
def F82_0 (t6 t7:Int) (h0 h1_0:List AV) (h1_1 h1_2:Int):Out ((Int × (List AV) × (List AV) × Int × Int)) (((List AV) × (List AV) × Int × Int)):=G82_0 t6 t7 h0 h1_0 h1_1 h1_2 .next .stop .fail
def R82_0 (t6:Int):((Int × (List AV) × (List AV) × Int × Int))→Out ((Int × (List AV) × (List AV) × Int × Int)) (((List AV) × (List AV) × Int × Int)):=fun s:Int × (List AV) × (List AV) × Int × Int=>F82_0 t6 s.1 s.2.1 s.2.2.1 s.2.2.2.1 s.2.2.2.2
def E82_0 (t6:Int):((Int × (List AV) × (List AV) × Int × Int))→St:=fun s:Int × (List AV) × (List AV) × Int × Int=>⟨[(0,AV.ptr [1] 0 0),(5,AV.own [0,5,0]),(6,Ai t6),(7,Ai s.1)],[([0,5,0],⟨false,[.int .i64],s.2.1⟩),([1],⟨true,[],[AV.agg [AV.sl [.int .u8] s.2.2.1,Ai s.2.2.2.1,Ai s.2.2.2.2]]⟩)]⟩
def K82_0 (t6:Int) (k:Kont):(((List AV) × (List AV) × Int × Int))→Option AV:=fun p:(List AV) × (List AV) × Int × Int=>k (.exit 0) ⟨[(5,AV.own [0,5,0])],[([0,5,0],⟨false,[.int .i64],p.1⟩),([1],⟨true,[],[AV.agg [AV.sl [.int .u8] p.2.1,Ai p.2.2.1,Ai p.2.2.2]]⟩)]⟩
def l82_0:LModel:=fun _ _ st k=>match st with
 | ⟨[(0,.ptr g0 g1 g2),(5,.own g3),(6,.int .i64 t6),(7,.int .i64 t7)],[(g4,⟨false,g5,h0⟩),(g6,⟨true,[],[.agg [.sl g7 h1_0,.int .i64 h1_1,.int .i64 h1_2]]⟩)]⟩=>bif nmEq g0 ([1]) && Nat.beq g1 0 && Nat.beq g2 0 && nmEq g3 ([0,5,0]) && nmEq g4 ([0,5,0]) && ctsEq g5 ([.int .i64]) && nmEq g6 ([1]) && ctsEq g7 ([.int .u8]) then ro (runW (R82_0 t6) ((t7 - 0:Int).toNat+1) (t7,h0,h1_0,h1_1,h1_2)) none (K82_0 t6 k) else none
 | _=>none
noncomputable def c82:Cfg:=cfg Tryd.prog [(82,0,[0,5,6,7]),(82,999,[4]),(82,1000,[5]),(82,1001,[0,5,6,7])] [] [(49,.g m49),(50,.g m50)] [] [(82,0,l82_0)]
theorem s82_0 (t6:Int) (ce:CallE) (k:Kont) (s:Int × (List AV) × (List AV) × Int × Int) (next:St→Option AV):stepA (codeA c82 ce [0] 82 0 (sub [1,1,1,0,1,0,0] (body Tryd.f82))) (normA [0] [0,5,6,7]) next ((E82_0 t6) s) k=G82_0 t6 s.1 s.2.1 s.2.2.1 s.2.2.2.1 s.2.2.2.2 (fun s=>next ((E82_0 t6) s)) (K82_0 t6 k) none:=by kernel_rfl
theorem st82_0 (t6:Int) (ce:CallE) (k:Kont) (s:(Int × (List AV) × (List AV) × Int × Int)) (next:St→Option AV):stepA (codeA c82 ce [0] 82 0 (sub [1,1,1,0,1,0,0] (body Tryd.f82))) (normA [0] [0,5,6,7]) next ((E82_0 t6) s) k=(R82_0 t6 s).el none (fun s=>next ((E82_0 t6) s)) (K82_0 t6 k):=(s82_0 t6 ce k s next).trans (by unfold R82_0;unfold F82_0 G82_0;simp only [el_cond,el_ro,el_sum,el_fail,el_next,el_stop] <;> rfl)
theorem ok82_0 {ce:CallE}:LoopOK c82 ce [0] 82 0 (sub [1,1,1,0,1,0,0] (body Tryd.f82)):=by
 intro m hm st k r h
 obtain rfl:l82_0=m:=Option.some.inj hm
 unfold l82_0 at h
 split at h
 ·rename_i g0 g1 g2 g3 t6 t7 g4 g5 h0 g6 g7 h1_0 h1_1 h1_2
  obtain ⟨hg,h⟩:=bif_some h
  simp only [Bool.and_eq_true] at hg
  obtain ⟨⟨⟨⟨⟨⟨⟨q0,q1⟩,q2⟩,q3⟩,q4⟩,q5⟩,q6⟩,q7⟩:=hg
  obtain rfl:=nE q0
  obtain rfl:=bE q1
  obtain rfl:=bE q2
  obtain rfl:=nE q3
  obtain rfl:=nE q4
  obtain rfl:=cE q5
  obtain rfl:=nE q6
  obtain rfl:=cE q7
  refine ⟨((t7 - 0:Int).toNat+1),?_⟩
  rw [← h]
  exact loop_run (E82_0 t6) (K82_0 t6 k) (st82_0 t6 ce k) _ (t7,h0,h1_0,h1_1,h1_2)
 ·cases h
def T82 {β:Type} (k:((List AV) × (List AV) × Int × Int)→β) (n:β) (a1:Int) (ua:List AV) (ub:Int) (uc:Int):β:=by
 refine (?f0:Int→(List AV)→Int→Int→β) (v50_0 ua ub uc ([AV.int .i64 3,AV.int .i64 10,AV.int .i64 30,AV.int .i64 1000])) (v50_1 ua ub uc ([AV.int .i64 3,AV.int .i64 10,AV.int .i64 30,AV.int .i64 1000])) (v50_2 ua ub uc ([AV.int .i64 3,AV.int .i64 10,AV.int .i64 30,AV.int .i64 1000])) (v50_3 ua ub uc ([AV.int .i64 3,AV.int .i64 10,AV.int .i64 30,AV.int .i64 1000]));intro x1 x2 x3 x4
 exact (bif q50 ua ub uc ([AV.int .i64 3,AV.int .i64 10,AV.int .i64 30,AV.int .i64 1000]) then (bif q49 (IntKind.i64.wrap (a1+1)) x2 x3 x4 then (ro (runW (R82_0 x1) (((v49_0 (IntKind.i64.wrap (a1+1)) x2 x3 x4) - 0:Int).toNat+1) ((v49_0 (IntKind.i64.wrap (a1+1)) x2 x3 x4),([]:List AV),(v49_1 (IntKind.i64.wrap (a1+1)) x2 x3 x4),(v49_2 (IntKind.i64.wrap (a1+1)) x2 x3 x4),(v49_3 (IntKind.i64.wrap (a1+1)) x2 x3 x4))) n (fun p2=>k (p2.1,p2.2.1,p2.2.2.1,p2.2.2.2)))
 else n)
 else n)
abbrev W82 (a1:Int) (ua:List AV) (ub:Int) (uc:Int):Option ((List AV) × (List AV) × Int × Int):=T82 some none a1 ua ub uc
theorem n82 {β:Type} (k:((List AV) × (List AV) × Int × Int)→β) (n:β) (a1:Int) (ua:List AV) (ub:Int) (uc:Int):T82 k n a1 ua ub uc=oe k n (W82 a1 ua ub uc):=by
 unfold W82 T82
 simp only [oe_cond,oe_ro,oe_sum,oe_some,oe_none]
def q82 (a1:Int) (ua:List AV) (ub uc:Int):Bool:=(W82 a1 ua ub uc).isSome
def v82_0 (a1:Int) (ua:List AV) (ub uc:Int):List AV:=oe (fun t=>t.1) [] (W82 a1 ua ub uc)
def v82_1 (a1:Int) (ua:List AV) (ub uc:Int):List AV:=oe (fun t=>t.2.1) [] (W82 a1 ua ub uc)
def v82_2 (a1:Int) (ua:List AV) (ub uc:Int):Int:=oe (fun t=>t.2.2.1) 0 (W82 a1 ua ub uc)
def v82_3 (a1:Int) (ua:List AV) (ub uc:Int):Int:=oe (fun t=>t.2.2.2) 0 (W82 a1 ua ub uc)
theorem e82 (a1:Int) (ua:List AV) (ub uc:Int) (K:List AV→List (Option Blk)→Option AV):inlA c82 1 82 [AV.ptr [1] 0 0,Ai a1] [0] (canH 1 [⟨true,[],[AV.agg [AV.sl [.int .u8] ua,Ai ub,Ai uc]]⟩]) (keepG Tryd.prog 1 [24] [] K)=T82 (fun t=>K [AV.fl [.int .i64] t.1] [some ⟨true,[],[AV.agg [AV.sl [.int .u8] t.2.1,Ai t.2.2.1,Ai t.2.2.2]]⟩]) none a1 ua ub uc:=by kernel_rfl
theorem r82 (a1:Int) (ua:List AV) (ub uc:Int) (K:List AV→List (Option Blk)→Option AV) (h:q82 a1 ua ub uc=true):inlA c82 1 82 [AV.ptr [1] 0 0,AV.int .i64 a1] [0] (canH 1 [⟨true,[],[AV.agg [AV.sl [.int .u8] ua,AV.int .i64 ub,AV.int .i64 uc]]⟩]) (keepG Tryd.prog 1 [24] [] K)=K [AV.fl [.int .i64] (v82_0 a1 ua ub uc)] [some ⟨true,[],[AV.agg [AV.sl [.int .u8] (v82_1 a1 ua ub uc),AV.int .i64 (v82_2 a1 ua ub uc),AV.int .i64 (v82_3 a1 ua ub uc)]]⟩]:=by
 refine ((e82 a1 ua ub uc K).trans (n82 _ _ a1 ua ub uc)).trans ?_
 unfold q82 at h
 unfold v82_0 v82_1 v82_2 v82_3
 generalize W82 a1 ua ub uc=o at *
 cases o with
 | none=>cases h
 | some t=>rfl
def m82:GModel
 | [.ptr g0 g1 g2,.int .i64 a1],[⟨true,[],[.agg [.sl g3 ua,.int .i64 ub,.int .i64 uc]]⟩]=>bif nmEq g0 ([1]) && Nat.beq g1 0 && Nat.beq g2 0 && ctsEq g3 ([.int .u8]) then some (q82 a1 ua ub uc,[AV.fl [.int .i64] (v82_0 a1 ua ub uc)],[some ⟨true,[],[AV.agg [AV.sl [.int .u8] (v82_1 a1 ua ub uc),AV.int .i64 (v82_2 a1 ua ub uc),AV.int .i64 (v82_3 a1 ua ub uc)]]⟩]) else none
 | _,_=>none
theorem k82:Known Tryd.prog 82:=⟨Tryd.f82,Tryd.func82,by kernel_rfl,by kernel_rfl⟩
theorem meets82:MeetsG Tryd.prog 82 m82:=by
 refine mg (rt:=[24]) (gs:=[]) (lvl:=0) (cf:=c82) rfl mixed k82 Tryd.func82 (by kernel_rfl) (loops_cons ok82_0 noLoop) allT_nil (allG_cons meets49 (allG_cons meets50 allM_nil)) noI fun xs bs r bs' h K=>?_
 unfold m82 at h
 split at h
 ·rename_i g0 g1 g2 a1 g3 ua ub uc
  obtain ⟨hg,h⟩:=bif_pair h
  simp only [Bool.and_eq_true] at hg
  obtain ⟨⟨⟨q0,q1⟩,q2⟩,q3⟩:=hg
  obtain rfl:=nE q0
  obtain rfl:=bE q1
  obtain rfl:=bE q2
  obtain rfl:=cE q3
  obtain ⟨h1,rfl,rfl⟩:=trip_inj h
  exact r82 a1 ua ub uc K h1
 ·cases h
noncomputable def c38:Cfg:=cfg Tryd.prog [(38,999,[6])] [] [] [] []
def v38_0 (a0 a1 a2:Int):Bool:=(bif decide (a0 ≥ a1) then decide (a0≤a2) else false)
theorem e38 (a0 a1 a2:Int):funA c38 0 38 [Ai a0,Ai a1,Ai a2]=(bif decide (a0 ≥ a1) then some (AV.bool (decide (a0≤a2)))
 else some (AV.bool false)):=by kernel_rfl
def m38:TModel
 | [.int .i64 a0,.int .i64 a1,.int .i64 a2]=>some (true,AV.bool (v38_0 a0 a1 a2))
 | _=>none
theorem k38:Known Tryd.prog 38:=⟨Tryd.f38,Tryd.func38,by kernel_rfl,by kernel_rfl⟩
theorem meets38:Meets Tryd.prog 38 m38:=by
 refine mt (lvl:=0) (cf:=c38) rfl mixed k38 Tryd.func38 (by kernel_rfl) noLoop allT_nil allM_nil noI fun xs r h=>?_
 unfold m38 at h
 split at h
 ·rename_i a0 a1 a2
  obtain ⟨h1,rfl⟩:=pair_inj h
  exact (e38 a0 a1 a2).trans (of_tt (brT (fun b=>some (AV.bool (bif b then decide (a0≤a2) else false))) (fun _=>rfl) (fun _=>rfl)))
 ·cases h
def G37_0 {β:Type} (t0:List AV) (t3:Int) (N:(Int)→β) (K:(Unit ⊕ Unit)→β) (d:β):β:=(bif decide (t3<(t0.length:Int)) then (bif (decide (0≤t3) && decide (t3<(t0.length:Int))) then (bif !(v38_0 (fI (t0.getD t3.toNat .undef) 0) (-999) 999) then K (.inr ())
 else N (IntKind.i64.wrap (t3+1)))
 else d)
 else K (.inl ()))
def F37_0 (t0:List AV) (t3:Int):Out (Int) (Unit ⊕ Unit):=G37_0 t0 t3 .next .stop .fail
def R37_0 (t0:List AV):(Int)→Out (Int) (Unit ⊕ Unit):=fun s:Int=>F37_0 t0 s
def E37_0 (t0:List AV):(Int)→St:=fun s:Int=>⟨[(0,AV.sl [.int .i64] t0),(3,Ai s)],[]⟩
def K37_0 (t0:List AV) (k:Kont):(Unit ⊕ Unit)→Option AV:=sumE (fun _:Unit=>k (.exit 0) ⟨[(0,AV.sl [.int .i64] t0)],[]⟩) (fun _:Unit=>k .ret ⟨[(2,AV.bool false)],[]⟩)
def l37_0:LModel:=fun _ _ st k=>match st with
 | ⟨[(0,.sl g0 t0),(3,.int .i64 t3)],[]⟩=>bif ctsEq g0 ([.int .i64]) then ro (runW (R37_0 t0) (((t0.length:Int) - t3:Int).toNat+1) t3) none (K37_0 t0 k) else none
 | _=>none
noncomputable def c37:Cfg:=cfg Tryd.prog [(37,0,[0,3]),(37,999,[2]),(37,1000,[0]),(37,1001,[0,3])] [(38,m38)] [] [] [(37,0,l37_0)]
theorem s37_0 (t0:List AV) (ce:CallE) (k:Kont) (s:Int) (next:St→Option AV):stepA (codeA c37 ce [] 37 0 (sub [1,0,1,0,0] (body Tryd.f37))) (normA [] [0,3]) next ((E37_0 t0) s) k=G37_0 t0 s (fun s=>next ((E37_0 t0) s)) (K37_0 t0 k) none:=by kernel_rfl
theorem st37_0 (t0:List AV) (ce:CallE) (k:Kont) (s:Int) (next:St→Option AV):stepA (codeA c37 ce [] 37 0 (sub [1,0,1,0,0] (body Tryd.f37))) (normA [] [0,3]) next ((E37_0 t0) s) k=(R37_0 t0 s).el none (fun s=>next ((E37_0 t0) s)) (K37_0 t0 k):=(s37_0 t0 ce k s next).trans (by unfold R37_0;unfold F37_0 G37_0;simp only [el_cond,el_ro,el_sum,el_fail,el_next,el_stop] <;> rfl)
theorem ok37_0 {ce:CallE}:LoopOK c37 ce [] 37 0 (sub [1,0,1,0,0] (body Tryd.f37)):=by
 intro m hm st k r h
 obtain rfl:l37_0=m:=Option.some.inj hm
 unfold l37_0 at h
 split at h
 ·rename_i g0 t0 t3
  obtain ⟨hg,h⟩:=bif_some h
  have q0:=hg
  obtain rfl:=cE q0
  refine ⟨(((t0.length:Int) - t3:Int).toNat+1),?_⟩
  rw [← h]
  exact loop_run (E37_0 t0) (K37_0 t0 k) (st37_0 t0 ce k) _ t3
 ·cases h
def q37 (a0:List AV):Bool:=(ro (runW (R37_0 a0) (((a0.length:Int) - 0:Int).toNat+1) 0) false (sumE (fun _=>true) (fun _=>true)))
def v37_0 (a0:List AV):Bool:=(ro (runW (R37_0 a0) (((a0.length:Int) - 0:Int).toNat+1) 0) false (sumE (fun _=>decide ((a0.length:Int)≤64)) (fun _=>false)))
theorem e37 (a0:List AV):funA c37 0 37 [AV.sl [.int .i64] a0]=(ro (runW (R37_0 a0) (((a0.length:Int) - 0:Int).toNat+1) 0) none (sumE (fun _=>some (AV.bool (decide ((a0.length:Int)≤64)))) (fun _=>some (AV.bool false)))):=by kernel_rfl
def m37:TModel
 | [.sl g0 a0]=>bif ctsEq g0 ([.int .i64]) then some (q37 a0,AV.bool (v37_0 a0)) else none
 | _=>none
theorem k37:Known Tryd.prog 37:=⟨Tryd.f37,Tryd.func37,by kernel_rfl,by kernel_rfl⟩
theorem meets37:Meets Tryd.prog 37 m37:=by
 refine mt (lvl:=0) (cf:=c37) rfl mixed k37 Tryd.func37 (by kernel_rfl) (loops_cons ok37_0 noLoop) (allT_cons meets38 allT_nil) allM_nil noI fun xs r h=>?_
 unfold m37 at h
 split at h
 ·rename_i g0 a0
  obtain ⟨hg,h⟩:=bif_pair h
  have q0:=hg
  obtain rfl:=cE q0
  obtain ⟨h1,rfl⟩:=pair_inj h
  exact (e37 a0).trans ((brO (fun o:Option (Unit ⊕ Unit)=>some (AV.bool (ro o false (sumE (fun _=>decide ((a0.length:Int)≤64)) (fun _=>false))))) (brS (fun o:Unit ⊕ Unit=>some (AV.bool ((sumE (fun _=>decide ((a0.length:Int)≤64)) (fun _=>false)) o))) (fun _=>(fun _=>rfl)) (fun _=>(fun _=>rfl)))) h1)
 ·cases h
def G81_0_s0 {β:Type} (t0:List AV) (h0:List AV) (t4:Int) (N:(Int ⊕ (Int × (List AV)))→β) (K:(Unit ⊕ ((List AV)))→β) (d:β):β:=(bif decide (t4<(t0.length:Int)) then (bif (decide ((([AV.int .i64 t4]).length)*8≤140737488355328) && decide ((([AV.int .i64 t4]).length)≤140737488355328)) then N (.inr (IntKind.i64.wrap (t4+1),[AV.int .i64 t4]))
 else d)
 else K (.inl ()))
def F81_0_s0 (t0 h0:List AV) (t4:Int):Out (Int ⊕ (Int × (List AV))) (Unit ⊕ ((List AV))):=G81_0_s0 t0 h0 t4 .next .stop .fail
def G81_0_s1 {β:Type} (t0:List AV) (h0:List AV) (t4:Int) (h1:List AV) (N:(Int ⊕ (Int × (List AV)))→β) (K:(Unit ⊕ ((List AV)))→β) (d:β):β:=(bif decide (t4<(t0.length:Int)) then (bif (decide ((h1.length+([AV.int .i64 t4]).length)*8≤140737488355328) && decide ((h1.length+([AV.int .i64 t4]).length)≤140737488355328)) then N (.inr (IntKind.i64.wrap (t4+1),h1++([AV.int .i64 t4])))
 else d)
 else K (.inr h1))
def F81_0_s1 (t0 h0:List AV) (t4:Int) (h1:List AV):Out (Int ⊕ (Int × (List AV))) (Unit ⊕ ((List AV))):=G81_0_s1 t0 h0 t4 h1 .next .stop .fail
def R81_0 (t0 h0:List AV):(Int ⊕ (Int × (List AV)))→Out (Int ⊕ (Int × (List AV))) (Unit ⊕ ((List AV))):=sumE (fun s:Int=>F81_0_s0 t0 h0 s) (fun s:Int × (List AV)=>F81_0_s1 t0 h0 s.1 s.2)
def E81_0 (t0 h0:List AV):(Int ⊕ (Int × (List AV)))→St:=sumE (fun s:Int=>⟨[(0,AV.sl [.int .i64] t0),(2,AV.ptr [0,2] 0 0),(3,AV.ptr [0,3] 0 0),(4,Ai s)],[([0,0,3],⟨false,[.int .i64],h0⟩),([0,2],⟨true,[],[AV.agg [AV.snil,AV.snil,AV.snil]]⟩),([0,3],⟨true,[],[AV.agg [AV.own [0,0,3],AV.snil,AV.snil]]⟩)]⟩) (fun s:Int × (List AV)=>⟨[(0,AV.sl [.int .i64] t0),(2,AV.ptr [0,2] 0 0),(3,AV.ptr [0,3] 0 0),(4,Ai s.1)],[([0,0,3],⟨false,[.int .i64],h0⟩),([0,1,3],⟨false,[.int .i64],s.2⟩),([0,2],⟨true,[],[AV.agg [AV.snil,AV.snil,AV.snil]]⟩),([0,3],⟨true,[],[AV.agg [AV.own [0,0,3],AV.own [0,1,3],AV.snil]]⟩)]⟩)
def K81_0 (t0 h0:List AV) (k:Kont):(Unit ⊕ ((List AV)))→Option AV:=sumE (fun _:Unit=>k (.exit 0) ⟨[(2,AV.ptr [0,2] 0 0),(3,AV.ptr [0,3] 0 0)],[([0,0,3],⟨false,[.int .i64],h0⟩),([0,2],⟨true,[],[AV.agg [AV.snil,AV.snil,AV.snil]]⟩),([0,3],⟨true,[],[AV.agg [AV.own [0,0,3],AV.snil,AV.snil]]⟩)]⟩) (fun p:(List AV)=>k (.exit 0) ⟨[(2,AV.ptr [0,2] 0 0),(3,AV.ptr [0,3] 0 0)],[([0,0,3],⟨false,[.int .i64],h0⟩),([0,1,3],⟨false,[.int .i64],p⟩),([0,2],⟨true,[],[AV.agg [AV.snil,AV.snil,AV.snil]]⟩),([0,3],⟨true,[],[AV.agg [AV.own [0,0,3],AV.own [0,1,3],AV.snil]]⟩)]⟩)
def l81_0:LModel:=fun _ _ st k=>match st with
 | ⟨[(0,.sl g0 t0),(2,.ptr g1 g2 g3),(3,.ptr g4 g5 g6),(4,.int .i64 t4)],[(g7,⟨false,g8,h0⟩),(g9,⟨true,[],[.agg [.snil,.snil,.snil]]⟩),(g10,⟨true,[],[.agg [.own g11,.snil,.snil]]⟩)]⟩=>bif ctsEq g0 ([.int .i64]) && nmEq g1 ([0,2]) && Nat.beq g2 0 && Nat.beq g3 0 && nmEq g4 ([0,3]) && Nat.beq g5 0 && Nat.beq g6 0 && nmEq g7 ([0,0,3]) && ctsEq g8 ([.int .i64]) && nmEq g9 ([0,2]) && nmEq g10 ([0,3]) && nmEq g11 ([0,0,3]) then ro (runW (R81_0 t0 h0) (((t0.length:Int) - t4:Int).toNat+1) (.inl t4)) none (K81_0 t0 h0 k) else none
 | ⟨[(0,.sl g0 t0),(2,.ptr g1 g2 g3),(3,.ptr g4 g5 g6),(4,.int .i64 t4)],[(g7,⟨false,g8,h0⟩),(g9,⟨false,g10,h1⟩),(g11,⟨true,[],[.agg [.snil,.snil,.snil]]⟩),(g12,⟨true,[],[.agg [.own g13,.own g14,.snil]]⟩)]⟩=>bif ctsEq g0 ([.int .i64]) && nmEq g1 ([0,2]) && Nat.beq g2 0 && Nat.beq g3 0 && nmEq g4 ([0,3]) && Nat.beq g5 0 && Nat.beq g6 0 && nmEq g7 ([0,0,3]) && ctsEq g8 ([.int .i64]) && nmEq g9 ([0,1,3]) && ctsEq g10 ([.int .i64]) && nmEq g11 ([0,2]) && nmEq g12 ([0,3]) && nmEq g13 ([0,0,3]) && nmEq g14 ([0,1,3]) then ro (runW (R81_0 t0 h0) (((t0.length:Int) - t4:Int).toNat+1) (.inr (t4,h1))) none (K81_0 t0 h0 k) else none
 | _=>none
noncomputable def c81:Cfg:=cfg Tryd.prog [(81,0,[0,2,3,4]),(81,999,[2]),(81,1000,[2,3]),(81,1001,[0,2,3,4])] [(37,m37)] [] [] [(81,0,l81_0)]
theorem s81_0_s0 (t0 h0:List AV) (ce:CallE) (k:Kont) (s:Int) (next:St→Option AV):stepA (codeA c81 ce [] 81 0 (sub [1,1,1,0,1,0,0] (body Tryd.f81))) (normA [] [0,2,3,4]) next ((E81_0 t0 h0) (.inl s)) k=G81_0_s0 t0 h0 s (fun s=>next ((E81_0 t0 h0) s)) (K81_0 t0 h0 k) none:=by kernel_rfl
theorem s81_0_s1 (t0 h0:List AV) (ce:CallE) (k:Kont) (s:Int × (List AV)) (next:St→Option AV):stepA (codeA c81 ce [] 81 0 (sub [1,1,1,0,1,0,0] (body Tryd.f81))) (normA [] [0,2,3,4]) next ((E81_0 t0 h0) (.inr s)) k=G81_0_s1 t0 h0 s.1 s.2 (fun s=>next ((E81_0 t0 h0) s)) (K81_0 t0 h0 k) none:=by kernel_rfl
theorem st81_0 (t0 h0:List AV) (ce:CallE) (k:Kont) (s:Int ⊕ (Int × (List AV))) (next:St→Option AV):stepA (codeA c81 ce [] 81 0 (sub [1,1,1,0,1,0,0] (body Tryd.f81))) (normA [] [0,2,3,4]) next ((E81_0 t0 h0) s) k=(R81_0 t0 h0 s).el none (fun s=>next ((E81_0 t0 h0) s)) (K81_0 t0 h0 k):=(match s with | .inl s=>(s81_0_s0 t0 h0 ce k s next).trans (by unfold R81_0;unfold F81_0_s0 G81_0_s0;simp only [el_cond,el_ro,el_sum,el_fail,el_next,el_stop] <;> rfl) | .inr s=>(s81_0_s1 t0 h0 ce k s next).trans (by unfold R81_0;unfold F81_0_s1 G81_0_s1;simp only [el_cond,el_ro,el_sum,el_fail,el_next,el_stop] <;> rfl))
theorem ok81_0 {ce:CallE}:LoopOK c81 ce [] 81 0 (sub [1,1,1,0,1,0,0] (body Tryd.f81)):=by
 intro m hm st k r h
 obtain rfl:l81_0=m:=Option.some.inj hm
 unfold l81_0 at h
 split at h
 ·rename_i g0 t0 g1 g2 g3 g4 g5 g6 t4 g7 g8 h0 g9 g10 g11
  obtain ⟨hg,h⟩:=bif_some h
  simp only [Bool.and_eq_true] at hg
  obtain ⟨⟨⟨⟨⟨⟨⟨⟨⟨⟨⟨q0,q1⟩,q2⟩,q3⟩,q4⟩,q5⟩,q6⟩,q7⟩,q8⟩,q9⟩,q10⟩,q11⟩:=hg
  obtain rfl:=cE q0
  obtain rfl:=nE q1
  obtain rfl:=bE q2
  obtain rfl:=bE q3
  obtain rfl:=nE q4
  obtain rfl:=bE q5
  obtain rfl:=bE q6
  obtain rfl:=nE q7
  obtain rfl:=cE q8
  obtain rfl:=nE q9
  obtain rfl:=nE q10
  obtain rfl:=nE q11
  refine ⟨(((t0.length:Int) - t4:Int).toNat+1),?_⟩
  rw [← h]
  exact loop_run (E81_0 t0 h0) (K81_0 t0 h0 k) (st81_0 t0 h0 ce k) _ (.inl t4)
 ·rename_i g0 t0 g1 g2 g3 g4 g5 g6 t4 g7 g8 h0 g9 g10 h1 g11 g12 g13 g14
  obtain ⟨hg,h⟩:=bif_some h
  simp only [Bool.and_eq_true] at hg
  obtain ⟨⟨⟨⟨⟨⟨⟨⟨⟨⟨⟨⟨⟨⟨q0,q1⟩,q2⟩,q3⟩,q4⟩,q5⟩,q6⟩,q7⟩,q8⟩,q9⟩,q10⟩,q11⟩,q12⟩,q13⟩,q14⟩:=hg
  obtain rfl:=cE q0
  obtain rfl:=nE q1
  obtain rfl:=bE q2
  obtain rfl:=bE q3
  obtain rfl:=nE q4
  obtain rfl:=bE q5
  obtain rfl:=bE q6
  obtain rfl:=nE q7
  obtain rfl:=cE q8
  obtain rfl:=nE q9
  obtain rfl:=cE q10
  obtain rfl:=nE q11
  obtain rfl:=nE q12
  obtain rfl:=nE q13
  obtain rfl:=nE q14
  refine ⟨(((t0.length:Int) - t4:Int).toNat+1),?_⟩
  rw [← h]
  exact loop_run (E81_0 t0 h0) (K81_0 t0 h0 k) (st81_0 t0 h0 ce k) _ (.inr (t4,h1))
 ·cases h
def q81 (a0:List AV):Bool:=(q37 a0 && (bif !(v37_0 a0) then true else ((decide ((([]:List AV).length+a0.length)*8≤140737488355328) && decide ((([]:List AV).length+a0.length)≤140737488355328)) && (ro (runW (R81_0 a0 (([]:List AV)++a0)) (((a0.length:Int) - 0:Int).toNat+1) (.inl 0)) false (sumE (fun _=>true) (fun p6=>true))))))
def v81_0 (a0:List AV):List AV:=(bif !(v37_0 a0) then ([]:List AV) else ([]:List AV)++a0)
def v81_1 (a0:List AV):List AV:=(bif !(v37_0 a0) then ([]:List AV) else (ro (runW (R81_0 a0 (([]:List AV)++a0)) (((a0.length:Int) - 0:Int).toNat+1) (.inl 0)) [] (sumE (fun _=>([]:List AV)) (fun p6=>p6))))
def v81_2 (a0:List AV):List AV:=([]:List AV)
theorem e81 (a0:List AV):funA c81 0 81 [AV.sl [.int .i64] a0]=(bif q37 a0 then (bif !(v37_0 a0) then some (AV.agg [AV.fl [.int .i64] ([]:List AV),AV.fl [.int .i64] ([]:List AV),AV.fl [.int .i64,.int .i64] ([]:List AV)])
 else (bif (decide ((([]:List AV).length+a0.length)*8≤140737488355328) && decide ((([]:List AV).length+a0.length)≤140737488355328)) then (ro (runW (R81_0 a0 (([]:List AV)++a0)) (((a0.length:Int) - 0:Int).toNat+1) (.inl 0)) none (sumE (fun _=>some (AV.agg [AV.fl [.int .i64] (([]:List AV)++a0),AV.fl [.int .i64] ([]:List AV),AV.fl [.int .i64,.int .i64] ([]:List AV)])) (fun p6=>some (AV.agg [AV.fl [.int .i64] (([]:List AV)++a0),AV.fl [.int .i64] p6,AV.fl [.int .i64,.int .i64] ([]:List AV)]))))
 else none))
 else none):=by kernel_rfl
def m81:TModel
 | [.sl g0 a0]=>bif ctsEq g0 ([.int .i64]) then some (q81 a0,AV.agg [AV.fl [.int .i64] (v81_0 a0),AV.fl [.int .i64] (v81_1 a0),AV.fl [.int .i64,.int .i64] (v81_2 a0)]) else none
 | _=>none
theorem k81:Known Tryd.prog 81:=⟨Tryd.f81,Tryd.func81,by kernel_rfl,by kernel_rfl⟩
theorem meets81:Meets Tryd.prog 81 m81:=by
 refine mt (lvl:=0) (cf:=c81) rfl mixed k81 Tryd.func81 (by kernel_rfl) (loops_cons ok81_0 noLoop) (allT_cons meets37 allT_nil) allM_nil noI fun xs r h=>?_
 unfold m81 at h
 split at h
 ·rename_i g0 a0
  obtain ⟨hg,h⟩:=bif_pair h
  have q0:=hg
  obtain rfl:=cE q0
  obtain ⟨h1,rfl⟩:=pair_inj h
  exact (e81 a0).trans ((brL (br (fun b=>some (AV.agg [AV.fl [.int .i64] (bif b then ([]:List AV) else ([]:List AV)++a0),AV.fl [.int .i64] (bif b then ([]:List AV) else (ro (runW (R81_0 a0 (([]:List AV)++a0)) (((a0.length:Int) - 0:Int).toNat+1) (.inl 0)) [] (sumE (fun _=>([]:List AV)) (fun p6=>p6)))),AV.fl [.int .i64,.int .i64] ([]:List AV)])) (fun _=>rfl) (brL (brO (fun o:Option (Unit ⊕ ((List AV)))=>some (AV.agg [AV.fl [.int .i64] (([]:List AV)++a0),AV.fl [.int .i64] (ro o [] (sumE (fun _=>([]:List AV)) (fun p6=>p6))),AV.fl [.int .i64,.int .i64] ([]:List AV)])) (brS (fun o:Unit ⊕ ((List AV))=>some (AV.agg [AV.fl [.int .i64] (([]:List AV)++a0),AV.fl [.int .i64] ((sumE (fun _=>([]:List AV)) (fun p6=>p6)) o),AV.fl [.int .i64,.int .i64] ([]:List AV)])) (fun _=>(fun _=>rfl)) (fun p6=>(fun _=>rfl))))))) h1)
 ·cases h
noncomputable def c103:Cfg:=cfg Tryd.prog [(103,999,[4])] [] [(49,.g m49)] [] []
def T103 {β:Type} (k:(Bool × (List AV) × Int × Int)→β) (n:β) (a1:Int) (ua:List AV) (ub:Int) (uc:Int):β:=(bif q49 a1 ua ub uc then k (decide ((v49_0 a1 ua ub uc)=0),(v49_1 a1 ua ub uc),(v49_2 a1 ua ub uc),(v49_3 a1 ua ub uc))
 else n)
abbrev W103 (a1:Int) (ua:List AV) (ub:Int) (uc:Int):Option (Bool × (List AV) × Int × Int):=T103 some none a1 ua ub uc
theorem n103 {β:Type} (k:(Bool × (List AV) × Int × Int)→β) (n:β) (a1:Int) (ua:List AV) (ub:Int) (uc:Int):T103 k n a1 ua ub uc=oe k n (W103 a1 ua ub uc):=by
 unfold W103 T103
 simp only [oe_cond,oe_ro,oe_sum,oe_some,oe_none]
def q103 (a1:Int) (ua:List AV) (ub uc:Int):Bool:=(W103 a1 ua ub uc).isSome
def v103_0 (a1:Int) (ua:List AV) (ub uc:Int):Bool:=oe (fun t=>t.1) false (W103 a1 ua ub uc)
def v103_1 (a1:Int) (ua:List AV) (ub uc:Int):List AV:=oe (fun t=>t.2.1) [] (W103 a1 ua ub uc)
def v103_2 (a1:Int) (ua:List AV) (ub uc:Int):Int:=oe (fun t=>t.2.2.1) 0 (W103 a1 ua ub uc)
def v103_3 (a1:Int) (ua:List AV) (ub uc:Int):Int:=oe (fun t=>t.2.2.2) 0 (W103 a1 ua ub uc)
theorem e103 (a1:Int) (ua:List AV) (ub uc:Int) (K:List AV→List (Option Blk)→Option AV):inlA c103 1 103 [AV.ptr [1] 0 0,Ai a1] [0] (canH 1 [⟨true,[],[AV.agg [AV.sl [.int .u8] ua,Ai ub,Ai uc]]⟩]) (keepG Tryd.prog 1 [4] [] K)=T103 (fun t=>K [AV.bool t.1] [some ⟨true,[],[AV.agg [AV.sl [.int .u8] t.2.1,Ai t.2.2.1,Ai t.2.2.2]]⟩]) none a1 ua ub uc:=by kernel_rfl
theorem r103 (a1:Int) (ua:List AV) (ub uc:Int) (K:List AV→List (Option Blk)→Option AV) (h:q103 a1 ua ub uc=true):inlA c103 1 103 [AV.ptr [1] 0 0,AV.int .i64 a1] [0] (canH 1 [⟨true,[],[AV.agg [AV.sl [.int .u8] ua,AV.int .i64 ub,AV.int .i64 uc]]⟩]) (keepG Tryd.prog 1 [4] [] K)=K [AV.bool (v103_0 a1 ua ub uc)] [some ⟨true,[],[AV.agg [AV.sl [.int .u8] (v103_1 a1 ua ub uc),AV.int .i64 (v103_2 a1 ua ub uc),AV.int .i64 (v103_3 a1 ua ub uc)]]⟩]:=by
 refine ((e103 a1 ua ub uc K).trans (n103 _ _ a1 ua ub uc)).trans ?_
 unfold q103 at h
 unfold v103_0 v103_1 v103_2 v103_3
 generalize W103 a1 ua ub uc=o at *
 cases o with
 | none=>cases h
 | some t=>rfl
def m103:GModel
 | [.ptr g0 g1 g2,.int .i64 a1],[⟨true,[],[.agg [.sl g3 ua,.int .i64 ub,.int .i64 uc]]⟩]=>bif nmEq g0 ([1]) && Nat.beq g1 0 && Nat.beq g2 0 && ctsEq g3 ([.int .u8]) then some (q103 a1 ua ub uc,[AV.bool (v103_0 a1 ua ub uc)],[some ⟨true,[],[AV.agg [AV.sl [.int .u8] (v103_1 a1 ua ub uc),AV.int .i64 (v103_2 a1 ua ub uc),AV.int .i64 (v103_3 a1 ua ub uc)]]⟩]) else none
 | _,_=>none
theorem k103:Known Tryd.prog 103:=⟨Tryd.f103,Tryd.func103,by kernel_rfl,by kernel_rfl⟩
theorem meets103:MeetsG Tryd.prog 103 m103:=by
 refine mg (rt:=[4]) (gs:=[]) (lvl:=0) (cf:=c103) rfl mixed k103 Tryd.func103 (by kernel_rfl) noLoop allT_nil (allG_cons meets49 allM_nil) noI fun xs bs r bs' h K=>?_
 unfold m103 at h
 split at h
 ·rename_i g0 g1 g2 a1 g3 ua ub uc
  obtain ⟨hg,h⟩:=bif_pair h
  simp only [Bool.and_eq_true] at hg
  obtain ⟨⟨⟨q0,q1⟩,q2⟩,q3⟩:=hg
  obtain rfl:=nE q0
  obtain rfl:=bE q1
  obtain rfl:=bE q2
  obtain rfl:=cE q3
  obtain ⟨h1,rfl,rfl⟩:=trip_inj h
  exact r103 a1 ua ub uc K h1
 ·cases h
noncomputable def c84:Cfg:=cfg Tryd.prog [(84,999,[4])] [] [(49,.g m49),(50,.g m50),(103,.g m103)] [] []
def T84 {β:Type} (k:(Int × (List AV) × Int × Int × (List AV) × (List AV) × (List AV))→β) (n:β) (ua:List AV) (ub:Int) (uc:Int) (b1:List AV) (b2:List AV) (b3:List AV):β:=by
 refine (?f0:Bool→(List AV)→Int→Int→β) (v103_0 4 ua ub uc) (v103_1 4 ua ub uc) (v103_2 4 ua ub uc) (v103_3 4 ua ub uc);intro x1 x2 x3 x4
 refine (?f1:Int→(List AV)→Int→Int→β) (v49_0 (b1.length:Int) x2 x3 x4) (v49_1 (b1.length:Int) x2 x3 x4) (v49_2 (b1.length:Int) x2 x3 x4) (v49_3 (b1.length:Int) x2 x3 x4);intro x5 x6 x7 x8
 exact (bif decide ((b1.length:Int) > 0) then (bif q103 4 ua ub uc then (bif !x1 then (bif q49 (b1.length:Int) x2 x3 x4 then (bif (decide (0≤x5) && decide (x5<(b1.length:Int))) then (bif q49 3 x6 x7 x8 then k (IntKind.i64.wrap (IntKind.i64.wrap (fI (b1.getD x5.toNat .undef) 0+(v49_0 3 x6 x7 x8)) - 1),(v49_1 3 x6 x7 x8),(v49_2 3 x6 x7 x8),(v49_3 3 x6 x7 x8),b1,b2,b3)
 else n)
 else n)
 else n)
 else (bif q50 x2 x3 x4 ([AV.int .i64 0,AV.int .i64 3,AV.int .i64 (-2),AV.int .i64 (-1000),AV.int .i64 1000,AV.int .i64 50]) then k ((v50_0 x2 x3 x4 ([AV.int .i64 0,AV.int .i64 3,AV.int .i64 (-2),AV.int .i64 (-1000),AV.int .i64 1000,AV.int .i64 50])),(v50_1 x2 x3 x4 ([AV.int .i64 0,AV.int .i64 3,AV.int .i64 (-2),AV.int .i64 (-1000),AV.int .i64 1000,AV.int .i64 50])),(v50_2 x2 x3 x4 ([AV.int .i64 0,AV.int .i64 3,AV.int .i64 (-2),AV.int .i64 (-1000),AV.int .i64 1000,AV.int .i64 50])),(v50_3 x2 x3 x4 ([AV.int .i64 0,AV.int .i64 3,AV.int .i64 (-2),AV.int .i64 (-1000),AV.int .i64 1000,AV.int .i64 50])),b1,b2,b3)
 else n))
 else n)
 else (bif q50 ua ub uc ([AV.int .i64 0,AV.int .i64 3,AV.int .i64 (-2),AV.int .i64 (-1000),AV.int .i64 1000,AV.int .i64 50]) then k ((v50_0 ua ub uc ([AV.int .i64 0,AV.int .i64 3,AV.int .i64 (-2),AV.int .i64 (-1000),AV.int .i64 1000,AV.int .i64 50])),(v50_1 ua ub uc ([AV.int .i64 0,AV.int .i64 3,AV.int .i64 (-2),AV.int .i64 (-1000),AV.int .i64 1000,AV.int .i64 50])),(v50_2 ua ub uc ([AV.int .i64 0,AV.int .i64 3,AV.int .i64 (-2),AV.int .i64 (-1000),AV.int .i64 1000,AV.int .i64 50])),(v50_3 ua ub uc ([AV.int .i64 0,AV.int .i64 3,AV.int .i64 (-2),AV.int .i64 (-1000),AV.int .i64 1000,AV.int .i64 50])),b1,b2,b3)
 else n))
abbrev W84 (ua:List AV) (ub:Int) (uc:Int) (b1:List AV) (b2:List AV) (b3:List AV):Option (Int × (List AV) × Int × Int × (List AV) × (List AV) × (List AV)):=T84 some none ua ub uc b1 b2 b3
theorem n84 {β:Type} (k:(Int × (List AV) × Int × Int × (List AV) × (List AV) × (List AV))→β) (n:β) (ua:List AV) (ub:Int) (uc:Int) (b1:List AV) (b2:List AV) (b3:List AV):T84 k n ua ub uc b1 b2 b3=oe k n (W84 ua ub uc b1 b2 b3):=by
 unfold W84 T84
 simp only [oe_cond,oe_ro,oe_sum,oe_some,oe_none]
def q84 (ua:List AV) (ub uc:Int) (b1 b2 b3:List AV):Bool:=(W84 ua ub uc b1 b2 b3).isSome
def v84_0 (ua:List AV) (ub uc:Int) (b1 b2 b3:List AV):Int:=oe (fun t=>t.1) 0 (W84 ua ub uc b1 b2 b3)
def v84_1 (ua:List AV) (ub uc:Int) (b1 b2 b3:List AV):List AV:=oe (fun t=>t.2.1) [] (W84 ua ub uc b1 b2 b3)
def v84_2 (ua:List AV) (ub uc:Int) (b1 b2 b3:List AV):Int:=oe (fun t=>t.2.2.1) 0 (W84 ua ub uc b1 b2 b3)
def v84_3 (ua:List AV) (ub uc:Int) (b1 b2 b3:List AV):Int:=oe (fun t=>t.2.2.2.1) 0 (W84 ua ub uc b1 b2 b3)
def v84_4 (ua:List AV) (ub uc:Int) (b1 b2 b3:List AV):List AV:=oe (fun t=>t.2.2.2.2.1) [] (W84 ua ub uc b1 b2 b3)
def v84_5 (ua:List AV) (ub uc:Int) (b1 b2 b3:List AV):List AV:=oe (fun t=>t.2.2.2.2.2.1) [] (W84 ua ub uc b1 b2 b3)
def v84_6 (ua:List AV) (ub uc:Int) (b1 b2 b3:List AV):List AV:=oe (fun t=>t.2.2.2.2.2.2) [] (W84 ua ub uc b1 b2 b3)
theorem e84 (ua:List AV) (ub uc:Int) (b1 b2 b3:List AV) (K:List AV→List (Option Blk)→Option AV):inlA c84 1 84 [AV.ptr [1] 0 0,AV.agg [AV.own [2],AV.own [3],AV.own [4]]] [0] (canH 1 [⟨true,[],[AV.agg [AV.sl [.int .u8] ua,Ai ub,Ai uc]]⟩,⟨false,[.int .i64],b1⟩,⟨false,[.int .i64],b2⟩,⟨false,[.int .i64,.int .i64],b3⟩]) (keepG Tryd.prog 4 [3] [] K)=T84 (fun t=>K [Ai t.1] [some ⟨true,[],[AV.agg [AV.sl [.int .u8] t.2.1,Ai t.2.2.1,Ai t.2.2.2.1]]⟩,some ⟨false,[.int .i64],t.2.2.2.2.1⟩,some ⟨false,[.int .i64],t.2.2.2.2.2.1⟩,some ⟨false,[.int .i64,.int .i64],t.2.2.2.2.2.2⟩]) none ua ub uc b1 b2 b3:=by kernel_rfl
theorem r84 (ua:List AV) (ub uc:Int) (b1 b2 b3:List AV) (K:List AV→List (Option Blk)→Option AV) (h:q84 ua ub uc b1 b2 b3=true):inlA c84 1 84 [AV.ptr [1] 0 0,AV.agg [AV.own [2],AV.own [3],AV.own [4]]] [0] (canH 1 [⟨true,[],[AV.agg [AV.sl [.int .u8] ua,AV.int .i64 ub,AV.int .i64 uc]]⟩,⟨false,[.int .i64],b1⟩,⟨false,[.int .i64],b2⟩,⟨false,[.int .i64,.int .i64],b3⟩]) (keepG Tryd.prog 4 [3] [] K)=K [AV.int .i64 (v84_0 ua ub uc b1 b2 b3)] [some ⟨true,[],[AV.agg [AV.sl [.int .u8] (v84_1 ua ub uc b1 b2 b3),AV.int .i64 (v84_2 ua ub uc b1 b2 b3),AV.int .i64 (v84_3 ua ub uc b1 b2 b3)]]⟩,some ⟨false,[.int .i64],(v84_4 ua ub uc b1 b2 b3)⟩,some ⟨false,[.int .i64],(v84_5 ua ub uc b1 b2 b3)⟩,some ⟨false,[.int .i64,.int .i64],(v84_6 ua ub uc b1 b2 b3)⟩]:=by
 refine ((e84 ua ub uc b1 b2 b3 K).trans (n84 _ _ ua ub uc b1 b2 b3)).trans ?_
 unfold q84 at h
 unfold v84_0 v84_1 v84_2 v84_3 v84_4 v84_5 v84_6
 generalize W84 ua ub uc b1 b2 b3=o at *
 cases o with
 | none=>cases h
 | some t=>rfl
def m84:GModel
 | [.ptr g0 g1 g2,.agg [.own g3,.own g4,.own g5]],[⟨true,[],[.agg [.sl g6 ua,.int .i64 ub,.int .i64 uc]]⟩,⟨false,g7,b1⟩,⟨false,g8,b2⟩,⟨false,g9,b3⟩]=>bif nmEq g0 ([1]) && Nat.beq g1 0 && Nat.beq g2 0 && nmEq g3 ([2]) && nmEq g4 ([3]) && nmEq g5 ([4]) && ctsEq g6 ([.int .u8]) && ctsEq g7 ([.int .i64]) && ctsEq g8 ([.int .i64]) && ctsEq g9 ([.int .i64,.int .i64]) then some (q84 ua ub uc b1 b2 b3,[AV.int .i64 (v84_0 ua ub uc b1 b2 b3)],[some ⟨true,[],[AV.agg [AV.sl [.int .u8] (v84_1 ua ub uc b1 b2 b3),AV.int .i64 (v84_2 ua ub uc b1 b2 b3),AV.int .i64 (v84_3 ua ub uc b1 b2 b3)]]⟩,some ⟨false,[.int .i64],(v84_4 ua ub uc b1 b2 b3)⟩,some ⟨false,[.int .i64],(v84_5 ua ub uc b1 b2 b3)⟩,some ⟨false,[.int .i64,.int .i64],(v84_6 ua ub uc b1 b2 b3)⟩]) else none
 | _,_=>none
theorem k84:Known Tryd.prog 84:=⟨Tryd.f84,Tryd.func84,by kernel_rfl,by kernel_rfl⟩
theorem meets84:MeetsG Tryd.prog 84 m84:=by
 refine mg (rt:=[3]) (gs:=[]) (lvl:=0) (cf:=c84) rfl mixed k84 Tryd.func84 (by kernel_rfl) noLoop allT_nil (allG_cons meets49 (allG_cons meets50 (allG_cons meets103 allM_nil))) noI fun xs bs r bs' h K=>?_
 unfold m84 at h
 split at h
 ·rename_i g0 g1 g2 g3 g4 g5 g6 ua ub uc g7 b1 g8 b2 g9 b3
  obtain ⟨hg,h⟩:=bif_pair h
  simp only [Bool.and_eq_true] at hg
  obtain ⟨⟨⟨⟨⟨⟨⟨⟨⟨q0,q1⟩,q2⟩,q3⟩,q4⟩,q5⟩,q6⟩,q7⟩,q8⟩,q9⟩:=hg
  obtain rfl:=nE q0
  obtain rfl:=bE q1
  obtain rfl:=bE q2
  obtain rfl:=nE q3
  obtain rfl:=nE q4
  obtain rfl:=nE q5
  obtain rfl:=cE q6
  obtain rfl:=cE q7
  obtain rfl:=cE q8
  obtain rfl:=cE q9
  obtain ⟨h1,rfl,rfl⟩:=trip_inj h
  exact r84 ua ub uc b1 b2 b3 K h1
 ·cases h
def G39_0 {β:Type} (t0:List AV) (t1:Int) (t5:Int) (N:(Int)→β) (K:(Unit ⊕ Unit)→β) (d:β):β:=(bif decide (t5<(t0.length:Int)) then (bif (decide (0≤t5) && decide (t5<(t0.length:Int))) then (bif decide (fI (t0.getD t5.toNat .undef) 0=t1) then K (.inr ())
 else N (IntKind.i64.wrap (t5+1)))
 else d)
 else K (.inl ()))
def F39_0 (t0:List AV) (t1 t5:Int):Out (Int) (Unit ⊕ Unit):=G39_0 t0 t1 t5 .next .stop .fail
def R39_0 (t0:List AV) (t1:Int):(Int)→Out (Int) (Unit ⊕ Unit):=fun s:Int=>F39_0 t0 t1 s
def E39_0 (t0:List AV) (t1:Int):(Int)→St:=fun s:Int=>⟨[(0,AV.sl [.int .i64] t0),(1,Ai t1),(5,Ai s)],[]⟩
def K39_0 (t0:List AV) (t1:Int) (k:Kont):(Unit ⊕ Unit)→Option AV:=sumE (fun _:Unit=>k (.exit 0) ⟨[],[]⟩) (fun _:Unit=>k .ret ⟨[(4,AV.bool true)],[]⟩)
def l39_0:LModel:=fun _ _ st k=>match st with
 | ⟨[(0,.sl g0 t0),(1,.int .i64 t1),(5,.int .i64 t5)],[]⟩=>bif ctsEq g0 ([.int .i64]) then ro (runW (R39_0 t0 t1) (((t0.length:Int) - t5:Int).toNat+1) t5) none (K39_0 t0 t1 k) else none
 | _=>none
noncomputable def c39:Cfg:=cfg Tryd.prog [(39,0,[0,1,5]),(39,999,[4]),(39,1000,[]),(39,1001,[0,1,5])] [] [] [] [(39,0,l39_0)]
theorem s39_0 (t0:List AV) (t1:Int) (ce:CallE) (k:Kont) (s:Int) (next:St→Option AV):stepA (codeA c39 ce [] 39 0 (sub [1,0,1,0,0] (body Tryd.f39))) (normA [] [0,1,5]) next ((E39_0 t0 t1) s) k=G39_0 t0 t1 s (fun s=>next ((E39_0 t0 t1) s)) (K39_0 t0 t1 k) none:=by kernel_rfl
theorem st39_0 (t0:List AV) (t1:Int) (ce:CallE) (k:Kont) (s:Int) (next:St→Option AV):stepA (codeA c39 ce [] 39 0 (sub [1,0,1,0,0] (body Tryd.f39))) (normA [] [0,1,5]) next ((E39_0 t0 t1) s) k=(R39_0 t0 t1 s).el none (fun s=>next ((E39_0 t0 t1) s)) (K39_0 t0 t1 k):=(s39_0 t0 t1 ce k s next).trans (by unfold R39_0;unfold F39_0 G39_0;simp only [el_cond,el_ro,el_sum,el_fail,el_next,el_stop] <;> rfl)
theorem ok39_0 {ce:CallE}:LoopOK c39 ce [] 39 0 (sub [1,0,1,0,0] (body Tryd.f39)):=by
 intro m hm st k r h
 obtain rfl:l39_0=m:=Option.some.inj hm
 unfold l39_0 at h
 split at h
 ·rename_i g0 t0 t1 t5
  obtain ⟨hg,h⟩:=bif_some h
  have q0:=hg
  obtain rfl:=cE q0
  refine ⟨(((t0.length:Int) - t5:Int).toNat+1),?_⟩
  rw [← h]
  exact loop_run (E39_0 t0 t1) (K39_0 t0 t1 k) (st39_0 t0 t1 ce k) _ t5
 ·cases h
def q39 (a0:List AV) (a1:Int):Bool:=(ro (runW (R39_0 a0 a1) (((a0.length:Int) - 0:Int).toNat+1) 0) false (sumE (fun _=>true) (fun _=>true)))
def v39_0 (a0:List AV) (a1:Int):Bool:=(ro (runW (R39_0 a0 a1) (((a0.length:Int) - 0:Int).toNat+1) 0) false (sumE (fun _=>false) (fun _=>true)))
theorem e39 (a0:List AV) (a1:Int):funA c39 0 39 [AV.sl [.int .i64] a0,Ai a1]=(ro (runW (R39_0 a0 a1) (((a0.length:Int) - 0:Int).toNat+1) 0) none (sumE (fun _=>some (AV.bool false)) (fun _=>some (AV.bool true)))):=by kernel_rfl
def m39:TModel
 | [.sl g0 a0,.int .i64 a1]=>bif ctsEq g0 ([.int .i64]) then some (q39 a0 a1,AV.bool (v39_0 a0 a1)) else none
 | _=>none
theorem k39:Known Tryd.prog 39:=⟨Tryd.f39,Tryd.func39,by kernel_rfl,by kernel_rfl⟩
theorem meets39:Meets Tryd.prog 39 m39:=by
 refine mt (lvl:=0) (cf:=c39) rfl mixed k39 Tryd.func39 (by kernel_rfl) (loops_cons ok39_0 noLoop) allT_nil allM_nil noI fun xs r h=>?_
 unfold m39 at h
 split at h
 ·rename_i g0 a0 a1
  obtain ⟨hg,h⟩:=bif_pair h
  have q0:=hg
  obtain rfl:=cE q0
  obtain ⟨h1,rfl⟩:=pair_inj h
  exact (e39 a0 a1).trans ((brO (fun o:Option (Unit ⊕ Unit)=>some (AV.bool (ro o false (sumE (fun _=>false) (fun _=>true))))) (brS (fun o:Unit ⊕ Unit=>some (AV.bool ((sumE (fun _=>false) (fun _=>true)) o))) (fun _=>(fun _=>rfl)) (fun _=>(fun _=>rfl)))) h1)
 ·cases h
def G40_2 {β:Type} (t0:List AV) (t1:List AV) (t5:Int) (h0_0:Int) (h0_1:Int) (t7:Int) (N:(Int)→β) (K:(Unit ⊕ Unit)→β) (d:β):β:=(bif decide (t7<(t0.length:Int)) then (bif (decide (0≤t7) && decide (t7<(t0.length:Int))) then (bif !(decide (fI (t0.getD t7.toNat .undef) 0<h0_0) == decide (t7<h0_1)) then K (.inr ())
 else N (IntKind.i64.wrap (t7+1)))
 else d)
 else K (.inl ()))
def F40_2 (t0 t1:List AV) (t5 h0_0 h0_1 t7:Int):Out (Int) (Unit ⊕ Unit):=G40_2 t0 t1 t5 h0_0 h0_1 t7 .next .stop .fail
def R40_2 (t0 t1:List AV) (t5 h0_0 h0_1:Int):(Int)→Out (Int) (Unit ⊕ Unit):=fun s:Int=>F40_2 t0 t1 t5 h0_0 h0_1 s
def E40_2 (t0 t1:List AV) (t5 h0_0 h0_1:Int):(Int)→St:=fun s:Int=>⟨[(0,AV.sl [.int .i64] t0),(1,AV.sl [.int .i64,.int .i64] t1),(5,Ai t5),(6,AV.ptr [0,6] 0 0),(7,Ai s)],[([0,6],⟨true,[],[AV.agg [Ai h0_0,Ai h0_1]]⟩)]⟩
def K40_2 (t0 t1:List AV) (t5 h0_0 h0_1:Int) (k:Kont):(Unit ⊕ Unit)→Option AV:=sumE (fun _:Unit=>k (.exit 2) ⟨[(0,AV.sl [.int .i64] t0),(1,AV.sl [.int .i64,.int .i64] t1),(5,Ai t5)],[([0,6],⟨true,[],[AV.agg [Ai h0_0,Ai h0_1]]⟩)]⟩) (fun _:Unit=>k .ret ⟨[(4,AV.bool false)],[([0,6],⟨true,[],[AV.agg [Ai h0_0,Ai h0_1]]⟩)]⟩)
def l40_2:LModel:=fun _ _ st k=>match st with
 | ⟨[(0,.sl g0 t0),(1,.sl g1 t1),(5,.int .i64 t5),(6,.ptr g2 g3 g4),(7,.int .i64 t7)],[(g5,⟨true,[],[.agg [.int .i64 h0_0,.int .i64 h0_1]]⟩)]⟩=>bif ctsEq g0 ([.int .i64]) && ctsEq g1 ([.int .i64,.int .i64]) && nmEq g2 ([0,6]) && Nat.beq g3 0 && Nat.beq g4 0 && nmEq g5 ([0,6]) then ro (runW (R40_2 t0 t1 t5 h0_0 h0_1) (((t0.length:Int) - t7:Int).toNat+1) t7) none (K40_2 t0 t1 t5 h0_0 h0_1 k) else none
 | _=>none
def G40_0 {β:Type} (t0:List AV) (t1:List AV) (t5:Int) (N:(Int)→β) (K:(Unit ⊕ (Int × Int) ⊕ (Int × Int))→β) (d:β):β:=(bif decide (t5<(t1.length:Int)) then (bif (decide (0≤t5) && decide (t5<(t1.length:Int))) then (bif !(v38_0 (fI (t1.getD t5.toNat .undef) 0) (-1000) 1000) then K (.inr (.inl (fI (t1.getD t5.toNat .undef) 0,fI (t1.getD t5.toNat .undef) 1)))
 else (bif !(v38_0 (fI (t1.getD t5.toNat .undef) 1) 0 (t0.length:Int)) then K (.inr (.inl (fI (t1.getD t5.toNat .undef) 0,fI (t1.getD t5.toNat .undef) 1)))
 else (bif decide (t5 > 0) then (bif (decide (0≤IntKind.i64.wrap (t5 - 1)) && decide (IntKind.i64.wrap (t5 - 1)<(t1.length:Int))) then (bif decide (fI (t1.getD t5.toNat .undef) 0≤fI (t1.getD (IntKind.i64.wrap (t5 - 1)).toNat .undef) 0) then K (.inr (.inl (fI (t1.getD t5.toNat .undef) 0,fI (t1.getD t5.toNat .undef) 1)))
 else (bif (decide (0≤IntKind.i64.wrap (t5 - 1)) && decide (IntKind.i64.wrap (t5 - 1)<(t1.length:Int))) then (bif decide (fI (t1.getD t5.toNat .undef) 1<fI (t1.getD (IntKind.i64.wrap (t5 - 1)).toNat .undef) 1) then K (.inr (.inl (fI (t1.getD t5.toNat .undef) 0,fI (t1.getD t5.toNat .undef) 1)))
 else (ro (runW (R40_2 t0 t1 t5 (fI (t1.getD t5.toNat .undef) 0) (fI (t1.getD t5.toNat .undef) 1)) (((t0.length:Int) - 0:Int).toNat+1) 0) d (sumE (fun _=>N (IntKind.i64.wrap (t5+1))) (fun _=>K (.inr (.inr (fI (t1.getD t5.toNat .undef) 0,fI (t1.getD t5.toNat .undef) 1)))))))
 else d))
 else d)
 else (ro (runW (R40_2 t0 t1 t5 (fI (t1.getD t5.toNat .undef) 0) (fI (t1.getD t5.toNat .undef) 1)) (((t0.length:Int) - 0:Int).toNat+1) 0) d (sumE (fun _=>N (IntKind.i64.wrap (t5+1))) (fun _=>K (.inr (.inr (fI (t1.getD t5.toNat .undef) 0,fI (t1.getD t5.toNat .undef) 1)))))))))
 else d)
 else K (.inl ()))
def F40_0 (t0 t1:List AV) (t5:Int):Out (Int) (Unit ⊕ (Int × Int) ⊕ (Int × Int)):=G40_0 t0 t1 t5 .next .stop .fail
def R40_0 (t0 t1:List AV):(Int)→Out (Int) (Unit ⊕ (Int × Int) ⊕ (Int × Int)):=fun s:Int=>F40_0 t0 t1 s
def E40_0 (t0 t1:List AV):(Int)→St:=fun s:Int=>⟨[(0,AV.sl [.int .i64] t0),(1,AV.sl [.int .i64,.int .i64] t1),(5,Ai s)],[]⟩
def K40_0 (t0 t1:List AV) (k:Kont):(Unit ⊕ (Int × Int) ⊕ (Int × Int))→Option AV:=sumE (fun _:Unit=>k (.exit 0) ⟨[],[]⟩) (sumE (fun p:Int × Int=>k .ret ⟨[(4,AV.bool false)],[([1,6],⟨true,[],[AV.agg [Ai p.1,Ai p.2]]⟩)]⟩) (fun p:Int × Int=>k .ret ⟨[(4,AV.bool false)],[([0,6],⟨true,[],[AV.agg [Ai p.1,Ai p.2]]⟩)]⟩))
def l40_0:LModel:=fun _ _ st k=>match st with
 | ⟨[(0,.sl g0 t0),(1,.sl g1 t1),(5,.int .i64 t5)],[]⟩=>bif ctsEq g0 ([.int .i64]) && ctsEq g1 ([.int .i64,.int .i64]) then ro (runW (R40_0 t0 t1) (((t1.length:Int) - t5:Int).toNat+1) t5) none (K40_0 t0 t1 k) else none
 | _=>none
noncomputable def c40:Cfg:=cfg Tryd.prog [(40,0,[0,1,5]),(40,2,[0,1,5,6,7]),(40,999,[4]),(40,1000,[]),(40,1001,[0,1,5]),(40,1002,[0,1,5]),(40,1003,[0,1,5,6,7])] [(38,m38)] [] [] [(40,0,l40_0),(40,2,l40_2)]
theorem s40_2 (t0 t1:List AV) (t5 h0_0 h0_1:Int) (ce:CallE) (k:Kont) (s:Int) (next:St→Option AV):stepA (codeA c40 ce [] 40 2 (sub [1,0,1,0,0,1,0,0,1,1,1,0,0] (body Tryd.f40))) (normA [] [0,1,5,6,7]) next ((E40_2 t0 t1 t5 h0_0 h0_1) s) k=G40_2 t0 t1 t5 h0_0 h0_1 s (fun s=>next ((E40_2 t0 t1 t5 h0_0 h0_1) s)) (K40_2 t0 t1 t5 h0_0 h0_1 k) none:=by kernel_rfl
theorem st40_2 (t0 t1:List AV) (t5 h0_0 h0_1:Int) (ce:CallE) (k:Kont) (s:Int) (next:St→Option AV):stepA (codeA c40 ce [] 40 2 (sub [1,0,1,0,0,1,0,0,1,1,1,0,0] (body Tryd.f40))) (normA [] [0,1,5,6,7]) next ((E40_2 t0 t1 t5 h0_0 h0_1) s) k=(R40_2 t0 t1 t5 h0_0 h0_1 s).el none (fun s=>next ((E40_2 t0 t1 t5 h0_0 h0_1) s)) (K40_2 t0 t1 t5 h0_0 h0_1 k):=(s40_2 t0 t1 t5 h0_0 h0_1 ce k s next).trans (by unfold R40_2;unfold F40_2 G40_2;simp only [el_cond,el_ro,el_sum,el_fail,el_next,el_stop] <;> rfl)
theorem ok40_2 {ce:CallE}:LoopOK c40 ce [] 40 2 (sub [1,0,1,0,0,1,0,0,1,1,1,0,0] (body Tryd.f40)):=by
 intro m hm st k r h
 obtain rfl:l40_2=m:=Option.some.inj hm
 unfold l40_2 at h
 split at h
 ·rename_i g0 t0 g1 t1 t5 g2 g3 g4 t7 g5 h0_0 h0_1
  obtain ⟨hg,h⟩:=bif_some h
  simp only [Bool.and_eq_true] at hg
  obtain ⟨⟨⟨⟨⟨q0,q1⟩,q2⟩,q3⟩,q4⟩,q5⟩:=hg
  obtain rfl:=cE q0
  obtain rfl:=cE q1
  obtain rfl:=nE q2
  obtain rfl:=bE q3
  obtain rfl:=bE q4
  obtain rfl:=nE q5
  refine ⟨(((t0.length:Int) - t7:Int).toNat+1),?_⟩
  rw [← h]
  exact loop_run (E40_2 t0 t1 t5 h0_0 h0_1) (K40_2 t0 t1 t5 h0_0 h0_1 k) (st40_2 t0 t1 t5 h0_0 h0_1 ce k) _ t7
 ·cases h
theorem s40_0 (t0 t1:List AV) (ce:CallE) (k:Kont) (s:Int) (next:St→Option AV):stepA (codeA c40 ce [] 40 0 (sub [1,0,1,0,0] (body Tryd.f40))) (normA [] [0,1,5]) next ((E40_0 t0 t1) s) k=G40_0 t0 t1 s (fun s=>next ((E40_0 t0 t1) s)) (K40_0 t0 t1 k) none:=by kernel_rfl
theorem st40_0 (t0 t1:List AV) (ce:CallE) (k:Kont) (s:Int) (next:St→Option AV):stepA (codeA c40 ce [] 40 0 (sub [1,0,1,0,0] (body Tryd.f40))) (normA [] [0,1,5]) next ((E40_0 t0 t1) s) k=(R40_0 t0 t1 s).el none (fun s=>next ((E40_0 t0 t1) s)) (K40_0 t0 t1 k):=(s40_0 t0 t1 ce k s next).trans (by unfold R40_0;unfold F40_0 G40_0;simp only [el_cond,el_ro,el_sum,el_fail,el_next,el_stop] <;> rfl)
theorem ok40_0 {ce:CallE}:LoopOK c40 ce [] 40 0 (sub [1,0,1,0,0] (body Tryd.f40)):=by
 intro m hm st k r h
 obtain rfl:l40_0=m:=Option.some.inj hm
 unfold l40_0 at h
 split at h
 ·rename_i g0 t0 g1 t1 t5
  obtain ⟨hg,h⟩:=bif_some h
  simp only [Bool.and_eq_true] at hg
  obtain ⟨q0,q1⟩:=hg
  obtain rfl:=cE q0
  obtain rfl:=cE q1
  refine ⟨(((t1.length:Int) - t5:Int).toNat+1),?_⟩
  rw [← h]
  exact loop_run (E40_0 t0 t1) (K40_0 t0 t1 k) (st40_0 t0 t1 ce k) _ t5
 ·cases h
def q40 (a0 a1:List AV):Bool:=(ro (runW (R40_0 a0 a1) (((a1.length:Int) - 0:Int).toNat+1) 0) false (sumE (fun _=>true) (sumE (fun p15=>true) (fun p16=>true))))
def v40_0 (a0 a1:List AV):Bool:=(ro (runW (R40_0 a0 a1) (((a1.length:Int) - 0:Int).toNat+1) 0) false (sumE (fun _=>true) (sumE (fun p15=>false) (fun p16=>false))))
theorem e40 (a0 a1:List AV):funA c40 0 40 [AV.sl [.int .i64] a0,AV.sl [.int .i64,.int .i64] a1]=(ro (runW (R40_0 a0 a1) (((a1.length:Int) - 0:Int).toNat+1) 0) none (sumE (fun _=>some (AV.bool true)) (sumE (fun p15=>some (AV.bool false)) (fun p16=>some (AV.bool false))))):=by kernel_rfl
def m40:TModel
 | [.sl g0 a0,.sl g1 a1]=>bif ctsEq g0 ([.int .i64]) && ctsEq g1 ([.int .i64,.int .i64]) then some (q40 a0 a1,AV.bool (v40_0 a0 a1)) else none
 | _=>none
theorem k40:Known Tryd.prog 40:=⟨Tryd.f40,Tryd.func40,by kernel_rfl,by kernel_rfl⟩
theorem meets40:Meets Tryd.prog 40 m40:=by
 refine mt (lvl:=0) (cf:=c40) rfl mixed k40 Tryd.func40 (by kernel_rfl) (loops_cons ok40_0 (loops_cons ok40_2 noLoop)) (allT_cons meets38 allT_nil) allM_nil noI fun xs r h=>?_
 unfold m40 at h
 split at h
 ·rename_i g0 a0 g1 a1
  obtain ⟨hg,h⟩:=bif_pair h
  simp only [Bool.and_eq_true] at hg
  obtain ⟨q0,q1⟩:=hg
  obtain rfl:=cE q0
  obtain rfl:=cE q1
  obtain ⟨h1,rfl⟩:=pair_inj h
  exact (e40 a0 a1).trans ((brO (fun o:Option (Unit ⊕ (Int × Int) ⊕ (Int × Int))=>some (AV.bool (ro o false (sumE (fun _=>true) (sumE (fun p15=>false) (fun p16=>false)))))) (brS (fun o:Unit ⊕ (Int × Int) ⊕ (Int × Int)=>some (AV.bool ((sumE (fun _=>true) (sumE (fun p15=>false) (fun p16=>false))) o))) (fun _=>(fun _=>rfl)) (brS (fun o:(Int × Int) ⊕ (Int × Int)=>some (AV.bool ((sumE (fun p15=>false) (fun p16=>false)) o))) (fun p15=>(fun _=>rfl)) (fun p16=>(fun _=>rfl))))) h1)
 ·cases h
def G12_0 {β:Type} (h0_0:List AV) (h0_1:List AV) (h0_2:List AV) (t3:Int) (N:(Int)→β) (K:(Unit ⊕ Unit)→β) (d:β):β:=(bif decide (t3<(h0_1.length:Int)) then (bif (decide (0≤t3) && decide (t3<(h0_1.length:Int))) then (bif !(v38_0 (fI (h0_1.getD t3.toNat .undef) 0) 0 999) then K (.inr ())
 else (bif (decide (0≤0) && decide (0≤t3) && decide (t3≤(h0_1.length:Int))) then (bif (decide (0≤t3) && decide (t3<(h0_1.length:Int))) then (bif q39 ((h0_1.take (Int.toNat t3)).drop (Int.toNat 0)) (fI (h0_1.getD t3.toNat .undef) 0) then (bif (v39_0 ((h0_1.take (Int.toNat t3)).drop (Int.toNat 0)) (fI (h0_1.getD t3.toNat .undef) 0)) then K (.inr ())
 else N (IntKind.i64.wrap (t3+1)))
 else d)
 else d)
 else d))
 else d)
 else K (.inl ()))
def F12_0 (h0_0 h0_1 h0_2:List AV) (t3:Int):Out (Int) (Unit ⊕ Unit):=G12_0 h0_0 h0_1 h0_2 t3 .next .stop .fail
def R12_0 (h0_0 h0_1 h0_2:List AV):(Int)→Out (Int) (Unit ⊕ Unit):=fun s:Int=>F12_0 h0_0 h0_1 h0_2 s
def E12_0 (h0_0 h0_1 h0_2:List AV):(Int)→St:=fun s:Int=>⟨[(1,AV.ptr [0,1] 0 0),(3,Ai s)],[([0,1],⟨true,[],[AV.agg [AV.sl [.int .i64] h0_0,AV.sl [.int .i64] h0_1,AV.sl [.int .i64,.int .i64] h0_2]]⟩)]⟩
def K12_0 (h0_0 h0_1 h0_2:List AV) (k:Kont):(Unit ⊕ Unit)→Option AV:=sumE (fun _:Unit=>k (.exit 0) ⟨[(1,AV.ptr [0,1] 0 0)],[([0,1],⟨true,[],[AV.agg [AV.sl [.int .i64] h0_0,AV.sl [.int .i64] h0_1,AV.sl [.int .i64,.int .i64] h0_2]]⟩)]⟩) (fun _:Unit=>k .ret ⟨[(2,AV.bool false)],[([0,1],⟨true,[],[AV.agg [AV.sl [.int .i64] h0_0,AV.sl [.int .i64] h0_1,AV.sl [.int .i64,.int .i64] h0_2]]⟩)]⟩)
def l12_0:LModel:=fun _ _ st k=>match st with
 | ⟨[(1,.ptr g0 g1 g2),(3,.int .i64 t3)],[(g3,⟨true,[],[.agg [.sl g4 h0_0,.sl g5 h0_1,.sl g6 h0_2]]⟩)]⟩=>bif nmEq g0 ([0,1]) && Nat.beq g1 0 && Nat.beq g2 0 && nmEq g3 ([0,1]) && ctsEq g4 ([.int .i64]) && ctsEq g5 ([.int .i64]) && ctsEq g6 ([.int .i64,.int .i64]) then ro (runW (R12_0 h0_0 h0_1 h0_2) (((h0_1.length:Int) - t3:Int).toNat+1) t3) none (K12_0 h0_0 h0_1 h0_2 k) else none
 | _=>none
noncomputable def c12:Cfg:=cfg Tryd.prog [(12,0,[1,3]),(12,999,[2]),(12,1000,[1]),(12,1001,[1,3])] [(37,m37),(38,m38),(39,m39),(40,m40)] [] [] [(12,0,l12_0)]
theorem s12_0 (h0_0 h0_1 h0_2:List AV) (ce:CallE) (k:Kont) (s:Int) (next:St→Option AV):stepA (codeA c12 ce [] 12 0 (sub [1,1,0,1,0,0] (body Tryd.f12))) (normA [] [1,3]) next ((E12_0 h0_0 h0_1 h0_2) s) k=G12_0 h0_0 h0_1 h0_2 s (fun s=>next ((E12_0 h0_0 h0_1 h0_2) s)) (K12_0 h0_0 h0_1 h0_2 k) none:=by kernel_rfl
theorem st12_0 (h0_0 h0_1 h0_2:List AV) (ce:CallE) (k:Kont) (s:Int) (next:St→Option AV):stepA (codeA c12 ce [] 12 0 (sub [1,1,0,1,0,0] (body Tryd.f12))) (normA [] [1,3]) next ((E12_0 h0_0 h0_1 h0_2) s) k=(R12_0 h0_0 h0_1 h0_2 s).el none (fun s=>next ((E12_0 h0_0 h0_1 h0_2) s)) (K12_0 h0_0 h0_1 h0_2 k):=(s12_0 h0_0 h0_1 h0_2 ce k s next).trans (by unfold R12_0;unfold F12_0 G12_0;simp only [el_cond,el_ro,el_sum,el_fail,el_next,el_stop] <;> rfl)
theorem ok12_0 {ce:CallE}:LoopOK c12 ce [] 12 0 (sub [1,1,0,1,0,0] (body Tryd.f12)):=by
 intro m hm st k r h
 obtain rfl:l12_0=m:=Option.some.inj hm
 unfold l12_0 at h
 split at h
 ·rename_i g0 g1 g2 t3 g3 g4 h0_0 g5 h0_1 g6 h0_2
  obtain ⟨hg,h⟩:=bif_some h
  simp only [Bool.and_eq_true] at hg
  obtain ⟨⟨⟨⟨⟨⟨q0,q1⟩,q2⟩,q3⟩,q4⟩,q5⟩,q6⟩:=hg
  obtain rfl:=nE q0
  obtain rfl:=bE q1
  obtain rfl:=bE q2
  obtain rfl:=nE q3
  obtain rfl:=cE q4
  obtain rfl:=cE q5
  obtain rfl:=cE q6
  refine ⟨(((h0_1.length:Int) - t3:Int).toNat+1),?_⟩
  rw [← h]
  exact loop_run (E12_0 h0_0 h0_1 h0_2) (K12_0 h0_0 h0_1 h0_2 k) (st12_0 h0_0 h0_1 h0_2 ce k) _ t3
 ·cases h
def q12 (xa xb xc:List AV):Bool:=(q37 xa && (bif !(v37_0 xa) then true else (bif !decide ((xb.length:Int)=(xa.length:Int)) then true else (ro (runW (R12_0 xa xb xc) (((xb.length:Int) - 0:Int).toNat+1) 0) false (sumE (fun _=>q40 xa xc) (fun _=>true))))))
def v12_0 (xa xb xc:List AV):Bool:=(bif !(v37_0 xa) then false else (bif !decide ((xb.length:Int)=(xa.length:Int)) then false else (ro (runW (R12_0 xa xb xc) (((xb.length:Int) - 0:Int).toNat+1) 0) false (sumE (fun _=>(v40_0 xa xc)) (fun _=>false)))))
theorem e12 (xa xb xc:List AV):funA c12 0 12 [AV.agg [AV.sl [.int .i64] xa,AV.sl [.int .i64] xb,AV.sl [.int .i64,.int .i64] xc]]=(bif q37 xa then (bif !(v37_0 xa) then some (AV.bool false)
 else (bif !decide ((xb.length:Int)=(xa.length:Int)) then some (AV.bool false)
 else (ro (runW (R12_0 xa xb xc) (((xb.length:Int) - 0:Int).toNat+1) 0) none (sumE (fun _=>(bif q40 xa xc then some (AV.bool (v40_0 xa xc))
 else none)) (fun _=>some (AV.bool false))))))
 else none):=by kernel_rfl
def m12:TModel
 | [.agg [.sl g0 xa,.sl g1 xb,.sl g2 xc]]=>bif ctsEq g0 ([.int .i64]) && ctsEq g1 ([.int .i64]) && ctsEq g2 ([.int .i64,.int .i64]) then some (q12 xa xb xc,AV.bool (v12_0 xa xb xc)) else none
 | _=>none
theorem k12:Known Tryd.prog 12:=⟨Tryd.f12,Tryd.func12,by kernel_rfl,by kernel_rfl⟩
theorem meets12:Meets Tryd.prog 12 m12:=by
 refine mt (lvl:=0) (cf:=c12) rfl mixed k12 Tryd.func12 (by kernel_rfl) (loops_cons ok12_0 noLoop) (allT_cons meets37 (allT_cons meets38 (allT_cons meets39 (allT_cons meets40 allT_nil)))) allM_nil noI fun xs r h=>?_
 unfold m12 at h
 split at h
 ·rename_i g0 xa g1 xb g2 xc
  obtain ⟨hg,h⟩:=bif_pair h
  simp only [Bool.and_eq_true] at hg
  obtain ⟨⟨q0,q1⟩,q2⟩:=hg
  obtain rfl:=cE q0
  obtain rfl:=cE q1
  obtain rfl:=cE q2
  obtain ⟨h1,rfl⟩:=pair_inj h
  exact (e12 xa xb xc).trans ((brL (br (fun b=>some (AV.bool (bif b then false else (bif !decide ((xb.length:Int)=(xa.length:Int)) then false else (ro (runW (R12_0 xa xb xc) (((xb.length:Int) - 0:Int).toNat+1) 0) false (sumE (fun _=>(v40_0 xa xc)) (fun _=>false))))))) (fun _=>rfl) (br (fun b=>some (AV.bool (bif b then false else (ro (runW (R12_0 xa xb xc) (((xb.length:Int) - 0:Int).toNat+1) 0) false (sumE (fun _=>(v40_0 xa xc)) (fun _=>false)))))) (fun _=>rfl) (brO (fun o:Option (Unit ⊕ Unit)=>some (AV.bool (ro o false (sumE (fun _=>(v40_0 xa xc)) (fun _=>false))))) (brS (fun o:Unit ⊕ Unit=>some (AV.bool ((sumE (fun _=>(v40_0 xa xc)) (fun _=>false)) o))) (fun _=>(brL1 (fun _=>rfl))) (fun _=>(fun _=>rfl))))))) h1)
 ·cases h
noncomputable def c97:Cfg:=cfg Tryd.prog [(97,999,[2])] [] [] [] []
def q97 (xa xb xc:List AV):Bool:=((decide ((([]:List AV).length+xa.length)*8≤140737488355328) && decide ((([]:List AV).length+xa.length)≤140737488355328)) && ((decide ((([]:List AV).length+xb.length)*8≤140737488355328) && decide ((([]:List AV).length+xb.length)≤140737488355328)) && (decide ((([]:List AV).length+xc.length)*16≤140737488355328) && decide ((([]:List AV).length+xc.length)≤140737488355328))))
def v97_0 (xa xb xc:List AV):List AV:=([]:List AV)++xa
def v97_1 (xa xb xc:List AV):List AV:=([]:List AV)++xb
def v97_2 (xa xb xc:List AV):List AV:=([]:List AV)++xc
theorem e97 (xa xb xc:List AV):funA c97 0 97 [AV.agg [AV.sl [.int .i64] xa,AV.sl [.int .i64] xb,AV.sl [.int .i64,.int .i64] xc]]=(bif (decide ((([]:List AV).length+xa.length)*8≤140737488355328) && decide ((([]:List AV).length+xa.length)≤140737488355328)) then (bif (decide ((([]:List AV).length+xb.length)*8≤140737488355328) && decide ((([]:List AV).length+xb.length)≤140737488355328)) then (bif (decide ((([]:List AV).length+xc.length)*16≤140737488355328) && decide ((([]:List AV).length+xc.length)≤140737488355328)) then some (AV.agg [AV.fl [.int .i64] (([]:List AV)++xa),AV.fl [.int .i64] (([]:List AV)++xb),AV.fl [.int .i64,.int .i64] (([]:List AV)++xc)])
 else none)
 else none)
 else none):=by kernel_rfl
def m97:TModel
 | [.agg [.sl g0 xa,.sl g1 xb,.sl g2 xc]]=>bif ctsEq g0 ([.int .i64]) && ctsEq g1 ([.int .i64]) && ctsEq g2 ([.int .i64,.int .i64]) then some (q97 xa xb xc,AV.agg [AV.fl [.int .i64] (v97_0 xa xb xc),AV.fl [.int .i64] (v97_1 xa xb xc),AV.fl [.int .i64,.int .i64] (v97_2 xa xb xc)]) else none
 | _=>none
theorem k97:Known Tryd.prog 97:=⟨Tryd.f97,Tryd.func97,by kernel_rfl,by kernel_rfl⟩
theorem meets97:Meets Tryd.prog 97 m97:=by
 refine mt (lvl:=0) (cf:=c97) rfl mixed k97 Tryd.func97 (by kernel_rfl) noLoop allT_nil allM_nil noI fun xs r h=>?_
 unfold m97 at h
 split at h
 ·rename_i g0 xa g1 xb g2 xc
  obtain ⟨hg,h⟩:=bif_pair h
  simp only [Bool.and_eq_true] at hg
  obtain ⟨⟨q0,q1⟩,q2⟩:=hg
  obtain rfl:=cE q0
  obtain rfl:=cE q1
  obtain rfl:=cE q2
  obtain ⟨h1,rfl⟩:=pair_inj h
  exact (e97 xa xb xc).trans ((brL (brL (brL1 (fun _=>rfl)))) h1)
 ·cases h
def G98_0 {β:Type} (t1:Int) (h0_0:List AV) (h0_1:List AV) (h0_2:List AV) (t6:Int) (N:(Int)→β) (K:(Unit ⊕ Int)→β) (d:β):β:=(bif decide (t6<(h0_2.length:Int)) then (bif (decide (0≤t6) && decide (t6<(h0_2.length:Int))) then (bif decide (fI (h0_2.getD t6.toNat .undef) 0=t1) then (bif (decide (0≤t6) && decide (t6<(h0_2.length:Int))) then K (.inr (fI (h0_2.getD t6.toNat .undef) 1))
 else d)
 else N (IntKind.i64.wrap (t6+1)))
 else d)
 else K (.inl ()))
def F98_0 (t1:Int) (h0_0 h0_1 h0_2:List AV) (t6:Int):Out (Int) (Unit ⊕ Int):=G98_0 t1 h0_0 h0_1 h0_2 t6 .next .stop .fail
def R98_0 (t1:Int) (h0_0 h0_1 h0_2:List AV):(Int)→Out (Int) (Unit ⊕ Int):=fun s:Int=>F98_0 t1 h0_0 h0_1 h0_2 s
def E98_0 (t1:Int) (h0_0 h0_1 h0_2:List AV):(Int)→St:=fun s:Int=>⟨[(1,Ai t1),(2,AV.ptr [0,2] 0 0),(6,Ai s)],[([0,2],⟨true,[],[AV.agg [AV.sl [.int .i64] h0_0,AV.sl [.int .i64] h0_1,AV.sl [.int .i64,.int .i64] h0_2]]⟩)]⟩
def K98_0 (t1:Int) (h0_0 h0_1 h0_2:List AV) (k:Kont):(Unit ⊕ Int)→Option AV:=sumE (fun _:Unit=>k (.exit 0) ⟨[],[([0,2],⟨true,[],[AV.agg [AV.sl [.int .i64] h0_0,AV.sl [.int .i64] h0_1,AV.sl [.int .i64,.int .i64] h0_2]]⟩)]⟩) (fun p:Int=>k .ret ⟨[(4,Ai p),(5,AV.bool true)],[([0,2],⟨true,[],[AV.agg [AV.sl [.int .i64] h0_0,AV.sl [.int .i64] h0_1,AV.sl [.int .i64,.int .i64] h0_2]]⟩)]⟩)
def l98_0:LModel:=fun _ _ st k=>match st with
 | ⟨[(1,.int .i64 t1),(2,.ptr g0 g1 g2),(6,.int .i64 t6)],[(g3,⟨true,[],[.agg [.sl g4 h0_0,.sl g5 h0_1,.sl g6 h0_2]]⟩)]⟩=>bif nmEq g0 ([0,2]) && Nat.beq g1 0 && Nat.beq g2 0 && nmEq g3 ([0,2]) && ctsEq g4 ([.int .i64]) && ctsEq g5 ([.int .i64]) && ctsEq g6 ([.int .i64,.int .i64]) then ro (runW (R98_0 t1 h0_0 h0_1 h0_2) (((h0_2.length:Int) - t6:Int).toNat+1) t6) none (K98_0 t1 h0_0 h0_1 h0_2 k) else none
 | _=>none
noncomputable def c98:Cfg:=cfg Tryd.prog [(98,0,[1,2,6]),(98,999,[4,5]),(98,1000,[]),(98,1001,[1,2,6])] [] [] [] [(98,0,l98_0)]
theorem s98_0 (t1:Int) (h0_0 h0_1 h0_2:List AV) (ce:CallE) (k:Kont) (s:Int) (next:St→Option AV):stepA (codeA c98 ce [] 98 0 (sub [1,0,1,0,0] (body Tryd.f98))) (normA [] [1,2,6]) next ((E98_0 t1 h0_0 h0_1 h0_2) s) k=G98_0 t1 h0_0 h0_1 h0_2 s (fun s=>next ((E98_0 t1 h0_0 h0_1 h0_2) s)) (K98_0 t1 h0_0 h0_1 h0_2 k) none:=by kernel_rfl
theorem st98_0 (t1:Int) (h0_0 h0_1 h0_2:List AV) (ce:CallE) (k:Kont) (s:Int) (next:St→Option AV):stepA (codeA c98 ce [] 98 0 (sub [1,0,1,0,0] (body Tryd.f98))) (normA [] [1,2,6]) next ((E98_0 t1 h0_0 h0_1 h0_2) s) k=(R98_0 t1 h0_0 h0_1 h0_2 s).el none (fun s=>next ((E98_0 t1 h0_0 h0_1 h0_2) s)) (K98_0 t1 h0_0 h0_1 h0_2 k):=(s98_0 t1 h0_0 h0_1 h0_2 ce k s next).trans (by unfold R98_0;unfold F98_0 G98_0;simp only [el_cond,el_ro,el_sum,el_fail,el_next,el_stop] <;> rfl)
theorem ok98_0 {ce:CallE}:LoopOK c98 ce [] 98 0 (sub [1,0,1,0,0] (body Tryd.f98)):=by
 intro m hm st k r h
 obtain rfl:l98_0=m:=Option.some.inj hm
 unfold l98_0 at h
 split at h
 ·rename_i t1 g0 g1 g2 t6 g3 g4 h0_0 g5 h0_1 g6 h0_2
  obtain ⟨hg,h⟩:=bif_some h
  simp only [Bool.and_eq_true] at hg
  obtain ⟨⟨⟨⟨⟨⟨q0,q1⟩,q2⟩,q3⟩,q4⟩,q5⟩,q6⟩:=hg
  obtain rfl:=nE q0
  obtain rfl:=bE q1
  obtain rfl:=bE q2
  obtain rfl:=nE q3
  obtain rfl:=cE q4
  obtain rfl:=cE q5
  obtain rfl:=cE q6
  refine ⟨(((h0_2.length:Int) - t6:Int).toNat+1),?_⟩
  rw [← h]
  exact loop_run (E98_0 t1 h0_0 h0_1 h0_2) (K98_0 t1 h0_0 h0_1 h0_2 k) (st98_0 t1 h0_0 h0_1 h0_2 ce k) _ t6
 ·cases h
def q98 (xa xb xc:List AV) (a1:Int):Bool:=(ro (runW (R98_0 a1 xa xb xc) (((xc.length:Int) - 0:Int).toNat+1) 0) false (sumE (fun _=>true) (fun p19=>true)))
def v98_0 (xa xb xc:List AV) (a1:Int):Int:=(ro (runW (R98_0 a1 xa xb xc) (((xc.length:Int) - 0:Int).toNat+1) 0) 0 (sumE (fun _=>0) (fun p19=>p19)))
def v98_1 (xa xb xc:List AV) (a1:Int):Bool:=(ro (runW (R98_0 a1 xa xb xc) (((xc.length:Int) - 0:Int).toNat+1) 0) false (sumE (fun _=>false) (fun p19=>true)))
theorem e98 (xa xb xc:List AV) (a1:Int):funA c98 0 98 [AV.agg [AV.sl [.int .i64] xa,AV.sl [.int .i64] xb,AV.sl [.int .i64,.int .i64] xc],Ai a1]=(ro (runW (R98_0 a1 xa xb xc) (((xc.length:Int) - 0:Int).toNat+1) 0) none (sumE (fun _=>some (AV.tup [Ai 0,AV.bool false])) (fun p19=>some (AV.tup [Ai p19,AV.bool true])))):=by kernel_rfl
def m98:TModel
 | [.agg [.sl g0 xa,.sl g1 xb,.sl g2 xc],.int .i64 a1]=>bif ctsEq g0 ([.int .i64]) && ctsEq g1 ([.int .i64]) && ctsEq g2 ([.int .i64,.int .i64]) then some (q98 xa xb xc a1,AV.tup [AV.int .i64 (v98_0 xa xb xc a1),AV.bool (v98_1 xa xb xc a1)]) else none
 | _=>none
theorem k98:Known Tryd.prog 98:=⟨Tryd.f98,Tryd.func98,by kernel_rfl,by kernel_rfl⟩
theorem meets98:Meets Tryd.prog 98 m98:=by
 refine mt (lvl:=0) (cf:=c98) rfl mixed k98 Tryd.func98 (by kernel_rfl) (loops_cons ok98_0 noLoop) allT_nil allM_nil noI fun xs r h=>?_
 unfold m98 at h
 split at h
 ·rename_i g0 xa g1 xb g2 xc a1
  obtain ⟨hg,h⟩:=bif_pair h
  simp only [Bool.and_eq_true] at hg
  obtain ⟨⟨q0,q1⟩,q2⟩:=hg
  obtain rfl:=cE q0
  obtain rfl:=cE q1
  obtain rfl:=cE q2
  obtain ⟨h1,rfl⟩:=pair_inj h
  exact (e98 xa xb xc a1).trans ((brO (fun o:Option (Unit ⊕ Int)=>some (AV.tup [Ai (ro o 0 (sumE (fun _=>0) (fun p19=>p19))),AV.bool (ro o false (sumE (fun _=>false) (fun p19=>true)))])) (brS (fun o:Unit ⊕ Int=>some (AV.tup [Ai ((sumE (fun _=>0) (fun p19=>p19)) o),AV.bool ((sumE (fun _=>false) (fun p19=>true)) o)])) (fun _=>(fun _=>rfl)) (fun p19=>(fun _=>rfl)))) h1)
 ·cases h
def G114_2 {β:Type} (t1:List AV) (t2:Int) (t8:Int) (t9:Int) (t11:Int) (N:((Int × Int))→β) (K:(Int)→β) (d:β):β:=(bif decide (t11 ≥ 0) then (bif (decide (0≤t11) && decide (t11<(t1.length:Int))) then (bif decide (fI (t1.getD t11.toNat .undef) 0 ≥ t2) then (bif (decide (0≤t11) && decide (t11<(t1.length:Int))) then N (fI (t1.getD t11.toNat .undef) 1,IntKind.i64.wrap (t11 - 1))
 else d)
 else N (t9,IntKind.i64.wrap (t11 - 1)))
 else d)
 else K t9)
def F114_2 (t1:List AV) (t2 t8 t9 t11:Int):Out ((Int × Int)) (Int):=G114_2 t1 t2 t8 t9 t11 .next .stop .fail
def R114_2 (t1:List AV) (t2 t8:Int):((Int × Int))→Out ((Int × Int)) (Int):=fun s:Int × Int=>F114_2 t1 t2 t8 s.1 s.2
def E114_2 (t1:List AV) (t2 t8:Int):((Int × Int))→St:=fun s:Int × Int=>⟨[(1,AV.sl [.int .i64,.int .i64] t1),(2,Ai t2),(8,Ai t8),(9,Ai s.1),(11,Ai s.2)],[]⟩
def K114_2 (t1:List AV) (t2 t8:Int) (k:Kont):(Int)→Option AV:=fun p:Int=>k (.exit 2) ⟨[(8,Ai t8),(9,Ai p)],[]⟩
def l114_2:LModel:=fun _ _ st k=>match st with
 | ⟨[(1,.sl g0 t1),(2,.int .i64 t2),(8,.int .i64 t8),(9,.int .i64 t9),(11,.int .i64 t11)],[]⟩=>bif ctsEq g0 ([.int .i64,.int .i64]) then ro (runW (R114_2 t1 t2 t8) ((t11 - 0+1:Int).toNat+1) (t9,t11)) none (K114_2 t1 t2 t8 k) else none
 | _=>none
def G114_0 {β:Type} (t1:List AV) (t2:Int) (t9:Int) (t8:Int) (t10:Int) (N:((Int × Int))→β) (K:(Int)→β) (d:β):β:=(bif decide (t10<(t1.length:Int)) then (bif (decide (0≤t10) && decide (t10<(t1.length:Int))) then (bif decide (fI (t1.getD t10.toNat .undef) 0≤t2) then (bif (decide (0≤t10) && decide (t10<(t1.length:Int))) then N (fI (t1.getD t10.toNat .undef) 1,IntKind.i64.wrap (t10+1))
 else d)
 else N (t8,IntKind.i64.wrap (t10+1)))
 else d)
 else K t8)
def F114_0 (t1:List AV) (t2 t9 t8 t10:Int):Out ((Int × Int)) (Int):=G114_0 t1 t2 t9 t8 t10 .next .stop .fail
def R114_0 (t1:List AV) (t2 t9:Int):((Int × Int))→Out ((Int × Int)) (Int):=fun s:Int × Int=>F114_0 t1 t2 t9 s.1 s.2
def E114_0 (t1:List AV) (t2 t9:Int):((Int × Int))→St:=fun s:Int × Int=>⟨[(1,AV.sl [.int .i64,.int .i64] t1),(2,Ai t2),(8,Ai s.1),(9,Ai t9),(10,Ai s.2)],[]⟩
def K114_0 (t1:List AV) (t2 t9:Int) (k:Kont):(Int)→Option AV:=fun p:Int=>k (.exit 0) ⟨[(1,AV.sl [.int .i64,.int .i64] t1),(2,Ai t2),(8,Ai p),(9,Ai t9)],[]⟩
def l114_0:LModel:=fun _ _ st k=>match st with
 | ⟨[(1,.sl g0 t1),(2,.int .i64 t2),(8,.int .i64 t8),(9,.int .i64 t9),(10,.int .i64 t10)],[]⟩=>bif ctsEq g0 ([.int .i64,.int .i64]) then ro (runW (R114_0 t1 t2 t9) (((t1.length:Int) - t10:Int).toNat+1) (t8,t10)) none (K114_0 t1 t2 t9 k) else none
 | _=>none
noncomputable def c114:Cfg:=cfg Tryd.prog [(114,0,[1,2,8,9,10]),(114,2,[1,2,8,9,11]),(114,999,[6,7]),(114,1000,[1,2,8,9]),(114,1001,[1,2,8,9,10]),(114,1002,[8,9]),(114,1003,[1,2,8,9,11])] [] [] [] [(114,0,l114_0),(114,2,l114_2)]
theorem s114_2 (t1:List AV) (t2 t8:Int) (ce:CallE) (k:Kont) (s:Int × Int) (next:St→Option AV):stepA (codeA c114 ce [] 114 2 (sub [1,1,1,1,0,1,0,0] (body Tryd.f114))) (normA [] [1,2,8,9,11]) next ((E114_2 t1 t2 t8) s) k=G114_2 t1 t2 t8 s.1 s.2 (fun s=>next ((E114_2 t1 t2 t8) s)) (K114_2 t1 t2 t8 k) none:=by kernel_rfl
theorem st114_2 (t1:List AV) (t2 t8:Int) (ce:CallE) (k:Kont) (s:(Int × Int)) (next:St→Option AV):stepA (codeA c114 ce [] 114 2 (sub [1,1,1,1,0,1,0,0] (body Tryd.f114))) (normA [] [1,2,8,9,11]) next ((E114_2 t1 t2 t8) s) k=(R114_2 t1 t2 t8 s).el none (fun s=>next ((E114_2 t1 t2 t8) s)) (K114_2 t1 t2 t8 k):=(s114_2 t1 t2 t8 ce k s next).trans (by unfold R114_2;unfold F114_2 G114_2;simp only [el_cond,el_ro,el_sum,el_fail,el_next,el_stop] <;> rfl)
theorem ok114_2 {ce:CallE}:LoopOK c114 ce [] 114 2 (sub [1,1,1,1,0,1,0,0] (body Tryd.f114)):=by
 intro m hm st k r h
 obtain rfl:l114_2=m:=Option.some.inj hm
 unfold l114_2 at h
 split at h
 ·rename_i g0 t1 t2 t8 t9 t11
  obtain ⟨hg,h⟩:=bif_some h
  have q0:=hg
  obtain rfl:=cE q0
  refine ⟨((t11 - 0+1:Int).toNat+1),?_⟩
  rw [← h]
  exact loop_run (E114_2 t1 t2 t8) (K114_2 t1 t2 t8 k) (st114_2 t1 t2 t8 ce k) _ (t9,t11)
 ·cases h
theorem s114_0 (t1:List AV) (t2 t9:Int) (ce:CallE) (k:Kont) (s:Int × Int) (next:St→Option AV):stepA (codeA c114 ce [] 114 0 (sub [1,1,1,0,1,0,0] (body Tryd.f114))) (normA [] [1,2,8,9,10]) next ((E114_0 t1 t2 t9) s) k=G114_0 t1 t2 t9 s.1 s.2 (fun s=>next ((E114_0 t1 t2 t9) s)) (K114_0 t1 t2 t9 k) none:=by kernel_rfl
theorem st114_0 (t1:List AV) (t2 t9:Int) (ce:CallE) (k:Kont) (s:(Int × Int)) (next:St→Option AV):stepA (codeA c114 ce [] 114 0 (sub [1,1,1,0,1,0,0] (body Tryd.f114))) (normA [] [1,2,8,9,10]) next ((E114_0 t1 t2 t9) s) k=(R114_0 t1 t2 t9 s).el none (fun s=>next ((E114_0 t1 t2 t9) s)) (K114_0 t1 t2 t9 k):=(s114_0 t1 t2 t9 ce k s next).trans (by unfold R114_0;unfold F114_0 G114_0;simp only [el_cond,el_ro,el_sum,el_fail,el_next,el_stop] <;> rfl)
theorem ok114_0 {ce:CallE}:LoopOK c114 ce [] 114 0 (sub [1,1,1,0,1,0,0] (body Tryd.f114)):=by
 intro m hm st k r h
 obtain rfl:l114_0=m:=Option.some.inj hm
 unfold l114_0 at h
 split at h
 ·rename_i g0 t1 t2 t8 t9 t10
  obtain ⟨hg,h⟩:=bif_some h
  have q0:=hg
  obtain rfl:=cE q0
  refine ⟨(((t1.length:Int) - t10:Int).toNat+1),?_⟩
  rw [← h]
  exact loop_run (E114_0 t1 t2 t9) (K114_0 t1 t2 t9 k) (st114_0 t1 t2 t9 ce k) _ (t8,t10)
 ·cases h
def q114 (a0:Int) (a1:List AV) (a2:Int):Bool:=(ro (runW (R114_0 a1 a2 a0) (((a1.length:Int) - 0:Int).toNat+1) (0,0)) false (fun p20=>(ro (runW (R114_2 a1 a2 p20) (((IntKind.i64.wrap ((a1.length:Int) - 1)) - 0+1:Int).toNat+1) (a0,IntKind.i64.wrap ((a1.length:Int) - 1))) false (fun p21=>true))))
def v114_0 (a0:Int) (a1:List AV) (a2:Int):Int:=(ro (runW (R114_0 a1 a2 a0) (((a1.length:Int) - 0:Int).toNat+1) (0,0)) 0 (fun p20=>p20))
def v114_1 (a0:Int) (a1:List AV) (a2:Int):Int:=(ro (runW (R114_0 a1 a2 a0) (((a1.length:Int) - 0:Int).toNat+1) (0,0)) 0 (fun p20=>(ro (runW (R114_2 a1 a2 p20) (((IntKind.i64.wrap ((a1.length:Int) - 1)) - 0+1:Int).toNat+1) (a0,IntKind.i64.wrap ((a1.length:Int) - 1))) 0 (fun p21=>p21))))
theorem e114 (a0:Int) (a1:List AV) (a2:Int):funA c114 0 114 [Ai a0,AV.sl [.int .i64,.int .i64] a1,Ai a2]=(ro (runW (R114_0 a1 a2 a0) (((a1.length:Int) - 0:Int).toNat+1) (0,0)) none (fun p20=>(ro (runW (R114_2 a1 a2 p20) (((IntKind.i64.wrap ((a1.length:Int) - 1)) - 0+1:Int).toNat+1) (a0,IntKind.i64.wrap ((a1.length:Int) - 1))) none (fun p21=>some (AV.tup [Ai p20,Ai p21]))))):=by kernel_rfl
def m114:TModel
 | [.int .i64 a0,.sl g0 a1,.int .i64 a2]=>bif ctsEq g0 ([.int .i64,.int .i64]) then some (q114 a0 a1 a2,AV.tup [AV.int .i64 (v114_0 a0 a1 a2),AV.int .i64 (v114_1 a0 a1 a2)]) else none
 | _=>none
theorem k114:Known Tryd.prog 114:=⟨Tryd.f114,Tryd.func114,by kernel_rfl,by kernel_rfl⟩
theorem meets114:Meets Tryd.prog 114 m114:=by
 refine mt (lvl:=0) (cf:=c114) rfl mixed k114 Tryd.func114 (by kernel_rfl) (loops_cons ok114_0 (loops_cons ok114_2 noLoop)) allT_nil allM_nil noI fun xs r h=>?_
 unfold m114 at h
 split at h
 ·rename_i a0 g0 a1 a2
  obtain ⟨hg,h⟩:=bif_pair h
  have q0:=hg
  obtain rfl:=cE q0
  obtain ⟨h1,rfl⟩:=pair_inj h
  exact (e114 a0 a1 a2).trans ((brO (fun o:Option (Int)=>some (AV.tup [Ai (ro o 0 (fun p20=>p20)),Ai (ro o 0 (fun p20=>(ro (runW (R114_2 a1 a2 p20) (((IntKind.i64.wrap ((a1.length:Int) - 1)) - 0+1:Int).toNat+1) (a0,IntKind.i64.wrap ((a1.length:Int) - 1))) 0 (fun p21=>p21))))])) (fun p20=>(brO (fun o:Option (Int)=>some (AV.tup [Ai p20,Ai (ro o 0 (fun p21=>p21))])) (fun p21=>(fun _=>rfl))))) h1)
 ·cases h
noncomputable def c99:Cfg:=cfg Tryd.prog [(99,999,[4,5])] [(12,m12),(38,m38),(114,m114)] [] [] []
def q99 (xa xb xc:List AV) (a1:Int):Bool:=(q12 xa xb xc && (bif !(v12_0 xa xb xc) then true else (bif !(v38_0 a1 (-1000) 1000) then true else q114 (xa.length:Int) xc a1)))
def v99_0 (xa xb xc:List AV) (a1:Int):Int:=(bif !(v12_0 xa xb xc) then 0 else (bif !(v38_0 a1 (-1000) 1000) then 0 else (v114_0 (xa.length:Int) xc a1)))
def v99_1 (xa xb xc:List AV) (a1:Int):Int:=(bif !(v12_0 xa xb xc) then 0 else (bif !(v38_0 a1 (-1000) 1000) then 0 else (v114_1 (xa.length:Int) xc a1)))
theorem e99 (xa xb xc:List AV) (a1:Int):funA c99 0 99 [AV.agg [AV.sl [.int .i64] xa,AV.sl [.int .i64] xb,AV.sl [.int .i64,.int .i64] xc],Ai a1]=(bif q12 xa xb xc then (bif !(v12_0 xa xb xc) then some (AV.tup [Ai 0,Ai 0])
 else (bif !(v38_0 a1 (-1000) 1000) then some (AV.tup [Ai 0,Ai 0])
 else (bif q114 (xa.length:Int) xc a1 then some (AV.tup [Ai (v114_0 (xa.length:Int) xc a1),Ai (v114_1 (xa.length:Int) xc a1)])
 else none)))
 else none):=by kernel_rfl
def m99:TModel
 | [.agg [.sl g0 xa,.sl g1 xb,.sl g2 xc],.int .i64 a1]=>bif ctsEq g0 ([.int .i64]) && ctsEq g1 ([.int .i64]) && ctsEq g2 ([.int .i64,.int .i64]) then some (q99 xa xb xc a1,AV.tup [AV.int .i64 (v99_0 xa xb xc a1),AV.int .i64 (v99_1 xa xb xc a1)]) else none
 | _=>none
theorem k99:Known Tryd.prog 99:=⟨Tryd.f99,Tryd.func99,by kernel_rfl,by kernel_rfl⟩
theorem meets99:Meets Tryd.prog 99 m99:=by
 refine mt (lvl:=0) (cf:=c99) rfl mixed k99 Tryd.func99 (by kernel_rfl) noLoop (allT_cons meets12 (allT_cons meets38 (allT_cons meets114 allT_nil))) allM_nil noI fun xs r h=>?_
 unfold m99 at h
 split at h
 ·rename_i g0 xa g1 xb g2 xc a1
  obtain ⟨hg,h⟩:=bif_pair h
  simp only [Bool.and_eq_true] at hg
  obtain ⟨⟨q0,q1⟩,q2⟩:=hg
  obtain rfl:=cE q0
  obtain rfl:=cE q1
  obtain rfl:=cE q2
  obtain ⟨h1,rfl⟩:=pair_inj h
  exact (e99 xa xb xc a1).trans ((brL (br (fun b=>some (AV.tup [Ai (bif b then 0 else (bif !(v38_0 a1 (-1000) 1000) then 0 else (v114_0 (xa.length:Int) xc a1))),Ai (bif b then 0 else (bif !(v38_0 a1 (-1000) 1000) then 0 else (v114_1 (xa.length:Int) xc a1)))])) (fun _=>rfl) (br (fun b=>some (AV.tup [Ai (bif b then 0 else (v114_0 (xa.length:Int) xc a1)),Ai (bif b then 0 else (v114_1 (xa.length:Int) xc a1))])) (fun _=>rfl) (brL1 (fun _=>rfl))))) h1)
 ·cases h
def G100_0 {β:Type} (t0:List AV) (t3:Int) (t11:Int) (t12:Int) (h0:List AV) (N:((Int × Int × (List AV)))→β) (K:((Int × (List AV)))→β) (d:β):β:=(bif decide (t11≤t12) then (bif (decide (0≤t11) && decide (t11<(t0.length:Int))) then (bif decide (fI (t0.getD t11.toNat .undef) 0<t3) then N (IntKind.i64.wrap (t11+1),t12,h0)
 else (bif (decide (0≤t12) && decide (t12<(t0.length:Int))) then (bif decide (fI (t0.getD t12.toNat .undef) 0 ≥ t3) then N (t11,IntKind.i64.wrap (t12 - 1),h0)
 else (bif (decide ((h0.length+([AV.agg [AV.int .i64 t11,AV.int .i64 t12]]).length)*16≤140737488355328) && decide ((h0.length+([AV.agg [AV.int .i64 t11,AV.int .i64 t12]]).length)≤140737488355328)) then N (IntKind.i64.wrap (t11+1),IntKind.i64.wrap (t12 - 1),h0++([AV.agg [AV.int .i64 t11,AV.int .i64 t12]]))
 else d))
 else d))
 else d)
 else K (t11,h0))
def F100_0 (t0:List AV) (t3 t11 t12:Int) (h0:List AV):Out ((Int × Int × (List AV))) ((Int × (List AV))):=G100_0 t0 t3 t11 t12 h0 .next .stop .fail
def R100_0 (t0:List AV) (t3:Int):((Int × Int × (List AV)))→Out ((Int × Int × (List AV))) ((Int × (List AV))):=fun s:Int × Int × (List AV)=>F100_0 t0 t3 s.1 s.2.1 s.2.2
def E100_0 (t0:List AV) (t3:Int):((Int × Int × (List AV)))→St:=fun s:Int × Int × (List AV)=>⟨[(0,AV.sl [.int .i64] t0),(3,Ai t3),(10,AV.own [0,10]),(11,Ai s.1),(12,Ai s.2.1)],[([0,10],⟨false,[.int .i64,.int .i64],s.2.2⟩)]⟩
def K100_0 (t0:List AV) (t3:Int) (k:Kont):((Int × (List AV)))→Option AV:=fun p:Int × (List AV)=>k (.exit 0) ⟨[(10,AV.own [0,10]),(11,Ai p.1)],[([0,10],⟨false,[.int .i64,.int .i64],p.2⟩)]⟩
def l100_0:LModel:=fun _ _ st k=>match st with
 | ⟨[(0,.sl g0 t0),(3,.int .i64 t3),(10,.own g1),(11,.int .i64 t11),(12,.int .i64 t12)],[(g2,⟨false,g3,h0⟩)]⟩=>bif ctsEq g0 ([.int .i64]) && nmEq g1 ([0,10]) && nmEq g2 ([0,10]) && ctsEq g3 ([.int .i64,.int .i64]) then ro (runW (R100_0 t0 t3) ((t12 - t11+1:Int).toNat+1) (t11,t12,h0)) none (K100_0 t0 t3 k) else none
 | _=>none
noncomputable def c100:Cfg:=cfg Tryd.prog [(100,0,[0,3,10,11,12]),(100,999,[8,9]),(100,1000,[10,11]),(100,1001,[0,3,10,11,12]),(100,1002,[0,3,10,11,12])] [(38,m38)] [] [] [(100,0,l100_0)]
theorem s100_0 (t0:List AV) (t3:Int) (ce:CallE) (k:Kont) (s:Int × Int × (List AV)) (next:St→Option AV):stepA (codeA c100 ce [] 100 0 (sub [1,1,1,1,1,0,0,0] (body Tryd.f100))) (normA [] [0,3,10,11,12]) next ((E100_0 t0 t3) s) k=G100_0 t0 t3 s.1 s.2.1 s.2.2 (fun s=>next ((E100_0 t0 t3) s)) (K100_0 t0 t3 k) none:=by kernel_rfl
theorem st100_0 (t0:List AV) (t3:Int) (ce:CallE) (k:Kont) (s:(Int × Int × (List AV))) (next:St→Option AV):stepA (codeA c100 ce [] 100 0 (sub [1,1,1,1,1,0,0,0] (body Tryd.f100))) (normA [] [0,3,10,11,12]) next ((E100_0 t0 t3) s) k=(R100_0 t0 t3 s).el none (fun s=>next ((E100_0 t0 t3) s)) (K100_0 t0 t3 k):=(s100_0 t0 t3 ce k s next).trans (by unfold R100_0;unfold F100_0 G100_0;simp only [el_cond,el_ro,el_sum,el_fail,el_next,el_stop] <;> rfl)
theorem ok100_0 {ce:CallE}:LoopOK c100 ce [] 100 0 (sub [1,1,1,1,1,0,0,0] (body Tryd.f100)):=by
 intro m hm st k r h
 obtain rfl:l100_0=m:=Option.some.inj hm
 unfold l100_0 at h
 split at h
 ·rename_i g0 t0 t3 g1 t11 t12 g2 g3 h0
  obtain ⟨hg,h⟩:=bif_some h
  simp only [Bool.and_eq_true] at hg
  obtain ⟨⟨⟨q0,q1⟩,q2⟩,q3⟩:=hg
  obtain rfl:=cE q0
  obtain rfl:=nE q1
  obtain rfl:=nE q2
  obtain rfl:=cE q3
  refine ⟨((t12 - t11+1:Int).toNat+1),?_⟩
  rw [← h]
  exact loop_run (E100_0 t0 t3) (K100_0 t0 t3 k) (st100_0 t0 t3 ce k) _ (t11,t12,h0)
 ·cases h
def q100 (a0:List AV) (a1 a2 a3:Int):Bool:=(bif !(v38_0 a1 0 a2) then true else (bif decide (a2 > (a0.length:Int)) then true else (ro (runW (R100_0 a0 a3) (((IntKind.i64.wrap (a2 - 1)) - a1+1:Int).toNat+1) (a1,IntKind.i64.wrap (a2 - 1),([]:List AV))) false (fun p22=>true))))
def v100_0 (a0:List AV) (a1 a2 a3:Int):List AV:=(bif !(v38_0 a1 0 a2) then ([]:List AV) else (bif decide (a2 > (a0.length:Int)) then ([]:List AV) else (ro (runW (R100_0 a0 a3) (((IntKind.i64.wrap (a2 - 1)) - a1+1:Int).toNat+1) (a1,IntKind.i64.wrap (a2 - 1),([]:List AV))) [] (fun p22=>p22.2))))
def v100_1 (a0:List AV) (a1 a2 a3:Int):Int:=(bif !(v38_0 a1 0 a2) then 0 else (bif decide (a2 > (a0.length:Int)) then 0 else (ro (runW (R100_0 a0 a3) (((IntKind.i64.wrap (a2 - 1)) - a1+1:Int).toNat+1) (a1,IntKind.i64.wrap (a2 - 1),([]:List AV))) 0 (fun p22=>p22.1))))
theorem e100 (a0:List AV) (a1 a2 a3:Int):funA c100 0 100 [AV.sl [.int .i64] a0,Ai a1,Ai a2,Ai a3]=(bif !(v38_0 a1 0 a2) then some (AV.tup [AV.fl [.int .i64,.int .i64] ([]:List AV),Ai 0])
 else (bif decide (a2 > (a0.length:Int)) then some (AV.tup [AV.fl [.int .i64,.int .i64] ([]:List AV),Ai 0])
 else (ro (runW (R100_0 a0 a3) (((IntKind.i64.wrap (a2 - 1)) - a1+1:Int).toNat+1) (a1,IntKind.i64.wrap (a2 - 1),([]:List AV))) none (fun p22=>some (AV.tup [AV.fl [.int .i64,.int .i64] p22.2,Ai p22.1]))))):=by kernel_rfl
def m100:TModel
 | [.sl g0 a0,.int .i64 a1,.int .i64 a2,.int .i64 a3]=>bif ctsEq g0 ([.int .i64]) then some (q100 a0 a1 a2 a3,AV.tup [AV.fl [.int .i64,.int .i64] (v100_0 a0 a1 a2 a3),AV.int .i64 (v100_1 a0 a1 a2 a3)]) else none
 | _=>none
theorem k100:Known Tryd.prog 100:=⟨Tryd.f100,Tryd.func100,by kernel_rfl,by kernel_rfl⟩
theorem meets100:Meets Tryd.prog 100 m100:=by
 refine mt (lvl:=0) (cf:=c100) rfl mixed k100 Tryd.func100 (by kernel_rfl) (loops_cons ok100_0 noLoop) (allT_cons meets38 allT_nil) allM_nil noI fun xs r h=>?_
 unfold m100 at h
 split at h
 ·rename_i g0 a0 a1 a2 a3
  obtain ⟨hg,h⟩:=bif_pair h
  have q0:=hg
  obtain rfl:=cE q0
  obtain ⟨h1,rfl⟩:=pair_inj h
  exact (e100 a0 a1 a2 a3).trans ((br (fun b=>some (AV.tup [AV.fl [.int .i64,.int .i64] (bif b then ([]:List AV) else (bif decide (a2 > (a0.length:Int)) then ([]:List AV) else (ro (runW (R100_0 a0 a3) (((IntKind.i64.wrap (a2 - 1)) - a1+1:Int).toNat+1) (a1,IntKind.i64.wrap (a2 - 1),([]:List AV))) [] (fun p22=>p22.2)))),Ai (bif b then 0 else (bif decide (a2 > (a0.length:Int)) then 0 else (ro (runW (R100_0 a0 a3) (((IntKind.i64.wrap (a2 - 1)) - a1+1:Int).toNat+1) (a1,IntKind.i64.wrap (a2 - 1),([]:List AV))) 0 (fun p22=>p22.1))))])) (fun _=>rfl) (br (fun b=>some (AV.tup [AV.fl [.int .i64,.int .i64] (bif b then ([]:List AV) else (ro (runW (R100_0 a0 a3) (((IntKind.i64.wrap (a2 - 1)) - a1+1:Int).toNat+1) (a1,IntKind.i64.wrap (a2 - 1),([]:List AV))) [] (fun p22=>p22.2))),Ai (bif b then 0 else (ro (runW (R100_0 a0 a3) (((IntKind.i64.wrap (a2 - 1)) - a1+1:Int).toNat+1) (a1,IntKind.i64.wrap (a2 - 1),([]:List AV))) 0 (fun p22=>p22.1)))])) (fun _=>rfl) (brO (fun o:Option ((Int × (List AV)))=>some (AV.tup [AV.fl [.int .i64,.int .i64] (ro o [] (fun p22=>p22.2)),Ai (ro o 0 (fun p22=>p22.1))])) (fun p22=>(fun _=>rfl))))) h1)
 ·cases h
noncomputable def c115:Cfg:=cfg Tryd.prog [(115,999,[])] [] [] [] []
def q115 (a1 a2:Int) (b0:List AV):Bool:=((decide (0≤a1) && decide (a1<(b0.length:Int))) && ((decide (0≤a2) && decide (a2<(b0.length:Int))) && ((decide (0≤a1) && decide (a1<(b0.length:Int))) && (decide (0≤a2) && decide (a2<((b0.set a1.toNat (AV.agg [AV.int .i64 (fI (b0.getD a2.toNat .undef) 0)])).length:Int))))))
def v115_0 (a1 a2:Int) (b0:List AV):List AV:=(b0.set a1.toNat (AV.agg [AV.int .i64 (fI (b0.getD a2.toNat .undef) 0)])).set a2.toNat (AV.agg [AV.int .i64 (fI (b0.getD a1.toNat .undef) 0)])
theorem e115 (a1 a2:Int) (b0:List AV) (K:AV→List Blk→Option AV):inlA c115 1 115 [AV.own [1],Ai a1,Ai a2] [0] (canH 1 [⟨false,[.int .i64],b0⟩]) (keepB 1 K)=(bif (decide (0≤a1) && decide (a1<(b0.length:Int))) then (bif (decide (0≤a2) && decide (a2<(b0.length:Int))) then (bif (decide (0≤a1) && decide (a1<(b0.length:Int))) then (bif (decide (0≤a2) && decide (a2<((b0.set a1.toNat (AV.agg [Ai (fI (b0.getD a2.toNat .undef) 0)])).length:Int))) then K (AV.tup []) [⟨false,[.int .i64],(b0.set a1.toNat (AV.agg [Ai (fI (b0.getD a2.toNat .undef) 0)])).set a2.toNat (AV.agg [Ai (fI (b0.getD a1.toNat .undef) 0)])⟩]
 else none)
 else none)
 else none)
 else none):=by kernel_rfl
theorem r115 (a1 a2:Int) (b0:List AV) (K:AV→List Blk→Option AV) (h:q115 a1 a2 b0=true):inlA c115 1 115 [AV.own [1],AV.int .i64 a1,AV.int .i64 a2] [0] (canH 1 [⟨false,[.int .i64],b0⟩]) (keepB 1 K)=K (AV.tup []) [⟨false,[.int .i64],(v115_0 a1 a2 b0)⟩]:=(e115 a1 a2 b0 K).trans ((brL (brL (brL (brL1 (fun _=>rfl))))) h)
def m115:WModel
 | [.own g0,.int .i64 a1,.int .i64 a2],[⟨false,g1,b0⟩]=>bif nmEq g0 ([1]) && ctsEq g1 ([.int .i64]) then some (q115 a1 a2 b0,AV.tup [],[⟨false,[.int .i64],(v115_0 a1 a2 b0)⟩]) else none
 | _,_=>none
theorem k115:Known Tryd.prog 115:=⟨Tryd.f115,Tryd.func115,by kernel_rfl,by kernel_rfl⟩
theorem meets115:MeetsM Tryd.prog 115 m115:=by
 refine mw (lvl:=0) (cf:=c115) rfl mixed k115 Tryd.func115 (by kernel_rfl) noLoop allT_nil allM_nil noI fun xs bs r bs' h K=>?_
 unfold m115 at h
 split at h
 ·rename_i g0 a1 a2 g1 b0
  obtain ⟨hg,h⟩:=bif_pair h
  simp only [Bool.and_eq_true] at hg
  obtain ⟨q0,q1⟩:=hg
  obtain rfl:=nE q0
  obtain rfl:=cE q1
  obtain ⟨h1,rfl,rfl⟩:=trip_inj h
  exact r115 a1 a2 b0 K h1
 ·cases h
def G101_0 {β:Type} (t1:List AV) (h2_0:List AV) (h2_1:List AV) (h2_2:List AV) (h3:List AV) (t7:Int) (h0:List AV) (h1:List AV) (N:((Int × (List AV) × (List AV)))→β) (K:(((List AV) × (List AV)) ⊕ ((List AV) × (List AV) × (List AV) × (List AV) × (List AV)))→β) (d:β):β:=(bif decide (t7<(t1.length:Int)) then (bif (decide (0≤t7) && decide (t7<(t1.length:Int))) then (bif (decide (0≤t7) && decide (t7<(t1.length:Int))) then (bif !(v38_0 (fI (t1.getD t7.toNat .undef) 0) 0 (IntKind.i64.wrap ((h0.length:Int) - 1))) then (bif q97 h2_0 h2_1 h2_2 then K (.inr (h0,h1,(v97_0 h2_0 h2_1 h2_2),(v97_1 h2_0 h2_1 h2_2),(v97_2 h2_0 h2_1 h2_2)))
 else d)
 else (bif !(v38_0 (fI (t1.getD t7.toNat .undef) 1) 0 (IntKind.i64.wrap ((h0.length:Int) - 1))) then (bif q97 h2_0 h2_1 h2_2 then K (.inr (h0,h1,(v97_0 h2_0 h2_1 h2_2),(v97_1 h2_0 h2_1 h2_2),(v97_2 h2_0 h2_1 h2_2)))
 else d)
 else (bif q115 (fI (t1.getD t7.toNat .undef) 0) (fI (t1.getD t7.toNat .undef) 1) h0 then (bif q115 (fI (t1.getD t7.toNat .undef) 0) (fI (t1.getD t7.toNat .undef) 1) h1 then N (IntKind.i64.wrap (t7+1),(v115_0 (fI (t1.getD t7.toNat .undef) 0) (fI (t1.getD t7.toNat .undef) 1) h0),(v115_0 (fI (t1.getD t7.toNat .undef) 0) (fI (t1.getD t7.toNat .undef) 1) h1))
 else d)
 else d)))
 else d)
 else d)
 else K (.inl (h0,h1)))
def F101_0 (t1 h2_0 h2_1 h2_2 h3:List AV) (t7:Int) (h0 h1:List AV):Out ((Int × (List AV) × (List AV))) (((List AV) × (List AV)) ⊕ ((List AV) × (List AV) × (List AV) × (List AV) × (List AV))):=G101_0 t1 h2_0 h2_1 h2_2 h3 t7 h0 h1 .next .stop .fail
def R101_0 (t1 h2_0 h2_1 h2_2 h3:List AV):((Int × (List AV) × (List AV)))→Out ((Int × (List AV) × (List AV))) (((List AV) × (List AV)) ⊕ ((List AV) × (List AV) × (List AV) × (List AV) × (List AV))):=fun s:Int × (List AV) × (List AV)=>F101_0 t1 h2_0 h2_1 h2_2 h3 s.1 s.2.1 s.2.2
def E101_0 (t1 h2_0 h2_1 h2_2 h3:List AV):((Int × (List AV) × (List AV)))→St:=fun s:Int × (List AV) × (List AV)=>⟨[(1,AV.sl [.int .i64,.int .i64] t1),(2,AV.ptr [0,2] 0 0),(4,AV.ptr [0,4] 0 0),(6,AV.ptr [0,6] 0 0),(7,Ai s.1)],[([0,0,6],⟨false,[.int .i64],s.2.1⟩),([0,1,6],⟨false,[.int .i64],s.2.2⟩),([0,2],⟨true,[],[AV.agg [AV.sl [.int .i64] h2_0,AV.sl [.int .i64] h2_1,AV.sl [.int .i64,.int .i64] h2_2]]⟩),([0,2,6],⟨false,[.int .i64,.int .i64],h3⟩),([0,4],⟨true,[],[AV.agg [AV.snil,AV.snil,AV.snil]]⟩),([0,6],⟨true,[],[AV.agg [AV.own [0,0,6],AV.own [0,1,6],AV.own [0,2,6]]]⟩)]⟩
def K101_0 (t1 h2_0 h2_1 h2_2 h3:List AV) (k:Kont):(((List AV) × (List AV)) ⊕ ((List AV) × (List AV) × (List AV) × (List AV) × (List AV)))→Option AV:=sumE (fun p:(List AV) × (List AV)=>k (.exit 0) ⟨[(4,AV.ptr [0,4] 0 0),(6,AV.ptr [0,6] 0 0)],[([0,0,6],⟨false,[.int .i64],p.1⟩),([0,1,6],⟨false,[.int .i64],p.2⟩),([0,2],⟨true,[],[AV.agg [AV.sl [.int .i64] h2_0,AV.sl [.int .i64] h2_1,AV.sl [.int .i64,.int .i64] h2_2]]⟩),([0,2,6],⟨false,[.int .i64,.int .i64],h3⟩),([0,4],⟨true,[],[AV.agg [AV.snil,AV.snil,AV.snil]]⟩),([0,6],⟨true,[],[AV.agg [AV.own [0,0,6],AV.own [0,1,6],AV.own [0,2,6]]]⟩)]⟩) (fun p:(List AV) × (List AV) × (List AV) × (List AV) × (List AV)=>k .ret ⟨[(4,AV.ptr [0,4] 0 0),(5,AV.bool false)],[([0,0,6],⟨false,[.int .i64],p.1⟩),([0,1,6],⟨false,[.int .i64],p.2.1⟩),([0,1,53],⟨false,[.int .i64],p.2.2.1⟩),([0,2],⟨true,[],[AV.agg [AV.sl [.int .i64] h2_0,AV.sl [.int .i64] h2_1,AV.sl [.int .i64,.int .i64] h2_2]]⟩),([0,2,6],⟨false,[.int .i64,.int .i64],h3⟩),([0,4],⟨true,[],[AV.agg [AV.own [0,1,53],AV.own [1,1,53],AV.own [2,1,53]]]⟩),([0,6],⟨true,[],[AV.agg [AV.own [0,0,6],AV.own [0,1,6],AV.own [0,2,6]]]⟩),([1,1,53],⟨false,[.int .i64],p.2.2.2.1⟩),([2,1,53],⟨false,[.int .i64,.int .i64],p.2.2.2.2⟩)]⟩)
def l101_0:LModel:=fun _ _ st k=>match st with
 | ⟨[(1,.sl g0 t1),(2,.ptr g1 g2 g3),(4,.ptr g4 g5 g6),(6,.ptr g7 g8 g9),(7,.int .i64 t7)],[(g10,⟨false,g11,h0⟩),(g12,⟨false,g13,h1⟩),(g14,⟨true,[],[.agg [.sl g15 h2_0,.sl g16 h2_1,.sl g17 h2_2]]⟩),(g18,⟨false,g19,h3⟩),(g20,⟨true,[],[.agg [.snil,.snil,.snil]]⟩),(g21,⟨true,[],[.agg [.own g22,.own g23,.own g24]]⟩)]⟩=>bif ctsEq g0 ([.int .i64,.int .i64]) && nmEq g1 ([0,2]) && Nat.beq g2 0 && Nat.beq g3 0 && nmEq g4 ([0,4]) && Nat.beq g5 0 && Nat.beq g6 0 && nmEq g7 ([0,6]) && Nat.beq g8 0 && Nat.beq g9 0 && nmEq g10 ([0,0,6]) && ctsEq g11 ([.int .i64]) && nmEq g12 ([0,1,6]) && ctsEq g13 ([.int .i64]) && nmEq g14 ([0,2]) && ctsEq g15 ([.int .i64]) && ctsEq g16 ([.int .i64]) && ctsEq g17 ([.int .i64,.int .i64]) && nmEq g18 ([0,2,6]) && ctsEq g19 ([.int .i64,.int .i64]) && nmEq g20 ([0,4]) && nmEq g21 ([0,6]) && nmEq g22 ([0,0,6]) && nmEq g23 ([0,1,6]) && nmEq g24 ([0,2,6]) then ro (runW (R101_0 t1 h2_0 h2_1 h2_2 h3) (((t1.length:Int) - t7:Int).toNat+1) (t7,h0,h1)) none (K101_0 t1 h2_0 h2_1 h2_2 h3 k) else none
 | _=>none
noncomputable def c101:Cfg:=cfg Tryd.prog [(101,0,[1,2,4,6,7]),(101,999,[4,5]),(101,1000,[4,6]),(101,1001,[1,2,4,6,7])] [(38,m38),(97,m97)] [(115,.w m115)] [] [(101,0,l101_0)]
theorem s101_0 (t1 h2_0 h2_1 h2_2 h3:List AV) (ce:CallE) (k:Kont) (s:Int × (List AV) × (List AV)) (next:St→Option AV):stepA (codeA c101 ce [] 101 0 (sub [1,1,1,0,1,0,0] (body Tryd.f101))) (normA [] [1,2,4,6,7]) next ((E101_0 t1 h2_0 h2_1 h2_2 h3) s) k=G101_0 t1 h2_0 h2_1 h2_2 h3 s.1 s.2.1 s.2.2 (fun s=>next ((E101_0 t1 h2_0 h2_1 h2_2 h3) s)) (K101_0 t1 h2_0 h2_1 h2_2 h3 k) none:=by kernel_rfl
theorem st101_0 (t1 h2_0 h2_1 h2_2 h3:List AV) (ce:CallE) (k:Kont) (s:(Int × (List AV) × (List AV))) (next:St→Option AV):stepA (codeA c101 ce [] 101 0 (sub [1,1,1,0,1,0,0] (body Tryd.f101))) (normA [] [1,2,4,6,7]) next ((E101_0 t1 h2_0 h2_1 h2_2 h3) s) k=(R101_0 t1 h2_0 h2_1 h2_2 h3 s).el none (fun s=>next ((E101_0 t1 h2_0 h2_1 h2_2 h3) s)) (K101_0 t1 h2_0 h2_1 h2_2 h3 k):=(s101_0 t1 h2_0 h2_1 h2_2 h3 ce k s next).trans (by unfold R101_0;unfold F101_0 G101_0;simp only [el_cond,el_ro,el_sum,el_fail,el_next,el_stop] <;> rfl)
theorem ok101_0 {ce:CallE}:LoopOK c101 ce [] 101 0 (sub [1,1,1,0,1,0,0] (body Tryd.f101)):=by
 intro m hm st k r h
 obtain rfl:l101_0=m:=Option.some.inj hm
 unfold l101_0 at h
 split at h
 ·rename_i g0 t1 g1 g2 g3 g4 g5 g6 g7 g8 g9 t7 g10 g11 h0 g12 g13 h1 g14 g15 h2_0 g16 h2_1 g17 h2_2 g18 g19 h3 g20 g21 g22 g23 g24
  obtain ⟨hg,h⟩:=bif_some h
  simp only [Bool.and_eq_true] at hg
  obtain ⟨⟨⟨⟨⟨⟨⟨⟨⟨⟨⟨⟨⟨⟨⟨⟨⟨⟨⟨⟨⟨⟨⟨⟨q0,q1⟩,q2⟩,q3⟩,q4⟩,q5⟩,q6⟩,q7⟩,q8⟩,q9⟩,q10⟩,q11⟩,q12⟩,q13⟩,q14⟩,q15⟩,q16⟩,q17⟩,q18⟩,q19⟩,q20⟩,q21⟩,q22⟩,q23⟩,q24⟩:=hg
  obtain rfl:=cE q0
  obtain rfl:=nE q1
  obtain rfl:=bE q2
  obtain rfl:=bE q3
  obtain rfl:=nE q4
  obtain rfl:=bE q5
  obtain rfl:=bE q6
  obtain rfl:=nE q7
  obtain rfl:=bE q8
  obtain rfl:=bE q9
  obtain rfl:=nE q10
  obtain rfl:=cE q11
  obtain rfl:=nE q12
  obtain rfl:=cE q13
  obtain rfl:=nE q14
  obtain rfl:=cE q15
  obtain rfl:=cE q16
  obtain rfl:=cE q17
  obtain rfl:=nE q18
  obtain rfl:=cE q19
  obtain rfl:=nE q20
  obtain rfl:=nE q21
  obtain rfl:=nE q22
  obtain rfl:=nE q23
  obtain rfl:=nE q24
  refine ⟨(((t1.length:Int) - t7:Int).toNat+1),?_⟩
  rw [← h]
  exact loop_run (E101_0 t1 h2_0 h2_1 h2_2 h3) (K101_0 t1 h2_0 h2_1 h2_2 h3 k) (st101_0 t1 h2_0 h2_1 h2_2 h3 ce k) _ (t7,h0,h1)
 ·cases h
def q101 (xa xb xc a1:List AV):Bool:=(q97 xa xb xc && (bif !decide (((v97_1 xa xb xc).length:Int)=((v97_0 xa xb xc).length:Int)) then true else (ro (runW (R101_0 a1 xa xb xc (v97_2 xa xb xc)) (((a1.length:Int) - 0:Int).toNat+1) (0,(v97_0 xa xb xc),(v97_1 xa xb xc))) false (sumE (fun p23=>true) (fun p24=>true)))))
def v101_0 (xa xb xc a1:List AV):List AV:=(bif !decide (((v97_1 xa xb xc).length:Int)=((v97_0 xa xb xc).length:Int)) then (v97_0 xa xb xc) else (ro (runW (R101_0 a1 xa xb xc (v97_2 xa xb xc)) (((a1.length:Int) - 0:Int).toNat+1) (0,(v97_0 xa xb xc),(v97_1 xa xb xc))) [] (sumE (fun p23=>p23.1) (fun p24=>p24.2.2.1))))
def v101_1 (xa xb xc a1:List AV):List AV:=(bif !decide (((v97_1 xa xb xc).length:Int)=((v97_0 xa xb xc).length:Int)) then (v97_1 xa xb xc) else (ro (runW (R101_0 a1 xa xb xc (v97_2 xa xb xc)) (((a1.length:Int) - 0:Int).toNat+1) (0,(v97_0 xa xb xc),(v97_1 xa xb xc))) [] (sumE (fun p23=>p23.2) (fun p24=>p24.2.2.2.1))))
def v101_2 (xa xb xc a1:List AV):List AV:=(bif !decide (((v97_1 xa xb xc).length:Int)=((v97_0 xa xb xc).length:Int)) then (v97_2 xa xb xc) else (ro (runW (R101_0 a1 xa xb xc (v97_2 xa xb xc)) (((a1.length:Int) - 0:Int).toNat+1) (0,(v97_0 xa xb xc),(v97_1 xa xb xc))) [] (sumE (fun p23=>(v97_2 xa xb xc)) (fun p24=>p24.2.2.2.2))))
def v101_3 (xa xb xc a1:List AV):Bool:=(bif !decide (((v97_1 xa xb xc).length:Int)=((v97_0 xa xb xc).length:Int)) then false else (ro (runW (R101_0 a1 xa xb xc (v97_2 xa xb xc)) (((a1.length:Int) - 0:Int).toNat+1) (0,(v97_0 xa xb xc),(v97_1 xa xb xc))) false (sumE (fun p23=>true) (fun p24=>false))))
theorem e101 (xa xb xc a1:List AV):funA c101 0 101 [AV.agg [AV.sl [.int .i64] xa,AV.sl [.int .i64] xb,AV.sl [.int .i64,.int .i64] xc],AV.sl [.int .i64,.int .i64] a1]=(bif q97 xa xb xc then (bif !decide (((v97_1 xa xb xc).length:Int)=((v97_0 xa xb xc).length:Int)) then some (AV.tup [AV.agg [AV.fl [.int .i64] (v97_0 xa xb xc),AV.fl [.int .i64] (v97_1 xa xb xc),AV.fl [.int .i64,.int .i64] (v97_2 xa xb xc)],AV.bool false])
 else (ro (runW (R101_0 a1 xa xb xc (v97_2 xa xb xc)) (((a1.length:Int) - 0:Int).toNat+1) (0,(v97_0 xa xb xc),(v97_1 xa xb xc))) none (sumE (fun p23=>some (AV.tup [AV.agg [AV.fl [.int .i64] p23.1,AV.fl [.int .i64] p23.2,AV.fl [.int .i64,.int .i64] (v97_2 xa xb xc)],AV.bool true])) (fun p24=>some (AV.tup [AV.agg [AV.fl [.int .i64] p24.2.2.1,AV.fl [.int .i64] p24.2.2.2.1,AV.fl [.int .i64,.int .i64] p24.2.2.2.2],AV.bool false])))))
 else none):=by kernel_rfl
theorem r101 (xa xb xc a1:List AV) (h:q101 xa xb xc a1=true):funA c101 0 101 [AV.agg [AV.sl [.int .i64] xa,AV.sl [.int .i64] xb,AV.sl [.int .i64,.int .i64] xc],AV.sl [.int .i64,.int .i64] a1]=some (AV.tup [AV.agg [AV.fl [.int .i64] (v101_0 xa xb xc a1),AV.fl [.int .i64] (v101_1 xa xb xc a1),AV.fl [.int .i64,.int .i64] (v101_2 xa xb xc a1)],AV.bool (v101_3 xa xb xc a1)]):=by
 refine (e101 xa xb xc a1).trans ?_
 unfold q101 at h
 unfold v101_0 v101_1 v101_2 v101_3
 refine ifG (fun hc=>?_) (fun hc=>?_) <;> first|rw [hc] at h ⊢|rw [hc] at h|rw [hc]|skip
 ·refine ifG (fun hc=>?_) (fun hc=>?_) <;> first|rw [hc] at h ⊢|rw [hc] at h|rw [hc]|skip
  ·rfl
  ·refine roG (fun hc=>?_) (fun r hc=>?_) <;> first|rw [hc] at h ⊢|rw [hc] at h|rw [hc]|skip
   ·exact Bool.noConfusion h
   ·try simp only [ro] at h ⊢
    cases r with
    | inl p23 =>
     try simp only [sumE] at h ⊢
     rfl
    | inr p24 =>
     try simp only [sumE] at h ⊢
     rfl
 ·first|exact Bool.noConfusion h|exact Bool.noConfusion hc
def m101:TModel
 | [.agg [.sl g0 xa,.sl g1 xb,.sl g2 xc],.sl g3 a1]=>bif ctsEq g0 ([.int .i64]) && ctsEq g1 ([.int .i64]) && ctsEq g2 ([.int .i64,.int .i64]) && ctsEq g3 ([.int .i64,.int .i64]) then some (q101 xa xb xc a1,AV.tup [AV.agg [AV.fl [.int .i64] (v101_0 xa xb xc a1),AV.fl [.int .i64] (v101_1 xa xb xc a1),AV.fl [.int .i64,.int .i64] (v101_2 xa xb xc a1)],AV.bool (v101_3 xa xb xc a1)]) else none
 | _=>none
theorem k101:Known Tryd.prog 101:=⟨Tryd.f101,Tryd.func101,by kernel_rfl,by kernel_rfl⟩
theorem meets101:Meets Tryd.prog 101 m101:=by
 refine mt (lvl:=0) (cf:=c101) rfl mixed k101 Tryd.func101 (by kernel_rfl) (loops_cons ok101_0 noLoop) (allT_cons meets38 (allT_cons meets97 allT_nil)) (allM_cons meets115 allM_nil) noI fun xs r h=>?_
 unfold m101 at h
 split at h
 ·rename_i g0 xa g1 xb g2 xc g3 a1
  obtain ⟨hg,h⟩:=bif_pair h
  simp only [Bool.and_eq_true] at hg
  obtain ⟨⟨⟨q0,q1⟩,q2⟩,q3⟩:=hg
  obtain rfl:=cE q0
  obtain rfl:=cE q1
  obtain rfl:=cE q2
  obtain rfl:=cE q3
  obtain ⟨h1,rfl⟩:=pair_inj h
  exact r101 xa xb xc a1 h1
 ·cases h
def G102_0 {β:Type} (h0:List AV) (h1:List AV) (h2_0:List AV) (h2_1:List AV) (h2_2:List AV) (h4_0:Int) (h4_1:Int) (t7:Bool) (t8:Int) (h3:List AV) (N:((Bool × Int × (List AV)))→β) (K:((Bool × (List AV)))→β) (d:β):β:=(bif decide (t8<(h2_2.length:Int)) then (bif !t7 then (bif (decide (0≤t8) && decide (t8<(h2_2.length:Int))) then (bif decide (fI (h2_2.getD t8.toNat .undef) 0 > h4_0) then (bif (decide ((h3.length+([AV.agg [AV.int .i64 h4_0,AV.int .i64 h4_1]]).length)*16≤140737488355328) && decide ((h3.length+([AV.agg [AV.int .i64 h4_0,AV.int .i64 h4_1]]).length)≤140737488355328)) then (bif (decide (0≤t8) && decide (t8<(h2_2.length:Int))) then (bif (decide (((h3++([AV.agg [AV.int .i64 h4_0,AV.int .i64 h4_1]])).length+([AV.agg [AV.int .i64 (fI (h2_2.getD t8.toNat .undef) 0),AV.int .i64 (fI (h2_2.getD t8.toNat .undef) 1)]]).length)*16≤140737488355328) && decide (((h3++([AV.agg [AV.int .i64 h4_0,AV.int .i64 h4_1]])).length+([AV.agg [AV.int .i64 (fI (h2_2.getD t8.toNat .undef) 0),AV.int .i64 (fI (h2_2.getD t8.toNat .undef) 1)]]).length)≤140737488355328)) then N (true,IntKind.i64.wrap (t8+1),(h3++([AV.agg [AV.int .i64 h4_0,AV.int .i64 h4_1]]))++([AV.agg [AV.int .i64 (fI (h2_2.getD t8.toNat .undef) 0),AV.int .i64 (fI (h2_2.getD t8.toNat .undef) 1)]]))
 else d)
 else d)
 else d)
 else (bif (decide (0≤t8) && decide (t8<(h2_2.length:Int))) then (bif (decide ((h3.length+([AV.agg [AV.int .i64 (fI (h2_2.getD t8.toNat .undef) 0),AV.int .i64 (fI (h2_2.getD t8.toNat .undef) 1)]]).length)*16≤140737488355328) && decide ((h3.length+([AV.agg [AV.int .i64 (fI (h2_2.getD t8.toNat .undef) 0),AV.int .i64 (fI (h2_2.getD t8.toNat .undef) 1)]]).length)≤140737488355328)) then N (t7,IntKind.i64.wrap (t8+1),h3++([AV.agg [AV.int .i64 (fI (h2_2.getD t8.toNat .undef) 0),AV.int .i64 (fI (h2_2.getD t8.toNat .undef) 1)]]))
 else d)
 else d))
 else d)
 else (bif (decide (0≤t8) && decide (t8<(h2_2.length:Int))) then (bif (decide ((h3.length+([AV.agg [AV.int .i64 (fI (h2_2.getD t8.toNat .undef) 0),AV.int .i64 (fI (h2_2.getD t8.toNat .undef) 1)]]).length)*16≤140737488355328) && decide ((h3.length+([AV.agg [AV.int .i64 (fI (h2_2.getD t8.toNat .undef) 0),AV.int .i64 (fI (h2_2.getD t8.toNat .undef) 1)]]).length)≤140737488355328)) then N (t7,IntKind.i64.wrap (t8+1),h3++([AV.agg [AV.int .i64 (fI (h2_2.getD t8.toNat .undef) 0),AV.int .i64 (fI (h2_2.getD t8.toNat .undef) 1)]]))
 else d)
 else d))
 else K (t7,h3))
def F102_0 (h0 h1 h2_0 h2_1 h2_2:List AV) (h4_0 h4_1:Int) (t7:Bool) (t8:Int) (h3:List AV):Out ((Bool × Int × (List AV))) ((Bool × (List AV))):=G102_0 h0 h1 h2_0 h2_1 h2_2 h4_0 h4_1 t7 t8 h3 .next .stop .fail
def R102_0 (h0 h1 h2_0 h2_1 h2_2:List AV) (h4_0 h4_1:Int):((Bool × Int × (List AV)))→Out ((Bool × Int × (List AV))) ((Bool × (List AV))):=fun s:Bool × Int × (List AV)=>F102_0 h0 h1 h2_0 h2_1 h2_2 h4_0 h4_1 s.1 s.2.1 s.2.2
def E102_0 (h0 h1 h2_0 h2_1 h2_2:List AV) (h4_0 h4_1:Int):((Bool × Int × (List AV)))→St:=fun s:Bool × Int × (List AV)=>⟨[(2,AV.ptr [0,2] 0 0),(3,AV.ptr [0,3] 0 0),(4,AV.ptr [0,4] 0 0),(6,AV.ptr [0,6] 0 0),(7,AV.bool s.1),(8,Ai s.2.1)],[([0,0,6],⟨false,[.int .i64],h0⟩),([0,1,6],⟨false,[.int .i64],h1⟩),([0,2],⟨true,[],[AV.agg [AV.sl [.int .i64] h2_0,AV.sl [.int .i64] h2_1,AV.sl [.int .i64,.int .i64] h2_2]]⟩),([0,2,6],⟨false,[.int .i64,.int .i64],s.2.2⟩),([0,3],⟨true,[],[AV.agg [Ai h4_0,Ai h4_1]]⟩),([0,4],⟨true,[],[AV.agg [AV.snil,AV.snil,AV.snil]]⟩),([0,6],⟨true,[],[AV.agg [AV.own [0,0,6],AV.own [0,1,6],AV.own [0,2,6]]]⟩)]⟩
def K102_0 (h0 h1 h2_0 h2_1 h2_2:List AV) (h4_0 h4_1:Int) (k:Kont):((Bool × (List AV)))→Option AV:=fun p:Bool × (List AV)=>k (.exit 0) ⟨[(2,AV.ptr [0,2] 0 0),(3,AV.ptr [0,3] 0 0),(4,AV.ptr [0,4] 0 0),(6,AV.ptr [0,6] 0 0),(7,AV.bool p.1)],[([0,0,6],⟨false,[.int .i64],h0⟩),([0,1,6],⟨false,[.int .i64],h1⟩),([0,2],⟨true,[],[AV.agg [AV.sl [.int .i64] h2_0,AV.sl [.int .i64] h2_1,AV.sl [.int .i64,.int .i64] h2_2]]⟩),([0,2,6],⟨false,[.int .i64,.int .i64],p.2⟩),([0,3],⟨true,[],[AV.agg [Ai h4_0,Ai h4_1]]⟩),([0,4],⟨true,[],[AV.agg [AV.snil,AV.snil,AV.snil]]⟩),([0,6],⟨true,[],[AV.agg [AV.own [0,0,6],AV.own [0,1,6],AV.own [0,2,6]]]⟩)]⟩
def l102_0:LModel:=fun _ _ st k=>match st with
 | ⟨[(2,.ptr g0 g1 g2),(3,.ptr g3 g4 g5),(4,.ptr g6 g7 g8),(6,.ptr g9 g10 g11),(7,.bool t7),(8,.int .i64 t8)],[(g12,⟨false,g13,h0⟩),(g14,⟨false,g15,h1⟩),(g16,⟨true,[],[.agg [.sl g17 h2_0,.sl g18 h2_1,.sl g19 h2_2]]⟩),(g20,⟨false,g21,h3⟩),(g22,⟨true,[],[.agg [.int .i64 h4_0,.int .i64 h4_1]]⟩),(g23,⟨true,[],[.agg [.snil,.snil,.snil]]⟩),(g24,⟨true,[],[.agg [.own g25,.own g26,.own g27]]⟩)]⟩=>bif nmEq g0 ([0,2]) && Nat.beq g1 0 && Nat.beq g2 0 && nmEq g3 ([0,3]) && Nat.beq g4 0 && Nat.beq g5 0 && nmEq g6 ([0,4]) && Nat.beq g7 0 && Nat.beq g8 0 && nmEq g9 ([0,6]) && Nat.beq g10 0 && Nat.beq g11 0 && nmEq g12 ([0,0,6]) && ctsEq g13 ([.int .i64]) && nmEq g14 ([0,1,6]) && ctsEq g15 ([.int .i64]) && nmEq g16 ([0,2]) && ctsEq g17 ([.int .i64]) && ctsEq g18 ([.int .i64]) && ctsEq g19 ([.int .i64,.int .i64]) && nmEq g20 ([0,2,6]) && ctsEq g21 ([.int .i64,.int .i64]) && nmEq g22 ([0,3]) && nmEq g23 ([0,4]) && nmEq g24 ([0,6]) && nmEq g25 ([0,0,6]) && nmEq g26 ([0,1,6]) && nmEq g27 ([0,2,6]) then ro (runW (R102_0 h0 h1 h2_0 h2_1 h2_2 h4_0 h4_1) (((h2_2.length:Int) - t8:Int).toNat+1) (t7,t8,h3)) none (K102_0 h0 h1 h2_0 h2_1 h2_2 h4_0 h4_1 k) else none
 | _=>none
noncomputable def c102:Cfg:=cfg Tryd.prog [(102,0,[2,3,4,6,7,8]),(102,999,[4,5]),(102,1000,[2,3,4,6,7]),(102,1001,[2,3,4,6,7,8])] [(12,m12),(97,m97)] [] [] [(102,0,l102_0)]
theorem s102_0 (h0 h1 h2_0 h2_1 h2_2:List AV) (h4_0 h4_1:Int) (ce:CallE) (k:Kont) (s:Bool × Int × (List AV)) (next:St→Option AV):stepA (codeA c102 ce [] 102 0 (sub [1,1,1,1,0,1,0,0] (body Tryd.f102))) (normA [] [2,3,4,6,7,8]) next ((E102_0 h0 h1 h2_0 h2_1 h2_2 h4_0 h4_1) s) k=G102_0 h0 h1 h2_0 h2_1 h2_2 h4_0 h4_1 s.1 s.2.1 s.2.2 (fun s=>next ((E102_0 h0 h1 h2_0 h2_1 h2_2 h4_0 h4_1) s)) (K102_0 h0 h1 h2_0 h2_1 h2_2 h4_0 h4_1 k) none:=by kernel_rfl
theorem st102_0 (h0 h1 h2_0 h2_1 h2_2:List AV) (h4_0 h4_1:Int) (ce:CallE) (k:Kont) (s:(Bool × Int × (List AV))) (next:St→Option AV):stepA (codeA c102 ce [] 102 0 (sub [1,1,1,1,0,1,0,0] (body Tryd.f102))) (normA [] [2,3,4,6,7,8]) next ((E102_0 h0 h1 h2_0 h2_1 h2_2 h4_0 h4_1) s) k=(R102_0 h0 h1 h2_0 h2_1 h2_2 h4_0 h4_1 s).el none (fun s=>next ((E102_0 h0 h1 h2_0 h2_1 h2_2 h4_0 h4_1) s)) (K102_0 h0 h1 h2_0 h2_1 h2_2 h4_0 h4_1 k):=(s102_0 h0 h1 h2_0 h2_1 h2_2 h4_0 h4_1 ce k s next).trans (by unfold R102_0;unfold F102_0 G102_0;simp only [el_cond,el_ro,el_sum,el_fail,el_next,el_stop] <;> rfl)
theorem ok102_0 {ce:CallE}:LoopOK c102 ce [] 102 0 (sub [1,1,1,1,0,1,0,0] (body Tryd.f102)):=by
 intro m hm st k r h
 obtain rfl:l102_0=m:=Option.some.inj hm
 unfold l102_0 at h
 split at h
 ·rename_i g0 g1 g2 g3 g4 g5 g6 g7 g8 g9 g10 g11 t7 t8 g12 g13 h0 g14 g15 h1 g16 g17 h2_0 g18 h2_1 g19 h2_2 g20 g21 h3 g22 h4_0 h4_1 g23 g24 g25 g26 g27
  obtain ⟨hg,h⟩:=bif_some h
  simp only [Bool.and_eq_true] at hg
  obtain ⟨⟨⟨⟨⟨⟨⟨⟨⟨⟨⟨⟨⟨⟨⟨⟨⟨⟨⟨⟨⟨⟨⟨⟨⟨⟨⟨q0,q1⟩,q2⟩,q3⟩,q4⟩,q5⟩,q6⟩,q7⟩,q8⟩,q9⟩,q10⟩,q11⟩,q12⟩,q13⟩,q14⟩,q15⟩,q16⟩,q17⟩,q18⟩,q19⟩,q20⟩,q21⟩,q22⟩,q23⟩,q24⟩,q25⟩,q26⟩,q27⟩:=hg
  obtain rfl:=nE q0
  obtain rfl:=bE q1
  obtain rfl:=bE q2
  obtain rfl:=nE q3
  obtain rfl:=bE q4
  obtain rfl:=bE q5
  obtain rfl:=nE q6
  obtain rfl:=bE q7
  obtain rfl:=bE q8
  obtain rfl:=nE q9
  obtain rfl:=bE q10
  obtain rfl:=bE q11
  obtain rfl:=nE q12
  obtain rfl:=cE q13
  obtain rfl:=nE q14
  obtain rfl:=cE q15
  obtain rfl:=nE q16
  obtain rfl:=cE q17
  obtain rfl:=cE q18
  obtain rfl:=cE q19
  obtain rfl:=nE q20
  obtain rfl:=cE q21
  obtain rfl:=nE q22
  obtain rfl:=nE q23
  obtain rfl:=nE q24
  obtain rfl:=nE q25
  obtain rfl:=nE q26
  obtain rfl:=nE q27
  refine ⟨(((h2_2.length:Int) - t8:Int).toNat+1),?_⟩
  rw [← h]
  exact loop_run (E102_0 h0 h1 h2_0 h2_1 h2_2 h4_0 h4_1) (K102_0 h0 h1 h2_0 h2_1 h2_2 h4_0 h4_1 k) (st102_0 h0 h1 h2_0 h2_1 h2_2 h4_0 h4_1 ce k) _ (t7,t8,h3)
 ·cases h
def q102 (xa xb xc:List AV) (ya yb:Int):Bool:=(q97 xa xb xc && (ro (runW (R102_0 (v97_0 xa xb xc) (v97_1 xa xb xc) xa xb xc ya yb) (((xc.length:Int) - 0:Int).toNat+1) (false,0,([]:List AV))) false (fun p25=>(bif !p25.1 then ((decide ((p25.2.length+([AV.agg [AV.int .i64 ya,AV.int .i64 yb]]).length)*16≤140737488355328) && decide ((p25.2.length+([AV.agg [AV.int .i64 ya,AV.int .i64 yb]]).length)≤140737488355328)) && (q12 xa xb xc && (bif !(v12_0 xa xb xc) then q97 xa xb xc else (q12 (v97_0 xa xb xc) (v97_1 xa xb xc) (p25.2++([AV.agg [AV.int .i64 ya,AV.int .i64 yb]])) && (bif !(v12_0 (v97_0 xa xb xc) (v97_1 xa xb xc) (p25.2++([AV.agg [AV.int .i64 ya,AV.int .i64 yb]]))) then q97 xa xb xc else true))))) else (q12 xa xb xc && (bif !(v12_0 xa xb xc) then q97 xa xb xc else (q12 (v97_0 xa xb xc) (v97_1 xa xb xc) p25.2 && (bif !(v12_0 (v97_0 xa xb xc) (v97_1 xa xb xc) p25.2) then q97 xa xb xc else true))))))))
def v102_0 (xa xb xc:List AV) (ya yb:Int):List AV:=(v97_0 xa xb xc)
def v102_1 (xa xb xc:List AV) (ya yb:Int):List AV:=(v97_1 xa xb xc)
def v102_2 (xa xb xc:List AV) (ya yb:Int):List AV:=(ro (runW (R102_0 (v97_0 xa xb xc) (v97_1 xa xb xc) xa xb xc ya yb) (((xc.length:Int) - 0:Int).toNat+1) (false,0,([]:List AV))) [] (fun p25=>(bif !p25.1 then (bif !(v12_0 xa xb xc) then (v97_2 xa xb xc) else (bif !(v12_0 (v97_0 xa xb xc) (v97_1 xa xb xc) (p25.2++([AV.agg [AV.int .i64 ya,AV.int .i64 yb]]))) then (v97_2 xa xb xc) else p25.2++([AV.agg [AV.int .i64 ya,AV.int .i64 yb]]))) else (bif !(v12_0 xa xb xc) then (v97_2 xa xb xc) else (bif !(v12_0 (v97_0 xa xb xc) (v97_1 xa xb xc) p25.2) then (v97_2 xa xb xc) else p25.2)))))
def v102_3 (xa xb xc:List AV) (ya yb:Int):Bool:=(ro (runW (R102_0 (v97_0 xa xb xc) (v97_1 xa xb xc) xa xb xc ya yb) (((xc.length:Int) - 0:Int).toNat+1) (false,0,([]:List AV))) false (fun p25=>(bif !p25.1 then (bif !(v12_0 xa xb xc) then false else (bif !(v12_0 (v97_0 xa xb xc) (v97_1 xa xb xc) (p25.2++([AV.agg [AV.int .i64 ya,AV.int .i64 yb]]))) then false else true)) else (bif !(v12_0 xa xb xc) then false else (bif !(v12_0 (v97_0 xa xb xc) (v97_1 xa xb xc) p25.2) then false else true)))))
theorem e102 (xa xb xc:List AV) (ya yb:Int):funA c102 0 102 [AV.agg [AV.sl [.int .i64] xa,AV.sl [.int .i64] xb,AV.sl [.int .i64,.int .i64] xc],AV.agg [Ai ya,Ai yb]]=((fun (x1:List AV) (x2:List AV) (x3:List AV)=>(bif q97 xa xb xc then (ro (runW (R102_0 x1 x2 xa xb xc ya yb) (((xc.length:Int) - 0:Int).toNat+1) (false,0,([]:List AV))) none (fun p25=>(bif !p25.1 then (bif (decide ((p25.2.length+([AV.agg [Ai ya,Ai yb]]).length)*16≤140737488355328) && decide ((p25.2.length+([AV.agg [Ai ya,Ai yb]]).length)≤140737488355328)) then (bif q12 xa xb xc then (bif !(v12_0 xa xb xc) then (bif q97 xa xb xc then some (AV.tup [AV.agg [AV.fl [.int .i64] x1,AV.fl [.int .i64] x2,AV.fl [.int .i64,.int .i64] x3],AV.bool false])
 else none)
 else (bif q12 x1 x2 (p25.2++([AV.agg [Ai ya,Ai yb]])) then (bif !(v12_0 x1 x2 (p25.2++([AV.agg [Ai ya,Ai yb]]))) then (bif q97 xa xb xc then some (AV.tup [AV.agg [AV.fl [.int .i64] x1,AV.fl [.int .i64] x2,AV.fl [.int .i64,.int .i64] x3],AV.bool false])
 else none)
 else some (AV.tup [AV.agg [AV.fl [.int .i64] x1,AV.fl [.int .i64] x2,AV.fl [.int .i64,.int .i64] (p25.2++([AV.agg [Ai ya,Ai yb]]))],AV.bool true]))
 else none))
 else none)
 else none)
 else (bif q12 xa xb xc then (bif !(v12_0 xa xb xc) then (bif q97 xa xb xc then some (AV.tup [AV.agg [AV.fl [.int .i64] x1,AV.fl [.int .i64] x2,AV.fl [.int .i64,.int .i64] x3],AV.bool false])
 else none)
 else (bif q12 x1 x2 p25.2 then (bif !(v12_0 x1 x2 p25.2) then (bif q97 xa xb xc then some (AV.tup [AV.agg [AV.fl [.int .i64] x1,AV.fl [.int .i64] x2,AV.fl [.int .i64,.int .i64] x3],AV.bool false])
 else none)
 else some (AV.tup [AV.agg [AV.fl [.int .i64] x1,AV.fl [.int .i64] x2,AV.fl [.int .i64,.int .i64] p25.2],AV.bool true]))
 else none))
 else none))))
 else none)) (v97_0 xa xb xc) (v97_1 xa xb xc) (v97_2 xa xb xc)):=by kernel_rfl
theorem r102 (xa xb xc:List AV) (ya yb:Int) (h:q102 xa xb xc ya yb=true):funA c102 0 102 [AV.agg [AV.sl [.int .i64] xa,AV.sl [.int .i64] xb,AV.sl [.int .i64,.int .i64] xc],AV.agg [AV.int .i64 ya,AV.int .i64 yb]]=some (AV.tup [AV.agg [AV.fl [.int .i64] (v102_0 xa xb xc ya yb),AV.fl [.int .i64] (v102_1 xa xb xc ya yb),AV.fl [.int .i64,.int .i64] (v102_2 xa xb xc ya yb)],AV.bool (v102_3 xa xb xc ya yb)]):=by
 refine (e102 xa xb xc ya yb).trans ?_
 unfold q102 at h
 unfold v102_0 v102_1 v102_2 v102_3
 refine ifG (fun hc=>?_) (fun hc=>?_) <;> first|rw [hc] at h ⊢|rw [hc] at h|rw [hc]|skip
 ·refine roG (fun hc=>?_) (fun r hc=>?_) <;> first|rw [hc] at h ⊢|rw [hc] at h|rw [hc]|skip
  ·exact Bool.noConfusion h
  ·try simp only [ro] at h ⊢
   refine ifG (fun hc=>?_) (fun hc=>?_) <;> first|rw [hc] at h ⊢|rw [hc] at h|rw [hc]|skip
   ·refine ifG (fun hc=>?_) (fun hc=>?_) <;> first|rw [hc] at h ⊢|rw [hc] at h|rw [hc]|skip
    ·refine ifG (fun hc=>?_) (fun hc=>?_) <;> first|rw [hc] at h ⊢|rw [hc] at h|rw [hc]|skip
     ·refine ifG (fun hc=>?_) (fun hc=>?_) <;> first|rw [hc] at h ⊢|rw [hc] at h|rw [hc]|skip
      ·refine ifT ?_
       rfl
      ·refine ifG (fun hc=>?_) (fun hc=>?_) <;> first|rw [hc] at h ⊢|rw [hc] at h|rw [hc]|skip
       ·refine ifG (fun hc=>?_) (fun hc=>?_) <;> first|rw [hc] at h ⊢|rw [hc] at h|rw [hc]|skip
        ·refine ifT ?_
         rfl
        ·rfl
       ·first|exact Bool.noConfusion h|exact Bool.noConfusion hc
     ·first|exact Bool.noConfusion h|exact Bool.noConfusion hc
    ·first|exact Bool.noConfusion h|exact Bool.noConfusion hc
   ·refine ifG (fun hc=>?_) (fun hc=>?_) <;> first|rw [hc] at h ⊢|rw [hc] at h|rw [hc]|skip
    ·refine ifG (fun hc=>?_) (fun hc=>?_) <;> first|rw [hc] at h ⊢|rw [hc] at h|rw [hc]|skip
     ·refine ifT ?_
      rfl
     ·refine ifG (fun hc=>?_) (fun hc=>?_) <;> first|rw [hc] at h ⊢|rw [hc] at h|rw [hc]|skip
      ·refine ifG (fun hc=>?_) (fun hc=>?_) <;> first|rw [hc] at h ⊢|rw [hc] at h|rw [hc]|skip
       ·refine ifT ?_
        rfl
       ·rfl
      ·first|exact Bool.noConfusion h|exact Bool.noConfusion hc
    ·first|exact Bool.noConfusion h|exact Bool.noConfusion hc
 ·first|exact Bool.noConfusion h|exact Bool.noConfusion hc
def m102:TModel
 | [.agg [.sl g0 xa,.sl g1 xb,.sl g2 xc],.agg [.int .i64 ya,.int .i64 yb]]=>bif ctsEq g0 ([.int .i64]) && ctsEq g1 ([.int .i64]) && ctsEq g2 ([.int .i64,.int .i64]) then some (q102 xa xb xc ya yb,AV.tup [AV.agg [AV.fl [.int .i64] (v102_0 xa xb xc ya yb),AV.fl [.int .i64] (v102_1 xa xb xc ya yb),AV.fl [.int .i64,.int .i64] (v102_2 xa xb xc ya yb)],AV.bool (v102_3 xa xb xc ya yb)]) else none
 | _=>none
theorem k102:Known Tryd.prog 102:=⟨Tryd.f102,Tryd.func102,by kernel_rfl,by kernel_rfl⟩
theorem meets102:Meets Tryd.prog 102 m102:=by
 refine mt (lvl:=0) (cf:=c102) rfl mixed k102 Tryd.func102 (by kernel_rfl) (loops_cons ok102_0 noLoop) (allT_cons meets12 (allT_cons meets97 allT_nil)) allM_nil noI fun xs r h=>?_
 unfold m102 at h
 split at h
 ·rename_i g0 xa g1 xb g2 xc ya yb
  obtain ⟨hg,h⟩:=bif_pair h
  simp only [Bool.and_eq_true] at hg
  obtain ⟨⟨q0,q1⟩,q2⟩:=hg
  obtain rfl:=cE q0
  obtain rfl:=cE q1
  obtain rfl:=cE q2
  obtain ⟨h1,rfl⟩:=pair_inj h
  exact r102 xa xb xc ya yb h1
 ·cases h
noncomputable def c83:Cfg:=cfg Tryd.prog [(83,999,[4,5,6])] [(12,m12),(38,m38),(97,m97),(98,m98),(99,m99),(100,m100),(101,m101),(102,m102)] [] [] []
def q83 (xa xb xc:List AV) (a1:Int):Bool:=(q12 xa xb xc && (bif !(v12_0 xa xb xc) then q97 xa xb xc else (bif !(v38_0 a1 (-1000) 1000) then q97 xa xb xc else (q98 xa xb xc a1 && (bif (v98_1 xa xb xc a1) then q97 xa xb xc else (q99 xa xb xc a1 && (q100 xa (v99_0 xa xb xc a1) (v99_1 xa xb xc a1) a1 && (q101 xa xb xc (v100_0 xa (v99_0 xa xb xc a1) (v99_1 xa xb xc a1) a1) && q102 (v101_0 xa xb xc (v100_0 xa (v99_0 xa xb xc a1) (v99_1 xa xb xc a1) a1)) (v101_1 xa xb xc (v100_0 xa (v99_0 xa xb xc a1) (v99_1 xa xb xc a1) a1)) (v101_2 xa xb xc (v100_0 xa (v99_0 xa xb xc a1) (v99_1 xa xb xc a1) a1)) a1 (v100_1 xa (v99_0 xa xb xc a1) (v99_1 xa xb xc a1) a1)))))))))
def v83_0 (xa xb xc:List AV) (a1:Int):List AV:=(bif !(v12_0 xa xb xc) then (v97_0 xa xb xc) else (bif !(v38_0 a1 (-1000) 1000) then (v97_0 xa xb xc) else (bif (v98_1 xa xb xc a1) then (v97_0 xa xb xc) else (v102_0 (v101_0 xa xb xc (v100_0 xa (v99_0 xa xb xc a1) (v99_1 xa xb xc a1) a1)) (v101_1 xa xb xc (v100_0 xa (v99_0 xa xb xc a1) (v99_1 xa xb xc a1) a1)) (v101_2 xa xb xc (v100_0 xa (v99_0 xa xb xc a1) (v99_1 xa xb xc a1) a1)) a1 (v100_1 xa (v99_0 xa xb xc a1) (v99_1 xa xb xc a1) a1)))))
def v83_1 (xa xb xc:List AV) (a1:Int):List AV:=(bif !(v12_0 xa xb xc) then (v97_1 xa xb xc) else (bif !(v38_0 a1 (-1000) 1000) then (v97_1 xa xb xc) else (bif (v98_1 xa xb xc a1) then (v97_1 xa xb xc) else (v102_1 (v101_0 xa xb xc (v100_0 xa (v99_0 xa xb xc a1) (v99_1 xa xb xc a1) a1)) (v101_1 xa xb xc (v100_0 xa (v99_0 xa xb xc a1) (v99_1 xa xb xc a1) a1)) (v101_2 xa xb xc (v100_0 xa (v99_0 xa xb xc a1) (v99_1 xa xb xc a1) a1)) a1 (v100_1 xa (v99_0 xa xb xc a1) (v99_1 xa xb xc a1) a1)))))
def v83_2 (xa xb xc:List AV) (a1:Int):List AV:=(bif !(v12_0 xa xb xc) then (v97_2 xa xb xc) else (bif !(v38_0 a1 (-1000) 1000) then (v97_2 xa xb xc) else (bif (v98_1 xa xb xc a1) then (v97_2 xa xb xc) else (v102_2 (v101_0 xa xb xc (v100_0 xa (v99_0 xa xb xc a1) (v99_1 xa xb xc a1) a1)) (v101_1 xa xb xc (v100_0 xa (v99_0 xa xb xc a1) (v99_1 xa xb xc a1) a1)) (v101_2 xa xb xc (v100_0 xa (v99_0 xa xb xc a1) (v99_1 xa xb xc a1) a1)) a1 (v100_1 xa (v99_0 xa xb xc a1) (v99_1 xa xb xc a1) a1)))))
def v83_3 (xa xb xc:List AV) (a1:Int):List AV:=(bif !(v12_0 xa xb xc) then ([]:List AV) else (bif !(v38_0 a1 (-1000) 1000) then ([]:List AV) else (bif (v98_1 xa xb xc a1) then ([]:List AV) else (v100_0 xa (v99_0 xa xb xc a1) (v99_1 xa xb xc a1) a1))))
def v83_4 (xa xb xc:List AV) (a1:Int):Bool:=(bif !(v12_0 xa xb xc) then false else (bif !(v38_0 a1 (-1000) 1000) then false else true))
theorem e83 (xa xb xc:List AV) (a1:Int):funA c83 0 83 [AV.agg [AV.sl [.int .i64] xa,AV.sl [.int .i64] xb,AV.sl [.int .i64,.int .i64] xc],Ai a1]=((fun (x1:Int) (x2:Int)=>((fun (x3:List AV) (x4:Int)=>((fun (x5:List AV) (x6:List AV) (x7:List AV)=>(bif q12 xa xb xc then (bif !(v12_0 xa xb xc) then (bif q97 xa xb xc then some (AV.tup [AV.agg [AV.fl [.int .i64] (v97_0 xa xb xc),AV.fl [.int .i64] (v97_1 xa xb xc),AV.fl [.int .i64,.int .i64] (v97_2 xa xb xc)],AV.fl [.int .i64,.int .i64] ([]:List AV),AV.bool false])
 else none)
 else (bif !(v38_0 a1 (-1000) 1000) then (bif q97 xa xb xc then some (AV.tup [AV.agg [AV.fl [.int .i64] (v97_0 xa xb xc),AV.fl [.int .i64] (v97_1 xa xb xc),AV.fl [.int .i64,.int .i64] (v97_2 xa xb xc)],AV.fl [.int .i64,.int .i64] ([]:List AV),AV.bool false])
 else none)
 else (bif q98 xa xb xc a1 then (bif (v98_1 xa xb xc a1) then (bif q97 xa xb xc then some (AV.tup [AV.agg [AV.fl [.int .i64] (v97_0 xa xb xc),AV.fl [.int .i64] (v97_1 xa xb xc),AV.fl [.int .i64,.int .i64] (v97_2 xa xb xc)],AV.fl [.int .i64,.int .i64] ([]:List AV),AV.bool true])
 else none)
 else (bif q99 xa xb xc a1 then (bif q100 xa x1 x2 a1 then (bif q101 xa xb xc x3 then (bif q102 x5 x6 x7 a1 x4 then some (AV.tup [AV.agg [AV.fl [.int .i64] (v102_0 x5 x6 x7 a1 x4),AV.fl [.int .i64] (v102_1 x5 x6 x7 a1 x4),AV.fl [.int .i64,.int .i64] (v102_2 x5 x6 x7 a1 x4)],AV.fl [.int .i64,.int .i64] x3,AV.bool true])
 else none)
 else none)
 else none)
 else none))
 else none)))
 else none)) (v101_0 xa xb xc x3) (v101_1 xa xb xc x3) (v101_2 xa xb xc x3))) (v100_0 xa x1 x2 a1) (v100_1 xa x1 x2 a1))) (v99_0 xa xb xc a1) (v99_1 xa xb xc a1)):=by kernel_rfl
theorem r83 (xa xb xc:List AV) (a1:Int) (h:q83 xa xb xc a1=true):funA c83 0 83 [AV.agg [AV.sl [.int .i64] xa,AV.sl [.int .i64] xb,AV.sl [.int .i64,.int .i64] xc],AV.int .i64 a1]=some (AV.tup [AV.agg [AV.fl [.int .i64] (v83_0 xa xb xc a1),AV.fl [.int .i64] (v83_1 xa xb xc a1),AV.fl [.int .i64,.int .i64] (v83_2 xa xb xc a1)],AV.fl [.int .i64,.int .i64] (v83_3 xa xb xc a1),AV.bool (v83_4 xa xb xc a1)]):=by
 refine (e83 xa xb xc a1).trans ?_
 unfold q83 at h
 unfold v83_0 v83_1 v83_2 v83_3 v83_4
 refine ifG (fun hc=>?_) (fun hc=>?_) <;> first|rw [hc] at h ⊢|rw [hc] at h|rw [hc]|skip
 ·refine ifG (fun hc=>?_) (fun hc=>?_) <;> first|rw [hc] at h ⊢|rw [hc] at h|rw [hc]|skip
  ·refine ifG (fun hc=>?_) (fun hc=>?_) <;> first|rw [hc] at h ⊢|rw [hc] at h|rw [hc]|skip
   ·rfl
   ·first|exact Bool.noConfusion h|exact Bool.noConfusion hc
  ·refine ifG (fun hc=>?_) (fun hc=>?_) <;> first|rw [hc] at h ⊢|rw [hc] at h|rw [hc]|skip
   ·refine ifG (fun hc=>?_) (fun hc=>?_) <;> first|rw [hc] at h ⊢|rw [hc] at h|rw [hc]|skip
    ·rfl
    ·first|exact Bool.noConfusion h|exact Bool.noConfusion hc
   ·refine ifG (fun hc=>?_) (fun hc=>?_) <;> first|rw [hc] at h ⊢|rw [hc] at h|rw [hc]|skip
    ·refine ifG (fun hc=>?_) (fun hc=>?_) <;> first|rw [hc] at h ⊢|rw [hc] at h|rw [hc]|skip
     ·refine ifG (fun hc=>?_) (fun hc=>?_) <;> first|rw [hc] at h ⊢|rw [hc] at h|rw [hc]|skip
      ·rfl
      ·first|exact Bool.noConfusion h|exact Bool.noConfusion hc
     ·refine ifG (fun hc=>?_) (fun hc=>?_) <;> first|rw [hc] at h ⊢|rw [hc] at h|rw [hc]|skip
      ·refine ifG (fun hc=>?_) (fun hc=>?_) <;> first|rw [hc] at h ⊢|rw [hc] at h|rw [hc]|skip
       ·refine ifG (fun hc=>?_) (fun hc=>?_) <;> first|rw [hc] at h ⊢|rw [hc] at h|rw [hc]|skip
        ·refine ifG (fun hc=>?_) (fun hc=>?_) <;> first|rw [hc] at h ⊢|rw [hc] at h|rw [hc]|skip
         ·rfl
         ·first|exact Bool.noConfusion h|exact Bool.noConfusion hc
        ·first|exact Bool.noConfusion h|exact Bool.noConfusion hc
       ·first|exact Bool.noConfusion h|exact Bool.noConfusion hc
      ·first|exact Bool.noConfusion h|exact Bool.noConfusion hc
    ·first|exact Bool.noConfusion h|exact Bool.noConfusion hc
 ·first|exact Bool.noConfusion h|exact Bool.noConfusion hc
def m83:TModel
 | [.agg [.sl g0 xa,.sl g1 xb,.sl g2 xc],.int .i64 a1]=>bif ctsEq g0 ([.int .i64]) && ctsEq g1 ([.int .i64]) && ctsEq g2 ([.int .i64,.int .i64]) then some (q83 xa xb xc a1,AV.tup [AV.agg [AV.fl [.int .i64] (v83_0 xa xb xc a1),AV.fl [.int .i64] (v83_1 xa xb xc a1),AV.fl [.int .i64,.int .i64] (v83_2 xa xb xc a1)],AV.fl [.int .i64,.int .i64] (v83_3 xa xb xc a1),AV.bool (v83_4 xa xb xc a1)]) else none
 | _=>none
theorem k83:Known Tryd.prog 83:=⟨Tryd.f83,Tryd.func83,by kernel_rfl,by kernel_rfl⟩
theorem meets83:Meets Tryd.prog 83 m83:=by
 refine mt (lvl:=0) (cf:=c83) rfl mixed k83 Tryd.func83 (by kernel_rfl) noLoop (allT_cons meets12 (allT_cons meets38 (allT_cons meets97 (allT_cons meets98 (allT_cons meets99 (allT_cons meets100 (allT_cons meets101 (allT_cons meets102 allT_nil)))))))) allM_nil noI fun xs r h=>?_
 unfold m83 at h
 split at h
 ·rename_i g0 xa g1 xb g2 xc a1
  obtain ⟨hg,h⟩:=bif_pair h
  simp only [Bool.and_eq_true] at hg
  obtain ⟨⟨q0,q1⟩,q2⟩:=hg
  obtain rfl:=cE q0
  obtain rfl:=cE q1
  obtain rfl:=cE q2
  obtain ⟨h1,rfl⟩:=pair_inj h
  exact r83 xa xb xc a1 h1
 ·cases h
def G62_0 {β:Type} (t4:Int) (h0:List AV) (h1:List AV) (h3:List AV) (h5_0:List AV) (h5_1:Int) (h5_2:Int) (N:((Int × (List AV) × (List AV) × (List AV) × (List AV) × Int × Int))→β) (K:(((List AV) × (List AV) × (List AV) × (List AV) × Int × Int))→β) (d:β):β:=by
 refine (?f0:Int→(List AV)→Int→Int→(List AV)→(List AV)→(List AV)→β) (v84_0 h5_0 h5_1 h5_2 h0 h1 h3) (v84_1 h5_0 h5_1 h5_2 h0 h1 h3) (v84_2 h5_0 h5_1 h5_2 h0 h1 h3) (v84_3 h5_0 h5_1 h5_2 h0 h1 h3) (v84_4 h5_0 h5_1 h5_2 h0 h1 h3) (v84_5 h5_0 h5_1 h5_2 h0 h1 h3) (v84_6 h5_0 h5_1 h5_2 h0 h1 h3);intro x1 x2 x3 x4 x5 x6 x7
 exact (bif decide (t4 > 0) then (bif q84 h5_0 h5_1 h5_2 h0 h1 h3 then (bif q83 x5 x6 x7 x1 then N (IntKind.i64.wrap (t4 - 1),(v83_0 x5 x6 x7 x1),(v83_1 x5 x6 x7 x1),(v83_2 x5 x6 x7 x1),x2,x3,x4)
 else d)
 else d)
 else K (h0,h1,h3,h5_0,h5_1,h5_2))
def F62_0 (t4:Int) (h0 h1 h3 h5_0:List AV) (h5_1 h5_2:Int):Out ((Int × (List AV) × (List AV) × (List AV) × (List AV) × Int × Int)) (((List AV) × (List AV) × (List AV) × (List AV) × Int × Int)):=G62_0 t4 h0 h1 h3 h5_0 h5_1 h5_2 .next .stop .fail
def R62_0:((Int × (List AV) × (List AV) × (List AV) × (List AV) × Int × Int))→Out ((Int × (List AV) × (List AV) × (List AV) × (List AV) × Int × Int)) (((List AV) × (List AV) × (List AV) × (List AV) × Int × Int)):=fun s:Int × (List AV) × (List AV) × (List AV) × (List AV) × Int × Int=>F62_0 s.1 s.2.1 s.2.2.1 s.2.2.2.1 s.2.2.2.2.1 s.2.2.2.2.2.1 s.2.2.2.2.2.2
def E62_0:((Int × (List AV) × (List AV) × (List AV) × (List AV) × Int × Int))→St:=fun s:Int × (List AV) × (List AV) × (List AV) × (List AV) × Int × Int=>⟨[(0,AV.ptr [1] 0 0),(2,AV.ptr [0,2,0] 0 0),(3,AV.ptr [0,3,0] 0 0),(4,Ai s.1)],[([0,0,3,0],⟨false,[.int .i64],s.2.1⟩),([0,1,3,0],⟨false,[.int .i64],s.2.2.1⟩),([0,2,0],⟨true,[],[AV.agg [AV.snil,AV.snil,AV.snil]]⟩),([0,2,3,0],⟨false,[.int .i64,.int .i64],s.2.2.2.1⟩),([0,3,0],⟨true,[],[AV.agg [AV.own [0,0,3,0],AV.own [0,1,3,0],AV.own [0,2,3,0]]]⟩),([1],⟨true,[],[AV.agg [AV.sl [.int .u8] s.2.2.2.2.1,Ai s.2.2.2.2.2.1,Ai s.2.2.2.2.2.2]]⟩)]⟩
def K62_0 (k:Kont):(((List AV) × (List AV) × (List AV) × (List AV) × Int × Int))→Option AV:=fun p:(List AV) × (List AV) × (List AV) × (List AV) × Int × Int=>k (.exit 0) ⟨[(2,AV.ptr [0,2,0] 0 0),(3,AV.ptr [0,3,0] 0 0)],[([0,0,3,0],⟨false,[.int .i64],p.1⟩),([0,1,3,0],⟨false,[.int .i64],p.2.1⟩),([0,2,0],⟨true,[],[AV.agg [AV.snil,AV.snil,AV.snil]]⟩),([0,2,3,0],⟨false,[.int .i64,.int .i64],p.2.2.1⟩),([0,3,0],⟨true,[],[AV.agg [AV.own [0,0,3,0],AV.own [0,1,3,0],AV.own [0,2,3,0]]]⟩),([1],⟨true,[],[AV.agg [AV.sl [.int .u8] p.2.2.2.1,Ai p.2.2.2.2.1,Ai p.2.2.2.2.2]]⟩)]⟩
def l62_0:LModel:=fun _ _ st k=>match st with
 | ⟨[(0,.ptr g0 g1 g2),(2,.ptr g3 g4 g5),(3,.ptr g6 g7 g8),(4,.int .i64 t4)],[(g9,⟨false,g10,h0⟩),(g11,⟨false,g12,h1⟩),(g13,⟨true,[],[.agg [.snil,.snil,.snil]]⟩),(g14,⟨false,g15,h3⟩),(g16,⟨true,[],[.agg [.own g17,.own g18,.own g19]]⟩),(g20,⟨true,[],[.agg [.sl g21 h5_0,.int .i64 h5_1,.int .i64 h5_2]]⟩)]⟩=>bif nmEq g0 ([1]) && Nat.beq g1 0 && Nat.beq g2 0 && nmEq g3 ([0,2,0]) && Nat.beq g4 0 && Nat.beq g5 0 && nmEq g6 ([0,3,0]) && Nat.beq g7 0 && Nat.beq g8 0 && nmEq g9 ([0,0,3,0]) && ctsEq g10 ([.int .i64]) && nmEq g11 ([0,1,3,0]) && ctsEq g12 ([.int .i64]) && nmEq g13 ([0,2,0]) && nmEq g14 ([0,2,3,0]) && ctsEq g15 ([.int .i64,.int .i64]) && nmEq g16 ([0,3,0]) && nmEq g17 ([0,0,3,0]) && nmEq g18 ([0,1,3,0]) && nmEq g19 ([0,2,3,0]) && nmEq g20 ([1]) && ctsEq g21 ([.int .u8]) then ro (runW (R62_0) ((t4 - 0:Int).toNat+1) (t4,h0,h1,h3,h5_0,h5_1,h5_2)) none (K62_0 k) else none
 | _=>none
noncomputable def c62:Cfg:=cfg Tryd.prog [(62,0,[0,2,3,4]),(62,999,[2]),(62,1000,[2,3]),(62,1001,[0,2,3,4])] [(81,m81),(83,m83)] [(49,.g m49),(82,.g m82),(84,.g m84)] [] [(62,0,l62_0)]
theorem s62_0 (ce:CallE) (k:Kont) (s:Int × (List AV) × (List AV) × (List AV) × (List AV) × Int × Int) (next:St→Option AV):stepA (codeA c62 ce [0] 62 0 (sub [1,1,0,1,0,0] (body Tryd.f62))) (normA [0] [0,2,3,4]) next (E62_0 s) k=G62_0 s.1 s.2.1 s.2.2.1 s.2.2.2.1 s.2.2.2.2.1 s.2.2.2.2.2.1 s.2.2.2.2.2.2 (fun s=>next (E62_0 s)) (K62_0 k) none:=by kernel_rfl
theorem st62_0 (ce:CallE) (k:Kont) (s:(Int × (List AV) × (List AV) × (List AV) × (List AV) × Int × Int)) (next:St→Option AV):stepA (codeA c62 ce [0] 62 0 (sub [1,1,0,1,0,0] (body Tryd.f62))) (normA [0] [0,2,3,4]) next (E62_0 s) k=(R62_0 s).el none (fun s=>next (E62_0 s)) (K62_0 k):=(s62_0 ce k s next).trans (by unfold R62_0;unfold F62_0 G62_0;simp only [el_cond,el_ro,el_sum,el_fail,el_next,el_stop] <;> rfl)
theorem ok62_0 {ce:CallE}:LoopOK c62 ce [0] 62 0 (sub [1,1,0,1,0,0] (body Tryd.f62)):=by
 intro m hm st k r h
 obtain rfl:l62_0=m:=Option.some.inj hm
 unfold l62_0 at h
 split at h
 ·rename_i g0 g1 g2 g3 g4 g5 g6 g7 g8 t4 g9 g10 h0 g11 g12 h1 g13 g14 g15 h3 g16 g17 g18 g19 g20 g21 h5_0 h5_1 h5_2
  obtain ⟨hg,h⟩:=bif_some h
  simp only [Bool.and_eq_true] at hg
  obtain ⟨⟨⟨⟨⟨⟨⟨⟨⟨⟨⟨⟨⟨⟨⟨⟨⟨⟨⟨⟨⟨q0,q1⟩,q2⟩,q3⟩,q4⟩,q5⟩,q6⟩,q7⟩,q8⟩,q9⟩,q10⟩,q11⟩,q12⟩,q13⟩,q14⟩,q15⟩,q16⟩,q17⟩,q18⟩,q19⟩,q20⟩,q21⟩:=hg
  obtain rfl:=nE q0
  obtain rfl:=bE q1
  obtain rfl:=bE q2
  obtain rfl:=nE q3
  obtain rfl:=bE q4
  obtain rfl:=bE q5
  obtain rfl:=nE q6
  obtain rfl:=bE q7
  obtain rfl:=bE q8
  obtain rfl:=nE q9
  obtain rfl:=cE q10
  obtain rfl:=nE q11
  obtain rfl:=cE q12
  obtain rfl:=nE q13
  obtain rfl:=nE q14
  obtain rfl:=cE q15
  obtain rfl:=nE q16
  obtain rfl:=nE q17
  obtain rfl:=nE q18
  obtain rfl:=nE q19
  obtain rfl:=nE q20
  obtain rfl:=cE q21
  refine ⟨((t4 - 0:Int).toNat+1),?_⟩
  rw [← h]
  exact loop_run E62_0 (K62_0 k) (st62_0 ce k) _ (t4,h0,h1,h3,h5_0,h5_1,h5_2)
 ·cases h
def T62 {β:Type} (k:((List AV) × (List AV) × (List AV) × (List AV) × Int × Int)→β) (n:β) (ua:List AV) (ub:Int) (uc:Int):β:=by
 refine (?f0:(List AV)→(List AV)→Int→Int→β) (v82_0 14 ua ub uc) (v82_1 14 ua ub uc) (v82_2 14 ua ub uc) (v82_3 14 ua ub uc);intro x1 x2 x3 x4
 exact (bif q82 14 ua ub uc then (bif q81 x1 then (bif q49 5 x2 x3 x4 then (ro (runW (R62_0) (((v49_0 5 x2 x3 x4) - 0:Int).toNat+1) ((v49_0 5 x2 x3 x4),(v81_0 x1),(v81_1 x1),(v81_2 x1),(v49_1 5 x2 x3 x4),(v49_2 5 x2 x3 x4),(v49_3 5 x2 x3 x4))) n (fun p26=>k (p26.1,p26.2.1,p26.2.2.1,p26.2.2.2.1,p26.2.2.2.2.1,p26.2.2.2.2.2)))
 else n)
 else n)
 else n)
abbrev W62 (ua:List AV) (ub:Int) (uc:Int):Option ((List AV) × (List AV) × (List AV) × (List AV) × Int × Int):=T62 some none ua ub uc
theorem n62 {β:Type} (k:((List AV) × (List AV) × (List AV) × (List AV) × Int × Int)→β) (n:β) (ua:List AV) (ub:Int) (uc:Int):T62 k n ua ub uc=oe k n (W62 ua ub uc):=by
 unfold W62 T62
 simp only [oe_cond,oe_ro,oe_sum,oe_some,oe_none]
def q62 (ua:List AV) (ub uc:Int):Bool:=(W62 ua ub uc).isSome
def v62_0 (ua:List AV) (ub uc:Int):List AV:=oe (fun t=>t.1) [] (W62 ua ub uc)
def v62_1 (ua:List AV) (ub uc:Int):List AV:=oe (fun t=>t.2.1) [] (W62 ua ub uc)
def v62_2 (ua:List AV) (ub uc:Int):List AV:=oe (fun t=>t.2.2.1) [] (W62 ua ub uc)
def v62_3 (ua:List AV) (ub uc:Int):List AV:=oe (fun t=>t.2.2.2.1) [] (W62 ua ub uc)
def v62_4 (ua:List AV) (ub uc:Int):Int:=oe (fun t=>t.2.2.2.2.1) 0 (W62 ua ub uc)
def v62_5 (ua:List AV) (ub uc:Int):Int:=oe (fun t=>t.2.2.2.2.2) 0 (W62 ua ub uc)
theorem e62 (ua:List AV) (ub uc:Int) (K:List AV→List (Option Blk)→Option AV):inlA c62 1 62 [AV.ptr [1] 0 0] [0] (canH 1 [⟨true,[],[AV.agg [AV.sl [.int .u8] ua,Ai ub,Ai uc]]⟩]) (keepG Tryd.prog 1 [27] [] K)=T62 (fun t=>K [AV.agg [AV.fl [.int .i64] t.1,AV.fl [.int .i64] t.2.1,AV.fl [.int .i64,.int .i64] t.2.2.1]] [some ⟨true,[],[AV.agg [AV.sl [.int .u8] t.2.2.2.1,Ai t.2.2.2.2.1,Ai t.2.2.2.2.2]]⟩]) none ua ub uc:=by kernel_rfl
theorem r62 (ua:List AV) (ub uc:Int) (K:List AV→List (Option Blk)→Option AV) (h:q62 ua ub uc=true):inlA c62 1 62 [AV.ptr [1] 0 0] [0] (canH 1 [⟨true,[],[AV.agg [AV.sl [.int .u8] ua,AV.int .i64 ub,AV.int .i64 uc]]⟩]) (keepG Tryd.prog 1 [27] [] K)=K [AV.agg [AV.fl [.int .i64] (v62_0 ua ub uc),AV.fl [.int .i64] (v62_1 ua ub uc),AV.fl [.int .i64,.int .i64] (v62_2 ua ub uc)]] [some ⟨true,[],[AV.agg [AV.sl [.int .u8] (v62_3 ua ub uc),AV.int .i64 (v62_4 ua ub uc),AV.int .i64 (v62_5 ua ub uc)]]⟩]:=by
 refine ((e62 ua ub uc K).trans (n62 _ _ ua ub uc)).trans ?_
 unfold q62 at h
 unfold v62_0 v62_1 v62_2 v62_3 v62_4 v62_5
 generalize W62 ua ub uc=o at *
 cases o with
 | none=>cases h
 | some t=>rfl
def m62:GModel
 | [.ptr g0 g1 g2],[⟨true,[],[.agg [.sl g3 ua,.int .i64 ub,.int .i64 uc]]⟩]=>bif nmEq g0 ([1]) && Nat.beq g1 0 && Nat.beq g2 0 && ctsEq g3 ([.int .u8]) then some (q62 ua ub uc,[AV.agg [AV.fl [.int .i64] (v62_0 ua ub uc),AV.fl [.int .i64] (v62_1 ua ub uc),AV.fl [.int .i64,.int .i64] (v62_2 ua ub uc)]],[some ⟨true,[],[AV.agg [AV.sl [.int .u8] (v62_3 ua ub uc),AV.int .i64 (v62_4 ua ub uc),AV.int .i64 (v62_5 ua ub uc)]]⟩]) else none
 | _,_=>none
theorem k62:Known Tryd.prog 62:=⟨Tryd.f62,Tryd.func62,by kernel_rfl,by kernel_rfl⟩
theorem meets62:MeetsG Tryd.prog 62 m62:=by
 refine mg (rt:=[27]) (gs:=[]) (lvl:=0) (cf:=c62) rfl mixed k62 Tryd.func62 (by kernel_rfl) (loops_cons ok62_0 noLoop) (allT_cons meets81 (allT_cons meets83 allT_nil)) (allG_cons meets49 (allG_cons meets82 (allG_cons meets84 allM_nil))) noI fun xs bs r bs' h K=>?_
 unfold m62 at h
 split at h
 ·rename_i g0 g1 g2 g3 ua ub uc
  obtain ⟨hg,h⟩:=bif_pair h
  simp only [Bool.and_eq_true] at hg
  obtain ⟨⟨⟨q0,q1⟩,q2⟩,q3⟩:=hg
  obtain rfl:=nE q0
  obtain rfl:=bE q1
  obtain rfl:=bE q2
  obtain rfl:=cE q3
  obtain ⟨h1,rfl,rfl⟩:=trip_inj h
  exact r62 ua ub uc K h1
 ·cases h
noncomputable def c29:Cfg:=cfg Tryd.prog [(29,999,[2]),(29,1000,[2,3])] [] [(49,.g m49),(50,.g m50),(62,.g m62)] [] []
def T29 {β:Type} (k:((List AV) × (List AV) × (List AV) × (List AV) × Int × Int)→β) (n:β) (ua:List AV) (ub:Int) (uc:Int):β:=by
 refine (?f0:(List AV)→(List AV)→(List AV)→(List AV)→Int→Int→β) (v62_0 ua ub uc) (v62_1 ua ub uc) (v62_2 ua ub uc) (v62_3 ua ub uc) (v62_4 ua ub uc) (v62_5 ua ub uc);intro x1 x2 x3 x4 x5 x6
 refine (?f1:Int→(List AV)→Int→Int→β) (v49_0 12 x4 x5 x6) (v49_1 12 x4 x5 x6) (v49_2 12 x4 x5 x6) (v49_3 12 x4 x5 x6);intro x7 x8 x9 x10
 refine (?f2:Int→(List AV)→Int→Int→β) (v49_0 9 x8 x9 x10) (v49_1 9 x8 x9 x10) (v49_2 9 x8 x9 x10) (v49_3 9 x8 x9 x10);intro x11 x12 x13 x14
 exact (bif q62 ua ub uc then (bif q49 12 x4 x5 x6 then (bif decide (x7=0) then (bif decide ((x1.length:Int) > 0) then (bif q50 x8 x9 x10 ([AV.int .i64 0,AV.int .i64 999,AV.int .i64 1000,AV.int .i64 (-5)]) then (bif (decide (0≤0) && decide (0<(x1.length:Int))) then k (x1.set (0:Int).toNat (AV.agg [AV.int .i64 (v50_0 x8 x9 x10 ([AV.int .i64 0,AV.int .i64 999,AV.int .i64 1000,AV.int .i64 (-5)]))]),x2,x3,(v50_1 x8 x9 x10 ([AV.int .i64 0,AV.int .i64 999,AV.int .i64 1000,AV.int .i64 (-5)])),(v50_2 x8 x9 x10 ([AV.int .i64 0,AV.int .i64 999,AV.int .i64 1000,AV.int .i64 (-5)])),(v50_3 x8 x9 x10 ([AV.int .i64 0,AV.int .i64 999,AV.int .i64 1000,AV.int .i64 (-5)])))
 else n)
 else n)
 else k (x1,x2,x3,x8,x9,x10))
 else (bif decide (x7=1) then (bif q49 9 x8 x9 x10 then (bif q49 9 x12 x13 x14 then (bif (decide ((x3.length+([AV.agg [AV.int .i64 x11,AV.int .i64 (v49_0 9 x12 x13 x14)]]).length)*16≤140737488355328) && decide ((x3.length+([AV.agg [AV.int .i64 x11,AV.int .i64 (v49_0 9 x12 x13 x14)]]).length)≤140737488355328)) then k (x1,x2,x3++([AV.agg [AV.int .i64 x11,AV.int .i64 (v49_0 9 x12 x13 x14)]]),(v49_1 9 x12 x13 x14),(v49_2 9 x12 x13 x14),(v49_3 9 x12 x13 x14))
 else n)
 else n)
 else n)
 else (bif decide (x7=2) then (bif (decide ((x2.length+([AV.int .i64 0]).length)*8≤140737488355328) && decide ((x2.length+([AV.int .i64 0]).length)≤140737488355328)) then k (x1,x2++([AV.int .i64 0]),x3,x8,x9,x10)
 else n)
 else k (x1,x2,x3,x8,x9,x10))))
 else n)
 else n)
abbrev W29 (ua:List AV) (ub:Int) (uc:Int):Option ((List AV) × (List AV) × (List AV) × (List AV) × Int × Int):=T29 some none ua ub uc
theorem n29 {β:Type} (k:((List AV) × (List AV) × (List AV) × (List AV) × Int × Int)→β) (n:β) (ua:List AV) (ub:Int) (uc:Int):T29 k n ua ub uc=oe k n (W29 ua ub uc):=by
 unfold W29 T29
 simp only [oe_cond,oe_ro,oe_sum,oe_some,oe_none]
def q29 (ua:List AV) (ub uc:Int):Bool:=(W29 ua ub uc).isSome
def v29_0 (ua:List AV) (ub uc:Int):List AV:=oe (fun t=>t.1) [] (W29 ua ub uc)
def v29_1 (ua:List AV) (ub uc:Int):List AV:=oe (fun t=>t.2.1) [] (W29 ua ub uc)
def v29_2 (ua:List AV) (ub uc:Int):List AV:=oe (fun t=>t.2.2.1) [] (W29 ua ub uc)
def v29_3 (ua:List AV) (ub uc:Int):List AV:=oe (fun t=>t.2.2.2.1) [] (W29 ua ub uc)
def v29_4 (ua:List AV) (ub uc:Int):Int:=oe (fun t=>t.2.2.2.2.1) 0 (W29 ua ub uc)
def v29_5 (ua:List AV) (ub uc:Int):Int:=oe (fun t=>t.2.2.2.2.2) 0 (W29 ua ub uc)
theorem e29 (ua:List AV) (ub uc:Int) (K:List AV→List (Option Blk)→Option AV):inlA c29 1 29 [AV.ptr [1] 0 0] [0] (canH 1 [⟨true,[],[AV.agg [AV.sl [.int .u8] ua,Ai ub,Ai uc]]⟩]) (keepG Tryd.prog 1 [27] [] K)=T29 (fun t=>K [AV.agg [AV.fl [.int .i64] t.1,AV.fl [.int .i64] t.2.1,AV.fl [.int .i64,.int .i64] t.2.2.1]] [some ⟨true,[],[AV.agg [AV.sl [.int .u8] t.2.2.2.1,Ai t.2.2.2.2.1,Ai t.2.2.2.2.2]]⟩]) none ua ub uc:=by kernel_rfl
theorem r29 (ua:List AV) (ub uc:Int) (K:List AV→List (Option Blk)→Option AV) (h:q29 ua ub uc=true):inlA c29 1 29 [AV.ptr [1] 0 0] [0] (canH 1 [⟨true,[],[AV.agg [AV.sl [.int .u8] ua,AV.int .i64 ub,AV.int .i64 uc]]⟩]) (keepG Tryd.prog 1 [27] [] K)=K [AV.agg [AV.fl [.int .i64] (v29_0 ua ub uc),AV.fl [.int .i64] (v29_1 ua ub uc),AV.fl [.int .i64,.int .i64] (v29_2 ua ub uc)]] [some ⟨true,[],[AV.agg [AV.sl [.int .u8] (v29_3 ua ub uc),AV.int .i64 (v29_4 ua ub uc),AV.int .i64 (v29_5 ua ub uc)]]⟩]:=by
 refine ((e29 ua ub uc K).trans (n29 _ _ ua ub uc)).trans ?_
 unfold q29 at h
 unfold v29_0 v29_1 v29_2 v29_3 v29_4 v29_5
 generalize W29 ua ub uc=o at *
 cases o with
 | none=>cases h
 | some t=>rfl
def m29:GModel
 | [.ptr g0 g1 g2],[⟨true,[],[.agg [.sl g3 ua,.int .i64 ub,.int .i64 uc]]⟩]=>bif nmEq g0 ([1]) && Nat.beq g1 0 && Nat.beq g2 0 && ctsEq g3 ([.int .u8]) then some (q29 ua ub uc,[AV.agg [AV.fl [.int .i64] (v29_0 ua ub uc),AV.fl [.int .i64] (v29_1 ua ub uc),AV.fl [.int .i64,.int .i64] (v29_2 ua ub uc)]],[some ⟨true,[],[AV.agg [AV.sl [.int .u8] (v29_3 ua ub uc),AV.int .i64 (v29_4 ua ub uc),AV.int .i64 (v29_5 ua ub uc)]]⟩]) else none
 | _,_=>none
theorem k29:Known Tryd.prog 29:=⟨Tryd.f29,Tryd.func29,by kernel_rfl,by kernel_rfl⟩
theorem meets29:MeetsG Tryd.prog 29 m29:=by
 refine mg (rt:=[27]) (gs:=[]) (lvl:=0) (cf:=c29) rfl mixed k29 Tryd.func29 (by kernel_rfl) noLoop allT_nil (allG_cons meets49 (allG_cons meets50 (allG_cons meets62 allM_nil))) noI fun xs bs r bs' h K=>?_
 unfold m29 at h
 split at h
 ·rename_i g0 g1 g2 g3 ua ub uc
  obtain ⟨hg,h⟩:=bif_pair h
  simp only [Bool.and_eq_true] at hg
  obtain ⟨⟨⟨q0,q1⟩,q2⟩,q3⟩:=hg
  obtain rfl:=nE q0
  obtain rfl:=bE q1
  obtain rfl:=bE q2
  obtain rfl:=cE q3
  obtain ⟨h1,rfl,rfl⟩:=trip_inj h
  exact r29 ua ub uc K h1
 ·cases h
def G6i30_0 {β:Type} (t0:List AV) (t3:Int) (t4:Int) (N:((Int × Int))→β) (K:(Int)→β) (d:β):β:=(bif decide (t4<(t0.length:Int)) then (bif decide (t4<4000) then (bif (decide (0≤t4) && decide (t4<(t0.length:Int))) then N (IntKind.i64.wrap ((BitVec.ofInt 64 (IntKind.i64.wrap (IntKind.i64.wrap (IntKind.i64.wrap (t3*131)+IntKind.i64.wrap (fI (t0.getD t4.toNat .undef) 0))+7)) &&& BitVec.ofInt 64 1073741823).toNat:Int),IntKind.i64.wrap (t4+1))
 else d)
 else K t3)
 else K t3)
def F6i30_0 (t0:List AV) (t3 t4:Int):Out ((Int × Int)) (Int):=G6i30_0 t0 t3 t4 .next .stop .fail
def R6i30_0 (t0:List AV):((Int × Int))→Out ((Int × Int)) (Int):=fun s:Int × Int=>F6i30_0 t0 s.1 s.2
def E6i30_0 (t0:List AV):((Int × Int))→St:=fun s:Int × Int=>⟨[(0,AV.sl [.int .u8] t0),(3,Ai s.1),(4,Ai s.2)],[([1,2],⟨true,[],[AV.agg [AV.snil,AV.snil,AV.snil]]⟩)]⟩
def K6i30_0 (t0:List AV) (k:Kont):(Int)→Option AV:=fun p:Int=>k (.exit 0) ⟨[(0,AV.sl [.int .u8] t0),(3,Ai p)],[([1,2],⟨true,[],[AV.agg [AV.snil,AV.snil,AV.snil]]⟩)]⟩
def l6i30_0:LModel:=fun _ π st k=>match st with
 | ⟨[(0,.sl g1 t0),(3,.int .i64 t3),(4,.int .i64 t4)],[(g2,⟨true,[],[.agg [.snil,.snil,.snil]]⟩)]⟩=>bif nmEq π ([4]) && ctsEq g1 ([.int .u8]) && nmEq g2 ([1,2]) then ro (runW (R6i30_0 t0) (((t0.length:Int) - t4:Int).toNat+1) (t3,t4)) none (K6i30_0 t0 k) else none
 | _=>none
noncomputable def c6:Cfg:=cfg Tryd.prog [(6,999,[2]),(30,0,[0,3,4]),(30,999,[2]),(30,1000,[0,3]),(30,1001,[0,3,4])] [] [(29,.g m29)] [30] [(30,0,l6i30_0)]
theorem s6i30_0 (t0:List AV) (ce:CallE) (k:Kont) (s:Int × Int) (next:St→Option AV):stepA (codeA c6 ce [4] 30 0 (sub [1,1,0,1,0,0] (body Tryd.f30))) (normA [4] [0,3,4]) next ((E6i30_0 t0) s) k=G6i30_0 t0 s.1 s.2 (fun s=>next ((E6i30_0 t0) s)) (K6i30_0 t0 k) none:=by kernel_rfl
theorem st6i30_0 (t0:List AV) (ce:CallE) (k:Kont) (s:(Int × Int)) (next:St→Option AV):stepA (codeA c6 ce [4] 30 0 (sub [1,1,0,1,0,0] (body Tryd.f30))) (normA [4] [0,3,4]) next ((E6i30_0 t0) s) k=(R6i30_0 t0 s).el none (fun s=>next ((E6i30_0 t0) s)) (K6i30_0 t0 k):=(s6i30_0 t0 ce k s next).trans (by unfold R6i30_0;unfold F6i30_0 G6i30_0;simp only [el_cond,el_ro,el_sum,el_fail,el_next,el_stop] <;> rfl)
theorem ok6i30_0 {ce:CallE} {π:Nm}:LoopOK c6 ce π 30 0 (sub [1,1,0,1,0,0] (body Tryd.f30)):=by
 intro m hm st k r h
 obtain rfl:l6i30_0=m:=Option.some.inj hm
 unfold l6i30_0 at h
 split at h
 ·rename_i g1 t0 t3 t4 g2
  obtain ⟨hg,h⟩:=bif_some h
  simp only [Bool.and_eq_true] at hg
  obtain ⟨⟨q0,q1⟩,q2⟩:=hg
  obtain rfl:=nE q0
  obtain rfl:=cE q1
  obtain rfl:=nE q2
  refine ⟨(((t0.length:Int) - t4:Int).toNat+1),?_⟩
  rw [← h]
  exact loop_run (E6i30_0 t0) (K6i30_0 t0 k) (st6i30_0 t0 ce k) _ (t3,t4)
 ·cases h
def T6 {β:Type} (k:((List AV) × (List AV) × (List AV))→β) (n:β) (a0:List AV):β:=(ro (runW (R6i30_0 a0) (((a0.length:Int) - 0:Int).toNat+1) (IntKind.i64.wrap (10101+(a0.length:Int)),0)) n (fun p1=>(bif q29 a0 0 p1 then k ((v29_0 a0 0 p1),(v29_1 a0 0 p1),(v29_2 a0 0 p1))
 else n)))
abbrev W6 (a0:List AV):Option ((List AV) × (List AV) × (List AV)):=T6 some none a0
theorem n6 {β:Type} (k:((List AV) × (List AV) × (List AV))→β) (n:β) (a0:List AV):T6 k n a0=oe k n (W6 a0):=by
 unfold W6 T6
 simp only [oe_cond,oe_ro,oe_sum,oe_some,oe_none]
def q6 (a0:List AV):Bool:=(W6 a0).isSome
def v6_0 (a0:List AV):List AV:=oe (fun t=>t.1) [] (W6 a0)
def v6_1 (a0:List AV):List AV:=oe (fun t=>t.2.1) [] (W6 a0)
def v6_2 (a0:List AV):List AV:=oe (fun t=>t.2.2) [] (W6 a0)
theorem e6 (a0:List AV):funA c6 1 6 [AV.sl [.int .u8] a0]=T6 (fun t=>some (AV.agg [AV.fl [.int .i64] t.1,AV.fl [.int .i64] t.2.1,AV.fl [.int .i64,.int .i64] t.2.2])) none a0:=by kernel_rfl
theorem r6 (a0:List AV) (h:q6 a0=true):funA c6 1 6 [AV.sl [.int .u8] a0]=some (AV.agg [AV.fl [.int .i64] (v6_0 a0),AV.fl [.int .i64] (v6_1 a0),AV.fl [.int .i64,.int .i64] (v6_2 a0)]):=by
 refine ((e6 a0).trans (n6 _ _ a0)).trans ?_
 unfold q6 at h
 unfold v6_0 v6_1 v6_2
 generalize W6 a0=o at *
 cases o with
 | none=>cases h
 | some t=>rfl
def m6:TModel
 | [.sl g0 a0]=>bif ctsEq g0 ([.int .u8]) then some (q6 a0,AV.agg [AV.fl [.int .i64] (v6_0 a0),AV.fl [.int .i64] (v6_1 a0),AV.fl [.int .i64,.int .i64] (v6_2 a0)]) else none
 | _=>none
theorem k6:Known Tryd.prog 6:=⟨Tryd.f6,Tryd.func6,by kernel_rfl,by kernel_rfl⟩
theorem i6_30:InlK Tryd.prog [(6,999,[2]),(30,0,[0,3,4]),(30,999,[2]),(30,1000,[0,3]),(30,1001,[0,3,4])] [] [(29,.g m29)] [30] [(30,0,l6i30_0)] 30:=⟨⟨Tryd.f30,Tryd.func30,by kernel_rfl,by kernel_rfl⟩,Tryd.f30,[(0,sub [1,1,0,1,0,0] (body Tryd.f30))],Tryd.func30,by kernel_rfl,fun ce π=>(loops_cons (ok6i30_0 (ce:=ce) (π:=π)) noLoop)⟩
theorem meets6:Meets Tryd.prog 6 m6:=by
 refine mt (lvl:=1) (cf:=c6) rfl mixed k6 Tryd.func6 (by kernel_rfl) noLoop allT_nil (allG_cons meets29 allM_nil) (allI_cons i6_30 noI) fun xs r h=>?_
 unfold m6 at h
 split at h
 ·rename_i g0 a0
  obtain ⟨hg,h⟩:=bif_pair h
  have q0:=hg
  obtain rfl:=cE q0
  obtain ⟨h1,rfl⟩:=pair_inj h
  exact r6 a0 h1
 ·cases h
noncomputable def c65:Cfg:=cfg Tryd.prog [(65,999,[4])] [] [] [] []
def v65_0 (a0:Int) (a1 a2:AV):Bool:=(bif decide (a0<fI a1 0) then true else decide (a0 > fI a2 0))
theorem e65 (a0:Int) (a1 a2:AV):funA c65 0 65 [Ai a0,AV.rptr [.int .i64] a1 0,AV.rptr [.int .i64] a2 0]=(bif decide (a0<fI a1 0) then some (AV.bool true)
 else some (AV.bool (decide (a0 > fI a2 0)))):=by kernel_rfl
def m65:TModel
 | [.int .i64 a0,.rptr g0 a1 g1,.rptr g2 a2 g3]=>bif ctsEq g0 ([.int .i64]) && Nat.beq g1 0 && ctsEq g2 ([.int .i64]) && Nat.beq g3 0 then some (true,AV.bool (v65_0 a0 a1 a2)) else none
 | _=>none
theorem k65:Known Tryd.prog 65:=⟨Tryd.f65,Tryd.func65,by kernel_rfl,by kernel_rfl⟩
theorem meets65:Meets Tryd.prog 65 m65:=by
 refine mt (lvl:=0) (cf:=c65) rfl mixed k65 Tryd.func65 (by kernel_rfl) noLoop allT_nil allM_nil noI fun xs r h=>?_
 unfold m65 at h
 split at h
 ·rename_i a0 g0 a1 g1 g2 a2 g3
  obtain ⟨hg,h⟩:=bif_pair h
  simp only [Bool.and_eq_true] at hg
  obtain ⟨⟨⟨q0,q1⟩,q2⟩,q3⟩:=hg
  obtain rfl:=cE q0
  obtain rfl:=bE q1
  obtain rfl:=cE q2
  obtain rfl:=bE q3
  obtain ⟨h1,rfl⟩:=pair_inj h
  exact (e65 a0 a1 a2).trans (of_tt (brT (fun b=>some (AV.bool (bif b then true else decide (a0 > fI a2 0)))) (fun _=>rfl) (fun _=>rfl)))
 ·cases h
def G85_0 {β:Type} (t0:List AV) (t1_0:AV) (t1_1:AV) (t7:Int) (t8:Int) (N:(Int)→β) (K:(Unit ⊕ Int)→β) (d:β):β:=(bif decide (t8<t7) then (bif (decide (0≤t8) && decide (t8<(t0.length:Int))) then (bif (v65_0 (fI (t0.getD t8.toNat .undef) 0) t1_0 t1_1) then K (.inr t8)
 else N (IntKind.i64.wrap (t8+1)))
 else d)
 else K (.inl ()))
def F85_0 (t0:List AV) (t1_0 t1_1:AV) (t7 t8:Int):Out (Int) (Unit ⊕ Int):=G85_0 t0 t1_0 t1_1 t7 t8 .next .stop .fail
def R85_0 (t0:List AV) (t1_0 t1_1:AV) (t7:Int):(Int)→Out (Int) (Unit ⊕ Int):=fun s:Int=>F85_0 t0 t1_0 t1_1 t7 s
def E85_0 (t0:List AV) (t1_0 t1_1:AV) (t7:Int):(Int)→St:=fun s:Int=>⟨[(0,AV.sl [.int .i64] t0),(1,AV.fn 65 [AV.rptr [.int .i64] t1_0 0,AV.rptr [.int .i64] t1_1 0]),(7,Ai t7),(8,Ai s)],[]⟩
def K85_0 (t0:List AV) (t1_0 t1_1:AV) (t7:Int) (k:Kont):(Unit ⊕ Int)→Option AV:=sumE (fun _:Unit=>k (.exit 0) ⟨[],[]⟩) (fun p:Int=>k .ret ⟨[(4,Ai p)],[]⟩)
def l85_0:LModel:=fun _ _ st k=>match st with
 | ⟨[(0,.sl g0 t0),(1,.fn g1 [.rptr g2 t1_0 g3,.rptr g4 t1_1 g5]),(7,.int .i64 t7),(8,.int .i64 t8)],[]⟩=>bif ctsEq g0 ([.int .i64]) && Nat.beq g1 65 && ctsEq g2 ([.int .i64]) && Nat.beq g3 0 && ctsEq g4 ([.int .i64]) && Nat.beq g5 0 then ro (runW (R85_0 t0 t1_0 t1_1 t7) ((t7 - t8:Int).toNat+1) t8) none (K85_0 t0 t1_0 t1_1 t7 k) else none
 | _=>none
noncomputable def c85:Cfg:=cfg Tryd.prog [(85,0,[0,1,7,8]),(85,999,[4]),(85,1000,[]),(85,1001,[0,1,7,8])] [(65,m65)] [] [] [(85,0,l85_0)]
theorem s85_0 (t0:List AV) (t1_0 t1_1:AV) (t7:Int) (ce:CallE) (k:Kont) (s:Int) (next:St→Option AV):stepA (codeA c85 ce [] 85 0 (sub [1,0,1,0,0] (body Tryd.f85))) (normA [] [0,1,7,8]) next ((E85_0 t0 t1_0 t1_1 t7) s) k=G85_0 t0 t1_0 t1_1 t7 s (fun s=>next ((E85_0 t0 t1_0 t1_1 t7) s)) (K85_0 t0 t1_0 t1_1 t7 k) none:=by kernel_rfl
theorem st85_0 (t0:List AV) (t1_0 t1_1:AV) (t7:Int) (ce:CallE) (k:Kont) (s:Int) (next:St→Option AV):stepA (codeA c85 ce [] 85 0 (sub [1,0,1,0,0] (body Tryd.f85))) (normA [] [0,1,7,8]) next ((E85_0 t0 t1_0 t1_1 t7) s) k=(R85_0 t0 t1_0 t1_1 t7 s).el none (fun s=>next ((E85_0 t0 t1_0 t1_1 t7) s)) (K85_0 t0 t1_0 t1_1 t7 k):=(s85_0 t0 t1_0 t1_1 t7 ce k s next).trans (by unfold R85_0;unfold F85_0 G85_0;simp only [el_cond,el_ro,el_sum,el_fail,el_next,el_stop] <;> rfl)
theorem ok85_0 {ce:CallE}:LoopOK c85 ce [] 85 0 (sub [1,0,1,0,0] (body Tryd.f85)):=by
 intro m hm st k r h
 obtain rfl:l85_0=m:=Option.some.inj hm
 unfold l85_0 at h
 split at h
 ·rename_i g0 t0 g1 g2 t1_0 g3 g4 t1_1 g5 t7 t8
  obtain ⟨hg,h⟩:=bif_some h
  simp only [Bool.and_eq_true] at hg
  obtain ⟨⟨⟨⟨⟨q0,q1⟩,q2⟩,q3⟩,q4⟩,q5⟩:=hg
  obtain rfl:=cE q0
  obtain rfl:=bE q1
  obtain rfl:=cE q2
  obtain rfl:=bE q3
  obtain rfl:=cE q4
  obtain rfl:=bE q5
  refine ⟨((t7 - t8:Int).toNat+1),?_⟩
  rw [← h]
  exact loop_run (E85_0 t0 t1_0 t1_1 t7) (K85_0 t0 t1_0 t1_1 t7 k) (st85_0 t0 t1_0 t1_1 t7 ce k) _ t8
 ·cases h
def q85 (a0:List AV) (ya yb:AV):Bool:=(ro (runW (R85_0 a0 ya yb (a0.length:Int)) (((a0.length:Int) - 0:Int).toNat+1) 0) false (sumE (fun _=>true) (fun p28=>true)))
def v85_0 (a0:List AV) (ya yb:AV):Int:=(ro (runW (R85_0 a0 ya yb (a0.length:Int)) (((a0.length:Int) - 0:Int).toNat+1) 0) 0 (sumE (fun _=>(-1)) (fun p28=>p28)))
theorem e85 (a0:List AV) (ya yb:AV):funA c85 0 85 [AV.sl [.int .i64] a0,AV.fn 65 [AV.rptr [.int .i64] ya 0,AV.rptr [.int .i64] yb 0]]=(ro (runW (R85_0 a0 ya yb (a0.length:Int)) (((a0.length:Int) - 0:Int).toNat+1) 0) none (sumE (fun _=>some (Ai (-1))) (fun p28=>some (Ai p28)))):=by kernel_rfl
def m85:TModel
 | [.sl g0 a0,.fn g1 [.rptr g2 ya g3,.rptr g4 yb g5]]=>bif ctsEq g0 ([.int .i64]) && Nat.beq g1 65 && ctsEq g2 ([.int .i64]) && Nat.beq g3 0 && ctsEq g4 ([.int .i64]) && Nat.beq g5 0 then some (q85 a0 ya yb,AV.int .i64 (v85_0 a0 ya yb)) else none
 | _=>none
theorem k85:Known Tryd.prog 85:=⟨Tryd.f85,Tryd.func85,by kernel_rfl,by kernel_rfl⟩
theorem meets85:Meets Tryd.prog 85 m85:=by
 refine mt (lvl:=0) (cf:=c85) rfl mixed k85 Tryd.func85 (by kernel_rfl) (loops_cons ok85_0 noLoop) (allT_cons meets65 allT_nil) allM_nil noI fun xs r h=>?_
 unfold m85 at h
 split at h
 ·rename_i g0 a0 g1 g2 ya g3 g4 yb g5
  obtain ⟨hg,h⟩:=bif_pair h
  simp only [Bool.and_eq_true] at hg
  obtain ⟨⟨⟨⟨⟨q0,q1⟩,q2⟩,q3⟩,q4⟩,q5⟩:=hg
  obtain rfl:=cE q0
  obtain rfl:=bE q1
  obtain rfl:=cE q2
  obtain rfl:=bE q3
  obtain rfl:=cE q4
  obtain rfl:=bE q5
  obtain ⟨h1,rfl⟩:=pair_inj h
  exact (e85 a0 ya yb).trans ((brO (fun o:Option (Unit ⊕ Int)=>some (Ai (ro o 0 (sumE (fun _=>(-1)) (fun p28=>p28))))) (brS (fun o:Unit ⊕ Int=>some (Ai ((sumE (fun _=>(-1)) (fun p28=>p28)) o))) (fun _=>(fun _=>rfl)) (fun p28=>(fun _=>rfl)))) h1)
 ·cases h
noncomputable def c64:Cfg:=cfg Tryd.prog [(64,999,[4])] [(85,m85)] [] [] []
def q64 (a0:List AV) (ya yb:AV):Bool:=q85 a0 ya yb
def v64_0 (a0:List AV) (ya yb:AV):Bool:=decide ((v85_0 a0 ya yb) ≥ 0)
theorem e64 (a0:List AV) (ya yb:AV):funA c64 0 64 [AV.sl [.int .i64] a0,AV.fn 65 [AV.rptr [.int .i64] ya 0,AV.rptr [.int .i64] yb 0]]=(bif q85 a0 ya yb then some (AV.bool (decide ((v85_0 a0 ya yb) ≥ 0)))
 else none):=by kernel_rfl
def m64:TModel
 | [.sl g0 a0,.fn g1 [.rptr g2 ya g3,.rptr g4 yb g5]]=>bif ctsEq g0 ([.int .i64]) && Nat.beq g1 65 && ctsEq g2 ([.int .i64]) && Nat.beq g3 0 && ctsEq g4 ([.int .i64]) && Nat.beq g5 0 then some (q64 a0 ya yb,AV.bool (v64_0 a0 ya yb)) else none
 | _=>none
theorem k64:Known Tryd.prog 64:=⟨Tryd.f64,Tryd.func64,by kernel_rfl,by kernel_rfl⟩
theorem meets64:Meets Tryd.prog 64 m64:=by
 refine mt (lvl:=0) (cf:=c64) rfl mixed k64 Tryd.func64 (by kernel_rfl) noLoop (allT_cons meets85 allT_nil) allM_nil noI fun xs r h=>?_
 unfold m64 at h
 split at h
 ·rename_i g0 a0 g1 g2 ya g3 g4 yb g5
  obtain ⟨hg,h⟩:=bif_pair h
  simp only [Bool.and_eq_true] at hg
  obtain ⟨⟨⟨⟨⟨q0,q1⟩,q2⟩,q3⟩,q4⟩,q5⟩:=hg
  obtain rfl:=cE q0
  obtain rfl:=bE q1
  obtain rfl:=cE q2
  obtain rfl:=bE q3
  obtain rfl:=cE q4
  obtain rfl:=bE q5
  obtain ⟨h1,rfl⟩:=pair_inj h
  exact (e64 a0 ya yb).trans ((brL1 (fun _=>rfl)) h1)
 ·cases h
noncomputable def c34:Cfg:=cfg Tryd.prog [(34,999,[6])] [(64,m64)] [] [] []
def q34 (a0:List AV) (a1 a2:Int):Bool:=q64 a0 (AV.int .i64 a1) (AV.int .i64 a2)
def v34_0 (a0:List AV) (a1 a2:Int):Bool := !(v64_0 a0 (AV.int .i64 a1) (AV.int .i64 a2))
theorem e34 (a0:List AV) (a1 a2:Int):funA c34 0 34 [AV.sl [.int .i64] a0,Ai a1,Ai a2]=(bif q64 a0 (Ai a1) (Ai a2) then some (AV.bool (!(v64_0 a0 (Ai a1) (Ai a2))))
 else none):=by kernel_rfl
def m34:TModel
 | [.sl g0 a0,.int .i64 a1,.int .i64 a2]=>bif ctsEq g0 ([.int .i64]) then some (q34 a0 a1 a2,AV.bool (v34_0 a0 a1 a2)) else none
 | _=>none
theorem k34:Known Tryd.prog 34:=⟨Tryd.f34,Tryd.func34,by kernel_rfl,by kernel_rfl⟩
theorem meets34:Meets Tryd.prog 34 m34:=by
 refine mt (lvl:=0) (cf:=c34) rfl mixed k34 Tryd.func34 (by kernel_rfl) noLoop (allT_cons meets64 allT_nil) allM_nil noI fun xs r h=>?_
 unfold m34 at h
 split at h
 ·rename_i g0 a0 a1 a2
  obtain ⟨hg,h⟩:=bif_pair h
  have q0:=hg
  obtain rfl:=cE q0
  obtain ⟨h1,rfl⟩:=pair_inj h
  exact (e34 a0 a1 a2).trans ((brL1 (fun _=>rfl)) h1)
 ·cases h
noncomputable def c33:Cfg:=cfg Tryd.prog [(33,999,[2])] [(34,m34)] [] [] []
def q33 (a0:List AV):Bool:=(bif decide ((a0.length:Int)≤64) then q34 a0 (-999) 999 else true)
def v33_0 (a0:List AV):Bool:=(bif decide ((a0.length:Int)≤64) then (v34_0 a0 (-999) 999) else false)
theorem e33 (a0:List AV):funA c33 0 33 [AV.sl [.int .i64] a0]=(bif decide ((a0.length:Int)≤64) then (bif q34 a0 (-999) 999 then some (AV.bool (v34_0 a0 (-999) 999))
 else none)
 else some (AV.bool false)):=by kernel_rfl
def m33:TModel
 | [.sl g0 a0]=>bif ctsEq g0 ([.int .i64]) then some (q33 a0,AV.bool (v33_0 a0)) else none
 | _=>none
theorem k33:Known Tryd.prog 33:=⟨Tryd.f33,Tryd.func33,by kernel_rfl,by kernel_rfl⟩
theorem meets33:Meets Tryd.prog 33 m33:=by
 refine mt (lvl:=0) (cf:=c33) rfl mixed k33 Tryd.func33 (by kernel_rfl) noLoop (allT_cons meets34 allT_nil) allM_nil noI fun xs r h=>?_
 unfold m33 at h
 split at h
 ·rename_i g0 a0
  obtain ⟨hg,h⟩:=bif_pair h
  have q0:=hg
  obtain rfl:=cE q0
  obtain ⟨h1,rfl⟩:=pair_inj h
  exact (e33 a0).trans ((br (fun b=>some (AV.bool (bif b then (v34_0 a0 (-999) 999) else false))) (brL1 (fun _=>rfl)) (fun _=>rfl)) h1)
 ·cases h
def G66_0 {β:Type} (t0:List AV) (t1:Int) (t7:Int) (t8:Int) (N:(Int)→β) (K:(Unit ⊕ Int)→β) (d:β):β:=(bif decide (t8<t7) then (bif (decide (0≤t8) && decide (t8<(t0.length:Int))) then (bif decide (t1=fI (t0.getD t8.toNat .undef) 0) then K (.inr t8)
 else N (IntKind.i64.wrap (t8+1)))
 else d)
 else K (.inl ()))
def F66_0 (t0:List AV) (t1 t7 t8:Int):Out (Int) (Unit ⊕ Int):=G66_0 t0 t1 t7 t8 .next .stop .fail
def R66_0 (t0:List AV) (t1 t7:Int):(Int)→Out (Int) (Unit ⊕ Int):=fun s:Int=>F66_0 t0 t1 t7 s
def E66_0 (t0:List AV) (t1 t7:Int):(Int)→St:=fun s:Int=>⟨[(0,AV.sl [.int .i64] t0),(1,Ai t1),(7,Ai t7),(8,Ai s)],[]⟩
def K66_0 (t0:List AV) (t1 t7:Int) (k:Kont):(Unit ⊕ Int)→Option AV:=sumE (fun _:Unit=>k (.exit 0) ⟨[],[]⟩) (fun p:Int=>k .ret ⟨[(4,Ai p)],[]⟩)
def l66_0:LModel:=fun _ _ st k=>match st with
 | ⟨[(0,.sl g0 t0),(1,.int .i64 t1),(7,.int .i64 t7),(8,.int .i64 t8)],[]⟩=>bif ctsEq g0 ([.int .i64]) then ro (runW (R66_0 t0 t1 t7) ((t7 - t8:Int).toNat+1) t8) none (K66_0 t0 t1 t7 k) else none
 | _=>none
noncomputable def c66:Cfg:=cfg Tryd.prog [(66,0,[0,1,7,8]),(66,999,[4]),(66,1000,[]),(66,1001,[0,1,7,8])] [] [] [] [(66,0,l66_0)]
theorem s66_0 (t0:List AV) (t1 t7:Int) (ce:CallE) (k:Kont) (s:Int) (next:St→Option AV):stepA (codeA c66 ce [] 66 0 (sub [1,0,1,0,0] (body Tryd.f66))) (normA [] [0,1,7,8]) next ((E66_0 t0 t1 t7) s) k=G66_0 t0 t1 t7 s (fun s=>next ((E66_0 t0 t1 t7) s)) (K66_0 t0 t1 t7 k) none:=by kernel_rfl
theorem st66_0 (t0:List AV) (t1 t7:Int) (ce:CallE) (k:Kont) (s:Int) (next:St→Option AV):stepA (codeA c66 ce [] 66 0 (sub [1,0,1,0,0] (body Tryd.f66))) (normA [] [0,1,7,8]) next ((E66_0 t0 t1 t7) s) k=(R66_0 t0 t1 t7 s).el none (fun s=>next ((E66_0 t0 t1 t7) s)) (K66_0 t0 t1 t7 k):=(s66_0 t0 t1 t7 ce k s next).trans (by unfold R66_0;unfold F66_0 G66_0;simp only [el_cond,el_ro,el_sum,el_fail,el_next,el_stop] <;> rfl)
theorem ok66_0 {ce:CallE}:LoopOK c66 ce [] 66 0 (sub [1,0,1,0,0] (body Tryd.f66)):=by
 intro m hm st k r h
 obtain rfl:l66_0=m:=Option.some.inj hm
 unfold l66_0 at h
 split at h
 ·rename_i g0 t0 t1 t7 t8
  obtain ⟨hg,h⟩:=bif_some h
  have q0:=hg
  obtain rfl:=cE q0
  refine ⟨((t7 - t8:Int).toNat+1),?_⟩
  rw [← h]
  exact loop_run (E66_0 t0 t1 t7) (K66_0 t0 t1 t7 k) (st66_0 t0 t1 t7 ce k) _ t8
 ·cases h
def q66 (a0:List AV) (a1:Int):Bool:=(ro (runW (R66_0 a0 a1 (a0.length:Int)) (((a0.length:Int) - 0:Int).toNat+1) 0) false (sumE (fun _=>true) (fun p30=>true)))
def v66_0 (a0:List AV) (a1:Int):Int:=(ro (runW (R66_0 a0 a1 (a0.length:Int)) (((a0.length:Int) - 0:Int).toNat+1) 0) 0 (sumE (fun _=>(-1)) (fun p30=>p30)))
theorem e66 (a0:List AV) (a1:Int):funA c66 0 66 [AV.sl [.int .i64] a0,Ai a1]=(ro (runW (R66_0 a0 a1 (a0.length:Int)) (((a0.length:Int) - 0:Int).toNat+1) 0) none (sumE (fun _=>some (Ai (-1))) (fun p30=>some (Ai p30)))):=by kernel_rfl
def m66:TModel
 | [.sl g0 a0,.int .i64 a1]=>bif ctsEq g0 ([.int .i64]) then some (q66 a0 a1,AV.int .i64 (v66_0 a0 a1)) else none
 | _=>none
theorem k66:Known Tryd.prog 66:=⟨Tryd.f66,Tryd.func66,by kernel_rfl,by kernel_rfl⟩
theorem meets66:Meets Tryd.prog 66 m66:=by
 refine mt (lvl:=0) (cf:=c66) rfl mixed k66 Tryd.func66 (by kernel_rfl) (loops_cons ok66_0 noLoop) allT_nil allM_nil noI fun xs r h=>?_
 unfold m66 at h
 split at h
 ·rename_i g0 a0 a1
  obtain ⟨hg,h⟩:=bif_pair h
  have q0:=hg
  obtain rfl:=cE q0
  obtain ⟨h1,rfl⟩:=pair_inj h
  exact (e66 a0 a1).trans ((brO (fun o:Option (Unit ⊕ Int)=>some (Ai (ro o 0 (sumE (fun _=>(-1)) (fun p30=>p30))))) (brS (fun o:Unit ⊕ Int=>some (Ai ((sumE (fun _=>(-1)) (fun p30=>p30)) o))) (fun _=>(fun _=>rfl)) (fun p30=>(fun _=>rfl)))) h1)
 ·cases h
noncomputable def c35:Cfg:=cfg Tryd.prog [(35,999,[4])] [(66,m66)] [] [] []
def q35 (a0:List AV) (a1:Int):Bool:=q66 a0 a1
def v35_0 (a0:List AV) (a1:Int):Bool:=decide ((v66_0 a0 a1) ≥ 0)
theorem e35 (a0:List AV) (a1:Int):funA c35 0 35 [AV.sl [.int .i64] a0,Ai a1]=(bif q66 a0 a1 then some (AV.bool (decide ((v66_0 a0 a1) ≥ 0)))
 else none):=by kernel_rfl
def m35:TModel
 | [.sl g0 a0,.int .i64 a1]=>bif ctsEq g0 ([.int .i64]) then some (q35 a0 a1,AV.bool (v35_0 a0 a1)) else none
 | _=>none
theorem k35:Known Tryd.prog 35:=⟨Tryd.f35,Tryd.func35,by kernel_rfl,by kernel_rfl⟩
theorem meets35:Meets Tryd.prog 35 m35:=by
 refine mt (lvl:=0) (cf:=c35) rfl mixed k35 Tryd.func35 (by kernel_rfl) noLoop (allT_cons meets66 allT_nil) allM_nil noI fun xs r h=>?_
 unfold m35 at h
 split at h
 ·rename_i g0 a0 a1
  obtain ⟨hg,h⟩:=bif_pair h
  have q0:=hg
  obtain rfl:=cE q0
  obtain ⟨h1,rfl⟩:=pair_inj h
  exact (e35 a0 a1).trans ((brL1 (fun _=>rfl)) h1)
 ·cases h
noncomputable def c36:Cfg:=cfg Tryd.prog [(36,999,[2])] [] [] [] []
def v36_0 (a0:Int):Bool:=(bif decide (a0 ≥ (-1000)) then decide (a0≤1000) else false)
theorem e36 (a0:Int):funA c36 0 36 [Ai a0]=(bif decide (a0 ≥ (-1000)) then some (AV.bool (decide (a0≤1000)))
 else some (AV.bool false)):=by kernel_rfl
def m36:TModel
 | [.int .i64 a0]=>some (true,AV.bool (v36_0 a0))
 | _=>none
theorem k36:Known Tryd.prog 36:=⟨Tryd.f36,Tryd.func36,by kernel_rfl,by kernel_rfl⟩
theorem meets36:Meets Tryd.prog 36 m36:=by
 refine mt (lvl:=0) (cf:=c36) rfl mixed k36 Tryd.func36 (by kernel_rfl) noLoop allT_nil allM_nil noI fun xs r h=>?_
 unfold m36 at h
 split at h
 ·rename_i a0
  obtain ⟨h1,rfl⟩:=pair_inj h
  exact (e36 a0).trans (of_tt (brT (fun b=>some (AV.bool (bif b then decide (a0≤1000) else false))) (fun _=>rfl) (fun _=>rfl)))
 ·cases h
def G11_4 {β:Type} (t50:List AV) (t51:Int) (t52:Int) (t103:List AV) (t104:Int) (h0_0:List AV) (h0_1:List AV) (h0_2:List AV) (h1_0:Int) (h1_1:Int) (t105:Int) (N:(Int)→β) (K:(Unit ⊕ Unit)→β) (d:β):β:=(bif decide (t105<t104) then (bif (decide (0≤t105) && decide (t105<(t103.length:Int))) then (bif !(decide (fI (t103.getD t105.toNat .undef) 0<h1_0) == decide (t105<h1_1)) then K (.inr ())
 else N (IntKind.i64.wrap (t105+1)))
 else d)
 else K (.inl ()))
def F11_4 (t50:List AV) (t51 t52:Int) (t103:List AV) (t104:Int) (h0_0 h0_1 h0_2:List AV) (h1_0 h1_1 t105:Int):Out (Int) (Unit ⊕ Unit):=G11_4 t50 t51 t52 t103 t104 h0_0 h0_1 h0_2 h1_0 h1_1 t105 .next .stop .fail
def R11_4 (t50:List AV) (t51 t52:Int) (t103:List AV) (t104:Int) (h0_0 h0_1 h0_2:List AV) (h1_0 h1_1:Int):(Int)→Out (Int) (Unit ⊕ Unit):=fun s:Int=>F11_4 t50 t51 t52 t103 t104 h0_0 h0_1 h0_2 h1_0 h1_1 s
def E11_4 (t50:List AV) (t51 t52:Int) (t103:List AV) (t104:Int) (h0_0 h0_1 h0_2:List AV) (h1_0 h1_1:Int):(Int)→St:=fun s:Int=>⟨[(1,AV.ptr [0,1] 0 0),(6,AV.ptr [0,6] 0 0),(50,AV.sl [.int .i64,.int .i64] t50),(51,Ai t51),(52,Ai t52),(103,AV.sl [.int .i64] t103),(104,Ai t104),(105,Ai s)],[([0,1],⟨true,[],[AV.agg [AV.sl [.int .i64] h0_0,AV.sl [.int .i64] h0_1,AV.sl [.int .i64,.int .i64] h0_2]]⟩),([0,6],⟨true,[],[AV.agg [Ai h1_0,Ai h1_1]]⟩)]⟩
def K11_4 (t50:List AV) (t51 t52:Int) (t103:List AV) (t104:Int) (h0_0 h0_1 h0_2:List AV) (h1_0 h1_1:Int) (k:Kont):(Unit ⊕ Unit)→Option AV:=sumE (fun _:Unit=>k (.exit 4) ⟨[(1,AV.ptr [0,1] 0 0),(50,AV.sl [.int .i64,.int .i64] t50),(51,Ai t51),(52,Ai t52)],[([0,1],⟨true,[],[AV.agg [AV.sl [.int .i64] h0_0,AV.sl [.int .i64] h0_1,AV.sl [.int .i64,.int .i64] h0_2]]⟩),([0,6],⟨true,[],[AV.agg [Ai h1_0,Ai h1_1]]⟩)]⟩) (fun _:Unit=>k .ret ⟨[(2,AV.bool false)],[([0,1],⟨true,[],[AV.agg [AV.sl [.int .i64] h0_0,AV.sl [.int .i64] h0_1,AV.sl [.int .i64,.int .i64] h0_2]]⟩),([0,6],⟨true,[],[AV.agg [Ai h1_0,Ai h1_1]]⟩)]⟩)
def l11_4:LModel:=fun _ _ st k=>match st with
 | ⟨[(1,.ptr g0 g1 g2),(6,.ptr g3 g4 g5),(50,.sl g6 t50),(51,.int .i64 t51),(52,.int .i64 t52),(103,.sl g7 t103),(104,.int .i64 t104),(105,.int .i64 t105)],[(g8,⟨true,[],[.agg [.sl g9 h0_0,.sl g10 h0_1,.sl g11 h0_2]]⟩),(g12,⟨true,[],[.agg [.int .i64 h1_0,.int .i64 h1_1]]⟩)]⟩=>bif nmEq g0 ([0,1]) && Nat.beq g1 0 && Nat.beq g2 0 && nmEq g3 ([0,6]) && Nat.beq g4 0 && Nat.beq g5 0 && ctsEq g6 ([.int .i64,.int .i64]) && ctsEq g7 ([.int .i64]) && nmEq g8 ([0,1]) && ctsEq g9 ([.int .i64]) && ctsEq g10 ([.int .i64]) && ctsEq g11 ([.int .i64,.int .i64]) && nmEq g12 ([0,6]) then ro (runW (R11_4 t50 t51 t52 t103 t104 h0_0 h0_1 h0_2 h1_0 h1_1) ((t104 - t105:Int).toNat+1) t105) none (K11_4 t50 t51 t52 t103 t104 h0_0 h0_1 h0_2 h1_0 h1_1 k) else none
 | _=>none
def G11_2 {β:Type} (t50:List AV) (t51:Int) (h0_0:List AV) (h0_1:List AV) (h0_2:List AV) (t52:Int) (N:(Int)→β) (K:(Unit ⊕ (Int × Int) ⊕ (Int × Int))→β) (d:β):β:=(bif decide (t52<t51) then (bif (decide (0≤t52) && decide (t52<(t50.length:Int))) then (bif !(v36_0 (fI (t50.getD t52.toNat .undef) 0)) then K (.inr (.inl (fI (t50.getD t52.toNat .undef) 0,fI (t50.getD t52.toNat .undef) 1)))
 else (bif decide (fI (t50.getD t52.toNat .undef) 1<0) then K (.inr (.inl (fI (t50.getD t52.toNat .undef) 0,fI (t50.getD t52.toNat .undef) 1)))
 else (bif decide (fI (t50.getD t52.toNat .undef) 1 > (h0_0.length:Int)) then K (.inr (.inl (fI (t50.getD t52.toNat .undef) 0,fI (t50.getD t52.toNat .undef) 1)))
 else (bif decide (t52 > 0) then (bif (decide (0≤IntKind.i64.wrap (t52 - 1)) && decide (IntKind.i64.wrap (t52 - 1)<(h0_2.length:Int))) then (bif decide (fI (t50.getD t52.toNat .undef) 0≤fI (h0_2.getD (IntKind.i64.wrap (t52 - 1)).toNat .undef) 0) then K (.inr (.inl (fI (t50.getD t52.toNat .undef) 0,fI (t50.getD t52.toNat .undef) 1)))
 else (bif (decide (0≤IntKind.i64.wrap (t52 - 1)) && decide (IntKind.i64.wrap (t52 - 1)<(h0_2.length:Int))) then (bif decide (fI (t50.getD t52.toNat .undef) 1<fI (h0_2.getD (IntKind.i64.wrap (t52 - 1)).toNat .undef) 1) then K (.inr (.inl (fI (t50.getD t52.toNat .undef) 0,fI (t50.getD t52.toNat .undef) 1)))
 else (ro (runW (R11_4 t50 t51 t52 h0_0 (h0_0.length:Int) h0_0 h0_1 h0_2 (fI (t50.getD t52.toNat .undef) 0) (fI (t50.getD t52.toNat .undef) 1)) (((h0_0.length:Int) - 0:Int).toNat+1) 0) d (sumE (fun _=>N (IntKind.i64.wrap (t52+1))) (fun _=>K (.inr (.inr (fI (t50.getD t52.toNat .undef) 0,fI (t50.getD t52.toNat .undef) 1)))))))
 else d))
 else d)
 else (ro (runW (R11_4 t50 t51 t52 h0_0 (h0_0.length:Int) h0_0 h0_1 h0_2 (fI (t50.getD t52.toNat .undef) 0) (fI (t50.getD t52.toNat .undef) 1)) (((h0_0.length:Int) - 0:Int).toNat+1) 0) d (sumE (fun _=>N (IntKind.i64.wrap (t52+1))) (fun _=>K (.inr (.inr (fI (t50.getD t52.toNat .undef) 0,fI (t50.getD t52.toNat .undef) 1))))))))))
 else d)
 else K (.inl ()))
def F11_2 (t50:List AV) (t51:Int) (h0_0 h0_1 h0_2:List AV) (t52:Int):Out (Int) (Unit ⊕ (Int × Int) ⊕ (Int × Int)):=G11_2 t50 t51 h0_0 h0_1 h0_2 t52 .next .stop .fail
def R11_2 (t50:List AV) (t51:Int) (h0_0 h0_1 h0_2:List AV):(Int)→Out (Int) (Unit ⊕ (Int × Int) ⊕ (Int × Int)):=fun s:Int=>F11_2 t50 t51 h0_0 h0_1 h0_2 s
def E11_2 (t50:List AV) (t51:Int) (h0_0 h0_1 h0_2:List AV):(Int)→St:=fun s:Int=>⟨[(1,AV.ptr [0,1] 0 0),(50,AV.sl [.int .i64,.int .i64] t50),(51,Ai t51),(52,Ai s)],[([0,1],⟨true,[],[AV.agg [AV.sl [.int .i64] h0_0,AV.sl [.int .i64] h0_1,AV.sl [.int .i64,.int .i64] h0_2]]⟩)]⟩
def K11_2 (t50:List AV) (t51:Int) (h0_0 h0_1 h0_2:List AV) (k:Kont):(Unit ⊕ (Int × Int) ⊕ (Int × Int))→Option AV:=sumE (fun _:Unit=>k (.exit 2) ⟨[],[([0,1],⟨true,[],[AV.agg [AV.sl [.int .i64] h0_0,AV.sl [.int .i64] h0_1,AV.sl [.int .i64,.int .i64] h0_2]]⟩)]⟩) (sumE (fun p:Int × Int=>k .ret ⟨[(2,AV.bool false)],[([0,1],⟨true,[],[AV.agg [AV.sl [.int .i64] h0_0,AV.sl [.int .i64] h0_1,AV.sl [.int .i64,.int .i64] h0_2]]⟩),([1,6],⟨true,[],[AV.agg [Ai p.1,Ai p.2]]⟩)]⟩) (fun p:Int × Int=>k .ret ⟨[(2,AV.bool false)],[([0,1],⟨true,[],[AV.agg [AV.sl [.int .i64] h0_0,AV.sl [.int .i64] h0_1,AV.sl [.int .i64,.int .i64] h0_2]]⟩),([0,6],⟨true,[],[AV.agg [Ai p.1,Ai p.2]]⟩)]⟩))
def l11_2:LModel:=fun _ _ st k=>match st with
 | ⟨[(1,.ptr g0 g1 g2),(50,.sl g3 t50),(51,.int .i64 t51),(52,.int .i64 t52)],[(g4,⟨true,[],[.agg [.sl g5 h0_0,.sl g6 h0_1,.sl g7 h0_2]]⟩)]⟩=>bif nmEq g0 ([0,1]) && Nat.beq g1 0 && Nat.beq g2 0 && ctsEq g3 ([.int .i64,.int .i64]) && nmEq g4 ([0,1]) && ctsEq g5 ([.int .i64]) && ctsEq g6 ([.int .i64]) && ctsEq g7 ([.int .i64,.int .i64]) then ro (runW (R11_2 t50 t51 h0_0 h0_1 h0_2) ((t51 - t52:Int).toNat+1) t52) none (K11_2 t50 t51 h0_0 h0_1 h0_2 k) else none
 | _=>none
def G11_0 {β:Type} (t35:List AV) (t36:Int) (h0_0:List AV) (h0_1:List AV) (h0_2:List AV) (t37:Int) (N:(Int)→β) (K:(Unit ⊕ Unit)→β) (d:β):β:=(bif decide (t37<t36) then (bif (decide (0≤t37) && decide (t37<(t35.length:Int))) then (bif (decide (0≤0) && decide (0≤t37) && decide (t37≤(h0_1.length:Int))) then (bif q35 ((h0_1.take (Int.toNat t37)).drop (Int.toNat 0)) (fI (t35.getD t37.toNat .undef) 0) then (bif (v35_0 ((h0_1.take (Int.toNat t37)).drop (Int.toNat 0)) (fI (t35.getD t37.toNat .undef) 0)) then K (.inr ())
 else N (IntKind.i64.wrap (t37+1)))
 else d)
 else d)
 else d)
 else K (.inl ()))
def F11_0 (t35:List AV) (t36:Int) (h0_0 h0_1 h0_2:List AV) (t37:Int):Out (Int) (Unit ⊕ Unit):=G11_0 t35 t36 h0_0 h0_1 h0_2 t37 .next .stop .fail
def R11_0 (t35:List AV) (t36:Int) (h0_0 h0_1 h0_2:List AV):(Int)→Out (Int) (Unit ⊕ Unit):=fun s:Int=>F11_0 t35 t36 h0_0 h0_1 h0_2 s
def E11_0 (t35:List AV) (t36:Int) (h0_0 h0_1 h0_2:List AV):(Int)→St:=fun s:Int=>⟨[(1,AV.ptr [0,1] 0 0),(35,AV.sl [.int .i64] t35),(36,Ai t36),(37,Ai s)],[([0,1],⟨true,[],[AV.agg [AV.sl [.int .i64] h0_0,AV.sl [.int .i64] h0_1,AV.sl [.int .i64,.int .i64] h0_2]]⟩)]⟩
def K11_0 (t35:List AV) (t36:Int) (h0_0 h0_1 h0_2:List AV) (k:Kont):(Unit ⊕ Unit)→Option AV:=sumE (fun _:Unit=>k (.exit 0) ⟨[(1,AV.ptr [0,1] 0 0)],[([0,1],⟨true,[],[AV.agg [AV.sl [.int .i64] h0_0,AV.sl [.int .i64] h0_1,AV.sl [.int .i64,.int .i64] h0_2]]⟩)]⟩) (fun _:Unit=>k .ret ⟨[(2,AV.bool false)],[([0,1],⟨true,[],[AV.agg [AV.sl [.int .i64] h0_0,AV.sl [.int .i64] h0_1,AV.sl [.int .i64,.int .i64] h0_2]]⟩)]⟩)
def l11_0:LModel:=fun _ _ st k=>match st with
 | ⟨[(1,.ptr g0 g1 g2),(35,.sl g3 t35),(36,.int .i64 t36),(37,.int .i64 t37)],[(g4,⟨true,[],[.agg [.sl g5 h0_0,.sl g6 h0_1,.sl g7 h0_2]]⟩)]⟩=>bif nmEq g0 ([0,1]) && Nat.beq g1 0 && Nat.beq g2 0 && ctsEq g3 ([.int .i64]) && nmEq g4 ([0,1]) && ctsEq g5 ([.int .i64]) && ctsEq g6 ([.int .i64]) && ctsEq g7 ([.int .i64,.int .i64]) then ro (runW (R11_0 t35 t36 h0_0 h0_1 h0_2) ((t36 - t37:Int).toNat+1) t37) none (K11_0 t35 t36 h0_0 h0_1 h0_2 k) else none
 | _=>none
noncomputable def c11:Cfg:=cfg Tryd.prog [(11,0,[1,35,36,37]),(11,2,[1,50,51,52]),(11,4,[1,6,50,51,52,103,104,105]),(11,999,[2]),(11,1000,[1]),(11,1001,[1,35,36,37]),(11,1002,[]),(11,1003,[1,50,51,52]),(11,1004,[1,50,51,52]),(11,1005,[1,6,50,51,52,103,104,105])] [(33,m33),(34,m34),(35,m35),(36,m36)] [] [] [(11,0,l11_0),(11,2,l11_2),(11,4,l11_4)]
theorem s11_4 (t50:List AV) (t51 t52:Int) (t103:List AV) (t104:Int) (h0_0 h0_1 h0_2:List AV) (h1_0 h1_1:Int) (ce:CallE) (k:Kont) (s:Int) (next:St→Option AV):stepA (codeA c11 ce [] 11 4 (sub [1,1,1,0,1,0,0,1,1,0,0,1,1,1,0,0] (body Tryd.f11))) (normA [] [1,6,50,51,52,103,104,105]) next ((E11_4 t50 t51 t52 t103 t104 h0_0 h0_1 h0_2 h1_0 h1_1) s) k=G11_4 t50 t51 t52 t103 t104 h0_0 h0_1 h0_2 h1_0 h1_1 s (fun s=>next ((E11_4 t50 t51 t52 t103 t104 h0_0 h0_1 h0_2 h1_0 h1_1) s)) (K11_4 t50 t51 t52 t103 t104 h0_0 h0_1 h0_2 h1_0 h1_1 k) none:=by kernel_rfl
theorem st11_4 (t50:List AV) (t51 t52:Int) (t103:List AV) (t104:Int) (h0_0 h0_1 h0_2:List AV) (h1_0 h1_1:Int) (ce:CallE) (k:Kont) (s:Int) (next:St→Option AV):stepA (codeA c11 ce [] 11 4 (sub [1,1,1,0,1,0,0,1,1,0,0,1,1,1,0,0] (body Tryd.f11))) (normA [] [1,6,50,51,52,103,104,105]) next ((E11_4 t50 t51 t52 t103 t104 h0_0 h0_1 h0_2 h1_0 h1_1) s) k=(R11_4 t50 t51 t52 t103 t104 h0_0 h0_1 h0_2 h1_0 h1_1 s).el none (fun s=>next ((E11_4 t50 t51 t52 t103 t104 h0_0 h0_1 h0_2 h1_0 h1_1) s)) (K11_4 t50 t51 t52 t103 t104 h0_0 h0_1 h0_2 h1_0 h1_1 k):=(s11_4 t50 t51 t52 t103 t104 h0_0 h0_1 h0_2 h1_0 h1_1 ce k s next).trans (by unfold R11_4;unfold F11_4 G11_4;simp only [el_cond,el_ro,el_sum,el_fail,el_next,el_stop] <;> rfl)
theorem ok11_4 {ce:CallE}:LoopOK c11 ce [] 11 4 (sub [1,1,1,0,1,0,0,1,1,0,0,1,1,1,0,0] (body Tryd.f11)):=by
 intro m hm st k r h
 obtain rfl:l11_4=m:=Option.some.inj hm
 unfold l11_4 at h
 split at h
 ·rename_i g0 g1 g2 g3 g4 g5 g6 t50 t51 t52 g7 t103 t104 t105 g8 g9 h0_0 g10 h0_1 g11 h0_2 g12 h1_0 h1_1
  obtain ⟨hg,h⟩:=bif_some h
  simp only [Bool.and_eq_true] at hg
  obtain ⟨⟨⟨⟨⟨⟨⟨⟨⟨⟨⟨⟨q0,q1⟩,q2⟩,q3⟩,q4⟩,q5⟩,q6⟩,q7⟩,q8⟩,q9⟩,q10⟩,q11⟩,q12⟩:=hg
  obtain rfl:=nE q0
  obtain rfl:=bE q1
  obtain rfl:=bE q2
  obtain rfl:=nE q3
  obtain rfl:=bE q4
  obtain rfl:=bE q5
  obtain rfl:=cE q6
  obtain rfl:=cE q7
  obtain rfl:=nE q8
  obtain rfl:=cE q9
  obtain rfl:=cE q10
  obtain rfl:=cE q11
  obtain rfl:=nE q12
  refine ⟨((t104 - t105:Int).toNat+1),?_⟩
  rw [← h]
  exact loop_run (E11_4 t50 t51 t52 t103 t104 h0_0 h0_1 h0_2 h1_0 h1_1) (K11_4 t50 t51 t52 t103 t104 h0_0 h0_1 h0_2 h1_0 h1_1 k) (st11_4 t50 t51 t52 t103 t104 h0_0 h0_1 h0_2 h1_0 h1_1 ce k) _ t105
 ·cases h
theorem s11_2 (t50:List AV) (t51:Int) (h0_0 h0_1 h0_2:List AV) (ce:CallE) (k:Kont) (s:Int) (next:St→Option AV):stepA (codeA c11 ce [] 11 2 (sub [1,1,1,0,1,0,0] (body Tryd.f11))) (normA [] [1,50,51,52]) next ((E11_2 t50 t51 h0_0 h0_1 h0_2) s) k=G11_2 t50 t51 h0_0 h0_1 h0_2 s (fun s=>next ((E11_2 t50 t51 h0_0 h0_1 h0_2) s)) (K11_2 t50 t51 h0_0 h0_1 h0_2 k) none:=by kernel_rfl
theorem st11_2 (t50:List AV) (t51:Int) (h0_0 h0_1 h0_2:List AV) (ce:CallE) (k:Kont) (s:Int) (next:St→Option AV):stepA (codeA c11 ce [] 11 2 (sub [1,1,1,0,1,0,0] (body Tryd.f11))) (normA [] [1,50,51,52]) next ((E11_2 t50 t51 h0_0 h0_1 h0_2) s) k=(R11_2 t50 t51 h0_0 h0_1 h0_2 s).el none (fun s=>next ((E11_2 t50 t51 h0_0 h0_1 h0_2) s)) (K11_2 t50 t51 h0_0 h0_1 h0_2 k):=(s11_2 t50 t51 h0_0 h0_1 h0_2 ce k s next).trans (by unfold R11_2;unfold F11_2 G11_2;simp only [el_cond,el_ro,el_sum,el_fail,el_next,el_stop] <;> rfl)
theorem ok11_2 {ce:CallE}:LoopOK c11 ce [] 11 2 (sub [1,1,1,0,1,0,0] (body Tryd.f11)):=by
 intro m hm st k r h
 obtain rfl:l11_2=m:=Option.some.inj hm
 unfold l11_2 at h
 split at h
 ·rename_i g0 g1 g2 g3 t50 t51 t52 g4 g5 h0_0 g6 h0_1 g7 h0_2
  obtain ⟨hg,h⟩:=bif_some h
  simp only [Bool.and_eq_true] at hg
  obtain ⟨⟨⟨⟨⟨⟨⟨q0,q1⟩,q2⟩,q3⟩,q4⟩,q5⟩,q6⟩,q7⟩:=hg
  obtain rfl:=nE q0
  obtain rfl:=bE q1
  obtain rfl:=bE q2
  obtain rfl:=cE q3
  obtain rfl:=nE q4
  obtain rfl:=cE q5
  obtain rfl:=cE q6
  obtain rfl:=cE q7
  refine ⟨((t51 - t52:Int).toNat+1),?_⟩
  rw [← h]
  exact loop_run (E11_2 t50 t51 h0_0 h0_1 h0_2) (K11_2 t50 t51 h0_0 h0_1 h0_2 k) (st11_2 t50 t51 h0_0 h0_1 h0_2 ce k) _ t52
 ·cases h
theorem s11_0 (t35:List AV) (t36:Int) (h0_0 h0_1 h0_2:List AV) (ce:CallE) (k:Kont) (s:Int) (next:St→Option AV):stepA (codeA c11 ce [] 11 0 (sub [1,1,0,1,0,0] (body Tryd.f11))) (normA [] [1,35,36,37]) next ((E11_0 t35 t36 h0_0 h0_1 h0_2) s) k=G11_0 t35 t36 h0_0 h0_1 h0_2 s (fun s=>next ((E11_0 t35 t36 h0_0 h0_1 h0_2) s)) (K11_0 t35 t36 h0_0 h0_1 h0_2 k) none:=by kernel_rfl
theorem st11_0 (t35:List AV) (t36:Int) (h0_0 h0_1 h0_2:List AV) (ce:CallE) (k:Kont) (s:Int) (next:St→Option AV):stepA (codeA c11 ce [] 11 0 (sub [1,1,0,1,0,0] (body Tryd.f11))) (normA [] [1,35,36,37]) next ((E11_0 t35 t36 h0_0 h0_1 h0_2) s) k=(R11_0 t35 t36 h0_0 h0_1 h0_2 s).el none (fun s=>next ((E11_0 t35 t36 h0_0 h0_1 h0_2) s)) (K11_0 t35 t36 h0_0 h0_1 h0_2 k):=(s11_0 t35 t36 h0_0 h0_1 h0_2 ce k s next).trans (by unfold R11_0;unfold F11_0 G11_0;simp only [el_cond,el_ro,el_sum,el_fail,el_next,el_stop] <;> rfl)
theorem ok11_0 {ce:CallE}:LoopOK c11 ce [] 11 0 (sub [1,1,0,1,0,0] (body Tryd.f11)):=by
 intro m hm st k r h
 obtain rfl:l11_0=m:=Option.some.inj hm
 unfold l11_0 at h
 split at h
 ·rename_i g0 g1 g2 g3 t35 t36 t37 g4 g5 h0_0 g6 h0_1 g7 h0_2
  obtain ⟨hg,h⟩:=bif_some h
  simp only [Bool.and_eq_true] at hg
  obtain ⟨⟨⟨⟨⟨⟨⟨q0,q1⟩,q2⟩,q3⟩,q4⟩,q5⟩,q6⟩,q7⟩:=hg
  obtain rfl:=nE q0
  obtain rfl:=bE q1
  obtain rfl:=bE q2
  obtain rfl:=cE q3
  obtain rfl:=nE q4
  obtain rfl:=cE q5
  obtain rfl:=cE q6
  obtain rfl:=cE q7
  refine ⟨((t36 - t37:Int).toNat+1),?_⟩
  rw [← h]
  exact loop_run (E11_0 t35 t36 h0_0 h0_1 h0_2) (K11_0 t35 t36 h0_0 h0_1 h0_2 k) (st11_0 t35 t36 h0_0 h0_1 h0_2 ce k) _ t37
 ·cases h
def q11 (xa xb xc:List AV):Bool:=(q33 xa && (bif !(v33_0 xa) then true else (bif !decide ((xb.length:Int)=(xa.length:Int)) then true else (q34 xb 0 999 && (bif !(v34_0 xb 0 999) then true else (bif decide ((xc.length:Int) > 2001) then true else (ro (runW (R11_0 xb (xb.length:Int) xa xb xc) (((xb.length:Int) - 0:Int).toNat+1) 0) false (sumE (fun _=>(ro (runW (R11_2 xc (xc.length:Int) xa xb xc) (((xc.length:Int) - 0:Int).toNat+1) 0) false (sumE (fun _=>true) (sumE (fun p37=>true) (fun p38=>true))))) (fun _=>true)))))))))
def v11_0 (xa xb xc:List AV):Bool:=(bif !(v33_0 xa) then false else (bif !decide ((xb.length:Int)=(xa.length:Int)) then false else (bif !(v34_0 xb 0 999) then false else (bif decide ((xc.length:Int) > 2001) then false else (ro (runW (R11_0 xb (xb.length:Int) xa xb xc) (((xb.length:Int) - 0:Int).toNat+1) 0) false (sumE (fun _=>(ro (runW (R11_2 xc (xc.length:Int) xa xb xc) (((xc.length:Int) - 0:Int).toNat+1) 0) false (sumE (fun _=>true) (sumE (fun p37=>false) (fun p38=>false))))) (fun _=>false)))))))
theorem e11 (xa xb xc:List AV):funA c11 0 11 [AV.agg [AV.sl [.int .i64] xa,AV.sl [.int .i64] xb,AV.sl [.int .i64,.int .i64] xc]]=(bif q33 xa then (bif !(v33_0 xa) then some (AV.bool false)
 else (bif !decide ((xb.length:Int)=(xa.length:Int)) then some (AV.bool false)
 else (bif q34 xb 0 999 then (bif !(v34_0 xb 0 999) then some (AV.bool false)
 else (bif decide ((xc.length:Int) > 2001) then some (AV.bool false)
 else (ro (runW (R11_0 xb (xb.length:Int) xa xb xc) (((xb.length:Int) - 0:Int).toNat+1) 0) none (sumE (fun _=>(ro (runW (R11_2 xc (xc.length:Int) xa xb xc) (((xc.length:Int) - 0:Int).toNat+1) 0) none (sumE (fun _=>some (AV.bool true)) (sumE (fun p37=>some (AV.bool false)) (fun p38=>some (AV.bool false)))))) (fun _=>some (AV.bool false))))))
 else none)))
 else none):=by kernel_rfl
theorem r11 (xa xb xc:List AV) (h:q11 xa xb xc=true):funA c11 0 11 [AV.agg [AV.sl [.int .i64] xa,AV.sl [.int .i64] xb,AV.sl [.int .i64,.int .i64] xc]]=some (AV.bool (v11_0 xa xb xc)):=by
 refine (e11 xa xb xc).trans ?_
 unfold q11 at h
 unfold v11_0
 refine ifG (fun hc=>?_) (fun hc=>?_) <;> first|rw [hc] at h ⊢|rw [hc] at h|rw [hc]|skip
 ·refine ifG (fun hc=>?_) (fun hc=>?_) <;> first|rw [hc] at h ⊢|rw [hc] at h|rw [hc]|skip
  ·rfl
  ·refine ifG (fun hc=>?_) (fun hc=>?_) <;> first|rw [hc] at h ⊢|rw [hc] at h|rw [hc]|skip
   ·rfl
   ·refine ifG (fun hc=>?_) (fun hc=>?_) <;> first|rw [hc] at h ⊢|rw [hc] at h|rw [hc]|skip
    ·refine ifG (fun hc=>?_) (fun hc=>?_) <;> first|rw [hc] at h ⊢|rw [hc] at h|rw [hc]|skip
     ·rfl
     ·refine ifG (fun hc=>?_) (fun hc=>?_) <;> first|rw [hc] at h ⊢|rw [hc] at h|rw [hc]|skip
      ·rfl
      ·refine roG (fun hc=>?_) (fun r hc=>?_) <;> first|rw [hc] at h ⊢|rw [hc] at h|rw [hc]|skip
       ·exact Bool.noConfusion h
       ·try simp only [ro] at h ⊢
        cases r with
        | inl _ =>
         try simp only [sumE] at h ⊢
         refine roG (fun hc=>?_) (fun r hc=>?_) <;> first|rw [hc] at h ⊢|rw [hc] at h|rw [hc]|skip
         ·exact Bool.noConfusion h
         ·try simp only [ro] at h ⊢
          cases r with
          | inl _ =>
           try simp only [sumE] at h ⊢
           rfl
          | inr r =>
           try simp only [sumE] at h ⊢
           cases r with
           | inl p37 =>
            try simp only [sumE] at h ⊢
            rfl
           | inr p38 =>
            try simp only [sumE] at h ⊢
            rfl
        | inr _ =>
         try simp only [sumE] at h ⊢
         rfl
    ·first|exact Bool.noConfusion h|exact Bool.noConfusion hc
 ·first|exact Bool.noConfusion h|exact Bool.noConfusion hc
def m11:TModel
 | [.agg [.sl g0 xa,.sl g1 xb,.sl g2 xc]]=>bif ctsEq g0 ([.int .i64]) && ctsEq g1 ([.int .i64]) && ctsEq g2 ([.int .i64,.int .i64]) then some (q11 xa xb xc,AV.bool (v11_0 xa xb xc)) else none
 | _=>none
theorem k11:Known Tryd.prog 11:=⟨Tryd.f11,Tryd.func11,by kernel_rfl,by kernel_rfl⟩
theorem meets11:Meets Tryd.prog 11 m11:=by
 refine mt (lvl:=0) (cf:=c11) rfl mixed k11 Tryd.func11 (by kernel_rfl) (loops_cons ok11_0 (loops_cons ok11_2 (loops_cons ok11_4 noLoop))) (allT_cons meets33 (allT_cons meets34 (allT_cons meets35 (allT_cons meets36 allT_nil)))) allM_nil noI fun xs r h=>?_
 unfold m11 at h
 split at h
 ·rename_i g0 xa g1 xb g2 xc
  obtain ⟨hg,h⟩:=bif_pair h
  simp only [Bool.and_eq_true] at hg
  obtain ⟨⟨q0,q1⟩,q2⟩:=hg
  obtain rfl:=cE q0
  obtain rfl:=cE q1
  obtain rfl:=cE q2
  obtain ⟨h1,rfl⟩:=pair_inj h
  exact r11 xa xb xc h1
 ·cases h
noncomputable def c63:Cfg:=cfg Tryd.prog [(63,999,[2])] [] [] [] []
def q63 (a0:List AV):Bool:=decide (a0.length*16≤140737488355328) && decide (a0.length≤140737488355328)
def v63_0 (a0:List AV):List AV:=a0
theorem e63 (a0:List AV):funA c63 0 63 [AV.sl [.int .i64,.int .i64] a0]=(bif decide (0<a0.length) then (bif (decide ((([]:List AV).length+a0.length)*16≤140737488355328) && decide ((([]:List AV).length+a0.length)≤140737488355328)) then some (AV.fl [.int .i64,.int .i64] (([]:List AV)++a0))
 else none)
 else none):=by kernel_rfl
theorem e63n (b:Bool):funA c63 0 63 [AV.sle b [.int .i64,.int .i64]]=some (AV.fl [.int .i64,.int .i64] []):=by cases b <;> kernel_rfl
def m63:TModel
 | [.sl g0 a0]=>bif ctsEq g0 [.int .i64,.int .i64] then some (q63 a0,AV.fl [.int .i64,.int .i64] (v63_0 a0)) else none
 | _=>none
theorem k63:Known Tryd.prog 63:=⟨Tryd.f63,Tryd.func63,by kernel_rfl,by kernel_rfl⟩
theorem meets63:Meets Tryd.prog 63 m63:=by
 refine meet_nil (f:=Tryd.f63) (l:=[]) (hs:=[(63,999,[2])]) (ts:=[]) (ws:=[]) (is:=[]) (ls:=[]) (lvl:=0) (tys:=[.int .i64,.int .i64]) mixed k63 Tryd.func63 (by kernel_rfl) noLoop allT_nil allM_nil noI (fun xs r h=>?_) (fun b r h=>?_) (fun ys r h0 h=>?_)
 ·unfold m63 at h
  split at h
  ·rename_i g0 a0
   obtain ⟨hg,h⟩:=bif_pair h
   obtain rfl:=ctsEq_eq _ _ hg
   exact ⟨a0,rfl⟩
  ·cases h
 ·obtain ⟨hg,h⟩:=bif_pair (g:=ctsEq [.int .i64,.int .i64] [.int .i64,.int .i64]) h
  obtain ⟨_,rfl⟩:=pair_inj h
  exact e63n b
 ·obtain ⟨hg,h⟩:=bif_pair (g:=ctsEq [.int .i64,.int .i64] [.int .i64,.int .i64]) h
  obtain ⟨hq,rfl⟩:=pair_inj h
  refine (e63 ys).trans ?_
  unfold q63 at hq
  have e:([]:List AV).length+ys.length=ys.length:=by simp
  rw [e,hq,decide_eq_true h0]
  rfl
end
end Go.Proofs.YteppndjaglhehaaDoor
