import Derived.Test.YtealoedecngaoaaGreatDoorP6
import Derived.Test.YtealoedecngaoaaGreatDoorP7
import Derived.Test.YtealoedecngaoaaGreatDoorP8
import Derived.Test.YtealoedecngaoaaGreatDoorP9
import Derived.Test.YtealoedecngaoaaGreatDoorP10
import Derived.Test.YtealoedecngaoaaGreatDoorP11
import Derived.Test.YtealoedecngaoaaGreatDoorP5
import Derived.Test.YtealoedecngaoaaGreatDoorProg
import Derived.KernelRfl
namespace Go.Proofs.YtealoedecngaoaaGreatDoor
open Go Go.Proofs.VE
set_option linter.unusedVariables false
set_option linter.unusedSimpArgs false
set_option maxRecDepth 100000
set_option maxHeartbeats 4000000
theorem mixed:Tryz.prog.follows .mixedOrders=true:=by kernel_rfl
noncomputable section
noncomputable def c7:Cfg:=cfg Tryz.prog [(7,999,[2])] [] [] [] []
def q7 (a0:List AV):Bool:=true
def v7_0 (a0:List AV):Bool:=decide ((a0.length:Int) > 1048576)
theorem e7 (a0:List AV):funA c7 0 7 [AV.sl [.int .u8] a0]=some (AV.bool (decide ((a0.length:Int) > 1048576))):=by kernel_rfl
def m7:TModel
 | [.sl g0 a0]=>bif ctsEq g0 ([.int .u8]) then some (true,AV.bool (v7_0 a0)) else none
 | _=>none
theorem k7:Known Tryz.prog 7:=⟨Tryz.f7,Tryz.func7,by kernel_rfl,by kernel_rfl⟩
theorem meets7:Meets Tryz.prog 7 m7:=by
 refine mt (lvl:=0) (cf:=c7) rfl mixed k7 Tryz.func7 (by kernel_rfl) noLoop allT_nil allM_nil noI fun xs r h=>?_
 unfold m7 at h
 split at h
 ·rename_i g0 a0
  obtain ⟨hg,h⟩:=bif_pair h
  have q0:=hg
  obtain rfl:=cE q0
  obtain ⟨h1,rfl⟩:=pair_inj h
  exact (e7 a0).trans (of_tt (fun _=>rfl))
 ·cases h
noncomputable def c182:Cfg:=cfg Tryz.prog [(182,999,[2])] [] [] [] []
def q182 (ua:List AV) (ub uc:Int):Bool:=(bif decide (ub<(ua.length:Int)) then (decide (0≤ub) && decide (ub<(ua.length:Int))) else true)
def v182_0 (ua:List AV) (ub uc:Int):Int:=VE.hid (fun (ua:List AV) (ub:Int) (uc:Int)=>(bif decide (ub<(ua.length:Int)) then IntKind.i64.wrap ((BitVec.ofInt 64 (IntKind.i64.wrap (IntKind.i64.wrap ((BitVec.ofInt 64 (IntKind.i64.wrap ((BitVec.ofInt 64 (Int.fdiv (IntKind.i64.wrap (IntKind.i64.wrap (uc*6364136223846793005)+1442695040888963407)) (2 ^ 33)) ^^^ BitVec.ofInt 64 (Int.fdiv (IntKind.i64.wrap (IntKind.i64.wrap (uc*6364136223846793005)+1442695040888963407)) (2 ^ 45))).toNat:Int)) &&& BitVec.ofInt 64 255).toNat:Int)+IntKind.i64.wrap (fI (ua.getD ub.toNat .undef) 0))) &&& BitVec.ofInt 64 255).toNat:Int) else IntKind.i64.wrap ((BitVec.ofInt 64 (IntKind.i64.wrap ((BitVec.ofInt 64 (Int.fdiv (IntKind.i64.wrap (IntKind.i64.wrap (uc*6364136223846793005)+1442695040888963407)) (2 ^ 33)) ^^^ BitVec.ofInt 64 (Int.fdiv (IntKind.i64.wrap (IntKind.i64.wrap (uc*6364136223846793005)+1442695040888963407)) (2 ^ 45))).toNat:Int)) &&& BitVec.ofInt 64 255).toNat:Int))) ua ub uc
def v182_1 (ua:List AV) (ub uc:Int):List AV:=ua
def v182_2 (ua:List AV) (ub uc:Int):Int:=VE.hid (fun (ua:List AV) (ub:Int) (uc:Int)=>(bif decide (ub<(ua.length:Int)) then IntKind.i64.wrap (ub+1) else ub)) ua ub uc
def v182_3 (ua:List AV) (ub uc:Int):Int:=VE.hid (fun (ua:List AV) (ub:Int) (uc:Int)=>IntKind.i64.wrap (IntKind.i64.wrap (uc*6364136223846793005)+1442695040888963407)) ua ub uc
theorem e182 (ua:List AV) (ub uc:Int) (K:List AV→List (Option Blk)→Option AV):inlA c182 1 182 [AV.ptr [1] 0 0] [0] (canH 1 [⟨true,[],[AV.agg [AV.sl [.int .u8] ua,Ai ub,Ai uc]]⟩]) (keepG Tryz.prog 1 [3] [] K)=(bif decide (ub<(ua.length:Int)) then (bif (decide (0≤ub) && decide (ub<(ua.length:Int))) then K [Ai (IntKind.i64.wrap ((BitVec.ofInt 64 (IntKind.i64.wrap (IntKind.i64.wrap ((BitVec.ofInt 64 (IntKind.i64.wrap ((BitVec.ofInt 64 (Int.fdiv (IntKind.i64.wrap (IntKind.i64.wrap (uc*6364136223846793005)+1442695040888963407)) (2 ^ 33)) ^^^ BitVec.ofInt 64 (Int.fdiv (IntKind.i64.wrap (IntKind.i64.wrap (uc*6364136223846793005)+1442695040888963407)) (2 ^ 45))).toNat:Int)) &&& BitVec.ofInt 64 255).toNat:Int)+IntKind.i64.wrap (fI (ua.getD ub.toNat .undef) 0))) &&& BitVec.ofInt 64 255).toNat:Int))] [some ⟨true,[],[AV.agg [AV.sl [.int .u8] ua,Ai (IntKind.i64.wrap (ub+1)),Ai (IntKind.i64.wrap (IntKind.i64.wrap (uc*6364136223846793005)+1442695040888963407))]]⟩]
 else none)
 else K [Ai (IntKind.i64.wrap ((BitVec.ofInt 64 (IntKind.i64.wrap ((BitVec.ofInt 64 (Int.fdiv (IntKind.i64.wrap (IntKind.i64.wrap (uc*6364136223846793005)+1442695040888963407)) (2 ^ 33)) ^^^ BitVec.ofInt 64 (Int.fdiv (IntKind.i64.wrap (IntKind.i64.wrap (uc*6364136223846793005)+1442695040888963407)) (2 ^ 45))).toNat:Int)) &&& BitVec.ofInt 64 255).toNat:Int))] [some ⟨true,[],[AV.agg [AV.sl [.int .u8] ua,Ai ub,Ai (IntKind.i64.wrap (IntKind.i64.wrap (uc*6364136223846793005)+1442695040888963407))]]⟩]):=by kernel_rfl
theorem r182 (ua:List AV) (ub uc:Int) (K:List AV→List (Option Blk)→Option AV) (h:q182 ua ub uc=true):inlA c182 1 182 [AV.ptr [1] 0 0] [0] (canH 1 [⟨true,[],[AV.agg [AV.sl [.int .u8] ua,AV.int .i64 ub,AV.int .i64 uc]]⟩]) (keepG Tryz.prog 1 [3] [] K)=K [AV.int .i64 (v182_0 ua ub uc)] [some ⟨true,[],[AV.agg [AV.sl [.int .u8] (v182_1 ua ub uc),AV.int .i64 (v182_2 ua ub uc),AV.int .i64 (v182_3 ua ub uc)]]⟩]:=by
 unfold v182_0 v182_2 v182_3
 simp only [VE.hid_eq]
 exact (e182 ua ub uc K).trans ((br (fun b=>K [AV.int .i64 (bif b then IntKind.i64.wrap ((BitVec.ofInt 64 (IntKind.i64.wrap (IntKind.i64.wrap ((BitVec.ofInt 64 (IntKind.i64.wrap ((BitVec.ofInt 64 (Int.fdiv (IntKind.i64.wrap (IntKind.i64.wrap (uc*6364136223846793005)+1442695040888963407)) (2 ^ 33)) ^^^ BitVec.ofInt 64 (Int.fdiv (IntKind.i64.wrap (IntKind.i64.wrap (uc*6364136223846793005)+1442695040888963407)) (2 ^ 45))).toNat:Int)) &&& BitVec.ofInt 64 255).toNat:Int)+IntKind.i64.wrap (fI (ua.getD ub.toNat .undef) 0))) &&& BitVec.ofInt 64 255).toNat:Int) else IntKind.i64.wrap ((BitVec.ofInt 64 (IntKind.i64.wrap ((BitVec.ofInt 64 (Int.fdiv (IntKind.i64.wrap (IntKind.i64.wrap (uc*6364136223846793005)+1442695040888963407)) (2 ^ 33)) ^^^ BitVec.ofInt 64 (Int.fdiv (IntKind.i64.wrap (IntKind.i64.wrap (uc*6364136223846793005)+1442695040888963407)) (2 ^ 45))).toNat:Int)) &&& BitVec.ofInt 64 255).toNat:Int))] [some ⟨true,[],[AV.agg [AV.sl [.int .u8] ua,AV.int .i64 (bif b then IntKind.i64.wrap (ub+1) else ub),AV.int .i64 (IntKind.i64.wrap (IntKind.i64.wrap (uc*6364136223846793005)+1442695040888963407))]]⟩]) (brL1 (fun _=>rfl)) (fun _=>rfl)) h)
def m182:GModel
 | [.ptr g0 g1 g2],[⟨true,[],[.agg [.sl g3 ua,.int .i64 ub,.int .i64 uc]]⟩]=>bif nmEq g0 ([1]) && Nat.beq g1 0 && Nat.beq g2 0 && ctsEq g3 ([.int .u8]) then some (q182 ua ub uc,[AV.int .i64 (v182_0 ua ub uc)],[some ⟨true,[],[AV.agg [AV.sl [.int .u8] (v182_1 ua ub uc),AV.int .i64 (v182_2 ua ub uc),AV.int .i64 (v182_3 ua ub uc)]]⟩]) else none
 | _,_=>none
theorem k182:Known Tryz.prog 182:=⟨Tryz.f182,Tryz.func182,by kernel_rfl,by kernel_rfl⟩
theorem meets182:MeetsG Tryz.prog 182 m182:=by
 refine mg (rt:=[3]) (gs:=[]) (lvl:=0) (cf:=c182) rfl mixed k182 Tryz.func182 (by kernel_rfl) noLoop allT_nil allM_nil noI fun xs bs r bs' h K=>?_
 unfold m182 at h
 split at h
 ·rename_i g0 g1 g2 g3 ua ub uc
  obtain ⟨hg,h⟩:=bif_pair h
  simp only [Bool.and_eq_true] at hg
  obtain ⟨⟨⟨q0,q1⟩,q2⟩,q3⟩:=hg
  obtain rfl:=nE q0
  obtain rfl:=bE q1
  obtain rfl:=bE q2
  obtain rfl:=cE q3
  obtain ⟨h1,rfl,rfl⟩:=trip_inj h
  exact r182 ua ub uc K h1
 ·cases h
noncomputable def c131:Cfg:=cfg Tryz.prog [(131,999,[4])] [] [(182,.g m182)] [] []
def q131 (a1:Int) (ua:List AV) (ub uc:Int):Bool:=(bif decide (a1≤0) then true else (bif decide (a1≤256) then (q182 ua ub uc && !decide (a1=0)) else (q182 ua ub uc && (q182 (v182_1 ua ub uc) (v182_2 ua ub uc) (v182_3 ua ub uc) && (q182 (v182_1 (v182_1 ua ub uc) (v182_2 ua ub uc) (v182_3 ua ub uc)) (v182_2 (v182_1 ua ub uc) (v182_2 ua ub uc) (v182_3 ua ub uc)) (v182_3 (v182_1 ua ub uc) (v182_2 ua ub uc) (v182_3 ua ub uc)) && (q182 (v182_1 (v182_1 (v182_1 ua ub uc) (v182_2 ua ub uc) (v182_3 ua ub uc)) (v182_2 (v182_1 ua ub uc) (v182_2 ua ub uc) (v182_3 ua ub uc)) (v182_3 (v182_1 ua ub uc) (v182_2 ua ub uc) (v182_3 ua ub uc))) (v182_2 (v182_1 (v182_1 ua ub uc) (v182_2 ua ub uc) (v182_3 ua ub uc)) (v182_2 (v182_1 ua ub uc) (v182_2 ua ub uc) (v182_3 ua ub uc)) (v182_3 (v182_1 ua ub uc) (v182_2 ua ub uc) (v182_3 ua ub uc))) (v182_3 (v182_1 (v182_1 ua ub uc) (v182_2 ua ub uc) (v182_3 ua ub uc)) (v182_2 (v182_1 ua ub uc) (v182_2 ua ub uc) (v182_3 ua ub uc)) (v182_3 (v182_1 ua ub uc) (v182_2 ua ub uc) (v182_3 ua ub uc))) && !decide (a1=0)))))))
def v131_0 (a1:Int) (ua:List AV) (ub uc:Int):Int:=VE.hid (fun (a1:Int) (ua:List AV) (ub:Int) (uc:Int)=>(bif decide (a1≤0) then 0 else (bif decide (a1≤256) then Int.tmod (v182_0 ua ub uc) a1 else Int.tmod (IntKind.i64.wrap (IntKind.i64.wrap (IntKind.i64.wrap (IntKind.i64.wrap ((v182_0 ua ub uc)*16777216)+IntKind.i64.wrap ((v182_0 (v182_1 ua ub uc) (v182_2 ua ub uc) (v182_3 ua ub uc))*65536))+IntKind.i64.wrap ((v182_0 (v182_1 (v182_1 ua ub uc) (v182_2 ua ub uc) (v182_3 ua ub uc)) (v182_2 (v182_1 ua ub uc) (v182_2 ua ub uc) (v182_3 ua ub uc)) (v182_3 (v182_1 ua ub uc) (v182_2 ua ub uc) (v182_3 ua ub uc)))*256))+(v182_0 (v182_1 (v182_1 (v182_1 ua ub uc) (v182_2 ua ub uc) (v182_3 ua ub uc)) (v182_2 (v182_1 ua ub uc) (v182_2 ua ub uc) (v182_3 ua ub uc)) (v182_3 (v182_1 ua ub uc) (v182_2 ua ub uc) (v182_3 ua ub uc))) (v182_2 (v182_1 (v182_1 ua ub uc) (v182_2 ua ub uc) (v182_3 ua ub uc)) (v182_2 (v182_1 ua ub uc) (v182_2 ua ub uc) (v182_3 ua ub uc)) (v182_3 (v182_1 ua ub uc) (v182_2 ua ub uc) (v182_3 ua ub uc))) (v182_3 (v182_1 (v182_1 ua ub uc) (v182_2 ua ub uc) (v182_3 ua ub uc)) (v182_2 (v182_1 ua ub uc) (v182_2 ua ub uc) (v182_3 ua ub uc)) (v182_3 (v182_1 ua ub uc) (v182_2 ua ub uc) (v182_3 ua ub uc)))))) a1))) a1 ua ub uc
def v131_1 (a1:Int) (ua:List AV) (ub uc:Int):List AV:=VE.hid (fun (a1:Int) (ua:List AV) (ub:Int) (uc:Int)=>(bif decide (a1≤0) then ua else (bif decide (a1≤256) then (v182_1 ua ub uc) else (v182_1 (v182_1 (v182_1 (v182_1 ua ub uc) (v182_2 ua ub uc) (v182_3 ua ub uc)) (v182_2 (v182_1 ua ub uc) (v182_2 ua ub uc) (v182_3 ua ub uc)) (v182_3 (v182_1 ua ub uc) (v182_2 ua ub uc) (v182_3 ua ub uc))) (v182_2 (v182_1 (v182_1 ua ub uc) (v182_2 ua ub uc) (v182_3 ua ub uc)) (v182_2 (v182_1 ua ub uc) (v182_2 ua ub uc) (v182_3 ua ub uc)) (v182_3 (v182_1 ua ub uc) (v182_2 ua ub uc) (v182_3 ua ub uc))) (v182_3 (v182_1 (v182_1 ua ub uc) (v182_2 ua ub uc) (v182_3 ua ub uc)) (v182_2 (v182_1 ua ub uc) (v182_2 ua ub uc) (v182_3 ua ub uc)) (v182_3 (v182_1 ua ub uc) (v182_2 ua ub uc) (v182_3 ua ub uc))))))) a1 ua ub uc
def v131_2 (a1:Int) (ua:List AV) (ub uc:Int):Int:=VE.hid (fun (a1:Int) (ua:List AV) (ub:Int) (uc:Int)=>(bif decide (a1≤0) then ub else (bif decide (a1≤256) then (v182_2 ua ub uc) else (v182_2 (v182_1 (v182_1 (v182_1 ua ub uc) (v182_2 ua ub uc) (v182_3 ua ub uc)) (v182_2 (v182_1 ua ub uc) (v182_2 ua ub uc) (v182_3 ua ub uc)) (v182_3 (v182_1 ua ub uc) (v182_2 ua ub uc) (v182_3 ua ub uc))) (v182_2 (v182_1 (v182_1 ua ub uc) (v182_2 ua ub uc) (v182_3 ua ub uc)) (v182_2 (v182_1 ua ub uc) (v182_2 ua ub uc) (v182_3 ua ub uc)) (v182_3 (v182_1 ua ub uc) (v182_2 ua ub uc) (v182_3 ua ub uc))) (v182_3 (v182_1 (v182_1 ua ub uc) (v182_2 ua ub uc) (v182_3 ua ub uc)) (v182_2 (v182_1 ua ub uc) (v182_2 ua ub uc) (v182_3 ua ub uc)) (v182_3 (v182_1 ua ub uc) (v182_2 ua ub uc) (v182_3 ua ub uc))))))) a1 ua ub uc
def v131_3 (a1:Int) (ua:List AV) (ub uc:Int):Int:=VE.hid (fun (a1:Int) (ua:List AV) (ub:Int) (uc:Int)=>(bif decide (a1≤0) then uc else (bif decide (a1≤256) then (v182_3 ua ub uc) else (v182_3 (v182_1 (v182_1 (v182_1 ua ub uc) (v182_2 ua ub uc) (v182_3 ua ub uc)) (v182_2 (v182_1 ua ub uc) (v182_2 ua ub uc) (v182_3 ua ub uc)) (v182_3 (v182_1 ua ub uc) (v182_2 ua ub uc) (v182_3 ua ub uc))) (v182_2 (v182_1 (v182_1 ua ub uc) (v182_2 ua ub uc) (v182_3 ua ub uc)) (v182_2 (v182_1 ua ub uc) (v182_2 ua ub uc) (v182_3 ua ub uc)) (v182_3 (v182_1 ua ub uc) (v182_2 ua ub uc) (v182_3 ua ub uc))) (v182_3 (v182_1 (v182_1 ua ub uc) (v182_2 ua ub uc) (v182_3 ua ub uc)) (v182_2 (v182_1 ua ub uc) (v182_2 ua ub uc) (v182_3 ua ub uc)) (v182_3 (v182_1 ua ub uc) (v182_2 ua ub uc) (v182_3 ua ub uc))))))) a1 ua ub uc
theorem e131 (a1:Int) (ua:List AV) (ub uc:Int) (K:List AV→List (Option Blk)→Option AV):inlA c131 1 131 [AV.ptr [1] 0 0,Ai a1] [0] (canH 1 [⟨true,[],[AV.agg [AV.sl [.int .u8] ua,Ai ub,Ai uc]]⟩]) (keepG Tryz.prog 1 [3] [] K)=((fun (x1:Int) (x2:List AV) (x3:Int) (x4:Int)=>((fun (x5:Int) (x6:List AV) (x7:Int) (x8:Int)=>((fun (x9:Int) (x10:List AV) (x11:Int) (x12:Int)=>(bif decide (a1≤0) then K [Ai 0] [some ⟨true,[],[AV.agg [AV.sl [.int .u8] ua,Ai ub,Ai uc]]⟩]
 else (bif decide (a1≤256) then (bif q182 ua ub uc then (bif !decide (a1=0) then K [Ai (Int.tmod x1 a1)] [some ⟨true,[],[AV.agg [AV.sl [.int .u8] x2,Ai x3,Ai x4]]⟩]
 else none)
 else none)
 else (bif q182 ua ub uc then (bif q182 x2 x3 x4 then (bif q182 x6 x7 x8 then (bif q182 x10 x11 x12 then (bif !decide (a1=0) then K [Ai (Int.tmod (IntKind.i64.wrap (IntKind.i64.wrap (IntKind.i64.wrap (IntKind.i64.wrap (x1*16777216)+IntKind.i64.wrap (x5*65536))+IntKind.i64.wrap (x9*256))+(v182_0 x10 x11 x12))) a1)] [some ⟨true,[],[AV.agg [AV.sl [.int .u8] (v182_1 x10 x11 x12),Ai (v182_2 x10 x11 x12),Ai (v182_3 x10 x11 x12)]]⟩]
 else none)
 else none)
 else none)
 else none)
 else none)))) (v182_0 x6 x7 x8) (v182_1 x6 x7 x8) (v182_2 x6 x7 x8) (v182_3 x6 x7 x8))) (v182_0 x2 x3 x4) (v182_1 x2 x3 x4) (v182_2 x2 x3 x4) (v182_3 x2 x3 x4))) (v182_0 ua ub uc) (v182_1 ua ub uc) (v182_2 ua ub uc) (v182_3 ua ub uc)):=by kernel_rfl
theorem r131 (a1:Int) (ua:List AV) (ub uc:Int) (K:List AV→List (Option Blk)→Option AV) (h:q131 a1 ua ub uc=true):inlA c131 1 131 [AV.ptr [1] 0 0,AV.int .i64 a1] [0] (canH 1 [⟨true,[],[AV.agg [AV.sl [.int .u8] ua,AV.int .i64 ub,AV.int .i64 uc]]⟩]) (keepG Tryz.prog 1 [3] [] K)=K [AV.int .i64 (v131_0 a1 ua ub uc)] [some ⟨true,[],[AV.agg [AV.sl [.int .u8] (v131_1 a1 ua ub uc),AV.int .i64 (v131_2 a1 ua ub uc),AV.int .i64 (v131_3 a1 ua ub uc)]]⟩]:=by
 unfold v131_0 v131_1 v131_2 v131_3
 simp only [VE.hid_eq]
 exact (e131 a1 ua ub uc K).trans ((br (fun b=>K [AV.int .i64 (bif b then 0 else (bif decide (a1≤256) then Int.tmod (v182_0 ua ub uc) a1 else Int.tmod (IntKind.i64.wrap (IntKind.i64.wrap (IntKind.i64.wrap (IntKind.i64.wrap ((v182_0 ua ub uc)*16777216)+IntKind.i64.wrap ((v182_0 (v182_1 ua ub uc) (v182_2 ua ub uc) (v182_3 ua ub uc))*65536))+IntKind.i64.wrap ((v182_0 (v182_1 (v182_1 ua ub uc) (v182_2 ua ub uc) (v182_3 ua ub uc)) (v182_2 (v182_1 ua ub uc) (v182_2 ua ub uc) (v182_3 ua ub uc)) (v182_3 (v182_1 ua ub uc) (v182_2 ua ub uc) (v182_3 ua ub uc)))*256))+(v182_0 (v182_1 (v182_1 (v182_1 ua ub uc) (v182_2 ua ub uc) (v182_3 ua ub uc)) (v182_2 (v182_1 ua ub uc) (v182_2 ua ub uc) (v182_3 ua ub uc)) (v182_3 (v182_1 ua ub uc) (v182_2 ua ub uc) (v182_3 ua ub uc))) (v182_2 (v182_1 (v182_1 ua ub uc) (v182_2 ua ub uc) (v182_3 ua ub uc)) (v182_2 (v182_1 ua ub uc) (v182_2 ua ub uc) (v182_3 ua ub uc)) (v182_3 (v182_1 ua ub uc) (v182_2 ua ub uc) (v182_3 ua ub uc))) (v182_3 (v182_1 (v182_1 ua ub uc) (v182_2 ua ub uc) (v182_3 ua ub uc)) (v182_2 (v182_1 ua ub uc) (v182_2 ua ub uc) (v182_3 ua ub uc)) (v182_3 (v182_1 ua ub uc) (v182_2 ua ub uc) (v182_3 ua ub uc)))))) a1))] [some ⟨true,[],[AV.agg [AV.sl [.int .u8] (bif b then ua else (bif decide (a1≤256) then (v182_1 ua ub uc) else (v182_1 (v182_1 (v182_1 (v182_1 ua ub uc) (v182_2 ua ub uc) (v182_3 ua ub uc)) (v182_2 (v182_1 ua ub uc) (v182_2 ua ub uc) (v182_3 ua ub uc)) (v182_3 (v182_1 ua ub uc) (v182_2 ua ub uc) (v182_3 ua ub uc))) (v182_2 (v182_1 (v182_1 ua ub uc) (v182_2 ua ub uc) (v182_3 ua ub uc)) (v182_2 (v182_1 ua ub uc) (v182_2 ua ub uc) (v182_3 ua ub uc)) (v182_3 (v182_1 ua ub uc) (v182_2 ua ub uc) (v182_3 ua ub uc))) (v182_3 (v182_1 (v182_1 ua ub uc) (v182_2 ua ub uc) (v182_3 ua ub uc)) (v182_2 (v182_1 ua ub uc) (v182_2 ua ub uc) (v182_3 ua ub uc)) (v182_3 (v182_1 ua ub uc) (v182_2 ua ub uc) (v182_3 ua ub uc)))))),AV.int .i64 (bif b then ub else (bif decide (a1≤256) then (v182_2 ua ub uc) else (v182_2 (v182_1 (v182_1 (v182_1 ua ub uc) (v182_2 ua ub uc) (v182_3 ua ub uc)) (v182_2 (v182_1 ua ub uc) (v182_2 ua ub uc) (v182_3 ua ub uc)) (v182_3 (v182_1 ua ub uc) (v182_2 ua ub uc) (v182_3 ua ub uc))) (v182_2 (v182_1 (v182_1 ua ub uc) (v182_2 ua ub uc) (v182_3 ua ub uc)) (v182_2 (v182_1 ua ub uc) (v182_2 ua ub uc) (v182_3 ua ub uc)) (v182_3 (v182_1 ua ub uc) (v182_2 ua ub uc) (v182_3 ua ub uc))) (v182_3 (v182_1 (v182_1 ua ub uc) (v182_2 ua ub uc) (v182_3 ua ub uc)) (v182_2 (v182_1 ua ub uc) (v182_2 ua ub uc) (v182_3 ua ub uc)) (v182_3 (v182_1 ua ub uc) (v182_2 ua ub uc) (v182_3 ua ub uc)))))),AV.int .i64 (bif b then uc else (bif decide (a1≤256) then (v182_3 ua ub uc) else (v182_3 (v182_1 (v182_1 (v182_1 ua ub uc) (v182_2 ua ub uc) (v182_3 ua ub uc)) (v182_2 (v182_1 ua ub uc) (v182_2 ua ub uc) (v182_3 ua ub uc)) (v182_3 (v182_1 ua ub uc) (v182_2 ua ub uc) (v182_3 ua ub uc))) (v182_2 (v182_1 (v182_1 ua ub uc) (v182_2 ua ub uc) (v182_3 ua ub uc)) (v182_2 (v182_1 ua ub uc) (v182_2 ua ub uc) (v182_3 ua ub uc)) (v182_3 (v182_1 ua ub uc) (v182_2 ua ub uc) (v182_3 ua ub uc))) (v182_3 (v182_1 (v182_1 ua ub uc) (v182_2 ua ub uc) (v182_3 ua ub uc)) (v182_2 (v182_1 ua ub uc) (v182_2 ua ub uc) (v182_3 ua ub uc)) (v182_3 (v182_1 ua ub uc) (v182_2 ua ub uc) (v182_3 ua ub uc))))))]]⟩]) (fun _=>rfl) (br (fun b=>K [AV.int .i64 (bif b then Int.tmod (v182_0 ua ub uc) a1 else Int.tmod (IntKind.i64.wrap (IntKind.i64.wrap (IntKind.i64.wrap (IntKind.i64.wrap ((v182_0 ua ub uc)*16777216)+IntKind.i64.wrap ((v182_0 (v182_1 ua ub uc) (v182_2 ua ub uc) (v182_3 ua ub uc))*65536))+IntKind.i64.wrap ((v182_0 (v182_1 (v182_1 ua ub uc) (v182_2 ua ub uc) (v182_3 ua ub uc)) (v182_2 (v182_1 ua ub uc) (v182_2 ua ub uc) (v182_3 ua ub uc)) (v182_3 (v182_1 ua ub uc) (v182_2 ua ub uc) (v182_3 ua ub uc)))*256))+(v182_0 (v182_1 (v182_1 (v182_1 ua ub uc) (v182_2 ua ub uc) (v182_3 ua ub uc)) (v182_2 (v182_1 ua ub uc) (v182_2 ua ub uc) (v182_3 ua ub uc)) (v182_3 (v182_1 ua ub uc) (v182_2 ua ub uc) (v182_3 ua ub uc))) (v182_2 (v182_1 (v182_1 ua ub uc) (v182_2 ua ub uc) (v182_3 ua ub uc)) (v182_2 (v182_1 ua ub uc) (v182_2 ua ub uc) (v182_3 ua ub uc)) (v182_3 (v182_1 ua ub uc) (v182_2 ua ub uc) (v182_3 ua ub uc))) (v182_3 (v182_1 (v182_1 ua ub uc) (v182_2 ua ub uc) (v182_3 ua ub uc)) (v182_2 (v182_1 ua ub uc) (v182_2 ua ub uc) (v182_3 ua ub uc)) (v182_3 (v182_1 ua ub uc) (v182_2 ua ub uc) (v182_3 ua ub uc)))))) a1)] [some ⟨true,[],[AV.agg [AV.sl [.int .u8] (bif b then (v182_1 ua ub uc) else (v182_1 (v182_1 (v182_1 (v182_1 ua ub uc) (v182_2 ua ub uc) (v182_3 ua ub uc)) (v182_2 (v182_1 ua ub uc) (v182_2 ua ub uc) (v182_3 ua ub uc)) (v182_3 (v182_1 ua ub uc) (v182_2 ua ub uc) (v182_3 ua ub uc))) (v182_2 (v182_1 (v182_1 ua ub uc) (v182_2 ua ub uc) (v182_3 ua ub uc)) (v182_2 (v182_1 ua ub uc) (v182_2 ua ub uc) (v182_3 ua ub uc)) (v182_3 (v182_1 ua ub uc) (v182_2 ua ub uc) (v182_3 ua ub uc))) (v182_3 (v182_1 (v182_1 ua ub uc) (v182_2 ua ub uc) (v182_3 ua ub uc)) (v182_2 (v182_1 ua ub uc) (v182_2 ua ub uc) (v182_3 ua ub uc)) (v182_3 (v182_1 ua ub uc) (v182_2 ua ub uc) (v182_3 ua ub uc))))),AV.int .i64 (bif b then (v182_2 ua ub uc) else (v182_2 (v182_1 (v182_1 (v182_1 ua ub uc) (v182_2 ua ub uc) (v182_3 ua ub uc)) (v182_2 (v182_1 ua ub uc) (v182_2 ua ub uc) (v182_3 ua ub uc)) (v182_3 (v182_1 ua ub uc) (v182_2 ua ub uc) (v182_3 ua ub uc))) (v182_2 (v182_1 (v182_1 ua ub uc) (v182_2 ua ub uc) (v182_3 ua ub uc)) (v182_2 (v182_1 ua ub uc) (v182_2 ua ub uc) (v182_3 ua ub uc)) (v182_3 (v182_1 ua ub uc) (v182_2 ua ub uc) (v182_3 ua ub uc))) (v182_3 (v182_1 (v182_1 ua ub uc) (v182_2 ua ub uc) (v182_3 ua ub uc)) (v182_2 (v182_1 ua ub uc) (v182_2 ua ub uc) (v182_3 ua ub uc)) (v182_3 (v182_1 ua ub uc) (v182_2 ua ub uc) (v182_3 ua ub uc))))),AV.int .i64 (bif b then (v182_3 ua ub uc) else (v182_3 (v182_1 (v182_1 (v182_1 ua ub uc) (v182_2 ua ub uc) (v182_3 ua ub uc)) (v182_2 (v182_1 ua ub uc) (v182_2 ua ub uc) (v182_3 ua ub uc)) (v182_3 (v182_1 ua ub uc) (v182_2 ua ub uc) (v182_3 ua ub uc))) (v182_2 (v182_1 (v182_1 ua ub uc) (v182_2 ua ub uc) (v182_3 ua ub uc)) (v182_2 (v182_1 ua ub uc) (v182_2 ua ub uc) (v182_3 ua ub uc)) (v182_3 (v182_1 ua ub uc) (v182_2 ua ub uc) (v182_3 ua ub uc))) (v182_3 (v182_1 (v182_1 ua ub uc) (v182_2 ua ub uc) (v182_3 ua ub uc)) (v182_2 (v182_1 ua ub uc) (v182_2 ua ub uc) (v182_3 ua ub uc)) (v182_3 (v182_1 ua ub uc) (v182_2 ua ub uc) (v182_3 ua ub uc)))))]]⟩]) (brL (brL1 (fun _=>rfl))) (brL (brL (brL (brL (brL1 (fun _=>rfl)))))))) h)
def m131:GModel
 | [.ptr g0 g1 g2,.int .i64 a1],[⟨true,[],[.agg [.sl g3 ua,.int .i64 ub,.int .i64 uc]]⟩]=>bif nmEq g0 ([1]) && Nat.beq g1 0 && Nat.beq g2 0 && ctsEq g3 ([.int .u8]) then some (q131 a1 ua ub uc,[AV.int .i64 (v131_0 a1 ua ub uc)],[some ⟨true,[],[AV.agg [AV.sl [.int .u8] (v131_1 a1 ua ub uc),AV.int .i64 (v131_2 a1 ua ub uc),AV.int .i64 (v131_3 a1 ua ub uc)]]⟩]) else none
 | _,_=>none
theorem k131:Known Tryz.prog 131:=⟨Tryz.f131,Tryz.func131,by kernel_rfl,by kernel_rfl⟩
theorem meets131:MeetsG Tryz.prog 131 m131:=by
 refine mg (rt:=[3]) (gs:=[]) (lvl:=0) (cf:=c131) rfl mixed k131 Tryz.func131 (by kernel_rfl) noLoop allT_nil (allG_cons meets182 allM_nil) noI fun xs bs r bs' h K=>?_
 unfold m131 at h
 split at h
 ·rename_i g0 g1 g2 a1 g3 ua ub uc
  obtain ⟨hg,h⟩:=bif_pair h
  simp only [Bool.and_eq_true] at hg
  obtain ⟨⟨⟨q0,q1⟩,q2⟩,q3⟩:=hg
  obtain rfl:=nE q0
  obtain rfl:=bE q1
  obtain rfl:=bE q2
  obtain rfl:=cE q3
  obtain ⟨h1,rfl,rfl⟩:=trip_inj h
  exact r131 a1 ua ub uc K h1
 ·cases h
noncomputable def c132:Cfg:=cfg Tryz.prog [(132,999,[4])] [] [(131,.g m131)] [] []
def T132 {β:Type} (k:(Int × (List AV) × Int × Int × (List AV))→β) (n:β) (ua:List AV) (ub:Int) (uc:Int) (b1:List AV):β:=(bif q131 (b1.length:Int) ua ub uc then (bif (decide (0≤(v131_0 (b1.length:Int) ua ub uc)) && decide ((v131_0 (b1.length:Int) ua ub uc)<(b1.length:Int))) then k (fI (b1.getD (v131_0 (b1.length:Int) ua ub uc).toNat .undef) 0,(v131_1 (b1.length:Int) ua ub uc),(v131_2 (b1.length:Int) ua ub uc),(v131_3 (b1.length:Int) ua ub uc),b1)
 else n)
 else n)
abbrev W132 (ua:List AV) (ub:Int) (uc:Int) (b1:List AV):Option (Int × (List AV) × Int × Int × (List AV)):=T132 some none ua ub uc b1
theorem n132 {β:Type} (k:(Int × (List AV) × Int × Int × (List AV))→β) (n:β) (ua:List AV) (ub:Int) (uc:Int) (b1:List AV):T132 k n ua ub uc b1=oe k n (W132 ua ub uc b1):=by
 unfold W132 T132
 simp only [oe_cond,oe_ro,oe_sum,oe_some,oe_none]
def q132 (ua:List AV) (ub uc:Int) (b1:List AV):Bool:=(W132 ua ub uc b1).isSome
def v132_0 (ua:List AV) (ub uc:Int) (b1:List AV):Int:=oe (fun t=>t.1) 0 (W132 ua ub uc b1)
def v132_1 (ua:List AV) (ub uc:Int) (b1:List AV):List AV:=oe (fun t=>t.2.1) [] (W132 ua ub uc b1)
def v132_2 (ua:List AV) (ub uc:Int) (b1:List AV):Int:=oe (fun t=>t.2.2.1) 0 (W132 ua ub uc b1)
def v132_3 (ua:List AV) (ub uc:Int) (b1:List AV):Int:=oe (fun t=>t.2.2.2.1) 0 (W132 ua ub uc b1)
def v132_4 (ua:List AV) (ub uc:Int) (b1:List AV):List AV:=oe (fun t=>t.2.2.2.2) [] (W132 ua ub uc b1)
theorem e132 (ua:List AV) (ub uc:Int) (b1:List AV) (K:List AV→List (Option Blk)→Option AV):inlA c132 1 132 [AV.ptr [1] 0 0,AV.own [2]] [0] (canH 1 [⟨true,[],[AV.agg [AV.sl [.int .u8] ua,Ai ub,Ai uc]]⟩,⟨false,[.int .i64],b1⟩]) (keepG Tryz.prog 2 [3] [] K)=T132 (fun t=>K [Ai t.1] [some ⟨true,[],[AV.agg [AV.sl [.int .u8] t.2.1,Ai t.2.2.1,Ai t.2.2.2.1]]⟩,some ⟨false,[.int .i64],t.2.2.2.2⟩]) none ua ub uc b1:=by kernel_rfl
theorem r132 (ua:List AV) (ub uc:Int) (b1:List AV) (K:List AV→List (Option Blk)→Option AV) (h:q132 ua ub uc b1=true):inlA c132 1 132 [AV.ptr [1] 0 0,AV.own [2]] [0] (canH 1 [⟨true,[],[AV.agg [AV.sl [.int .u8] ua,AV.int .i64 ub,AV.int .i64 uc]]⟩,⟨false,[.int .i64],b1⟩]) (keepG Tryz.prog 2 [3] [] K)=K [AV.int .i64 (v132_0 ua ub uc b1)] [some ⟨true,[],[AV.agg [AV.sl [.int .u8] (v132_1 ua ub uc b1),AV.int .i64 (v132_2 ua ub uc b1),AV.int .i64 (v132_3 ua ub uc b1)]]⟩,some ⟨false,[.int .i64],(v132_4 ua ub uc b1)⟩]:=by
 refine ((e132 ua ub uc b1 K).trans (n132 _ _ ua ub uc b1)).trans ?_
 unfold q132 at h
 unfold v132_0 v132_1 v132_2 v132_3 v132_4
 generalize W132 ua ub uc b1=o at *
 cases o with
 | none=>cases h
 | some t=>rfl
def m132:GModel
 | [.ptr g0 g1 g2,.own g3],[⟨true,[],[.agg [.sl g4 ua,.int .i64 ub,.int .i64 uc]]⟩,⟨false,g5,b1⟩]=>bif nmEq g0 ([1]) && Nat.beq g1 0 && Nat.beq g2 0 && nmEq g3 ([2]) && ctsEq g4 ([.int .u8]) && ctsEq g5 ([.int .i64]) then some (q132 ua ub uc b1,[AV.int .i64 (v132_0 ua ub uc b1)],[some ⟨true,[],[AV.agg [AV.sl [.int .u8] (v132_1 ua ub uc b1),AV.int .i64 (v132_2 ua ub uc b1),AV.int .i64 (v132_3 ua ub uc b1)]]⟩,some ⟨false,[.int .i64],(v132_4 ua ub uc b1)⟩]) else none
 | _,_=>none
theorem k132:Known Tryz.prog 132:=⟨Tryz.f132,Tryz.func132,by kernel_rfl,by kernel_rfl⟩
theorem meets132:MeetsG Tryz.prog 132 m132:=by
 refine mg (rt:=[3]) (gs:=[]) (lvl:=0) (cf:=c132) rfl mixed k132 Tryz.func132 (by kernel_rfl) noLoop allT_nil (allG_cons meets131 allM_nil) noI fun xs bs r bs' h K=>?_
 unfold m132 at h
 split at h
 ·rename_i g0 g1 g2 g3 g4 ua ub uc g5 b1
  obtain ⟨hg,h⟩:=bif_pair h
  simp only [Bool.and_eq_true] at hg
  obtain ⟨⟨⟨⟨⟨q0,q1⟩,q2⟩,q3⟩,q4⟩,q5⟩:=hg
  obtain rfl:=nE q0
  obtain rfl:=bE q1
  obtain rfl:=bE q2
  obtain rfl:=nE q3
  obtain rfl:=cE q4
  obtain rfl:=cE q5
  obtain ⟨h1,rfl,rfl⟩:=trip_inj h
  exact r132 ua ub uc b1 K h1
 ·cases h
def G91_0 {β:Type} (t6:Int) (t7:Int) (h0:List AV) (h1_0:List AV) (h1_1:Int) (h1_2:Int) (N:((Int × (List AV) × (List AV) × Int × Int))→β) (K:(((List AV) × (List AV) × Int × Int))→β) (d:β):β:=(bif decide (t7 > 0) then (bif q131 t6 h1_0 h1_1 h1_2 then (bif !decide (3=0) then (bif (decide ((h0.length+([AV.int .i64 (IntKind.i64.wrap ((v131_0 t6 h1_0 h1_1 h1_2) - IntKind.i64.wrap (Int.tdiv t6 3)))]).length)*8≤140737488355328) && decide ((h0.length+([AV.int .i64 (IntKind.i64.wrap ((v131_0 t6 h1_0 h1_1 h1_2) - IntKind.i64.wrap (Int.tdiv t6 3)))]).length)≤140737488355328)) then N (IntKind.i64.wrap (t7 - 1),h0++([AV.int .i64 (IntKind.i64.wrap ((v131_0 t6 h1_0 h1_1 h1_2) - IntKind.i64.wrap (Int.tdiv t6 3)))]),(v131_1 t6 h1_0 h1_1 h1_2),(v131_2 t6 h1_0 h1_1 h1_2),(v131_3 t6 h1_0 h1_1 h1_2))
 else d)
 else d)
 else d)
 else K (h0,h1_0,h1_1,h1_2))
def F91_0 (t6 t7:Int) (h0 h1_0:List AV) (h1_1 h1_2:Int):Out ((Int × (List AV) × (List AV) × Int × Int)) (((List AV) × (List AV) × Int × Int)):=G91_0 t6 t7 h0 h1_0 h1_1 h1_2 .next .stop .fail
def R91_0 (t6:Int):((Int × (List AV) × (List AV) × Int × Int))→Out ((Int × (List AV) × (List AV) × Int × Int)) (((List AV) × (List AV) × Int × Int)):=fun s:Int × (List AV) × (List AV) × Int × Int=>F91_0 t6 s.1 s.2.1 s.2.2.1 s.2.2.2.1 s.2.2.2.2
def E91_0 (t6:Int):((Int × (List AV) × (List AV) × Int × Int))→St:=fun s:Int × (List AV) × (List AV) × Int × Int=>⟨[(0,AV.ptr [1] 0 0),(5,AV.own [0,5,0]),(6,Ai t6),(7,Ai s.1)],[([0,5,0],⟨false,[.int .i64],s.2.1⟩),([1],⟨true,[],[AV.agg [AV.sl [.int .u8] s.2.2.1,Ai s.2.2.2.1,Ai s.2.2.2.2]]⟩)]⟩
def K91_0 (t6:Int) (k:Kont):(((List AV) × (List AV) × Int × Int))→Option AV:=fun p:(List AV) × (List AV) × Int × Int=>k (.exit 0) ⟨[(5,AV.own [0,5,0])],[([0,5,0],⟨false,[.int .i64],p.1⟩),([1],⟨true,[],[AV.agg [AV.sl [.int .u8] p.2.1,Ai p.2.2.1,Ai p.2.2.2]]⟩)]⟩
def l91_0:LModel:=fun _ _ st k=>match st with
 | ⟨[(0,.ptr g0 g1 g2),(5,.own g3),(6,.int .i64 t6),(7,.int .i64 t7)],[(g4,⟨false,g5,h0⟩),(g6,⟨true,[],[.agg [.sl g7 h1_0,.int .i64 h1_1,.int .i64 h1_2]]⟩)]⟩=>bif nmEq g0 ([1]) && Nat.beq g1 0 && Nat.beq g2 0 && nmEq g3 ([0,5,0]) && nmEq g4 ([0,5,0]) && ctsEq g5 ([.int .i64]) && nmEq g6 ([1]) && ctsEq g7 ([.int .u8]) then ro (runW (R91_0 t6) ((t7 - 0:Int).toNat+1) (t7,h0,h1_0,h1_1,h1_2)) none (K91_0 t6 k) else none
 | _=>none
noncomputable def c91:Cfg:=cfg Tryz.prog [(91,0,[0,5,6,7]),(91,999,[4]),(91,1000,[5]),(91,1001,[0,5,6,7])] [] [(131,.g m131),(132,.g m132)] [] [(91,0,l91_0)]
theorem s91_0 (t6:Int) (ce:CallE) (k:Kont) (s:Int × (List AV) × (List AV) × Int × Int) (next:St→Option AV):stepA (codeA c91 ce [0] 91 0 (sub [1,1,1,0,1,0,0] (body Tryz.f91))) (normA [0] [0,5,6,7]) next ((E91_0 t6) s) k=G91_0 t6 s.1 s.2.1 s.2.2.1 s.2.2.2.1 s.2.2.2.2 (fun s=>next ((E91_0 t6) s)) (K91_0 t6 k) none:=by kernel_rfl
theorem st91_0 (t6:Int) (ce:CallE) (k:Kont) (s:(Int × (List AV) × (List AV) × Int × Int)) (next:St→Option AV):stepA (codeA c91 ce [0] 91 0 (sub [1,1,1,0,1,0,0] (body Tryz.f91))) (normA [0] [0,5,6,7]) next ((E91_0 t6) s) k=(R91_0 t6 s).el none (fun s=>next ((E91_0 t6) s)) (K91_0 t6 k):=(s91_0 t6 ce k s next).trans (by unfold R91_0;unfold F91_0 G91_0;simp only [el_cond,el_ro,el_sum,el_fail,el_next,el_stop] <;> rfl)
theorem ok91_0 {ce:CallE}:LoopOK c91 ce [0] 91 0 (sub [1,1,1,0,1,0,0] (body Tryz.f91)):=by
 intro m hm st k r h
 obtain rfl:l91_0=m:=Option.some.inj hm
 unfold l91_0 at h
 split at h
 ·rename_i g0 g1 g2 g3 t6 t7 g4 g5 h0 g6 g7 h1_0 h1_1 h1_2
  obtain ⟨hg,h⟩:=bif_some h
  simp only [Bool.and_eq_true] at hg
  obtain ⟨⟨⟨⟨⟨⟨⟨q0,q1⟩,q2⟩,q3⟩,q4⟩,q5⟩,q6⟩,q7⟩:=hg
  obtain rfl:=nE q0
  obtain rfl:=bE q1
  obtain rfl:=bE q2
  obtain rfl:=nE q3
  obtain rfl:=nE q4
  obtain rfl:=cE q5
  obtain rfl:=nE q6
  obtain rfl:=cE q7
  refine ⟨((t7 - 0:Int).toNat+1),?_⟩
  rw [← h]
  exact loop_run (E91_0 t6) (K91_0 t6 k) (st91_0 t6 ce k) _ (t7,h0,h1_0,h1_1,h1_2)
 ·cases h
def T91 {β:Type} (k:((List AV) × (List AV) × Int × Int)→β) (n:β) (a1:Int) (ua:List AV) (ub:Int) (uc:Int):β:=by
 refine (?f0:Int→(List AV)→Int→Int→β) (v132_0 ua ub uc ([AV.int .i64 3,AV.int .i64 10,AV.int .i64 30,AV.int .i64 1000])) (v132_1 ua ub uc ([AV.int .i64 3,AV.int .i64 10,AV.int .i64 30,AV.int .i64 1000])) (v132_2 ua ub uc ([AV.int .i64 3,AV.int .i64 10,AV.int .i64 30,AV.int .i64 1000])) (v132_3 ua ub uc ([AV.int .i64 3,AV.int .i64 10,AV.int .i64 30,AV.int .i64 1000]));intro x1 x2 x3 x4
 exact (bif q132 ua ub uc ([AV.int .i64 3,AV.int .i64 10,AV.int .i64 30,AV.int .i64 1000]) then (bif q131 (IntKind.i64.wrap (a1+1)) x2 x3 x4 then (ro (runW (R91_0 x1) (((v131_0 (IntKind.i64.wrap (a1+1)) x2 x3 x4) - 0:Int).toNat+1) ((v131_0 (IntKind.i64.wrap (a1+1)) x2 x3 x4),([]:List AV),(v131_1 (IntKind.i64.wrap (a1+1)) x2 x3 x4),(v131_2 (IntKind.i64.wrap (a1+1)) x2 x3 x4),(v131_3 (IntKind.i64.wrap (a1+1)) x2 x3 x4))) n (fun p2=>k (p2.1,p2.2.1,p2.2.2.1,p2.2.2.2)))
 else n)
 else n)
abbrev W91 (a1:Int) (ua:List AV) (ub:Int) (uc:Int):Option ((List AV) × (List AV) × Int × Int):=T91 some none a1 ua ub uc
theorem n91 {β:Type} (k:((List AV) × (List AV) × Int × Int)→β) (n:β) (a1:Int) (ua:List AV) (ub:Int) (uc:Int):T91 k n a1 ua ub uc=oe k n (W91 a1 ua ub uc):=by
 unfold W91 T91
 simp only [oe_cond,oe_ro,oe_sum,oe_some,oe_none]
def q91 (a1:Int) (ua:List AV) (ub uc:Int):Bool:=(W91 a1 ua ub uc).isSome
def v91_0 (a1:Int) (ua:List AV) (ub uc:Int):List AV:=oe (fun t=>t.1) [] (W91 a1 ua ub uc)
def v91_1 (a1:Int) (ua:List AV) (ub uc:Int):List AV:=oe (fun t=>t.2.1) [] (W91 a1 ua ub uc)
def v91_2 (a1:Int) (ua:List AV) (ub uc:Int):Int:=oe (fun t=>t.2.2.1) 0 (W91 a1 ua ub uc)
def v91_3 (a1:Int) (ua:List AV) (ub uc:Int):Int:=oe (fun t=>t.2.2.2) 0 (W91 a1 ua ub uc)
theorem e91 (a1:Int) (ua:List AV) (ub uc:Int) (K:List AV→List (Option Blk)→Option AV):inlA c91 1 91 [AV.ptr [1] 0 0,Ai a1] [0] (canH 1 [⟨true,[],[AV.agg [AV.sl [.int .u8] ua,Ai ub,Ai uc]]⟩]) (keepG Tryz.prog 1 [24] [] K)=T91 (fun t=>K [AV.fl [.int .i64] t.1] [some ⟨true,[],[AV.agg [AV.sl [.int .u8] t.2.1,Ai t.2.2.1,Ai t.2.2.2]]⟩]) none a1 ua ub uc:=by kernel_rfl
theorem r91 (a1:Int) (ua:List AV) (ub uc:Int) (K:List AV→List (Option Blk)→Option AV) (h:q91 a1 ua ub uc=true):inlA c91 1 91 [AV.ptr [1] 0 0,AV.int .i64 a1] [0] (canH 1 [⟨true,[],[AV.agg [AV.sl [.int .u8] ua,AV.int .i64 ub,AV.int .i64 uc]]⟩]) (keepG Tryz.prog 1 [24] [] K)=K [AV.fl [.int .i64] (v91_0 a1 ua ub uc)] [some ⟨true,[],[AV.agg [AV.sl [.int .u8] (v91_1 a1 ua ub uc),AV.int .i64 (v91_2 a1 ua ub uc),AV.int .i64 (v91_3 a1 ua ub uc)]]⟩]:=by
 refine ((e91 a1 ua ub uc K).trans (n91 _ _ a1 ua ub uc)).trans ?_
 unfold q91 at h
 unfold v91_0 v91_1 v91_2 v91_3
 generalize W91 a1 ua ub uc=o at *
 cases o with
 | none=>cases h
 | some t=>rfl
def m91:GModel
 | [.ptr g0 g1 g2,.int .i64 a1],[⟨true,[],[.agg [.sl g3 ua,.int .i64 ub,.int .i64 uc]]⟩]=>bif nmEq g0 ([1]) && Nat.beq g1 0 && Nat.beq g2 0 && ctsEq g3 ([.int .u8]) then some (q91 a1 ua ub uc,[AV.fl [.int .i64] (v91_0 a1 ua ub uc)],[some ⟨true,[],[AV.agg [AV.sl [.int .u8] (v91_1 a1 ua ub uc),AV.int .i64 (v91_2 a1 ua ub uc),AV.int .i64 (v91_3 a1 ua ub uc)]]⟩]) else none
 | _,_=>none
theorem k91:Known Tryz.prog 91:=⟨Tryz.f91,Tryz.func91,by kernel_rfl,by kernel_rfl⟩
theorem meets91:MeetsG Tryz.prog 91 m91:=by
 refine mg (rt:=[24]) (gs:=[]) (lvl:=0) (cf:=c91) rfl mixed k91 Tryz.func91 (by kernel_rfl) (loops_cons ok91_0 noLoop) allT_nil (allG_cons meets131 (allG_cons meets132 allM_nil)) noI fun xs bs r bs' h K=>?_
 unfold m91 at h
 split at h
 ·rename_i g0 g1 g2 a1 g3 ua ub uc
  obtain ⟨hg,h⟩:=bif_pair h
  simp only [Bool.and_eq_true] at hg
  obtain ⟨⟨⟨q0,q1⟩,q2⟩,q3⟩:=hg
  obtain rfl:=nE q0
  obtain rfl:=bE q1
  obtain rfl:=bE q2
  obtain rfl:=cE q3
  obtain ⟨h1,rfl,rfl⟩:=trip_inj h
  exact r91 a1 ua ub uc K h1
 ·cases h
noncomputable def c119:Cfg:=cfg Tryz.prog [(119,999,[4])] [] [(131,.g m131)] [] []
def T119 {β:Type} (k:(Bool × (List AV) × Int × Int)→β) (n:β) (a1:Int) (ua:List AV) (ub:Int) (uc:Int):β:=(bif q131 a1 ua ub uc then k (decide ((v131_0 a1 ua ub uc)=0),(v131_1 a1 ua ub uc),(v131_2 a1 ua ub uc),(v131_3 a1 ua ub uc))
 else n)
abbrev W119 (a1:Int) (ua:List AV) (ub:Int) (uc:Int):Option (Bool × (List AV) × Int × Int):=T119 some none a1 ua ub uc
theorem n119 {β:Type} (k:(Bool × (List AV) × Int × Int)→β) (n:β) (a1:Int) (ua:List AV) (ub:Int) (uc:Int):T119 k n a1 ua ub uc=oe k n (W119 a1 ua ub uc):=by
 unfold W119 T119
 simp only [oe_cond,oe_ro,oe_sum,oe_some,oe_none]
def q119 (a1:Int) (ua:List AV) (ub uc:Int):Bool:=(W119 a1 ua ub uc).isSome
def v119_0 (a1:Int) (ua:List AV) (ub uc:Int):Bool:=oe (fun t=>t.1) false (W119 a1 ua ub uc)
def v119_1 (a1:Int) (ua:List AV) (ub uc:Int):List AV:=oe (fun t=>t.2.1) [] (W119 a1 ua ub uc)
def v119_2 (a1:Int) (ua:List AV) (ub uc:Int):Int:=oe (fun t=>t.2.2.1) 0 (W119 a1 ua ub uc)
def v119_3 (a1:Int) (ua:List AV) (ub uc:Int):Int:=oe (fun t=>t.2.2.2) 0 (W119 a1 ua ub uc)
theorem e119 (a1:Int) (ua:List AV) (ub uc:Int) (K:List AV→List (Option Blk)→Option AV):inlA c119 1 119 [AV.ptr [1] 0 0,Ai a1] [0] (canH 1 [⟨true,[],[AV.agg [AV.sl [.int .u8] ua,Ai ub,Ai uc]]⟩]) (keepG Tryz.prog 1 [4] [] K)=T119 (fun t=>K [AV.bool t.1] [some ⟨true,[],[AV.agg [AV.sl [.int .u8] t.2.1,Ai t.2.2.1,Ai t.2.2.2]]⟩]) none a1 ua ub uc:=by kernel_rfl
theorem r119 (a1:Int) (ua:List AV) (ub uc:Int) (K:List AV→List (Option Blk)→Option AV) (h:q119 a1 ua ub uc=true):inlA c119 1 119 [AV.ptr [1] 0 0,AV.int .i64 a1] [0] (canH 1 [⟨true,[],[AV.agg [AV.sl [.int .u8] ua,AV.int .i64 ub,AV.int .i64 uc]]⟩]) (keepG Tryz.prog 1 [4] [] K)=K [AV.bool (v119_0 a1 ua ub uc)] [some ⟨true,[],[AV.agg [AV.sl [.int .u8] (v119_1 a1 ua ub uc),AV.int .i64 (v119_2 a1 ua ub uc),AV.int .i64 (v119_3 a1 ua ub uc)]]⟩]:=by
 refine ((e119 a1 ua ub uc K).trans (n119 _ _ a1 ua ub uc)).trans ?_
 unfold q119 at h
 unfold v119_0 v119_1 v119_2 v119_3
 generalize W119 a1 ua ub uc=o at *
 cases o with
 | none=>cases h
 | some t=>rfl
def m119:GModel
 | [.ptr g0 g1 g2,.int .i64 a1],[⟨true,[],[.agg [.sl g3 ua,.int .i64 ub,.int .i64 uc]]⟩]=>bif nmEq g0 ([1]) && Nat.beq g1 0 && Nat.beq g2 0 && ctsEq g3 ([.int .u8]) then some (q119 a1 ua ub uc,[AV.bool (v119_0 a1 ua ub uc)],[some ⟨true,[],[AV.agg [AV.sl [.int .u8] (v119_1 a1 ua ub uc),AV.int .i64 (v119_2 a1 ua ub uc),AV.int .i64 (v119_3 a1 ua ub uc)]]⟩]) else none
 | _,_=>none
theorem k119:Known Tryz.prog 119:=⟨Tryz.f119,Tryz.func119,by kernel_rfl,by kernel_rfl⟩
theorem meets119:MeetsG Tryz.prog 119 m119:=by
 refine mg (rt:=[4]) (gs:=[]) (lvl:=0) (cf:=c119) rfl mixed k119 Tryz.func119 (by kernel_rfl) noLoop allT_nil (allG_cons meets131 allM_nil) noI fun xs bs r bs' h K=>?_
 unfold m119 at h
 split at h
 ·rename_i g0 g1 g2 a1 g3 ua ub uc
  obtain ⟨hg,h⟩:=bif_pair h
  simp only [Bool.and_eq_true] at hg
  obtain ⟨⟨⟨q0,q1⟩,q2⟩,q3⟩:=hg
  obtain rfl:=nE q0
  obtain rfl:=bE q1
  obtain rfl:=bE q2
  obtain rfl:=cE q3
  obtain ⟨h1,rfl,rfl⟩:=trip_inj h
  exact r119 a1 ua ub uc K h1
 ·cases h
noncomputable def c172:Cfg:=cfg Tryz.prog [(172,999,[2])] [] [(131,.g m131),(132,.g m132)] [] []
def T172 {β:Type} (k:(Int × Int × Int × (List AV) × Int × Int)→β) (n:β) (ua:List AV) (ub:Int) (uc:Int):β:=by
 refine (?f0:Int→(List AV)→Int→Int→β) (v131_0 3 ua ub uc) (v131_1 3 ua ub uc) (v131_2 3 ua ub uc) (v131_3 3 ua ub uc);intro x1 x2 x3 x4
 refine (?f1:Int→(List AV)→Int→Int→β) (v132_0 x2 x3 x4 ([AV.int .i64 1,AV.int .i64 2,AV.int .i64 3,AV.int .i64 5,AV.int .i64 64])) (v132_1 x2 x3 x4 ([AV.int .i64 1,AV.int .i64 2,AV.int .i64 3,AV.int .i64 5,AV.int .i64 64])) (v132_2 x2 x3 x4 ([AV.int .i64 1,AV.int .i64 2,AV.int .i64 3,AV.int .i64 5,AV.int .i64 64])) (v132_3 x2 x3 x4 ([AV.int .i64 1,AV.int .i64 2,AV.int .i64 3,AV.int .i64 5,AV.int .i64 64]));intro x5 x6 x7 x8
 exact (bif q131 3 ua ub uc then (bif q132 x2 x3 x4 ([AV.int .i64 1,AV.int .i64 2,AV.int .i64 3,AV.int .i64 5,AV.int .i64 64]) then (bif q131 10007 x6 x7 x8 then k (x1,x5,(v131_0 10007 x6 x7 x8),(v131_1 10007 x6 x7 x8),(v131_2 10007 x6 x7 x8),(v131_3 10007 x6 x7 x8))
 else n)
 else n)
 else n)
abbrev W172 (ua:List AV) (ub:Int) (uc:Int):Option (Int × Int × Int × (List AV) × Int × Int):=T172 some none ua ub uc
theorem n172 {β:Type} (k:(Int × Int × Int × (List AV) × Int × Int)→β) (n:β) (ua:List AV) (ub:Int) (uc:Int):T172 k n ua ub uc=oe k n (W172 ua ub uc):=by
 unfold W172 T172
 simp only [oe_cond,oe_ro,oe_sum,oe_some,oe_none]
def q172 (ua:List AV) (ub uc:Int):Bool:=(W172 ua ub uc).isSome
def v172_0 (ua:List AV) (ub uc:Int):Int:=oe (fun t=>t.1) 0 (W172 ua ub uc)
def v172_1 (ua:List AV) (ub uc:Int):Int:=oe (fun t=>t.2.1) 0 (W172 ua ub uc)
def v172_2 (ua:List AV) (ub uc:Int):Int:=oe (fun t=>t.2.2.1) 0 (W172 ua ub uc)
def v172_3 (ua:List AV) (ub uc:Int):List AV:=oe (fun t=>t.2.2.2.1) [] (W172 ua ub uc)
def v172_4 (ua:List AV) (ub uc:Int):Int:=oe (fun t=>t.2.2.2.2.1) 0 (W172 ua ub uc)
def v172_5 (ua:List AV) (ub uc:Int):Int:=oe (fun t=>t.2.2.2.2.2) 0 (W172 ua ub uc)
theorem e172 (ua:List AV) (ub uc:Int) (K:List AV→List (Option Blk)→Option AV):inlA c172 1 172 [AV.ptr [1] 0 0] [0] (canH 1 [⟨true,[],[AV.agg [AV.sl [.int .u8] ua,Ai ub,Ai uc]]⟩]) (keepG Tryz.prog 1 [82] [] K)=T172 (fun t=>K [AV.agg [Ai t.1,Ai t.2.1,Ai t.2.2.1]] [some ⟨true,[],[AV.agg [AV.sl [.int .u8] t.2.2.2.1,Ai t.2.2.2.2.1,Ai t.2.2.2.2.2]]⟩]) none ua ub uc:=by kernel_rfl
theorem r172 (ua:List AV) (ub uc:Int) (K:List AV→List (Option Blk)→Option AV) (h:q172 ua ub uc=true):inlA c172 1 172 [AV.ptr [1] 0 0] [0] (canH 1 [⟨true,[],[AV.agg [AV.sl [.int .u8] ua,AV.int .i64 ub,AV.int .i64 uc]]⟩]) (keepG Tryz.prog 1 [82] [] K)=K [AV.agg [AV.int .i64 (v172_0 ua ub uc),AV.int .i64 (v172_1 ua ub uc),AV.int .i64 (v172_2 ua ub uc)]] [some ⟨true,[],[AV.agg [AV.sl [.int .u8] (v172_3 ua ub uc),AV.int .i64 (v172_4 ua ub uc),AV.int .i64 (v172_5 ua ub uc)]]⟩]:=by
 refine ((e172 ua ub uc K).trans (n172 _ _ ua ub uc)).trans ?_
 unfold q172 at h
 unfold v172_0 v172_1 v172_2 v172_3 v172_4 v172_5
 generalize W172 ua ub uc=o at *
 cases o with
 | none=>cases h
 | some t=>rfl
def m172:GModel
 | [.ptr g0 g1 g2],[⟨true,[],[.agg [.sl g3 ua,.int .i64 ub,.int .i64 uc]]⟩]=>bif nmEq g0 ([1]) && Nat.beq g1 0 && Nat.beq g2 0 && ctsEq g3 ([.int .u8]) then some (q172 ua ub uc,[AV.agg [AV.int .i64 (v172_0 ua ub uc),AV.int .i64 (v172_1 ua ub uc),AV.int .i64 (v172_2 ua ub uc)]],[some ⟨true,[],[AV.agg [AV.sl [.int .u8] (v172_3 ua ub uc),AV.int .i64 (v172_4 ua ub uc),AV.int .i64 (v172_5 ua ub uc)]]⟩]) else none
 | _,_=>none
theorem k172:Known Tryz.prog 172:=⟨Tryz.f172,Tryz.func172,by kernel_rfl,by kernel_rfl⟩
theorem meets172:MeetsG Tryz.prog 172 m172:=by
 refine mg (rt:=[82]) (gs:=[]) (lvl:=0) (cf:=c172) rfl mixed k172 Tryz.func172 (by kernel_rfl) noLoop allT_nil (allG_cons meets131 (allG_cons meets132 allM_nil)) noI fun xs bs r bs' h K=>?_
 unfold m172 at h
 split at h
 ·rename_i g0 g1 g2 g3 ua ub uc
  obtain ⟨hg,h⟩:=bif_pair h
  simp only [Bool.and_eq_true] at hg
  obtain ⟨⟨⟨q0,q1⟩,q2⟩,q3⟩:=hg
  obtain rfl:=nE q0
  obtain rfl:=bE q1
  obtain rfl:=bE q2
  obtain rfl:=cE q3
  obtain ⟨h1,rfl,rfl⟩:=trip_inj h
  exact r172 ua ub uc K h1
 ·cases h
noncomputable def c72:Cfg:=cfg Tryz.prog [(72,999,[6])] [] [] [] []
def v72_0 (a0 a1 a2:Int):Bool:=(bif decide (a0 ≥ a1) then decide (a0≤a2) else false)
theorem e72 (a0 a1 a2:Int):funA c72 0 72 [Ai a0,Ai a1,Ai a2]=(bif decide (a0 ≥ a1) then some (AV.bool (decide (a0≤a2)))
 else some (AV.bool false)):=by kernel_rfl
def m72:TModel
 | [.int .i64 a0,.int .i64 a1,.int .i64 a2]=>some (true,AV.bool (v72_0 a0 a1 a2))
 | _=>none
theorem k72:Known Tryz.prog 72:=⟨Tryz.f72,Tryz.func72,by kernel_rfl,by kernel_rfl⟩
theorem meets72:Meets Tryz.prog 72 m72:=by
 refine mt (lvl:=0) (cf:=c72) rfl mixed k72 Tryz.func72 (by kernel_rfl) noLoop allT_nil allM_nil noI fun xs r h=>?_
 unfold m72 at h
 split at h
 ·rename_i a0 a1 a2
  obtain ⟨h1,rfl⟩:=pair_inj h
  exact (e72 a0 a1 a2).trans (of_tt (brT (fun b=>some (AV.bool (bif b then decide (a0≤a2) else false))) (fun _=>rfl) (fun _=>rfl)))
 ·cases h
def G100_0 {β:Type} (t0:List AV) (t3:Int) (N:(Int)→β) (K:(Unit ⊕ Unit)→β) (d:β):β:=(bif decide (t3<(t0.length:Int)) then (bif (decide (0≤t3) && decide (t3<(t0.length:Int))) then (bif !(v72_0 (fI (t0.getD t3.toNat .undef) 0) (-999) 999) then K (.inr ())
 else N (IntKind.i64.wrap (t3+1)))
 else d)
 else K (.inl ()))
def F100_0 (t0:List AV) (t3:Int):Out (Int) (Unit ⊕ Unit):=G100_0 t0 t3 .next .stop .fail
def R100_0 (t0:List AV):(Int)→Out (Int) (Unit ⊕ Unit):=fun s:Int=>F100_0 t0 s
def E100_0 (t0:List AV):(Int)→St:=fun s:Int=>⟨[(0,AV.sl [.int .i64] t0),(3,Ai s)],[]⟩
def K100_0 (t0:List AV) (k:Kont):(Unit ⊕ Unit)→Option AV:=sumE (fun _:Unit=>k (.exit 0) ⟨[(0,AV.sl [.int .i64] t0)],[]⟩) (fun _:Unit=>k .ret ⟨[(2,AV.bool false)],[]⟩)
def l100_0:LModel:=fun _ _ st k=>match st with
 | ⟨[(0,.sl g0 t0),(3,.int .i64 t3)],[]⟩=>bif ctsEq g0 ([.int .i64]) then ro (runW (R100_0 t0) (((t0.length:Int) - t3:Int).toNat+1) t3) none (K100_0 t0 k) else none
 | _=>none
noncomputable def c100:Cfg:=cfg Tryz.prog [(100,0,[0,3]),(100,999,[2]),(100,1000,[0]),(100,1001,[0,3])] [(72,m72)] [] [] [(100,0,l100_0)]
theorem s100_0 (t0:List AV) (ce:CallE) (k:Kont) (s:Int) (next:St→Option AV):stepA (codeA c100 ce [] 100 0 (sub [1,0,1,0,0] (body Tryz.f100))) (normA [] [0,3]) next ((E100_0 t0) s) k=G100_0 t0 s (fun s=>next ((E100_0 t0) s)) (K100_0 t0 k) none:=by kernel_rfl
theorem st100_0 (t0:List AV) (ce:CallE) (k:Kont) (s:Int) (next:St→Option AV):stepA (codeA c100 ce [] 100 0 (sub [1,0,1,0,0] (body Tryz.f100))) (normA [] [0,3]) next ((E100_0 t0) s) k=(R100_0 t0 s).el none (fun s=>next ((E100_0 t0) s)) (K100_0 t0 k):=(s100_0 t0 ce k s next).trans (by unfold R100_0;unfold F100_0 G100_0;simp only [el_cond,el_ro,el_sum,el_fail,el_next,el_stop] <;> rfl)
theorem ok100_0 {ce:CallE}:LoopOK c100 ce [] 100 0 (sub [1,0,1,0,0] (body Tryz.f100)):=by
 intro m hm st k r h
 obtain rfl:l100_0=m:=Option.some.inj hm
 unfold l100_0 at h
 split at h
 ·rename_i g0 t0 t3
  obtain ⟨hg,h⟩:=bif_some h
  have q0:=hg
  obtain rfl:=cE q0
  refine ⟨(((t0.length:Int) - t3:Int).toNat+1),?_⟩
  rw [← h]
  exact loop_run (E100_0 t0) (K100_0 t0 k) (st100_0 t0 ce k) _ t3
 ·cases h
def q100 (a0:List AV):Bool:=(ro (runW (R100_0 a0) (((a0.length:Int) - 0:Int).toNat+1) 0) false (sumE (fun _=>true) (fun _=>true)))
def v100_0 (a0:List AV):Bool:=(ro (runW (R100_0 a0) (((a0.length:Int) - 0:Int).toNat+1) 0) false (sumE (fun _=>decide ((a0.length:Int)≤64)) (fun _=>false)))
theorem e100 (a0:List AV):funA c100 0 100 [AV.sl [.int .i64] a0]=(ro (runW (R100_0 a0) (((a0.length:Int) - 0:Int).toNat+1) 0) none (sumE (fun _=>some (AV.bool (decide ((a0.length:Int)≤64)))) (fun _=>some (AV.bool false)))):=by kernel_rfl
def m100:TModel
 | [.sl g0 a0]=>bif ctsEq g0 ([.int .i64]) then some (q100 a0,AV.bool (v100_0 a0)) else none
 | _=>none
theorem k100:Known Tryz.prog 100:=⟨Tryz.f100,Tryz.func100,by kernel_rfl,by kernel_rfl⟩
theorem meets100:Meets Tryz.prog 100 m100:=by
 refine mt (lvl:=0) (cf:=c100) rfl mixed k100 Tryz.func100 (by kernel_rfl) (loops_cons ok100_0 noLoop) (allT_cons meets72 allT_nil) allM_nil noI fun xs r h=>?_
 unfold m100 at h
 split at h
 ·rename_i g0 a0
  obtain ⟨hg,h⟩:=bif_pair h
  have q0:=hg
  obtain rfl:=cE q0
  obtain ⟨h1,rfl⟩:=pair_inj h
  exact (e100 a0).trans ((brO (fun o:Option (Unit ⊕ Unit)=>some (AV.bool (ro o false (sumE (fun _=>decide ((a0.length:Int)≤64)) (fun _=>false))))) (brS (fun o:Unit ⊕ Unit=>some (AV.bool ((sumE (fun _=>decide ((a0.length:Int)≤64)) (fun _=>false)) o))) (fun _=>(fun _=>rfl)) (fun _=>(fun _=>rfl)))) h1)
 ·cases h
def G99_0_s0 {β:Type} (t0:List AV) (h0:List AV) (t4:Int) (N:(Int ⊕ (Int × (List AV)))→β) (K:(Unit ⊕ ((List AV)))→β) (d:β):β:=(bif decide (t4<(t0.length:Int)) then (bif (decide ((([AV.int .i64 t4]).length)*8≤140737488355328) && decide ((([AV.int .i64 t4]).length)≤140737488355328)) then N (.inr (IntKind.i64.wrap (t4+1),[AV.int .i64 t4]))
 else d)
 else K (.inl ()))
def F99_0_s0 (t0 h0:List AV) (t4:Int):Out (Int ⊕ (Int × (List AV))) (Unit ⊕ ((List AV))):=G99_0_s0 t0 h0 t4 .next .stop .fail
def G99_0_s1 {β:Type} (t0:List AV) (h0:List AV) (t4:Int) (h1:List AV) (N:(Int ⊕ (Int × (List AV)))→β) (K:(Unit ⊕ ((List AV)))→β) (d:β):β:=(bif decide (t4<(t0.length:Int)) then (bif (decide ((h1.length+([AV.int .i64 t4]).length)*8≤140737488355328) && decide ((h1.length+([AV.int .i64 t4]).length)≤140737488355328)) then N (.inr (IntKind.i64.wrap (t4+1),h1++([AV.int .i64 t4])))
 else d)
 else K (.inr h1))
def F99_0_s1 (t0 h0:List AV) (t4:Int) (h1:List AV):Out (Int ⊕ (Int × (List AV))) (Unit ⊕ ((List AV))):=G99_0_s1 t0 h0 t4 h1 .next .stop .fail
def R99_0 (t0 h0:List AV):(Int ⊕ (Int × (List AV)))→Out (Int ⊕ (Int × (List AV))) (Unit ⊕ ((List AV))):=sumE (fun s:Int=>F99_0_s0 t0 h0 s) (fun s:Int × (List AV)=>F99_0_s1 t0 h0 s.1 s.2)
def E99_0 (t0 h0:List AV):(Int ⊕ (Int × (List AV)))→St:=sumE (fun s:Int=>⟨[(0,AV.sl [.int .i64] t0),(2,AV.ptr [0,2] 0 0),(3,AV.ptr [0,3] 0 0),(4,Ai s)],[([0,0,3],⟨false,[.int .i64],h0⟩),([0,2],⟨true,[],[AV.agg [AV.snil,AV.snil,AV.snil]]⟩),([0,3],⟨true,[],[AV.agg [AV.own [0,0,3],AV.snil,AV.snil]]⟩)]⟩) (fun s:Int × (List AV)=>⟨[(0,AV.sl [.int .i64] t0),(2,AV.ptr [0,2] 0 0),(3,AV.ptr [0,3] 0 0),(4,Ai s.1)],[([0,0,3],⟨false,[.int .i64],h0⟩),([0,1,3],⟨false,[.int .i64],s.2⟩),([0,2],⟨true,[],[AV.agg [AV.snil,AV.snil,AV.snil]]⟩),([0,3],⟨true,[],[AV.agg [AV.own [0,0,3],AV.own [0,1,3],AV.snil]]⟩)]⟩)
def K99_0 (t0 h0:List AV) (k:Kont):(Unit ⊕ ((List AV)))→Option AV:=sumE (fun _:Unit=>k (.exit 0) ⟨[(2,AV.ptr [0,2] 0 0),(3,AV.ptr [0,3] 0 0)],[([0,0,3],⟨false,[.int .i64],h0⟩),([0,2],⟨true,[],[AV.agg [AV.snil,AV.snil,AV.snil]]⟩),([0,3],⟨true,[],[AV.agg [AV.own [0,0,3],AV.snil,AV.snil]]⟩)]⟩) (fun p:(List AV)=>k (.exit 0) ⟨[(2,AV.ptr [0,2] 0 0),(3,AV.ptr [0,3] 0 0)],[([0,0,3],⟨false,[.int .i64],h0⟩),([0,1,3],⟨false,[.int .i64],p⟩),([0,2],⟨true,[],[AV.agg [AV.snil,AV.snil,AV.snil]]⟩),([0,3],⟨true,[],[AV.agg [AV.own [0,0,3],AV.own [0,1,3],AV.snil]]⟩)]⟩)
def l99_0:LModel:=fun _ _ st k=>match st with
 | ⟨[(0,.sl g0 t0),(2,.ptr g1 g2 g3),(3,.ptr g4 g5 g6),(4,.int .i64 t4)],[(g7,⟨false,g8,h0⟩),(g9,⟨true,[],[.agg [.snil,.snil,.snil]]⟩),(g10,⟨true,[],[.agg [.own g11,.snil,.snil]]⟩)]⟩=>bif ctsEq g0 ([.int .i64]) && nmEq g1 ([0,2]) && Nat.beq g2 0 && Nat.beq g3 0 && nmEq g4 ([0,3]) && Nat.beq g5 0 && Nat.beq g6 0 && nmEq g7 ([0,0,3]) && ctsEq g8 ([.int .i64]) && nmEq g9 ([0,2]) && nmEq g10 ([0,3]) && nmEq g11 ([0,0,3]) then ro (runW (R99_0 t0 h0) (((t0.length:Int) - t4:Int).toNat+1) (.inl t4)) none (K99_0 t0 h0 k) else none
 | ⟨[(0,.sl g0 t0),(2,.ptr g1 g2 g3),(3,.ptr g4 g5 g6),(4,.int .i64 t4)],[(g7,⟨false,g8,h0⟩),(g9,⟨false,g10,h1⟩),(g11,⟨true,[],[.agg [.snil,.snil,.snil]]⟩),(g12,⟨true,[],[.agg [.own g13,.own g14,.snil]]⟩)]⟩=>bif ctsEq g0 ([.int .i64]) && nmEq g1 ([0,2]) && Nat.beq g2 0 && Nat.beq g3 0 && nmEq g4 ([0,3]) && Nat.beq g5 0 && Nat.beq g6 0 && nmEq g7 ([0,0,3]) && ctsEq g8 ([.int .i64]) && nmEq g9 ([0,1,3]) && ctsEq g10 ([.int .i64]) && nmEq g11 ([0,2]) && nmEq g12 ([0,3]) && nmEq g13 ([0,0,3]) && nmEq g14 ([0,1,3]) then ro (runW (R99_0 t0 h0) (((t0.length:Int) - t4:Int).toNat+1) (.inr (t4,h1))) none (K99_0 t0 h0 k) else none
 | _=>none
noncomputable def c99:Cfg:=cfg Tryz.prog [(99,0,[0,2,3,4]),(99,999,[2]),(99,1000,[2,3]),(99,1001,[0,2,3,4])] [(100,m100)] [] [] [(99,0,l99_0)]
theorem s99_0_s0 (t0 h0:List AV) (ce:CallE) (k:Kont) (s:Int) (next:St→Option AV):stepA (codeA c99 ce [] 99 0 (sub [1,1,1,0,1,0,0] (body Tryz.f99))) (normA [] [0,2,3,4]) next ((E99_0 t0 h0) (.inl s)) k=G99_0_s0 t0 h0 s (fun s=>next ((E99_0 t0 h0) s)) (K99_0 t0 h0 k) none:=by kernel_rfl
theorem s99_0_s1 (t0 h0:List AV) (ce:CallE) (k:Kont) (s:Int × (List AV)) (next:St→Option AV):stepA (codeA c99 ce [] 99 0 (sub [1,1,1,0,1,0,0] (body Tryz.f99))) (normA [] [0,2,3,4]) next ((E99_0 t0 h0) (.inr s)) k=G99_0_s1 t0 h0 s.1 s.2 (fun s=>next ((E99_0 t0 h0) s)) (K99_0 t0 h0 k) none:=by kernel_rfl
theorem st99_0 (t0 h0:List AV) (ce:CallE) (k:Kont) (s:Int ⊕ (Int × (List AV))) (next:St→Option AV):stepA (codeA c99 ce [] 99 0 (sub [1,1,1,0,1,0,0] (body Tryz.f99))) (normA [] [0,2,3,4]) next ((E99_0 t0 h0) s) k=(R99_0 t0 h0 s).el none (fun s=>next ((E99_0 t0 h0) s)) (K99_0 t0 h0 k):=(match s with | .inl s=>(s99_0_s0 t0 h0 ce k s next).trans (by unfold R99_0;unfold F99_0_s0 G99_0_s0;simp only [el_cond,el_ro,el_sum,el_fail,el_next,el_stop] <;> rfl) | .inr s=>(s99_0_s1 t0 h0 ce k s next).trans (by unfold R99_0;unfold F99_0_s1 G99_0_s1;simp only [el_cond,el_ro,el_sum,el_fail,el_next,el_stop] <;> rfl))
theorem ok99_0 {ce:CallE}:LoopOK c99 ce [] 99 0 (sub [1,1,1,0,1,0,0] (body Tryz.f99)):=by
 intro m hm st k r h
 obtain rfl:l99_0=m:=Option.some.inj hm
 unfold l99_0 at h
 split at h
 ·rename_i g0 t0 g1 g2 g3 g4 g5 g6 t4 g7 g8 h0 g9 g10 g11
  obtain ⟨hg,h⟩:=bif_some h
  simp only [Bool.and_eq_true] at hg
  obtain ⟨⟨⟨⟨⟨⟨⟨⟨⟨⟨⟨q0,q1⟩,q2⟩,q3⟩,q4⟩,q5⟩,q6⟩,q7⟩,q8⟩,q9⟩,q10⟩,q11⟩:=hg
  obtain rfl:=cE q0
  obtain rfl:=nE q1
  obtain rfl:=bE q2
  obtain rfl:=bE q3
  obtain rfl:=nE q4
  obtain rfl:=bE q5
  obtain rfl:=bE q6
  obtain rfl:=nE q7
  obtain rfl:=cE q8
  obtain rfl:=nE q9
  obtain rfl:=nE q10
  obtain rfl:=nE q11
  refine ⟨(((t0.length:Int) - t4:Int).toNat+1),?_⟩
  rw [← h]
  exact loop_run (E99_0 t0 h0) (K99_0 t0 h0 k) (st99_0 t0 h0 ce k) _ (.inl t4)
 ·rename_i g0 t0 g1 g2 g3 g4 g5 g6 t4 g7 g8 h0 g9 g10 h1 g11 g12 g13 g14
  obtain ⟨hg,h⟩:=bif_some h
  simp only [Bool.and_eq_true] at hg
  obtain ⟨⟨⟨⟨⟨⟨⟨⟨⟨⟨⟨⟨⟨⟨q0,q1⟩,q2⟩,q3⟩,q4⟩,q5⟩,q6⟩,q7⟩,q8⟩,q9⟩,q10⟩,q11⟩,q12⟩,q13⟩,q14⟩:=hg
  obtain rfl:=cE q0
  obtain rfl:=nE q1
  obtain rfl:=bE q2
  obtain rfl:=bE q3
  obtain rfl:=nE q4
  obtain rfl:=bE q5
  obtain rfl:=bE q6
  obtain rfl:=nE q7
  obtain rfl:=cE q8
  obtain rfl:=nE q9
  obtain rfl:=cE q10
  obtain rfl:=nE q11
  obtain rfl:=nE q12
  obtain rfl:=nE q13
  obtain rfl:=nE q14
  refine ⟨(((t0.length:Int) - t4:Int).toNat+1),?_⟩
  rw [← h]
  exact loop_run (E99_0 t0 h0) (K99_0 t0 h0 k) (st99_0 t0 h0 ce k) _ (.inr (t4,h1))
 ·cases h
def q99 (a0:List AV):Bool:=(q100 a0 && (bif !(v100_0 a0) then true else ((decide ((([]:List AV).length+a0.length)*8≤140737488355328) && decide ((([]:List AV).length+a0.length)≤140737488355328)) && (ro (runW (R99_0 a0 (([]:List AV)++a0)) (((a0.length:Int) - 0:Int).toNat+1) (.inl 0)) false (sumE (fun _=>true) (fun p7=>true))))))
def v99_0 (a0:List AV):List AV:=(bif !(v100_0 a0) then ([]:List AV) else ([]:List AV)++a0)
def v99_1 (a0:List AV):List AV:=(bif !(v100_0 a0) then ([]:List AV) else (ro (runW (R99_0 a0 (([]:List AV)++a0)) (((a0.length:Int) - 0:Int).toNat+1) (.inl 0)) [] (sumE (fun _=>([]:List AV)) (fun p7=>p7))))
def v99_2 (a0:List AV):List AV:=([]:List AV)
theorem e99 (a0:List AV):funA c99 0 99 [AV.sl [.int .i64] a0]=(bif q100 a0 then (bif !(v100_0 a0) then some (AV.agg [AV.fl [.int .i64] ([]:List AV),AV.fl [.int .i64] ([]:List AV),AV.fl [.int .i64,.int .i64] ([]:List AV)])
 else (bif (decide ((([]:List AV).length+a0.length)*8≤140737488355328) && decide ((([]:List AV).length+a0.length)≤140737488355328)) then (ro (runW (R99_0 a0 (([]:List AV)++a0)) (((a0.length:Int) - 0:Int).toNat+1) (.inl 0)) none (sumE (fun _=>some (AV.agg [AV.fl [.int .i64] (([]:List AV)++a0),AV.fl [.int .i64] ([]:List AV),AV.fl [.int .i64,.int .i64] ([]:List AV)])) (fun p7=>some (AV.agg [AV.fl [.int .i64] (([]:List AV)++a0),AV.fl [.int .i64] p7,AV.fl [.int .i64,.int .i64] ([]:List AV)]))))
 else none))
 else none):=by kernel_rfl
def m99:TModel
 | [.sl g0 a0]=>bif ctsEq g0 ([.int .i64]) then some (q99 a0,AV.agg [AV.fl [.int .i64] (v99_0 a0),AV.fl [.int .i64] (v99_1 a0),AV.fl [.int .i64,.int .i64] (v99_2 a0)]) else none
 | _=>none
theorem k99:Known Tryz.prog 99:=⟨Tryz.f99,Tryz.func99,by kernel_rfl,by kernel_rfl⟩
theorem meets99:Meets Tryz.prog 99 m99:=by
 refine mt (lvl:=0) (cf:=c99) rfl mixed k99 Tryz.func99 (by kernel_rfl) (loops_cons ok99_0 noLoop) (allT_cons meets100 allT_nil) allM_nil noI fun xs r h=>?_
 unfold m99 at h
 split at h
 ·rename_i g0 a0
  obtain ⟨hg,h⟩:=bif_pair h
  have q0:=hg
  obtain rfl:=cE q0
  obtain ⟨h1,rfl⟩:=pair_inj h
  exact (e99 a0).trans ((brL (br (fun b=>some (AV.agg [AV.fl [.int .i64] (bif b then ([]:List AV) else ([]:List AV)++a0),AV.fl [.int .i64] (bif b then ([]:List AV) else (ro (runW (R99_0 a0 (([]:List AV)++a0)) (((a0.length:Int) - 0:Int).toNat+1) (.inl 0)) [] (sumE (fun _=>([]:List AV)) (fun p7=>p7)))),AV.fl [.int .i64,.int .i64] ([]:List AV)])) (fun _=>rfl) (brL (brO (fun o:Option (Unit ⊕ ((List AV)))=>some (AV.agg [AV.fl [.int .i64] (([]:List AV)++a0),AV.fl [.int .i64] (ro o [] (sumE (fun _=>([]:List AV)) (fun p7=>p7))),AV.fl [.int .i64,.int .i64] ([]:List AV)])) (brS (fun o:Unit ⊕ ((List AV))=>some (AV.agg [AV.fl [.int .i64] (([]:List AV)++a0),AV.fl [.int .i64] ((sumE (fun _=>([]:List AV)) (fun p7=>p7)) o),AV.fl [.int .i64,.int .i64] ([]:List AV)])) (fun _=>(fun _=>rfl)) (fun p7=>(fun _=>rfl))))))) h1)
 ·cases h
noncomputable def c109:Cfg:=cfg Tryz.prog [(109,999,[4])] [] [(119,.g m119),(131,.g m131),(132,.g m132)] [] []
def T109 {β:Type} (k:(Int × (List AV) × Int × Int × (List AV) × (List AV) × (List AV))→β) (n:β) (ua:List AV) (ub:Int) (uc:Int) (b1:List AV) (b2:List AV) (b3:List AV):β:=by
 refine (?f0:Bool→(List AV)→Int→Int→β) (v119_0 4 ua ub uc) (v119_1 4 ua ub uc) (v119_2 4 ua ub uc) (v119_3 4 ua ub uc);intro x1 x2 x3 x4
 refine (?f1:Int→(List AV)→Int→Int→β) (v131_0 (b1.length:Int) x2 x3 x4) (v131_1 (b1.length:Int) x2 x3 x4) (v131_2 (b1.length:Int) x2 x3 x4) (v131_3 (b1.length:Int) x2 x3 x4);intro x5 x6 x7 x8
 exact (bif decide ((b1.length:Int) > 0) then (bif q119 4 ua ub uc then (bif !x1 then (bif q131 (b1.length:Int) x2 x3 x4 then (bif (decide (0≤x5) && decide (x5<(b1.length:Int))) then (bif q131 3 x6 x7 x8 then k (IntKind.i64.wrap (IntKind.i64.wrap (fI (b1.getD x5.toNat .undef) 0+(v131_0 3 x6 x7 x8)) - 1),(v131_1 3 x6 x7 x8),(v131_2 3 x6 x7 x8),(v131_3 3 x6 x7 x8),b1,b2,b3)
 else n)
 else n)
 else n)
 else (bif q132 x2 x3 x4 ([AV.int .i64 0,AV.int .i64 3,AV.int .i64 (-2),AV.int .i64 (-1000),AV.int .i64 1000,AV.int .i64 50]) then k ((v132_0 x2 x3 x4 ([AV.int .i64 0,AV.int .i64 3,AV.int .i64 (-2),AV.int .i64 (-1000),AV.int .i64 1000,AV.int .i64 50])),(v132_1 x2 x3 x4 ([AV.int .i64 0,AV.int .i64 3,AV.int .i64 (-2),AV.int .i64 (-1000),AV.int .i64 1000,AV.int .i64 50])),(v132_2 x2 x3 x4 ([AV.int .i64 0,AV.int .i64 3,AV.int .i64 (-2),AV.int .i64 (-1000),AV.int .i64 1000,AV.int .i64 50])),(v132_3 x2 x3 x4 ([AV.int .i64 0,AV.int .i64 3,AV.int .i64 (-2),AV.int .i64 (-1000),AV.int .i64 1000,AV.int .i64 50])),b1,b2,b3)
 else n))
 else n)
 else (bif q132 ua ub uc ([AV.int .i64 0,AV.int .i64 3,AV.int .i64 (-2),AV.int .i64 (-1000),AV.int .i64 1000,AV.int .i64 50]) then k ((v132_0 ua ub uc ([AV.int .i64 0,AV.int .i64 3,AV.int .i64 (-2),AV.int .i64 (-1000),AV.int .i64 1000,AV.int .i64 50])),(v132_1 ua ub uc ([AV.int .i64 0,AV.int .i64 3,AV.int .i64 (-2),AV.int .i64 (-1000),AV.int .i64 1000,AV.int .i64 50])),(v132_2 ua ub uc ([AV.int .i64 0,AV.int .i64 3,AV.int .i64 (-2),AV.int .i64 (-1000),AV.int .i64 1000,AV.int .i64 50])),(v132_3 ua ub uc ([AV.int .i64 0,AV.int .i64 3,AV.int .i64 (-2),AV.int .i64 (-1000),AV.int .i64 1000,AV.int .i64 50])),b1,b2,b3)
 else n))
abbrev W109 (ua:List AV) (ub:Int) (uc:Int) (b1:List AV) (b2:List AV) (b3:List AV):Option (Int × (List AV) × Int × Int × (List AV) × (List AV) × (List AV)):=T109 some none ua ub uc b1 b2 b3
theorem n109 {β:Type} (k:(Int × (List AV) × Int × Int × (List AV) × (List AV) × (List AV))→β) (n:β) (ua:List AV) (ub:Int) (uc:Int) (b1:List AV) (b2:List AV) (b3:List AV):T109 k n ua ub uc b1 b2 b3=oe k n (W109 ua ub uc b1 b2 b3):=by
 unfold W109 T109
 simp only [oe_cond,oe_ro,oe_sum,oe_some,oe_none]
def q109 (ua:List AV) (ub uc:Int) (b1 b2 b3:List AV):Bool:=(W109 ua ub uc b1 b2 b3).isSome
def v109_0 (ua:List AV) (ub uc:Int) (b1 b2 b3:List AV):Int:=oe (fun t=>t.1) 0 (W109 ua ub uc b1 b2 b3)
def v109_1 (ua:List AV) (ub uc:Int) (b1 b2 b3:List AV):List AV:=oe (fun t=>t.2.1) [] (W109 ua ub uc b1 b2 b3)
def v109_2 (ua:List AV) (ub uc:Int) (b1 b2 b3:List AV):Int:=oe (fun t=>t.2.2.1) 0 (W109 ua ub uc b1 b2 b3)
def v109_3 (ua:List AV) (ub uc:Int) (b1 b2 b3:List AV):Int:=oe (fun t=>t.2.2.2.1) 0 (W109 ua ub uc b1 b2 b3)
def v109_4 (ua:List AV) (ub uc:Int) (b1 b2 b3:List AV):List AV:=oe (fun t=>t.2.2.2.2.1) [] (W109 ua ub uc b1 b2 b3)
def v109_5 (ua:List AV) (ub uc:Int) (b1 b2 b3:List AV):List AV:=oe (fun t=>t.2.2.2.2.2.1) [] (W109 ua ub uc b1 b2 b3)
def v109_6 (ua:List AV) (ub uc:Int) (b1 b2 b3:List AV):List AV:=oe (fun t=>t.2.2.2.2.2.2) [] (W109 ua ub uc b1 b2 b3)
theorem e109 (ua:List AV) (ub uc:Int) (b1 b2 b3:List AV) (K:List AV→List (Option Blk)→Option AV):inlA c109 1 109 [AV.ptr [1] 0 0,AV.agg [AV.own [2],AV.own [3],AV.own [4]]] [0] (canH 1 [⟨true,[],[AV.agg [AV.sl [.int .u8] ua,Ai ub,Ai uc]]⟩,⟨false,[.int .i64],b1⟩,⟨false,[.int .i64],b2⟩,⟨false,[.int .i64,.int .i64],b3⟩]) (keepG Tryz.prog 4 [3] [] K)=T109 (fun t=>K [Ai t.1] [some ⟨true,[],[AV.agg [AV.sl [.int .u8] t.2.1,Ai t.2.2.1,Ai t.2.2.2.1]]⟩,some ⟨false,[.int .i64],t.2.2.2.2.1⟩,some ⟨false,[.int .i64],t.2.2.2.2.2.1⟩,some ⟨false,[.int .i64,.int .i64],t.2.2.2.2.2.2⟩]) none ua ub uc b1 b2 b3:=by kernel_rfl
theorem r109 (ua:List AV) (ub uc:Int) (b1 b2 b3:List AV) (K:List AV→List (Option Blk)→Option AV) (h:q109 ua ub uc b1 b2 b3=true):inlA c109 1 109 [AV.ptr [1] 0 0,AV.agg [AV.own [2],AV.own [3],AV.own [4]]] [0] (canH 1 [⟨true,[],[AV.agg [AV.sl [.int .u8] ua,AV.int .i64 ub,AV.int .i64 uc]]⟩,⟨false,[.int .i64],b1⟩,⟨false,[.int .i64],b2⟩,⟨false,[.int .i64,.int .i64],b3⟩]) (keepG Tryz.prog 4 [3] [] K)=K [AV.int .i64 (v109_0 ua ub uc b1 b2 b3)] [some ⟨true,[],[AV.agg [AV.sl [.int .u8] (v109_1 ua ub uc b1 b2 b3),AV.int .i64 (v109_2 ua ub uc b1 b2 b3),AV.int .i64 (v109_3 ua ub uc b1 b2 b3)]]⟩,some ⟨false,[.int .i64],(v109_4 ua ub uc b1 b2 b3)⟩,some ⟨false,[.int .i64],(v109_5 ua ub uc b1 b2 b3)⟩,some ⟨false,[.int .i64,.int .i64],(v109_6 ua ub uc b1 b2 b3)⟩]:=by
 refine ((e109 ua ub uc b1 b2 b3 K).trans (n109 _ _ ua ub uc b1 b2 b3)).trans ?_
 unfold q109 at h
 unfold v109_0 v109_1 v109_2 v109_3 v109_4 v109_5 v109_6
 generalize W109 ua ub uc b1 b2 b3=o at *
 cases o with
 | none=>cases h
 | some t=>rfl
def m109:GModel
 | [.ptr g0 g1 g2,.agg [.own g3,.own g4,.own g5]],[⟨true,[],[.agg [.sl g6 ua,.int .i64 ub,.int .i64 uc]]⟩,⟨false,g7,b1⟩,⟨false,g8,b2⟩,⟨false,g9,b3⟩]=>bif nmEq g0 ([1]) && Nat.beq g1 0 && Nat.beq g2 0 && nmEq g3 ([2]) && nmEq g4 ([3]) && nmEq g5 ([4]) && ctsEq g6 ([.int .u8]) && ctsEq g7 ([.int .i64]) && ctsEq g8 ([.int .i64]) && ctsEq g9 ([.int .i64,.int .i64]) then some (q109 ua ub uc b1 b2 b3,[AV.int .i64 (v109_0 ua ub uc b1 b2 b3)],[some ⟨true,[],[AV.agg [AV.sl [.int .u8] (v109_1 ua ub uc b1 b2 b3),AV.int .i64 (v109_2 ua ub uc b1 b2 b3),AV.int .i64 (v109_3 ua ub uc b1 b2 b3)]]⟩,some ⟨false,[.int .i64],(v109_4 ua ub uc b1 b2 b3)⟩,some ⟨false,[.int .i64],(v109_5 ua ub uc b1 b2 b3)⟩,some ⟨false,[.int .i64,.int .i64],(v109_6 ua ub uc b1 b2 b3)⟩]) else none
 | _,_=>none
theorem k109:Known Tryz.prog 109:=⟨Tryz.f109,Tryz.func109,by kernel_rfl,by kernel_rfl⟩
theorem meets109:MeetsG Tryz.prog 109 m109:=by
 refine mg (rt:=[3]) (gs:=[]) (lvl:=0) (cf:=c109) rfl mixed k109 Tryz.func109 (by kernel_rfl) noLoop allT_nil (allG_cons meets119 (allG_cons meets131 (allG_cons meets132 allM_nil))) noI fun xs bs r bs' h K=>?_
 unfold m109 at h
 split at h
 ·rename_i g0 g1 g2 g3 g4 g5 g6 ua ub uc g7 b1 g8 b2 g9 b3
  obtain ⟨hg,h⟩:=bif_pair h
  simp only [Bool.and_eq_true] at hg
  obtain ⟨⟨⟨⟨⟨⟨⟨⟨⟨q0,q1⟩,q2⟩,q3⟩,q4⟩,q5⟩,q6⟩,q7⟩,q8⟩,q9⟩:=hg
  obtain rfl:=nE q0
  obtain rfl:=bE q1
  obtain rfl:=bE q2
  obtain rfl:=nE q3
  obtain rfl:=nE q4
  obtain rfl:=nE q5
  obtain rfl:=cE q6
  obtain rfl:=cE q7
  obtain rfl:=cE q8
  obtain rfl:=cE q9
  obtain ⟨h1,rfl,rfl⟩:=trip_inj h
  exact r109 ua ub uc b1 b2 b3 K h1
 ·cases h
noncomputable def c222:Cfg:=cfg Tryz.prog [(222,999,[2])] [] [(131,.g m131),(132,.g m132)] [] []
def T222 {β:Type} (k:(Int × Int × (List AV) × Int × Int)→β) (n:β) (ua:List AV) (ub:Int) (uc:Int):β:=by
 refine (?f0:Int→(List AV)→Int→Int→β) (v132_0 ua ub uc ([AV.int .i64 3,AV.int .i64 10,AV.int .i64 30,AV.int .i64 1000])) (v132_1 ua ub uc ([AV.int .i64 3,AV.int .i64 10,AV.int .i64 30,AV.int .i64 1000])) (v132_2 ua ub uc ([AV.int .i64 3,AV.int .i64 10,AV.int .i64 30,AV.int .i64 1000])) (v132_3 ua ub uc ([AV.int .i64 3,AV.int .i64 10,AV.int .i64 30,AV.int .i64 1000]));intro x1 x2 x3 x4
 refine (?f1:Int→(List AV)→Int→Int→β) (v131_0 x1 x2 x3 x4) (v131_1 x1 x2 x3 x4) (v131_2 x1 x2 x3 x4) (v131_3 x1 x2 x3 x4);intro x5 x6 x7 x8
 exact (bif q132 ua ub uc ([AV.int .i64 3,AV.int .i64 10,AV.int .i64 30,AV.int .i64 1000]) then (bif q131 x1 x2 x3 x4 then (bif !decide (3=0) then (bif q131 x1 x6 x7 x8 then k (IntKind.i64.wrap (x5 - IntKind.i64.wrap (Int.tdiv x1 3)),(if IntKind.i64.wrap (IntKind.i64.wrap (x5 - IntKind.i64.wrap (Int.tdiv x1 3))+(v131_0 x1 x6 x7 x8))<1000 then IntKind.i64.wrap (IntKind.i64.wrap (x5 - IntKind.i64.wrap (Int.tdiv x1 3))+(v131_0 x1 x6 x7 x8)) else 1000),(v131_1 x1 x6 x7 x8),(v131_2 x1 x6 x7 x8),(v131_3 x1 x6 x7 x8))
 else n)
 else n)
 else n)
 else n)
abbrev W222 (ua:List AV) (ub:Int) (uc:Int):Option (Int × Int × (List AV) × Int × Int):=T222 some none ua ub uc
theorem n222 {β:Type} (k:(Int × Int × (List AV) × Int × Int)→β) (n:β) (ua:List AV) (ub:Int) (uc:Int):T222 k n ua ub uc=oe k n (W222 ua ub uc):=by
 unfold W222 T222
 simp only [oe_cond,oe_ro,oe_sum,oe_some,oe_none]
def q222 (ua:List AV) (ub uc:Int):Bool:=(W222 ua ub uc).isSome
def v222_0 (ua:List AV) (ub uc:Int):Int:=oe (fun t=>t.1) 0 (W222 ua ub uc)
def v222_1 (ua:List AV) (ub uc:Int):Int:=oe (fun t=>t.2.1) 0 (W222 ua ub uc)
def v222_2 (ua:List AV) (ub uc:Int):List AV:=oe (fun t=>t.2.2.1) [] (W222 ua ub uc)
def v222_3 (ua:List AV) (ub uc:Int):Int:=oe (fun t=>t.2.2.2.1) 0 (W222 ua ub uc)
def v222_4 (ua:List AV) (ub uc:Int):Int:=oe (fun t=>t.2.2.2.2) 0 (W222 ua ub uc)
theorem e222 (ua:List AV) (ub uc:Int) (K:List AV→List (Option Blk)→Option AV):inlA c222 1 222 [AV.ptr [1] 0 0] [0] (canH 1 [⟨true,[],[AV.agg [AV.sl [.int .u8] ua,Ai ub,Ai uc]]⟩]) (keepG Tryz.prog 1 [188] [] K)=T222 (fun t=>K [AV.agg [Ai t.1,Ai t.2.1]] [some ⟨true,[],[AV.agg [AV.sl [.int .u8] t.2.2.1,Ai t.2.2.2.1,Ai t.2.2.2.2]]⟩]) none ua ub uc:=by kernel_rfl
theorem r222 (ua:List AV) (ub uc:Int) (K:List AV→List (Option Blk)→Option AV) (h:q222 ua ub uc=true):inlA c222 1 222 [AV.ptr [1] 0 0] [0] (canH 1 [⟨true,[],[AV.agg [AV.sl [.int .u8] ua,AV.int .i64 ub,AV.int .i64 uc]]⟩]) (keepG Tryz.prog 1 [188] [] K)=K [AV.agg [AV.int .i64 (v222_0 ua ub uc),AV.int .i64 (v222_1 ua ub uc)]] [some ⟨true,[],[AV.agg [AV.sl [.int .u8] (v222_2 ua ub uc),AV.int .i64 (v222_3 ua ub uc),AV.int .i64 (v222_4 ua ub uc)]]⟩]:=by
 refine ((e222 ua ub uc K).trans (n222 _ _ ua ub uc)).trans ?_
 unfold q222 at h
 unfold v222_0 v222_1 v222_2 v222_3 v222_4
 generalize W222 ua ub uc=o at *
 cases o with
 | none=>cases h
 | some t=>rfl
def m222:GModel
 | [.ptr g0 g1 g2],[⟨true,[],[.agg [.sl g3 ua,.int .i64 ub,.int .i64 uc]]⟩]=>bif nmEq g0 ([1]) && Nat.beq g1 0 && Nat.beq g2 0 && ctsEq g3 ([.int .u8]) then some (q222 ua ub uc,[AV.agg [AV.int .i64 (v222_0 ua ub uc),AV.int .i64 (v222_1 ua ub uc)]],[some ⟨true,[],[AV.agg [AV.sl [.int .u8] (v222_2 ua ub uc),AV.int .i64 (v222_3 ua ub uc),AV.int .i64 (v222_4 ua ub uc)]]⟩]) else none
 | _,_=>none
theorem k222:Known Tryz.prog 222:=⟨Tryz.f222,Tryz.func222,by kernel_rfl,by kernel_rfl⟩
theorem meets222:MeetsG Tryz.prog 222 m222:=by
 refine mg (rt:=[188]) (gs:=[]) (lvl:=0) (cf:=c222) rfl mixed k222 Tryz.func222 (by kernel_rfl) noLoop allT_nil (allG_cons meets131 (allG_cons meets132 allM_nil)) noI fun xs bs r bs' h K=>?_
 unfold m222 at h
 split at h
 ·rename_i g0 g1 g2 g3 ua ub uc
  obtain ⟨hg,h⟩:=bif_pair h
  simp only [Bool.and_eq_true] at hg
  obtain ⟨⟨⟨q0,q1⟩,q2⟩,q3⟩:=hg
  obtain rfl:=nE q0
  obtain rfl:=bE q1
  obtain rfl:=bE q2
  obtain rfl:=cE q3
  obtain ⟨h1,rfl,rfl⟩:=trip_inj h
  exact r222 ua ub uc K h1
 ·cases h
noncomputable def c198:Cfg:=cfg Tryz.prog [(198,999,[2]),(198,1000,[2,3])] [] [(131,.g m131),(132,.g m132),(222,.g m222)] [] []
def T198 {β:Type} (k:(Int × Int × (List AV) × Int × Int)→β) (n:β) (ua:List AV) (ub:Int) (uc:Int):β:=by
 refine (?f0:Int→Int→(List AV)→Int→Int→β) (v222_0 ua ub uc) (v222_1 ua ub uc) (v222_2 ua ub uc) (v222_3 ua ub uc) (v222_4 ua ub uc);intro x1 x2 x3 x4 x5
 refine (?f1:Int→(List AV)→Int→Int→β) (v131_0 10 x3 x4 x5) (v131_1 10 x3 x4 x5) (v131_2 10 x3 x4 x5) (v131_3 10 x3 x4 x5);intro x6 x7 x8 x9
 refine (?f2:Int→(List AV)→Int→Int→β) (v132_0 x7 x8 x9 ([AV.int .i64 (-1001),AV.int .i64 (-1000),AV.int .i64 1000,AV.int .i64 1001])) (v132_1 x7 x8 x9 ([AV.int .i64 (-1001),AV.int .i64 (-1000),AV.int .i64 1000,AV.int .i64 1001])) (v132_2 x7 x8 x9 ([AV.int .i64 (-1001),AV.int .i64 (-1000),AV.int .i64 1000,AV.int .i64 1001])) (v132_3 x7 x8 x9 ([AV.int .i64 (-1001),AV.int .i64 (-1000),AV.int .i64 1000,AV.int .i64 1001]));intro x10 x11 x12 x13
 exact (bif q222 ua ub uc then (bif q131 10 x3 x4 x5 then (bif decide (x6=0) then (bif q132 x7 x8 x9 ([AV.int .i64 (-1001),AV.int .i64 (-1000),AV.int .i64 1000,AV.int .i64 1001]) then k (x10,x2,x11,x12,x13)
 else n)
 else (bif decide (x6=1) then (bif q132 x7 x8 x9 ([AV.int .i64 (-1001),AV.int .i64 (-1000),AV.int .i64 1000,AV.int .i64 1001]) then k (x1,x10,x11,x12,x13)
 else n)
 else k (x1,x2,x7,x8,x9)))
 else n)
 else n)
abbrev W198 (ua:List AV) (ub:Int) (uc:Int):Option (Int × Int × (List AV) × Int × Int):=T198 some none ua ub uc
theorem n198 {β:Type} (k:(Int × Int × (List AV) × Int × Int)→β) (n:β) (ua:List AV) (ub:Int) (uc:Int):T198 k n ua ub uc=oe k n (W198 ua ub uc):=by
 unfold W198 T198
 simp only [oe_cond,oe_ro,oe_sum,oe_some,oe_none]
def q198 (ua:List AV) (ub uc:Int):Bool:=(W198 ua ub uc).isSome
def v198_0 (ua:List AV) (ub uc:Int):Int:=oe (fun t=>t.1) 0 (W198 ua ub uc)
def v198_1 (ua:List AV) (ub uc:Int):Int:=oe (fun t=>t.2.1) 0 (W198 ua ub uc)
def v198_2 (ua:List AV) (ub uc:Int):List AV:=oe (fun t=>t.2.2.1) [] (W198 ua ub uc)
def v198_3 (ua:List AV) (ub uc:Int):Int:=oe (fun t=>t.2.2.2.1) 0 (W198 ua ub uc)
def v198_4 (ua:List AV) (ub uc:Int):Int:=oe (fun t=>t.2.2.2.2) 0 (W198 ua ub uc)
theorem e198 (ua:List AV) (ub uc:Int) (K:List AV→List (Option Blk)→Option AV):inlA c198 1 198 [AV.ptr [1] 0 0] [0] (canH 1 [⟨true,[],[AV.agg [AV.sl [.int .u8] ua,Ai ub,Ai uc]]⟩]) (keepG Tryz.prog 1 [188] [] K)=T198 (fun t=>K [AV.agg [Ai t.1,Ai t.2.1]] [some ⟨true,[],[AV.agg [AV.sl [.int .u8] t.2.2.1,Ai t.2.2.2.1,Ai t.2.2.2.2]]⟩]) none ua ub uc:=by kernel_rfl
theorem r198 (ua:List AV) (ub uc:Int) (K:List AV→List (Option Blk)→Option AV) (h:q198 ua ub uc=true):inlA c198 1 198 [AV.ptr [1] 0 0] [0] (canH 1 [⟨true,[],[AV.agg [AV.sl [.int .u8] ua,AV.int .i64 ub,AV.int .i64 uc]]⟩]) (keepG Tryz.prog 1 [188] [] K)=K [AV.agg [AV.int .i64 (v198_0 ua ub uc),AV.int .i64 (v198_1 ua ub uc)]] [some ⟨true,[],[AV.agg [AV.sl [.int .u8] (v198_2 ua ub uc),AV.int .i64 (v198_3 ua ub uc),AV.int .i64 (v198_4 ua ub uc)]]⟩]:=by
 refine ((e198 ua ub uc K).trans (n198 _ _ ua ub uc)).trans ?_
 unfold q198 at h
 unfold v198_0 v198_1 v198_2 v198_3 v198_4
 generalize W198 ua ub uc=o at *
 cases o with
 | none=>cases h
 | some t=>rfl
def m198:GModel
 | [.ptr g0 g1 g2],[⟨true,[],[.agg [.sl g3 ua,.int .i64 ub,.int .i64 uc]]⟩]=>bif nmEq g0 ([1]) && Nat.beq g1 0 && Nat.beq g2 0 && ctsEq g3 ([.int .u8]) then some (q198 ua ub uc,[AV.agg [AV.int .i64 (v198_0 ua ub uc),AV.int .i64 (v198_1 ua ub uc)]],[some ⟨true,[],[AV.agg [AV.sl [.int .u8] (v198_2 ua ub uc),AV.int .i64 (v198_3 ua ub uc),AV.int .i64 (v198_4 ua ub uc)]]⟩]) else none
 | _,_=>none
theorem k198:Known Tryz.prog 198:=⟨Tryz.f198,Tryz.func198,by kernel_rfl,by kernel_rfl⟩
theorem meets198:MeetsG Tryz.prog 198 m198:=by
 refine mg (rt:=[188]) (gs:=[]) (lvl:=0) (cf:=c198) rfl mixed k198 Tryz.func198 (by kernel_rfl) noLoop allT_nil (allG_cons meets131 (allG_cons meets132 (allG_cons meets222 allM_nil))) noI fun xs bs r bs' h K=>?_
 unfold m198 at h
 split at h
 ·rename_i g0 g1 g2 g3 ua ub uc
  obtain ⟨hg,h⟩:=bif_pair h
  simp only [Bool.and_eq_true] at hg
  obtain ⟨⟨⟨q0,q1⟩,q2⟩,q3⟩:=hg
  obtain rfl:=nE q0
  obtain rfl:=bE q1
  obtain rfl:=bE q2
  obtain rfl:=cE q3
  obtain ⟨h1,rfl,rfl⟩:=trip_inj h
  exact r198 ua ub uc K h1
 ·cases h
noncomputable def c173:Cfg:=cfg Tryz.prog [(173,999,[4])] [] [(109,.g m109),(119,.g m119),(198,.g m198)] [] []
def T173 {β:Type} (k:(Int × Int × (List AV) × Int × Int × (List AV) × (List AV) × (List AV))→β) (n:β) (ua:List AV) (ub:Int) (uc:Int) (b1:List AV) (b2:List AV) (b3:List AV):β:=by
 refine (?f0:Int→(List AV)→Int→Int→(List AV)→(List AV)→(List AV)→β) (v109_0 ua ub uc b1 b2 b3) (v109_1 ua ub uc b1 b2 b3) (v109_2 ua ub uc b1 b2 b3) (v109_3 ua ub uc b1 b2 b3) (v109_4 ua ub uc b1 b2 b3) (v109_5 ua ub uc b1 b2 b3) (v109_6 ua ub uc b1 b2 b3);intro x1 x2 x3 x4 x5 x6 x7
 refine (?f1:Int→(List AV)→Int→Int→(List AV)→(List AV)→(List AV)→β) (v109_0 x2 x3 x4 x5 x6 x7) (v109_1 x2 x3 x4 x5 x6 x7) (v109_2 x2 x3 x4 x5 x6 x7) (v109_3 x2 x3 x4 x5 x6 x7) (v109_4 x2 x3 x4 x5 x6 x7) (v109_5 x2 x3 x4 x5 x6 x7) (v109_6 x2 x3 x4 x5 x6 x7);intro x8 x9 x10 x11 x12 x13 x14
 refine (?f2:Bool→(List AV)→Int→Int→β) (v119_0 12 x9 x10 x11) (v119_1 12 x9 x10 x11) (v119_2 12 x9 x10 x11) (v119_3 12 x9 x10 x11);intro x15 x16 x17 x18
 exact (bif q109 ua ub uc b1 b2 b3 then (bif q109 x2 x3 x4 x5 x6 x7 then (bif q119 12 x9 x10 x11 then (bif x15 then (bif q198 x16 x17 x18 then k ((v198_0 x16 x17 x18),(v198_1 x16 x17 x18),(v198_2 x16 x17 x18),(v198_3 x16 x17 x18),(v198_4 x16 x17 x18),x12,x13,x14)
 else n)
 else k ((if x8<x1 then x8 else x1),(if x8 > x1 then x8 else x1),x16,x17,x18,x12,x13,x14))
 else n)
 else n)
 else n)
abbrev W173 (ua:List AV) (ub:Int) (uc:Int) (b1:List AV) (b2:List AV) (b3:List AV):Option (Int × Int × (List AV) × Int × Int × (List AV) × (List AV) × (List AV)):=T173 some none ua ub uc b1 b2 b3
theorem n173 {β:Type} (k:(Int × Int × (List AV) × Int × Int × (List AV) × (List AV) × (List AV))→β) (n:β) (ua:List AV) (ub:Int) (uc:Int) (b1:List AV) (b2:List AV) (b3:List AV):T173 k n ua ub uc b1 b2 b3=oe k n (W173 ua ub uc b1 b2 b3):=by
 unfold W173 T173
 simp only [oe_cond,oe_ro,oe_sum,oe_some,oe_none]
def q173 (ua:List AV) (ub uc:Int) (b1 b2 b3:List AV):Bool:=(W173 ua ub uc b1 b2 b3).isSome
def v173_0 (ua:List AV) (ub uc:Int) (b1 b2 b3:List AV):Int:=oe (fun t=>t.1) 0 (W173 ua ub uc b1 b2 b3)
def v173_1 (ua:List AV) (ub uc:Int) (b1 b2 b3:List AV):Int:=oe (fun t=>t.2.1) 0 (W173 ua ub uc b1 b2 b3)
def v173_2 (ua:List AV) (ub uc:Int) (b1 b2 b3:List AV):List AV:=oe (fun t=>t.2.2.1) [] (W173 ua ub uc b1 b2 b3)
def v173_3 (ua:List AV) (ub uc:Int) (b1 b2 b3:List AV):Int:=oe (fun t=>t.2.2.2.1) 0 (W173 ua ub uc b1 b2 b3)
def v173_4 (ua:List AV) (ub uc:Int) (b1 b2 b3:List AV):Int:=oe (fun t=>t.2.2.2.2.1) 0 (W173 ua ub uc b1 b2 b3)
def v173_5 (ua:List AV) (ub uc:Int) (b1 b2 b3:List AV):List AV:=oe (fun t=>t.2.2.2.2.2.1) [] (W173 ua ub uc b1 b2 b3)
def v173_6 (ua:List AV) (ub uc:Int) (b1 b2 b3:List AV):List AV:=oe (fun t=>t.2.2.2.2.2.2.1) [] (W173 ua ub uc b1 b2 b3)
def v173_7 (ua:List AV) (ub uc:Int) (b1 b2 b3:List AV):List AV:=oe (fun t=>t.2.2.2.2.2.2.2) [] (W173 ua ub uc b1 b2 b3)
theorem e173 (ua:List AV) (ub uc:Int) (b1 b2 b3:List AV) (K:List AV→List (Option Blk)→Option AV):inlA c173 1 173 [AV.ptr [1] 0 0,AV.agg [AV.own [2],AV.own [3],AV.own [4]]] [0] (canH 1 [⟨true,[],[AV.agg [AV.sl [.int .u8] ua,Ai ub,Ai uc]]⟩,⟨false,[.int .i64],b1⟩,⟨false,[.int .i64],b2⟩,⟨false,[.int .i64,.int .i64],b3⟩]) (keepG Tryz.prog 4 [188] [] K)=T173 (fun t=>K [AV.agg [Ai t.1,Ai t.2.1]] [some ⟨true,[],[AV.agg [AV.sl [.int .u8] t.2.2.1,Ai t.2.2.2.1,Ai t.2.2.2.2.1]]⟩,some ⟨false,[.int .i64],t.2.2.2.2.2.1⟩,some ⟨false,[.int .i64],t.2.2.2.2.2.2.1⟩,some ⟨false,[.int .i64,.int .i64],t.2.2.2.2.2.2.2⟩]) none ua ub uc b1 b2 b3:=by kernel_rfl
theorem r173 (ua:List AV) (ub uc:Int) (b1 b2 b3:List AV) (K:List AV→List (Option Blk)→Option AV) (h:q173 ua ub uc b1 b2 b3=true):inlA c173 1 173 [AV.ptr [1] 0 0,AV.agg [AV.own [2],AV.own [3],AV.own [4]]] [0] (canH 1 [⟨true,[],[AV.agg [AV.sl [.int .u8] ua,AV.int .i64 ub,AV.int .i64 uc]]⟩,⟨false,[.int .i64],b1⟩,⟨false,[.int .i64],b2⟩,⟨false,[.int .i64,.int .i64],b3⟩]) (keepG Tryz.prog 4 [188] [] K)=K [AV.agg [AV.int .i64 (v173_0 ua ub uc b1 b2 b3),AV.int .i64 (v173_1 ua ub uc b1 b2 b3)]] [some ⟨true,[],[AV.agg [AV.sl [.int .u8] (v173_2 ua ub uc b1 b2 b3),AV.int .i64 (v173_3 ua ub uc b1 b2 b3),AV.int .i64 (v173_4 ua ub uc b1 b2 b3)]]⟩,some ⟨false,[.int .i64],(v173_5 ua ub uc b1 b2 b3)⟩,some ⟨false,[.int .i64],(v173_6 ua ub uc b1 b2 b3)⟩,some ⟨false,[.int .i64,.int .i64],(v173_7 ua ub uc b1 b2 b3)⟩]:=by
 refine ((e173 ua ub uc b1 b2 b3 K).trans (n173 _ _ ua ub uc b1 b2 b3)).trans ?_
 unfold q173 at h
 unfold v173_0 v173_1 v173_2 v173_3 v173_4 v173_5 v173_6 v173_7
 generalize W173 ua ub uc b1 b2 b3=o at *
 cases o with
 | none=>cases h
 | some t=>rfl
def m173:GModel
 | [.ptr g0 g1 g2,.agg [.own g3,.own g4,.own g5]],[⟨true,[],[.agg [.sl g6 ua,.int .i64 ub,.int .i64 uc]]⟩,⟨false,g7,b1⟩,⟨false,g8,b2⟩,⟨false,g9,b3⟩]=>bif nmEq g0 ([1]) && Nat.beq g1 0 && Nat.beq g2 0 && nmEq g3 ([2]) && nmEq g4 ([3]) && nmEq g5 ([4]) && ctsEq g6 ([.int .u8]) && ctsEq g7 ([.int .i64]) && ctsEq g8 ([.int .i64]) && ctsEq g9 ([.int .i64,.int .i64]) then some (q173 ua ub uc b1 b2 b3,[AV.agg [AV.int .i64 (v173_0 ua ub uc b1 b2 b3),AV.int .i64 (v173_1 ua ub uc b1 b2 b3)]],[some ⟨true,[],[AV.agg [AV.sl [.int .u8] (v173_2 ua ub uc b1 b2 b3),AV.int .i64 (v173_3 ua ub uc b1 b2 b3),AV.int .i64 (v173_4 ua ub uc b1 b2 b3)]]⟩,some ⟨false,[.int .i64],(v173_5 ua ub uc b1 b2 b3)⟩,some ⟨false,[.int .i64],(v173_6 ua ub uc b1 b2 b3)⟩,some ⟨false,[.int .i64,.int .i64],(v173_7 ua ub uc b1 b2 b3)⟩]) else none
 | _,_=>none
theorem k173:Known Tryz.prog 173:=⟨Tryz.f173,Tryz.func173,by kernel_rfl,by kernel_rfl⟩
theorem meets173:MeetsG Tryz.prog 173 m173:=by
 refine mg (rt:=[188]) (gs:=[]) (lvl:=0) (cf:=c173) rfl mixed k173 Tryz.func173 (by kernel_rfl) noLoop allT_nil (allG_cons meets109 (allG_cons meets119 (allG_cons meets198 allM_nil))) noI fun xs bs r bs' h K=>?_
 unfold m173 at h
 split at h
 ·rename_i g0 g1 g2 g3 g4 g5 g6 ua ub uc g7 b1 g8 b2 g9 b3
  obtain ⟨hg,h⟩:=bif_pair h
  simp only [Bool.and_eq_true] at hg
  obtain ⟨⟨⟨⟨⟨⟨⟨⟨⟨q0,q1⟩,q2⟩,q3⟩,q4⟩,q5⟩,q6⟩,q7⟩,q8⟩,q9⟩:=hg
  obtain rfl:=nE q0
  obtain rfl:=bE q1
  obtain rfl:=bE q2
  obtain rfl:=nE q3
  obtain rfl:=nE q4
  obtain rfl:=nE q5
  obtain rfl:=cE q6
  obtain rfl:=cE q7
  obtain rfl:=cE q8
  obtain rfl:=cE q9
  obtain ⟨h1,rfl,rfl⟩:=trip_inj h
  exact r173 ua ub uc b1 b2 b3 K h1
 ·cases h
def G118_2 {β:Type} (h3_0:Int) (h3_1:Int) (h3_2:Int) (h4:List AV) (h5_0:Int) (h5_1:Int) (h5_2:Int) (t10:Int) (h0:List AV) (h1:List AV) (h2:List AV) (h7:List AV) (h8_0:List AV) (h8_1:Int) (h8_2:Int) (N:((Int × (List AV) × (List AV) × (List AV) × (List AV) × (List AV) × Int × Int))→β) (K:(((List AV) × (List AV) × (List AV) × (List AV) × (List AV) × Int × Int))→β) (d:β):β:=(bif decide (t10 > 0) then (bif q173 h8_0 h8_1 h8_2 h0 h1 h2 then (bif (decide ((h7.length+([AV.agg [AV.int .i64 (v173_0 h8_0 h8_1 h8_2 h0 h1 h2),AV.int .i64 (v173_1 h8_0 h8_1 h8_2 h0 h1 h2)]]).length)*16≤140737488355328) && decide ((h7.length+([AV.agg [AV.int .i64 (v173_0 h8_0 h8_1 h8_2 h0 h1 h2),AV.int .i64 (v173_1 h8_0 h8_1 h8_2 h0 h1 h2)]]).length)≤140737488355328)) then N (IntKind.i64.wrap (t10 - 1),(v173_5 h8_0 h8_1 h8_2 h0 h1 h2),(v173_6 h8_0 h8_1 h8_2 h0 h1 h2),(v173_7 h8_0 h8_1 h8_2 h0 h1 h2),h7++([AV.agg [AV.int .i64 (v173_0 h8_0 h8_1 h8_2 h0 h1 h2),AV.int .i64 (v173_1 h8_0 h8_1 h8_2 h0 h1 h2)]]),(v173_2 h8_0 h8_1 h8_2 h0 h1 h2),(v173_3 h8_0 h8_1 h8_2 h0 h1 h2),(v173_4 h8_0 h8_1 h8_2 h0 h1 h2))
 else d)
 else d)
 else K (h0,h1,h2,h7,h8_0,h8_1,h8_2))
def F118_2 (h3_0 h3_1 h3_2:Int) (h4:List AV) (h5_0 h5_1 h5_2 t10:Int) (h0 h1 h2 h7 h8_0:List AV) (h8_1 h8_2:Int):Out ((Int × (List AV) × (List AV) × (List AV) × (List AV) × (List AV) × Int × Int)) (((List AV) × (List AV) × (List AV) × (List AV) × (List AV) × Int × Int)):=G118_2 h3_0 h3_1 h3_2 h4 h5_0 h5_1 h5_2 t10 h0 h1 h2 h7 h8_0 h8_1 h8_2 .next .stop .fail
def R118_2 (h3_0 h3_1 h3_2:Int) (h4:List AV) (h5_0 h5_1 h5_2:Int):((Int × (List AV) × (List AV) × (List AV) × (List AV) × (List AV) × Int × Int))→Out ((Int × (List AV) × (List AV) × (List AV) × (List AV) × (List AV) × Int × Int)) (((List AV) × (List AV) × (List AV) × (List AV) × (List AV) × Int × Int)):=fun s:Int × (List AV) × (List AV) × (List AV) × (List AV) × (List AV) × Int × Int=>F118_2 h3_0 h3_1 h3_2 h4 h5_0 h5_1 h5_2 s.1 s.2.1 s.2.2.1 s.2.2.2.1 s.2.2.2.2.1 s.2.2.2.2.2.1 s.2.2.2.2.2.2.1 s.2.2.2.2.2.2.2
def E118_2 (h3_0 h3_1 h3_2:Int) (h4:List AV) (h5_0 h5_1 h5_2:Int):((Int × (List AV) × (List AV) × (List AV) × (List AV) × (List AV) × Int × Int))→St:=fun s:Int × (List AV) × (List AV) × (List AV) × (List AV) × (List AV) × Int × Int=>⟨[(0,AV.ptr [1] 0 0),(3,AV.ptr [0,3,0] 0 0),(5,AV.own [0,5,0]),(7,AV.ptr [0,7,0] 0 0),(8,AV.ptr [0,8,0] 0 0),(9,AV.own [0,9,0]),(10,Ai s.1)],[([0,0,8,0],⟨false,[.int .i64],s.2.1⟩),([0,1,8,0],⟨false,[.int .i64],s.2.2.1⟩),([0,2,8,0],⟨false,[.int .i64,.int .i64],s.2.2.2.1⟩),([0,3,0],⟨true,[],[AV.agg [Ai h3_0,Ai h3_1,Ai h3_2]]⟩),([0,5,0],⟨false,[.int .i64],h4⟩),([0,7,0],⟨true,[],[AV.agg [Ai h5_0,Ai h5_1,Ai h5_2]]⟩),([0,8,0],⟨true,[],[AV.agg [AV.own [0,0,8,0],AV.own [0,1,8,0],AV.own [0,2,8,0]]]⟩),([0,9,0],⟨false,[.int .i64,.int .i64],s.2.2.2.2.1⟩),([1],⟨true,[],[AV.agg [AV.sl [.int .u8] s.2.2.2.2.2.1,Ai s.2.2.2.2.2.2.1,Ai s.2.2.2.2.2.2.2]]⟩)]⟩
def K118_2 (h3_0 h3_1 h3_2:Int) (h4:List AV) (h5_0 h5_1 h5_2:Int) (k:Kont):(((List AV) × (List AV) × (List AV) × (List AV) × (List AV) × Int × Int))→Option AV:=fun p:(List AV) × (List AV) × (List AV) × (List AV) × (List AV) × Int × Int=>k (.exit 2) ⟨[(3,AV.ptr [0,3,0] 0 0),(5,AV.own [0,5,0]),(7,AV.ptr [0,7,0] 0 0),(9,AV.own [0,9,0])],[([0,0,8,0],⟨false,[.int .i64],p.1⟩),([0,1,8,0],⟨false,[.int .i64],p.2.1⟩),([0,2,8,0],⟨false,[.int .i64,.int .i64],p.2.2.1⟩),([0,3,0],⟨true,[],[AV.agg [Ai h3_0,Ai h3_1,Ai h3_2]]⟩),([0,5,0],⟨false,[.int .i64],h4⟩),([0,7,0],⟨true,[],[AV.agg [Ai h5_0,Ai h5_1,Ai h5_2]]⟩),([0,8,0],⟨true,[],[AV.agg [AV.own [0,0,8,0],AV.own [0,1,8,0],AV.own [0,2,8,0]]]⟩),([0,9,0],⟨false,[.int .i64,.int .i64],p.2.2.2.1⟩),([1],⟨true,[],[AV.agg [AV.sl [.int .u8] p.2.2.2.2.1,Ai p.2.2.2.2.2.1,Ai p.2.2.2.2.2.2]]⟩)]⟩
def l118_2:LModel:=fun _ _ st k=>match st with
 | ⟨[(0,.ptr g0 g1 g2),(3,.ptr g3 g4 g5),(5,.own g6),(7,.ptr g7 g8 g9),(8,.ptr g10 g11 g12),(9,.own g13),(10,.int .i64 t10)],[(g14,⟨false,g15,h0⟩),(g16,⟨false,g17,h1⟩),(g18,⟨false,g19,h2⟩),(g20,⟨true,[],[.agg [.int .i64 h3_0,.int .i64 h3_1,.int .i64 h3_2]]⟩),(g21,⟨false,g22,h4⟩),(g23,⟨true,[],[.agg [.int .i64 h5_0,.int .i64 h5_1,.int .i64 h5_2]]⟩),(g24,⟨true,[],[.agg [.own g25,.own g26,.own g27]]⟩),(g28,⟨false,g29,h7⟩),(g30,⟨true,[],[.agg [.sl g31 h8_0,.int .i64 h8_1,.int .i64 h8_2]]⟩)]⟩=>bif nmEq g0 ([1]) && Nat.beq g1 0 && Nat.beq g2 0 && nmEq g3 ([0,3,0]) && Nat.beq g4 0 && Nat.beq g5 0 && nmEq g6 ([0,5,0]) && nmEq g7 ([0,7,0]) && Nat.beq g8 0 && Nat.beq g9 0 && nmEq g10 ([0,8,0]) && Nat.beq g11 0 && Nat.beq g12 0 && nmEq g13 ([0,9,0]) && nmEq g14 ([0,0,8,0]) && ctsEq g15 ([.int .i64]) && nmEq g16 ([0,1,8,0]) && ctsEq g17 ([.int .i64]) && nmEq g18 ([0,2,8,0]) && ctsEq g19 ([.int .i64,.int .i64]) && nmEq g20 ([0,3,0]) && nmEq g21 ([0,5,0]) && ctsEq g22 ([.int .i64]) && nmEq g23 ([0,7,0]) && nmEq g24 ([0,8,0]) && nmEq g25 ([0,0,8,0]) && nmEq g26 ([0,1,8,0]) && nmEq g27 ([0,2,8,0]) && nmEq g28 ([0,9,0]) && ctsEq g29 ([.int .i64,.int .i64]) && nmEq g30 ([1]) && ctsEq g31 ([.int .u8]) then ro (runW (R118_2 h3_0 h3_1 h3_2 h4 h5_0 h5_1 h5_2) ((t10 - 0:Int).toNat+1) (t10,h0,h1,h2,h7,h8_0,h8_1,h8_2)) none (K118_2 h3_0 h3_1 h3_2 h4 h5_0 h5_1 h5_2 k) else none
 | _=>none
def G118_0 {β:Type} (h0_0:Int) (h0_1:Int) (h0_2:Int) (h2_0:List AV) (h2_1:Int) (h2_2:Int) (t6:Int) (h1:List AV) (N:((Int × (List AV)))→β) (K:(((List AV)))→β) (d:β):β:=(bif decide (t6<20) then (bif (decide ((h1.length+([AV.int .i64 (IntKind.i64.wrap (20 - t6))]).length)*8≤140737488355328) && decide ((h1.length+([AV.int .i64 (IntKind.i64.wrap (20 - t6))]).length)≤140737488355328)) then N (IntKind.i64.wrap (t6+1),h1++([AV.int .i64 (IntKind.i64.wrap (20 - t6))]))
 else d)
 else K h1)
def F118_0 (h0_0 h0_1 h0_2:Int) (h2_0:List AV) (h2_1 h2_2 t6:Int) (h1:List AV):Out ((Int × (List AV))) (((List AV))):=G118_0 h0_0 h0_1 h0_2 h2_0 h2_1 h2_2 t6 h1 .next .stop .fail
def R118_0 (h0_0 h0_1 h0_2:Int) (h2_0:List AV) (h2_1 h2_2:Int):((Int × (List AV)))→Out ((Int × (List AV))) (((List AV))):=fun s:Int × (List AV)=>F118_0 h0_0 h0_1 h0_2 h2_0 h2_1 h2_2 s.1 s.2
def E118_0 (h0_0 h0_1 h0_2:Int) (h2_0:List AV) (h2_1 h2_2:Int):((Int × (List AV)))→St:=fun s:Int × (List AV)=>⟨[(0,AV.ptr [1] 0 0),(3,AV.ptr [0,3,0] 0 0),(5,AV.own [0,5,0]),(6,Ai s.1)],[([0,3,0],⟨true,[],[AV.agg [Ai h0_0,Ai h0_1,Ai h0_2]]⟩),([0,5,0],⟨false,[.int .i64],s.2⟩),([1],⟨true,[],[AV.agg [AV.sl [.int .u8] h2_0,Ai h2_1,Ai h2_2]]⟩)]⟩
def K118_0 (h0_0 h0_1 h0_2:Int) (h2_0:List AV) (h2_1 h2_2:Int) (k:Kont):(((List AV)))→Option AV:=fun p:(List AV)=>k (.exit 0) ⟨[(0,AV.ptr [1] 0 0),(3,AV.ptr [0,3,0] 0 0),(5,AV.own [0,5,0])],[([0,3,0],⟨true,[],[AV.agg [Ai h0_0,Ai h0_1,Ai h0_2]]⟩),([0,5,0],⟨false,[.int .i64],p⟩),([1],⟨true,[],[AV.agg [AV.sl [.int .u8] h2_0,Ai h2_1,Ai h2_2]]⟩)]⟩
def l118_0:LModel:=fun _ _ st k=>match st with
 | ⟨[(0,.ptr g0 g1 g2),(3,.ptr g3 g4 g5),(5,.own g6),(6,.int .i64 t6)],[(g7,⟨true,[],[.agg [.int .i64 h0_0,.int .i64 h0_1,.int .i64 h0_2]]⟩),(g8,⟨false,g9,h1⟩),(g10,⟨true,[],[.agg [.sl g11 h2_0,.int .i64 h2_1,.int .i64 h2_2]]⟩)]⟩=>bif nmEq g0 ([1]) && Nat.beq g1 0 && Nat.beq g2 0 && nmEq g3 ([0,3,0]) && Nat.beq g4 0 && Nat.beq g5 0 && nmEq g6 ([0,5,0]) && nmEq g7 ([0,3,0]) && nmEq g8 ([0,5,0]) && ctsEq g9 ([.int .i64]) && nmEq g10 ([1]) && ctsEq g11 ([.int .u8]) then ro (runW (R118_0 h0_0 h0_1 h0_2 h2_0 h2_1 h2_2) ((20 - t6:Int).toNat+1) (t6,h1)) none (K118_0 h0_0 h0_1 h0_2 h2_0 h2_1 h2_2 k) else none
 | _=>none
noncomputable def c118:Cfg:=cfg Tryz.prog [(118,0,[0,3,5,6]),(118,2,[0,3,5,7,8,9,10]),(118,999,[2,3,4]),(118,1000,[0,3,5]),(118,1001,[0,3,5,6]),(118,1002,[3,5,7,9]),(118,1003,[0,3,5,7,8,9,10])] [(99,m99)] [(91,.g m91),(119,.g m119),(131,.g m131),(172,.g m172),(173,.g m173)] [] [(118,0,l118_0),(118,2,l118_2)]
theorem s118_2 (h3_0 h3_1 h3_2:Int) (h4:List AV) (h5_0 h5_1 h5_2:Int) (ce:CallE) (k:Kont) (s:Int × (List AV) × (List AV) × (List AV) × (List AV) × (List AV) × Int × Int) (next:St→Option AV):stepA (codeA c118 ce [0] 118 2 (sub [1,1,1,1,1,1,0,1,0,0] (body Tryz.f118))) (normA [0] [0,3,5,7,8,9,10]) next ((E118_2 h3_0 h3_1 h3_2 h4 h5_0 h5_1 h5_2) s) k=G118_2 h3_0 h3_1 h3_2 h4 h5_0 h5_1 h5_2 s.1 s.2.1 s.2.2.1 s.2.2.2.1 s.2.2.2.2.1 s.2.2.2.2.2.1 s.2.2.2.2.2.2.1 s.2.2.2.2.2.2.2 (fun s=>next ((E118_2 h3_0 h3_1 h3_2 h4 h5_0 h5_1 h5_2) s)) (K118_2 h3_0 h3_1 h3_2 h4 h5_0 h5_1 h5_2 k) none:=by kernel_rfl
theorem st118_2 (h3_0 h3_1 h3_2:Int) (h4:List AV) (h5_0 h5_1 h5_2:Int) (ce:CallE) (k:Kont) (s:(Int × (List AV) × (List AV) × (List AV) × (List AV) × (List AV) × Int × Int)) (next:St→Option AV):stepA (codeA c118 ce [0] 118 2 (sub [1,1,1,1,1,1,0,1,0,0] (body Tryz.f118))) (normA [0] [0,3,5,7,8,9,10]) next ((E118_2 h3_0 h3_1 h3_2 h4 h5_0 h5_1 h5_2) s) k=(R118_2 h3_0 h3_1 h3_2 h4 h5_0 h5_1 h5_2 s).el none (fun s=>next ((E118_2 h3_0 h3_1 h3_2 h4 h5_0 h5_1 h5_2) s)) (K118_2 h3_0 h3_1 h3_2 h4 h5_0 h5_1 h5_2 k):=(s118_2 h3_0 h3_1 h3_2 h4 h5_0 h5_1 h5_2 ce k s next).trans (by unfold R118_2;unfold F118_2 G118_2;simp only [el_cond,el_ro,el_sum,el_fail,el_next,el_stop] <;> rfl)
theorem ok118_2 {ce:CallE}:LoopOK c118 ce [0] 118 2 (sub [1,1,1,1,1,1,0,1,0,0] (body Tryz.f118)):=by
 intro m hm st k r h
 obtain rfl:l118_2=m:=Option.some.inj hm
 unfold l118_2 at h
 split at h
 ·rename_i g0 g1 g2 g3 g4 g5 g6 g7 g8 g9 g10 g11 g12 g13 t10 g14 g15 h0 g16 g17 h1 g18 g19 h2 g20 h3_0 h3_1 h3_2 g21 g22 h4 g23 h5_0 h5_1 h5_2 g24 g25 g26 g27 g28 g29 h7 g30 g31 h8_0 h8_1 h8_2
  obtain ⟨hg,h⟩:=bif_some h
  simp only [Bool.and_eq_true] at hg
  obtain ⟨⟨⟨⟨⟨⟨⟨⟨⟨⟨⟨⟨⟨⟨⟨⟨⟨⟨⟨⟨⟨⟨⟨⟨⟨⟨⟨⟨⟨⟨⟨q0,q1⟩,q2⟩,q3⟩,q4⟩,q5⟩,q6⟩,q7⟩,q8⟩,q9⟩,q10⟩,q11⟩,q12⟩,q13⟩,q14⟩,q15⟩,q16⟩,q17⟩,q18⟩,q19⟩,q20⟩,q21⟩,q22⟩,q23⟩,q24⟩,q25⟩,q26⟩,q27⟩,q28⟩,q29⟩,q30⟩,q31⟩:=hg
  obtain rfl:=nE q0
  obtain rfl:=bE q1
  obtain rfl:=bE q2
  obtain rfl:=nE q3
  obtain rfl:=bE q4
  obtain rfl:=bE q5
  obtain rfl:=nE q6
  obtain rfl:=nE q7
  obtain rfl:=bE q8
  obtain rfl:=bE q9
  obtain rfl:=nE q10
  obtain rfl:=bE q11
  obtain rfl:=bE q12
  obtain rfl:=nE q13
  obtain rfl:=nE q14
  obtain rfl:=cE q15
  obtain rfl:=nE q16
  obtain rfl:=cE q17
  obtain rfl:=nE q18
  obtain rfl:=cE q19
  obtain rfl:=nE q20
  obtain rfl:=nE q21
  obtain rfl:=cE q22
  obtain rfl:=nE q23
  obtain rfl:=nE q24
  obtain rfl:=nE q25
  obtain rfl:=nE q26
  obtain rfl:=nE q27
  obtain rfl:=nE q28
  obtain rfl:=cE q29
  obtain rfl:=nE q30
  obtain rfl:=cE q31
  refine ⟨((t10 - 0:Int).toNat+1),?_⟩
  rw [← h]
  exact loop_run (E118_2 h3_0 h3_1 h3_2 h4 h5_0 h5_1 h5_2) (K118_2 h3_0 h3_1 h3_2 h4 h5_0 h5_1 h5_2 k) (st118_2 h3_0 h3_1 h3_2 h4 h5_0 h5_1 h5_2 ce k) _ (t10,h0,h1,h2,h7,h8_0,h8_1,h8_2)
 ·cases h
theorem s118_0 (h0_0 h0_1 h0_2:Int) (h2_0:List AV) (h2_1 h2_2:Int) (ce:CallE) (k:Kont) (s:Int × (List AV)) (next:St→Option AV):stepA (codeA c118 ce [0] 118 0 (sub [1,1,0,1,0,1,1,0,0] (body Tryz.f118))) (normA [0] [0,3,5,6]) next ((E118_0 h0_0 h0_1 h0_2 h2_0 h2_1 h2_2) s) k=G118_0 h0_0 h0_1 h0_2 h2_0 h2_1 h2_2 s.1 s.2 (fun s=>next ((E118_0 h0_0 h0_1 h0_2 h2_0 h2_1 h2_2) s)) (K118_0 h0_0 h0_1 h0_2 h2_0 h2_1 h2_2 k) none:=by kernel_rfl
theorem st118_0 (h0_0 h0_1 h0_2:Int) (h2_0:List AV) (h2_1 h2_2:Int) (ce:CallE) (k:Kont) (s:(Int × (List AV))) (next:St→Option AV):stepA (codeA c118 ce [0] 118 0 (sub [1,1,0,1,0,1,1,0,0] (body Tryz.f118))) (normA [0] [0,3,5,6]) next ((E118_0 h0_0 h0_1 h0_2 h2_0 h2_1 h2_2) s) k=(R118_0 h0_0 h0_1 h0_2 h2_0 h2_1 h2_2 s).el none (fun s=>next ((E118_0 h0_0 h0_1 h0_2 h2_0 h2_1 h2_2) s)) (K118_0 h0_0 h0_1 h0_2 h2_0 h2_1 h2_2 k):=(s118_0 h0_0 h0_1 h0_2 h2_0 h2_1 h2_2 ce k s next).trans (by unfold R118_0;unfold F118_0 G118_0;simp only [el_cond,el_ro,el_sum,el_fail,el_next,el_stop] <;> rfl)
theorem ok118_0 {ce:CallE}:LoopOK c118 ce [0] 118 0 (sub [1,1,0,1,0,1,1,0,0] (body Tryz.f118)):=by
 intro m hm st k r h
 obtain rfl:l118_0=m:=Option.some.inj hm
 unfold l118_0 at h
 split at h
 ·rename_i g0 g1 g2 g3 g4 g5 g6 t6 g7 h0_0 h0_1 h0_2 g8 g9 h1 g10 g11 h2_0 h2_1 h2_2
  obtain ⟨hg,h⟩:=bif_some h
  simp only [Bool.and_eq_true] at hg
  obtain ⟨⟨⟨⟨⟨⟨⟨⟨⟨⟨⟨q0,q1⟩,q2⟩,q3⟩,q4⟩,q5⟩,q6⟩,q7⟩,q8⟩,q9⟩,q10⟩,q11⟩:=hg
  obtain rfl:=nE q0
  obtain rfl:=bE q1
  obtain rfl:=bE q2
  obtain rfl:=nE q3
  obtain rfl:=bE q4
  obtain rfl:=bE q5
  obtain rfl:=nE q6
  obtain rfl:=nE q7
  obtain rfl:=nE q8
  obtain rfl:=cE q9
  obtain rfl:=nE q10
  obtain rfl:=cE q11
  refine ⟨((20 - t6:Int).toNat+1),?_⟩
  rw [← h]
  exact loop_run (E118_0 h0_0 h0_1 h0_2 h2_0 h2_1 h2_2) (K118_0 h0_0 h0_1 h0_2 h2_0 h2_1 h2_2 k) (st118_0 h0_0 h0_1 h0_2 h2_0 h2_1 h2_2 ce k) _ (t6,h1)
 ·cases h
def T118 {β:Type} (k:((List AV) × Int × Int × Int × (List AV) × (List AV) × Int × Int)→β) (n:β) (ua:List AV) (ub:Int) (uc:Int):β:=by
 refine (?f0:(List AV)→(List AV)→Int→Int→β) (v91_0 14 ua ub uc) (v91_1 14 ua ub uc) (v91_2 14 ua ub uc) (v91_3 14 ua ub uc);intro x1 x2 x3 x4
 refine (?f1:Bool→(List AV)→Int→Int→β) (v119_0 4 x2 x3 x4) (v119_1 4 x2 x3 x4) (v119_2 4 x2 x3 x4) (v119_3 4 x2 x3 x4);intro x5 x6 x7 x8
 refine (?f2:Int→Int→Int→(List AV)→Int→Int→β) (v172_0 x6 x7 x8) (v172_1 x6 x7 x8) (v172_2 x6 x7 x8) (v172_3 x6 x7 x8) (v172_4 x6 x7 x8) (v172_5 x6 x7 x8);intro x9 x10 x11 x12 x13 x14
 exact (bif q91 14 ua ub uc then (bif q119 4 x2 x3 x4 then (bif x5 then (ro (runW (R118_0 0 0 0 x6 x7 x8) ((20 - 0:Int).toNat+1) (0,([]:List AV))) n (fun p3=>(bif q172 x6 x7 x8 then (bif q99 p3 then (bif q131 7 x12 x13 x14 then (ro (runW (R118_2 0 0 0 p3 x9 x10 x11) (((v131_0 7 x12 x13 x14) - 0:Int).toNat+1) ((v131_0 7 x12 x13 x14),(v99_0 p3),(v99_1 p3),(v99_2 p3),([]:List AV),(v131_1 7 x12 x13 x14),(v131_2 7 x12 x13 x14),(v131_3 7 x12 x13 x14))) n (fun p8=>k (p3,x9,x10,x11,p8.2.2.2.1,p8.2.2.2.2.1,p8.2.2.2.2.2.1,p8.2.2.2.2.2.2)))
 else n)
 else n)
 else n)))
 else (bif q172 x6 x7 x8 then (bif q99 x1 then (bif q131 7 x12 x13 x14 then (ro (runW (R118_2 0 0 0 x1 x9 x10 x11) (((v131_0 7 x12 x13 x14) - 0:Int).toNat+1) ((v131_0 7 x12 x13 x14),(v99_0 x1),(v99_1 x1),(v99_2 x1),([]:List AV),(v131_1 7 x12 x13 x14),(v131_2 7 x12 x13 x14),(v131_3 7 x12 x13 x14))) n (fun p9=>k (x1,x9,x10,x11,p9.2.2.2.1,p9.2.2.2.2.1,p9.2.2.2.2.2.1,p9.2.2.2.2.2.2)))
 else n)
 else n)
 else n))
 else n)
 else n)
abbrev W118 (ua:List AV) (ub:Int) (uc:Int):Option ((List AV) × Int × Int × Int × (List AV) × (List AV) × Int × Int):=T118 some none ua ub uc
theorem n118 {β:Type} (k:((List AV) × Int × Int × Int × (List AV) × (List AV) × Int × Int)→β) (n:β) (ua:List AV) (ub:Int) (uc:Int):T118 k n ua ub uc=oe k n (W118 ua ub uc):=by
 unfold W118 T118
 simp only [oe_cond,oe_ro,oe_sum,oe_some,oe_none]
def q118 (ua:List AV) (ub uc:Int):Bool:=(W118 ua ub uc).isSome
def v118_0 (ua:List AV) (ub uc:Int):List AV:=oe (fun t=>t.1) [] (W118 ua ub uc)
def v118_1 (ua:List AV) (ub uc:Int):Int:=oe (fun t=>t.2.1) 0 (W118 ua ub uc)
def v118_2 (ua:List AV) (ub uc:Int):Int:=oe (fun t=>t.2.2.1) 0 (W118 ua ub uc)
def v118_3 (ua:List AV) (ub uc:Int):Int:=oe (fun t=>t.2.2.2.1) 0 (W118 ua ub uc)
def v118_4 (ua:List AV) (ub uc:Int):List AV:=oe (fun t=>t.2.2.2.2.1) [] (W118 ua ub uc)
def v118_5 (ua:List AV) (ub uc:Int):List AV:=oe (fun t=>t.2.2.2.2.2.1) [] (W118 ua ub uc)
def v118_6 (ua:List AV) (ub uc:Int):Int:=oe (fun t=>t.2.2.2.2.2.2.1) 0 (W118 ua ub uc)
def v118_7 (ua:List AV) (ub uc:Int):Int:=oe (fun t=>t.2.2.2.2.2.2.2) 0 (W118 ua ub uc)
theorem e118 (ua:List AV) (ub uc:Int) (K:List AV→List (Option Blk)→Option AV):inlA c118 1 118 [AV.ptr [1] 0 0] [0] (canH 1 [⟨true,[],[AV.agg [AV.sl [.int .u8] ua,Ai ub,Ai uc]]⟩]) (keepG Tryz.prog 1 [24,82,71] [] K)=T118 (fun t=>K [AV.fl [.int .i64] t.1,AV.agg [Ai t.2.1,Ai t.2.2.1,Ai t.2.2.2.1],AV.fl [.int .i64,.int .i64] t.2.2.2.2.1] [some ⟨true,[],[AV.agg [AV.sl [.int .u8] t.2.2.2.2.2.1,Ai t.2.2.2.2.2.2.1,Ai t.2.2.2.2.2.2.2]]⟩]) none ua ub uc:=by kernel_rfl
theorem r118 (ua:List AV) (ub uc:Int) (K:List AV→List (Option Blk)→Option AV) (h:q118 ua ub uc=true):inlA c118 1 118 [AV.ptr [1] 0 0] [0] (canH 1 [⟨true,[],[AV.agg [AV.sl [.int .u8] ua,AV.int .i64 ub,AV.int .i64 uc]]⟩]) (keepG Tryz.prog 1 [24,82,71] [] K)=K [AV.fl [.int .i64] (v118_0 ua ub uc),AV.agg [AV.int .i64 (v118_1 ua ub uc),AV.int .i64 (v118_2 ua ub uc),AV.int .i64 (v118_3 ua ub uc)],AV.fl [.int .i64,.int .i64] (v118_4 ua ub uc)] [some ⟨true,[],[AV.agg [AV.sl [.int .u8] (v118_5 ua ub uc),AV.int .i64 (v118_6 ua ub uc),AV.int .i64 (v118_7 ua ub uc)]]⟩]:=by
 refine ((e118 ua ub uc K).trans (n118 _ _ ua ub uc)).trans ?_
 unfold q118 at h
 unfold v118_0 v118_1 v118_2 v118_3 v118_4 v118_5 v118_6 v118_7
 generalize W118 ua ub uc=o at *
 cases o with
 | none=>cases h
 | some t=>rfl
def m118:GModel
 | [.ptr g0 g1 g2],[⟨true,[],[.agg [.sl g3 ua,.int .i64 ub,.int .i64 uc]]⟩]=>bif nmEq g0 ([1]) && Nat.beq g1 0 && Nat.beq g2 0 && ctsEq g3 ([.int .u8]) then some (q118 ua ub uc,[AV.fl [.int .i64] (v118_0 ua ub uc),AV.agg [AV.int .i64 (v118_1 ua ub uc),AV.int .i64 (v118_2 ua ub uc),AV.int .i64 (v118_3 ua ub uc)],AV.fl [.int .i64,.int .i64] (v118_4 ua ub uc)],[some ⟨true,[],[AV.agg [AV.sl [.int .u8] (v118_5 ua ub uc),AV.int .i64 (v118_6 ua ub uc),AV.int .i64 (v118_7 ua ub uc)]]⟩]) else none
 | _,_=>none
theorem k118:Known Tryz.prog 118:=⟨Tryz.f118,Tryz.func118,by kernel_rfl,by kernel_rfl⟩
theorem meets118:MeetsG Tryz.prog 118 m118:=by
 refine mg (rt:=[24,82,71]) (gs:=[]) (lvl:=0) (cf:=c118) rfl mixed k118 Tryz.func118 (by kernel_rfl) (loops_cons ok118_0 (loops_cons ok118_2 noLoop)) (allT_cons meets99 allT_nil) (allG_cons meets91 (allG_cons meets119 (allG_cons meets131 (allG_cons meets172 (allG_cons meets173 allM_nil))))) noI fun xs bs r bs' h K=>?_
 unfold m118 at h
 split at h
 ·rename_i g0 g1 g2 g3 ua ub uc
  obtain ⟨hg,h⟩:=bif_pair h
  simp only [Bool.and_eq_true] at hg
  obtain ⟨⟨⟨q0,q1⟩,q2⟩,q3⟩:=hg
  obtain rfl:=nE q0
  obtain rfl:=bE q1
  obtain rfl:=bE q2
  obtain rfl:=cE q3
  obtain ⟨h1,rfl,rfl⟩:=trip_inj h
  exact r118 ua ub uc K h1
 ·cases h
def G115i61_0 {β:Type} (t0:List AV) (t3:Int) (t4:Int) (N:((Int × Int))→β) (K:(Int)→β) (d:β):β:=(bif decide (t4<(t0.length:Int)) then (bif decide (t4<4000) then (bif (decide (0≤t4) && decide (t4<(t0.length:Int))) then N (IntKind.i64.wrap ((BitVec.ofInt 64 (IntKind.i64.wrap (IntKind.i64.wrap (IntKind.i64.wrap (t3*131)+IntKind.i64.wrap (fI (t0.getD t4.toNat .undef) 0))+7)) &&& BitVec.ofInt 64 1073741823).toNat:Int),IntKind.i64.wrap (t4+1))
 else d)
 else K t3)
 else K t3)
def F115i61_0 (t0:List AV) (t3 t4:Int):Out ((Int × Int)) (Int):=G115i61_0 t0 t3 t4 .next .stop .fail
def R115i61_0 (t0:List AV):((Int × Int))→Out ((Int × Int)) (Int):=fun s:Int × Int=>F115i61_0 t0 s.1 s.2
def E115i61_0 (t0:List AV):((Int × Int))→St:=fun s:Int × Int=>⟨[(0,AV.sl [.int .u8] t0),(3,Ai s.1),(4,Ai s.2)],[]⟩
def K115i61_0 (t0:List AV) (k:Kont):(Int)→Option AV:=fun p:Int=>k (.exit 0) ⟨[(0,AV.sl [.int .u8] t0),(3,Ai p)],[]⟩
def l115i61_0:LModel:=fun _ π st k=>match st with
 | ⟨[(0,.sl g1 t0),(3,.int .i64 t3),(4,.int .i64 t4)],[]⟩=>bif nmEq π ([11]) && ctsEq g1 ([.int .u8]) then ro (runW (R115i61_0 t0) (((t0.length:Int) - t4:Int).toNat+1) (t3,t4)) none (K115i61_0 t0 k) else none
 | _=>none
noncomputable def c115:Cfg:=cfg Tryz.prog [(115,999,[2,3,4,5]),(61,0,[0,3,4]),(61,999,[2]),(61,1000,[0,3]),(61,1001,[0,3,4])] [] [(118,.g m118),(119,.g m119),(132,.g m132)] [61] [(61,0,l115i61_0)]
theorem s115i61_0 (t0:List AV) (ce:CallE) (k:Kont) (s:Int × Int) (next:St→Option AV):stepA (codeA c115 ce [11] 61 0 (sub [1,1,0,1,0,0] (body Tryz.f61))) (normA [11] [0,3,4]) next ((E115i61_0 t0) s) k=G115i61_0 t0 s.1 s.2 (fun s=>next ((E115i61_0 t0) s)) (K115i61_0 t0 k) none:=by kernel_rfl
theorem st115i61_0 (t0:List AV) (ce:CallE) (k:Kont) (s:(Int × Int)) (next:St→Option AV):stepA (codeA c115 ce [11] 61 0 (sub [1,1,0,1,0,0] (body Tryz.f61))) (normA [11] [0,3,4]) next ((E115i61_0 t0) s) k=(R115i61_0 t0 s).el none (fun s=>next ((E115i61_0 t0) s)) (K115i61_0 t0 k):=(s115i61_0 t0 ce k s next).trans (by unfold R115i61_0;unfold F115i61_0 G115i61_0;simp only [el_cond,el_ro,el_sum,el_fail,el_next,el_stop] <;> rfl)
theorem ok115i61_0 {ce:CallE} {π:Nm}:LoopOK c115 ce π 61 0 (sub [1,1,0,1,0,0] (body Tryz.f61)):=by
 intro m hm st k r h
 obtain rfl:l115i61_0=m:=Option.some.inj hm
 unfold l115i61_0 at h
 split at h
 ·rename_i g1 t0 t3 t4
  obtain ⟨hg,h⟩:=bif_some h
  simp only [Bool.and_eq_true] at hg
  obtain ⟨q0,q1⟩:=hg
  obtain rfl:=nE q0
  obtain rfl:=cE q1
  refine ⟨(((t0.length:Int) - t4:Int).toNat+1),?_⟩
  rw [← h]
  exact loop_run (E115i61_0 t0) (K115i61_0 t0 k) (st115i61_0 t0 ce k) _ (t3,t4)
 ·cases h
def q115 (a0:List AV):Bool:=(ro (runW (R115i61_0 a0) (((a0.length:Int) - 0:Int).toNat+1) (IntKind.i64.wrap (10101+(a0.length:Int)),0)) false (fun p1=>(q118 a0 0 p1 && (q119 8 (v118_5 a0 0 p1) (v118_6 a0 0 p1) (v118_7 a0 0 p1) && (bif (v119_0 8 (v118_5 a0 0 p1) (v118_6 a0 0 p1) (v118_7 a0 0 p1)) then q132 (v119_1 8 (v118_5 a0 0 p1) (v118_6 a0 0 p1) (v118_7 a0 0 p1)) (v119_2 8 (v118_5 a0 0 p1) (v118_6 a0 0 p1) (v118_7 a0 0 p1)) (v119_3 8 (v118_5 a0 0 p1) (v118_6 a0 0 p1) (v118_7 a0 0 p1)) ([AV.int .i64 0,AV.int .i64 65]) else true)))))
def v115_0 (a0:List AV):List AV:=(ro (runW (R115i61_0 a0) (((a0.length:Int) - 0:Int).toNat+1) (IntKind.i64.wrap (10101+(a0.length:Int)),0)) [] (fun p1=>(v118_0 a0 0 p1)))
def v115_1 (a0:List AV):Int:=(ro (runW (R115i61_0 a0) (((a0.length:Int) - 0:Int).toNat+1) (IntKind.i64.wrap (10101+(a0.length:Int)),0)) 0 (fun p1=>(bif (v119_0 8 (v118_5 a0 0 p1) (v118_6 a0 0 p1) (v118_7 a0 0 p1)) then (v132_0 (v119_1 8 (v118_5 a0 0 p1) (v118_6 a0 0 p1) (v118_7 a0 0 p1)) (v119_2 8 (v118_5 a0 0 p1) (v118_6 a0 0 p1) (v118_7 a0 0 p1)) (v119_3 8 (v118_5 a0 0 p1) (v118_6 a0 0 p1) (v118_7 a0 0 p1)) ([AV.int .i64 0,AV.int .i64 65])) else (v118_2 a0 0 p1))))
def v115_2 (a0:List AV):Int:=(ro (runW (R115i61_0 a0) (((a0.length:Int) - 0:Int).toNat+1) (IntKind.i64.wrap (10101+(a0.length:Int)),0)) 0 (fun p1=>(v118_3 a0 0 p1)))
def v115_3 (a0:List AV):List AV:=(ro (runW (R115i61_0 a0) (((a0.length:Int) - 0:Int).toNat+1) (IntKind.i64.wrap (10101+(a0.length:Int)),0)) [] (fun p1=>(v118_4 a0 0 p1)))
theorem e115 (a0:List AV):funA c115 1 115 [AV.sl [.int .u8] a0]=(ro (runW (R115i61_0 a0) (((a0.length:Int) - 0:Int).toNat+1) (IntKind.i64.wrap (10101+(a0.length:Int)),0)) none (fun p1=>(bif q118 a0 0 p1 then (bif q119 8 (v118_5 a0 0 p1) (v118_6 a0 0 p1) (v118_7 a0 0 p1) then (bif (v119_0 8 (v118_5 a0 0 p1) (v118_6 a0 0 p1) (v118_7 a0 0 p1)) then (bif q132 (v119_1 8 (v118_5 a0 0 p1) (v118_6 a0 0 p1) (v118_7 a0 0 p1)) (v119_2 8 (v118_5 a0 0 p1) (v118_6 a0 0 p1) (v118_7 a0 0 p1)) (v119_3 8 (v118_5 a0 0 p1) (v118_6 a0 0 p1) (v118_7 a0 0 p1)) ([Ai 0,Ai 65]) then some (AV.tup [AV.fl [.int .i64] (v118_0 a0 0 p1),Ai (v132_0 (v119_1 8 (v118_5 a0 0 p1) (v118_6 a0 0 p1) (v118_7 a0 0 p1)) (v119_2 8 (v118_5 a0 0 p1) (v118_6 a0 0 p1) (v118_7 a0 0 p1)) (v119_3 8 (v118_5 a0 0 p1) (v118_6 a0 0 p1) (v118_7 a0 0 p1)) ([Ai 0,Ai 65])),Ai (v118_3 a0 0 p1),AV.fl [.int .i64,.int .i64] (v118_4 a0 0 p1)])
 else none)
 else some (AV.tup [AV.fl [.int .i64] (v118_0 a0 0 p1),Ai (v118_2 a0 0 p1),Ai (v118_3 a0 0 p1),AV.fl [.int .i64,.int .i64] (v118_4 a0 0 p1)]))
 else none)
 else none))):=by kernel_rfl
def m115:TModel
 | [.sl g0 a0]=>bif ctsEq g0 ([.int .u8]) then some (q115 a0,AV.tup [AV.fl [.int .i64] (v115_0 a0),AV.int .i64 (v115_1 a0),AV.int .i64 (v115_2 a0),AV.fl [.int .i64,.int .i64] (v115_3 a0)]) else none
 | _=>none
theorem k115:Known Tryz.prog 115:=⟨Tryz.f115,Tryz.func115,by kernel_rfl,by kernel_rfl⟩
theorem i115_61:InlK Tryz.prog [(115,999,[2,3,4,5]),(61,0,[0,3,4]),(61,999,[2]),(61,1000,[0,3]),(61,1001,[0,3,4])] [] [(118,.g m118),(119,.g m119),(132,.g m132)] [61] [(61,0,l115i61_0)] 61:=⟨⟨Tryz.f61,Tryz.func61,by kernel_rfl,by kernel_rfl⟩,Tryz.f61,[(0,sub [1,1,0,1,0,0] (body Tryz.f61))],Tryz.func61,by kernel_rfl,fun ce π=>(loops_cons (ok115i61_0 (ce:=ce) (π:=π)) noLoop)⟩
theorem meets115:Meets Tryz.prog 115 m115:=by
 refine mt (lvl:=1) (cf:=c115) rfl mixed k115 Tryz.func115 (by kernel_rfl) noLoop allT_nil (allG_cons meets118 (allG_cons meets119 (allG_cons meets132 allM_nil))) (allI_cons i115_61 noI) fun xs r h=>?_
 unfold m115 at h
 split at h
 ·rename_i g0 a0
  obtain ⟨hg,h⟩:=bif_pair h
  have q0:=hg
  obtain rfl:=cE q0
  obtain ⟨h1,rfl⟩:=pair_inj h
  exact (e115 a0).trans ((brO (fun o:Option (Int)=>some (AV.tup [AV.fl [.int .i64] (ro o [] (fun p1=>(v118_0 a0 0 p1))),Ai (ro o 0 (fun p1=>(bif (v119_0 8 (v118_5 a0 0 p1) (v118_6 a0 0 p1) (v118_7 a0 0 p1)) then (v132_0 (v119_1 8 (v118_5 a0 0 p1) (v118_6 a0 0 p1) (v118_7 a0 0 p1)) (v119_2 8 (v118_5 a0 0 p1) (v118_6 a0 0 p1) (v118_7 a0 0 p1)) (v119_3 8 (v118_5 a0 0 p1) (v118_6 a0 0 p1) (v118_7 a0 0 p1)) ([Ai 0,Ai 65])) else (v118_2 a0 0 p1)))),Ai (ro o 0 (fun p1=>(v118_3 a0 0 p1))),AV.fl [.int .i64,.int .i64] (ro o [] (fun p1=>(v118_4 a0 0 p1)))])) (fun p1=>(brL (brL (br (fun b=>some (AV.tup [AV.fl [.int .i64] (v118_0 a0 0 p1),Ai (bif b then (v132_0 (v119_1 8 (v118_5 a0 0 p1) (v118_6 a0 0 p1) (v118_7 a0 0 p1)) (v119_2 8 (v118_5 a0 0 p1) (v118_6 a0 0 p1) (v118_7 a0 0 p1)) (v119_3 8 (v118_5 a0 0 p1) (v118_6 a0 0 p1) (v118_7 a0 0 p1)) ([Ai 0,Ai 65])) else (v118_2 a0 0 p1)),Ai (v118_3 a0 0 p1),AV.fl [.int .i64,.int .i64] (v118_4 a0 0 p1)])) (brL1 (fun _=>rfl)) (fun _=>rfl)))))) h1)
 ·cases h
noncomputable def c48:Cfg:=cfg Tryz.prog [(48,999,[2,3,4,5])] [(115,m115)] [] [] []
def T48 {β:Type} (k:((List AV) × Int × Int × (List AV))→β) (n:β) (a0:List AV):β:=(bif q115 a0 then k ((v115_0 a0),(v115_1 a0),(v115_2 a0),(v115_3 a0))
 else n)
abbrev W48 (a0:List AV):Option ((List AV) × Int × Int × (List AV)):=T48 some none a0
theorem n48 {β:Type} (k:((List AV) × Int × Int × (List AV))→β) (n:β) (a0:List AV):T48 k n a0=oe k n (W48 a0):=by
 unfold W48 T48
 simp only [oe_cond,oe_ro,oe_sum,oe_some,oe_none]
def q48 (a0:List AV):Bool:=(W48 a0).isSome
def v48_0 (a0:List AV):List AV:=oe (fun t=>t.1) [] (W48 a0)
def v48_1 (a0:List AV):Int:=oe (fun t=>t.2.1) 0 (W48 a0)
def v48_2 (a0:List AV):Int:=oe (fun t=>t.2.2.1) 0 (W48 a0)
def v48_3 (a0:List AV):List AV:=oe (fun t=>t.2.2.2) [] (W48 a0)
theorem e48 (a0:List AV):funA c48 0 48 [AV.sl [.int .u8] a0]=T48 (fun t=>some (AV.tup [AV.fl [.int .i64] t.1,Ai t.2.1,Ai t.2.2.1,AV.fl [.int .i64,.int .i64] t.2.2.2])) none a0:=by kernel_rfl
theorem r48 (a0:List AV) (h:q48 a0=true):funA c48 0 48 [AV.sl [.int .u8] a0]=some (AV.tup [AV.fl [.int .i64] (v48_0 a0),AV.int .i64 (v48_1 a0),AV.int .i64 (v48_2 a0),AV.fl [.int .i64,.int .i64] (v48_3 a0)]):=by
 refine ((e48 a0).trans (n48 _ _ a0)).trans ?_
 unfold q48 at h
 unfold v48_0 v48_1 v48_2 v48_3
 generalize W48 a0=o at *
 cases o with
 | none=>cases h
 | some t=>rfl
def m48:TModel
 | [.sl g0 a0]=>bif ctsEq g0 ([.int .u8]) then some (q48 a0,AV.tup [AV.fl [.int .i64] (v48_0 a0),AV.int .i64 (v48_1 a0),AV.int .i64 (v48_2 a0),AV.fl [.int .i64,.int .i64] (v48_3 a0)]) else none
 | _=>none
theorem k48:Known Tryz.prog 48:=⟨Tryz.f48,Tryz.func48,by kernel_rfl,by kernel_rfl⟩
theorem meets48:Meets Tryz.prog 48 m48:=by
 refine mt (lvl:=0) (cf:=c48) rfl mixed k48 Tryz.func48 (by kernel_rfl) noLoop (allT_cons meets115 allT_nil) allM_nil noI fun xs r h=>?_
 unfold m48 at h
 split at h
 ·rename_i g0 a0
  obtain ⟨hg,h⟩:=bif_pair h
  have q0:=hg
  obtain rfl:=cE q0
  obtain ⟨h1,rfl⟩:=pair_inj h
  exact r48 a0 h1
 ·cases h
noncomputable def c166:Cfg:=cfg Tryz.prog [(166,999,[4])] [] [] [] []
def v166_0 (a0:Int) (a1 a2:AV):Bool:=(bif decide (a0<fI a1 0) then true else decide (a0 > fI a2 0))
theorem e166 (a0:Int) (a1 a2:AV):funA c166 0 166 [Ai a0,AV.rptr [.int .i64] a1 0,AV.rptr [.int .i64] a2 0]=(bif decide (a0<fI a1 0) then some (AV.bool true)
 else some (AV.bool (decide (a0 > fI a2 0)))):=by kernel_rfl
def m166:TModel
 | [.int .i64 a0,.rptr g0 a1 g1,.rptr g2 a2 g3]=>bif ctsEq g0 ([.int .i64]) && Nat.beq g1 0 && ctsEq g2 ([.int .i64]) && Nat.beq g3 0 then some (true,AV.bool (v166_0 a0 a1 a2)) else none
 | _=>none
theorem k166:Known Tryz.prog 166:=⟨Tryz.f166,Tryz.func166,by kernel_rfl,by kernel_rfl⟩
theorem meets166:Meets Tryz.prog 166 m166:=by
 refine mt (lvl:=0) (cf:=c166) rfl mixed k166 Tryz.func166 (by kernel_rfl) noLoop allT_nil allM_nil noI fun xs r h=>?_
 unfold m166 at h
 split at h
 ·rename_i a0 g0 a1 g1 g2 a2 g3
  obtain ⟨hg,h⟩:=bif_pair h
  simp only [Bool.and_eq_true] at hg
  obtain ⟨⟨⟨q0,q1⟩,q2⟩,q3⟩:=hg
  obtain rfl:=cE q0
  obtain rfl:=bE q1
  obtain rfl:=cE q2
  obtain rfl:=bE q3
  obtain ⟨h1,rfl⟩:=pair_inj h
  exact (e166 a0 a1 a2).trans (of_tt (brT (fun b=>some (AV.bool (bif b then true else decide (a0 > fI a2 0)))) (fun _=>rfl) (fun _=>rfl)))
 ·cases h
def G191_0 {β:Type} (t0:List AV) (t1_0:AV) (t1_1:AV) (t7:Int) (t8:Int) (N:(Int)→β) (K:(Unit ⊕ Int)→β) (d:β):β:=(bif decide (t8<t7) then (bif (decide (0≤t8) && decide (t8<(t0.length:Int))) then (bif (v166_0 (fI (t0.getD t8.toNat .undef) 0) t1_0 t1_1) then K (.inr t8)
 else N (IntKind.i64.wrap (t8+1)))
 else d)
 else K (.inl ()))
def F191_0 (t0:List AV) (t1_0 t1_1:AV) (t7 t8:Int):Out (Int) (Unit ⊕ Int):=G191_0 t0 t1_0 t1_1 t7 t8 .next .stop .fail
def R191_0 (t0:List AV) (t1_0 t1_1:AV) (t7:Int):(Int)→Out (Int) (Unit ⊕ Int):=fun s:Int=>F191_0 t0 t1_0 t1_1 t7 s
def E191_0 (t0:List AV) (t1_0 t1_1:AV) (t7:Int):(Int)→St:=fun s:Int=>⟨[(0,AV.sl [.int .i64] t0),(1,AV.fn 166 [AV.rptr [.int .i64] t1_0 0,AV.rptr [.int .i64] t1_1 0]),(7,Ai t7),(8,Ai s)],[]⟩
def K191_0 (t0:List AV) (t1_0 t1_1:AV) (t7:Int) (k:Kont):(Unit ⊕ Int)→Option AV:=sumE (fun _:Unit=>k (.exit 0) ⟨[],[]⟩) (fun p:Int=>k .ret ⟨[(4,Ai p)],[]⟩)
def l191_0:LModel:=fun _ _ st k=>match st with
 | ⟨[(0,.sl g0 t0),(1,.fn g1 [.rptr g2 t1_0 g3,.rptr g4 t1_1 g5]),(7,.int .i64 t7),(8,.int .i64 t8)],[]⟩=>bif ctsEq g0 ([.int .i64]) && Nat.beq g1 166 && ctsEq g2 ([.int .i64]) && Nat.beq g3 0 && ctsEq g4 ([.int .i64]) && Nat.beq g5 0 then ro (runW (R191_0 t0 t1_0 t1_1 t7) ((t7 - t8:Int).toNat+1) t8) none (K191_0 t0 t1_0 t1_1 t7 k) else none
 | _=>none
noncomputable def c191:Cfg:=cfg Tryz.prog [(191,0,[0,1,7,8]),(191,999,[4]),(191,1000,[]),(191,1001,[0,1,7,8])] [(166,m166)] [] [] [(191,0,l191_0)]
theorem s191_0 (t0:List AV) (t1_0 t1_1:AV) (t7:Int) (ce:CallE) (k:Kont) (s:Int) (next:St→Option AV):stepA (codeA c191 ce [] 191 0 (sub [1,0,1,0,0] (body Tryz.f191))) (normA [] [0,1,7,8]) next ((E191_0 t0 t1_0 t1_1 t7) s) k=G191_0 t0 t1_0 t1_1 t7 s (fun s=>next ((E191_0 t0 t1_0 t1_1 t7) s)) (K191_0 t0 t1_0 t1_1 t7 k) none:=by kernel_rfl
theorem st191_0 (t0:List AV) (t1_0 t1_1:AV) (t7:Int) (ce:CallE) (k:Kont) (s:Int) (next:St→Option AV):stepA (codeA c191 ce [] 191 0 (sub [1,0,1,0,0] (body Tryz.f191))) (normA [] [0,1,7,8]) next ((E191_0 t0 t1_0 t1_1 t7) s) k=(R191_0 t0 t1_0 t1_1 t7 s).el none (fun s=>next ((E191_0 t0 t1_0 t1_1 t7) s)) (K191_0 t0 t1_0 t1_1 t7 k):=(s191_0 t0 t1_0 t1_1 t7 ce k s next).trans (by unfold R191_0;unfold F191_0 G191_0;simp only [el_cond,el_ro,el_sum,el_fail,el_next,el_stop] <;> rfl)
theorem ok191_0 {ce:CallE}:LoopOK c191 ce [] 191 0 (sub [1,0,1,0,0] (body Tryz.f191)):=by
 intro m hm st k r h
 obtain rfl:l191_0=m:=Option.some.inj hm
 unfold l191_0 at h
 split at h
 ·rename_i g0 t0 g1 g2 t1_0 g3 g4 t1_1 g5 t7 t8
  obtain ⟨hg,h⟩:=bif_some h
  simp only [Bool.and_eq_true] at hg
  obtain ⟨⟨⟨⟨⟨q0,q1⟩,q2⟩,q3⟩,q4⟩,q5⟩:=hg
  obtain rfl:=cE q0
  obtain rfl:=bE q1
  obtain rfl:=cE q2
  obtain rfl:=bE q3
  obtain rfl:=cE q4
  obtain rfl:=bE q5
  refine ⟨((t7 - t8:Int).toNat+1),?_⟩
  rw [← h]
  exact loop_run (E191_0 t0 t1_0 t1_1 t7) (K191_0 t0 t1_0 t1_1 t7 k) (st191_0 t0 t1_0 t1_1 t7 ce k) _ t8
 ·cases h
def q191 (a0:List AV) (ya yb:AV):Bool:=(ro (runW (R191_0 a0 ya yb (a0.length:Int)) (((a0.length:Int) - 0:Int).toNat+1) 0) false (sumE (fun _=>true) (fun p11=>true)))
def v191_0 (a0:List AV) (ya yb:AV):Int:=(ro (runW (R191_0 a0 ya yb (a0.length:Int)) (((a0.length:Int) - 0:Int).toNat+1) 0) 0 (sumE (fun _=>(-1)) (fun p11=>p11)))
theorem e191 (a0:List AV) (ya yb:AV):funA c191 0 191 [AV.sl [.int .i64] a0,AV.fn 166 [AV.rptr [.int .i64] ya 0,AV.rptr [.int .i64] yb 0]]=(ro (runW (R191_0 a0 ya yb (a0.length:Int)) (((a0.length:Int) - 0:Int).toNat+1) 0) none (sumE (fun _=>some (Ai (-1))) (fun p11=>some (Ai p11)))):=by kernel_rfl
def m191:TModel
 | [.sl g0 a0,.fn g1 [.rptr g2 ya g3,.rptr g4 yb g5]]=>bif ctsEq g0 ([.int .i64]) && Nat.beq g1 166 && ctsEq g2 ([.int .i64]) && Nat.beq g3 0 && ctsEq g4 ([.int .i64]) && Nat.beq g5 0 then some (q191 a0 ya yb,AV.int .i64 (v191_0 a0 ya yb)) else none
 | _=>none
theorem k191:Known Tryz.prog 191:=⟨Tryz.f191,Tryz.func191,by kernel_rfl,by kernel_rfl⟩
theorem meets191:Meets Tryz.prog 191 m191:=by
 refine mt (lvl:=0) (cf:=c191) rfl mixed k191 Tryz.func191 (by kernel_rfl) (loops_cons ok191_0 noLoop) (allT_cons meets166 allT_nil) allM_nil noI fun xs r h=>?_
 unfold m191 at h
 split at h
 ·rename_i g0 a0 g1 g2 ya g3 g4 yb g5
  obtain ⟨hg,h⟩:=bif_pair h
  simp only [Bool.and_eq_true] at hg
  obtain ⟨⟨⟨⟨⟨q0,q1⟩,q2⟩,q3⟩,q4⟩,q5⟩:=hg
  obtain rfl:=cE q0
  obtain rfl:=bE q1
  obtain rfl:=cE q2
  obtain rfl:=bE q3
  obtain rfl:=cE q4
  obtain rfl:=bE q5
  obtain ⟨h1,rfl⟩:=pair_inj h
  exact (e191 a0 ya yb).trans ((brO (fun o:Option (Unit ⊕ Int)=>some (Ai (ro o 0 (sumE (fun _=>(-1)) (fun p11=>p11))))) (brS (fun o:Unit ⊕ Int=>some (Ai ((sumE (fun _=>(-1)) (fun p11=>p11)) o))) (fun _=>(fun _=>rfl)) (fun p11=>(fun _=>rfl)))) h1)
 ·cases h
noncomputable def c165:Cfg:=cfg Tryz.prog [(165,999,[4])] [(191,m191)] [] [] []
def q165 (a0:List AV) (ya yb:AV):Bool:=q191 a0 ya yb
def v165_0 (a0:List AV) (ya yb:AV):Bool:=decide ((v191_0 a0 ya yb) ≥ 0)
theorem e165 (a0:List AV) (ya yb:AV):funA c165 0 165 [AV.sl [.int .i64] a0,AV.fn 166 [AV.rptr [.int .i64] ya 0,AV.rptr [.int .i64] yb 0]]=(bif q191 a0 ya yb then some (AV.bool (decide ((v191_0 a0 ya yb) ≥ 0)))
 else none):=by kernel_rfl
def m165:TModel
 | [.sl g0 a0,.fn g1 [.rptr g2 ya g3,.rptr g4 yb g5]]=>bif ctsEq g0 ([.int .i64]) && Nat.beq g1 166 && ctsEq g2 ([.int .i64]) && Nat.beq g3 0 && ctsEq g4 ([.int .i64]) && Nat.beq g5 0 then some (q165 a0 ya yb,AV.bool (v165_0 a0 ya yb)) else none
 | _=>none
theorem k165:Known Tryz.prog 165:=⟨Tryz.f165,Tryz.func165,by kernel_rfl,by kernel_rfl⟩
theorem meets165:Meets Tryz.prog 165 m165:=by
 refine mt (lvl:=0) (cf:=c165) rfl mixed k165 Tryz.func165 (by kernel_rfl) noLoop (allT_cons meets191 allT_nil) allM_nil noI fun xs r h=>?_
 unfold m165 at h
 split at h
 ·rename_i g0 a0 g1 g2 ya g3 g4 yb g5
  obtain ⟨hg,h⟩:=bif_pair h
  simp only [Bool.and_eq_true] at hg
  obtain ⟨⟨⟨⟨⟨q0,q1⟩,q2⟩,q3⟩,q4⟩,q5⟩:=hg
  obtain rfl:=cE q0
  obtain rfl:=bE q1
  obtain rfl:=cE q2
  obtain rfl:=bE q3
  obtain rfl:=cE q4
  obtain rfl:=bE q5
  obtain ⟨h1,rfl⟩:=pair_inj h
  exact (e165 a0 ya yb).trans ((brL1 (fun _=>rfl)) h1)
 ·cases h
noncomputable def c106:Cfg:=cfg Tryz.prog [(106,999,[6])] [(165,m165)] [] [] []
def q106 (a0:List AV) (a1 a2:Int):Bool:=q165 a0 (AV.int .i64 a1) (AV.int .i64 a2)
def v106_0 (a0:List AV) (a1 a2:Int):Bool := !(v165_0 a0 (AV.int .i64 a1) (AV.int .i64 a2))
theorem e106 (a0:List AV) (a1 a2:Int):funA c106 0 106 [AV.sl [.int .i64] a0,Ai a1,Ai a2]=(bif q165 a0 (Ai a1) (Ai a2) then some (AV.bool (!(v165_0 a0 (Ai a1) (Ai a2))))
 else none):=by kernel_rfl
def m106:TModel
 | [.sl g0 a0,.int .i64 a1,.int .i64 a2]=>bif ctsEq g0 ([.int .i64]) then some (q106 a0 a1 a2,AV.bool (v106_0 a0 a1 a2)) else none
 | _=>none
theorem k106:Known Tryz.prog 106:=⟨Tryz.f106,Tryz.func106,by kernel_rfl,by kernel_rfl⟩
theorem meets106:Meets Tryz.prog 106 m106:=by
 refine mt (lvl:=0) (cf:=c106) rfl mixed k106 Tryz.func106 (by kernel_rfl) noLoop (allT_cons meets165 allT_nil) allM_nil noI fun xs r h=>?_
 unfold m106 at h
 split at h
 ·rename_i g0 a0 a1 a2
  obtain ⟨hg,h⟩:=bif_pair h
  have q0:=hg
  obtain rfl:=cE q0
  obtain ⟨h1,rfl⟩:=pair_inj h
  exact (e106 a0 a1 a2).trans ((brL1 (fun _=>rfl)) h1)
 ·cases h
noncomputable def c95:Cfg:=cfg Tryz.prog [(95,999,[2])] [(106,m106)] [] [] []
def q95 (a0:List AV):Bool:=(bif decide ((a0.length:Int)≤64) then q106 a0 (-999) 999 else true)
def v95_0 (a0:List AV):Bool:=(bif decide ((a0.length:Int)≤64) then (v106_0 a0 (-999) 999) else false)
theorem e95 (a0:List AV):funA c95 0 95 [AV.sl [.int .i64] a0]=(bif decide ((a0.length:Int)≤64) then (bif q106 a0 (-999) 999 then some (AV.bool (v106_0 a0 (-999) 999))
 else none)
 else some (AV.bool false)):=by kernel_rfl
def m95:TModel
 | [.sl g0 a0]=>bif ctsEq g0 ([.int .i64]) then some (q95 a0,AV.bool (v95_0 a0)) else none
 | _=>none
theorem k95:Known Tryz.prog 95:=⟨Tryz.f95,Tryz.func95,by kernel_rfl,by kernel_rfl⟩
theorem meets95:Meets Tryz.prog 95 m95:=by
 refine mt (lvl:=0) (cf:=c95) rfl mixed k95 Tryz.func95 (by kernel_rfl) noLoop (allT_cons meets106 allT_nil) allM_nil noI fun xs r h=>?_
 unfold m95 at h
 split at h
 ·rename_i g0 a0
  obtain ⟨hg,h⟩:=bif_pair h
  have q0:=hg
  obtain rfl:=cE q0
  obtain ⟨h1,rfl⟩:=pair_inj h
  exact (e95 a0).trans ((br (fun b=>some (AV.bool (bif b then (v106_0 a0 (-999) 999) else false))) (brL1 (fun _=>rfl)) (fun _=>rfl)) h1)
 ·cases h
noncomputable def c174:Cfg:=cfg Tryz.prog [(174,999,[2])] [] [] [] []
def v174_0 (xa xb xc:Int):Bool:=(bif decide (xa ≥ 0) then (bif decide (xa≤2) then (bif decide (xb ≥ 1) then (bif decide (xb≤64) then (bif decide (xc ≥ 0) then decide (xc≤10006) else false) else false) else false) else false) else false)
theorem e174 (xa xb xc:Int):funA c174 0 174 [AV.agg [Ai xa,Ai xb,Ai xc]]=(bif decide (xa ≥ 0) then (bif decide (xa≤2) then (bif decide (xb ≥ 1) then (bif decide (xb≤64) then (bif decide (xc ≥ 0) then some (AV.bool (decide (xc≤10006)))
 else some (AV.bool false))
 else some (AV.bool false))
 else some (AV.bool false))
 else some (AV.bool false))
 else some (AV.bool false)):=by kernel_rfl
def m174:TModel
 | [.agg [.int .i64 xa,.int .i64 xb,.int .i64 xc]]=>some (true,AV.bool (v174_0 xa xb xc))
 | _=>none
theorem k174:Known Tryz.prog 174:=⟨Tryz.f174,Tryz.func174,by kernel_rfl,by kernel_rfl⟩
theorem meets174:Meets Tryz.prog 174 m174:=by
 refine mt (lvl:=0) (cf:=c174) rfl mixed k174 Tryz.func174 (by kernel_rfl) noLoop allT_nil allM_nil noI fun xs r h=>?_
 unfold m174 at h
 split at h
 ·rename_i xa xb xc
  obtain ⟨h1,rfl⟩:=pair_inj h
  exact (e174 xa xb xc).trans (of_tt (brT (fun b=>some (AV.bool (bif b then (bif decide (xa≤2) then (bif decide (xb ≥ 1) then (bif decide (xb≤64) then (bif decide (xc ≥ 0) then decide (xc≤10006) else false) else false) else false) else false) else false))) (brT (fun b=>some (AV.bool (bif b then (bif decide (xb ≥ 1) then (bif decide (xb≤64) then (bif decide (xc ≥ 0) then decide (xc≤10006) else false) else false) else false) else false))) (brT (fun b=>some (AV.bool (bif b then (bif decide (xb≤64) then (bif decide (xc ≥ 0) then decide (xc≤10006) else false) else false) else false))) (brT (fun b=>some (AV.bool (bif b then (bif decide (xc ≥ 0) then decide (xc≤10006) else false) else false))) (brT (fun b=>some (AV.bool (bif b then decide (xc≤10006) else false))) (fun _=>rfl) (fun _=>rfl)) (fun _=>rfl)) (fun _=>rfl)) (fun _=>rfl)) (fun _=>rfl)))
 ·cases h
noncomputable def c201:Cfg:=cfg Tryz.prog [(201,999,[2])] [] [] [] []
def v201_0 (xa xb:Int):Bool:=(bif decide ((-1000)≤xa) then (bif decide (xa≤xb) then decide (xb≤1000) else false) else false)
theorem e201 (xa xb:Int):funA c201 0 201 [AV.agg [Ai xa,Ai xb]]=(bif decide ((-1000)≤xa) then (bif decide (xa≤xb) then some (AV.bool (decide (xb≤1000)))
 else some (AV.bool false))
 else some (AV.bool false)):=by kernel_rfl
def m201:TModel
 | [.agg [.int .i64 xa,.int .i64 xb]]=>some (true,AV.bool (v201_0 xa xb))
 | _=>none
theorem k201:Known Tryz.prog 201:=⟨Tryz.f201,Tryz.func201,by kernel_rfl,by kernel_rfl⟩
theorem meets201:Meets Tryz.prog 201 m201:=by
 refine mt (lvl:=0) (cf:=c201) rfl mixed k201 Tryz.func201 (by kernel_rfl) noLoop allT_nil allM_nil noI fun xs r h=>?_
 unfold m201 at h
 split at h
 ·rename_i xa xb
  obtain ⟨h1,rfl⟩:=pair_inj h
  exact (e201 xa xb).trans (of_tt (brT (fun b=>some (AV.bool (bif b then (bif decide (xa≤xb) then decide (xb≤1000) else false) else false))) (brT (fun b=>some (AV.bool (bif b then decide (xb≤1000) else false))) (fun _=>rfl) (fun _=>rfl)) (fun _=>rfl)))
 ·cases h
noncomputable def c200:Cfg:=cfg Tryz.prog [(200,999,[2])] [(201,m201)] [] [] []
def v200_0 (xa xb:Int):Bool := !(v201_0 xa xb)
theorem e200 (xa xb:Int):funA c200 0 200 [AV.agg [Ai xa,Ai xb]]=some (AV.bool (!(v201_0 xa xb))):=by kernel_rfl
def m200:TModel
 | [.agg [.int .i64 xa,.int .i64 xb]]=>some (true,AV.bool (v200_0 xa xb))
 | _=>none
theorem k200:Known Tryz.prog 200:=⟨Tryz.f200,Tryz.func200,by kernel_rfl,by kernel_rfl⟩
theorem meets200:Meets Tryz.prog 200 m200:=by
 refine mt (lvl:=0) (cf:=c200) rfl mixed k200 Tryz.func200 (by kernel_rfl) noLoop (allT_cons meets201 allT_nil) allM_nil noI fun xs r h=>?_
 unfold m200 at h
 split at h
 ·rename_i xa xb
  obtain ⟨h1,rfl⟩:=pair_inj h
  exact (e200 xa xb).trans (of_tt (fun _=>rfl))
 ·cases h
def G223_0 {β:Type} (t0:List AV) (t7:Int) (t8:Int) (N:(Int)→β) (K:(Unit ⊕ Int)→β) (d:β):β:=(bif decide (t8<t7) then (bif (decide (0≤t8) && decide (t8<(t0.length:Int))) then (bif (v200_0 (fI (t0.getD t8.toNat .undef) 0) (fI (t0.getD t8.toNat .undef) 1)) then K (.inr t8)
 else N (IntKind.i64.wrap (t8+1)))
 else d)
 else K (.inl ()))
def F223_0 (t0:List AV) (t7 t8:Int):Out (Int) (Unit ⊕ Int):=G223_0 t0 t7 t8 .next .stop .fail
def R223_0 (t0:List AV) (t7:Int):(Int)→Out (Int) (Unit ⊕ Int):=fun s:Int=>F223_0 t0 t7 s
def E223_0 (t0:List AV) (t7:Int):(Int)→St:=fun s:Int=>⟨[(0,AV.sl [.int .i64,.int .i64] t0),(1,AV.fn 200 []),(7,Ai t7),(8,Ai s)],[]⟩
def K223_0 (t0:List AV) (t7:Int) (k:Kont):(Unit ⊕ Int)→Option AV:=sumE (fun _:Unit=>k (.exit 0) ⟨[],[]⟩) (fun p:Int=>k .ret ⟨[(4,Ai p)],[]⟩)
def l223_0:LModel:=fun _ _ st k=>match st with
 | ⟨[(0,.sl g0 t0),(1,.fn g1 []),(7,.int .i64 t7),(8,.int .i64 t8)],[]⟩=>bif ctsEq g0 ([.int .i64,.int .i64]) && Nat.beq g1 200 then ro (runW (R223_0 t0 t7) ((t7 - t8:Int).toNat+1) t8) none (K223_0 t0 t7 k) else none
 | _=>none
noncomputable def c223:Cfg:=cfg Tryz.prog [(223,0,[0,1,7,8]),(223,999,[4]),(223,1000,[]),(223,1001,[0,1,7,8])] [(200,m200)] [] [] [(223,0,l223_0)]
theorem s223_0 (t0:List AV) (t7:Int) (ce:CallE) (k:Kont) (s:Int) (next:St→Option AV):stepA (codeA c223 ce [] 223 0 (sub [1,0,1,0,0] (body Tryz.f223))) (normA [] [0,1,7,8]) next ((E223_0 t0 t7) s) k=G223_0 t0 t7 s (fun s=>next ((E223_0 t0 t7) s)) (K223_0 t0 t7 k) none:=by kernel_rfl
theorem st223_0 (t0:List AV) (t7:Int) (ce:CallE) (k:Kont) (s:Int) (next:St→Option AV):stepA (codeA c223 ce [] 223 0 (sub [1,0,1,0,0] (body Tryz.f223))) (normA [] [0,1,7,8]) next ((E223_0 t0 t7) s) k=(R223_0 t0 t7 s).el none (fun s=>next ((E223_0 t0 t7) s)) (K223_0 t0 t7 k):=(s223_0 t0 t7 ce k s next).trans (by unfold R223_0;unfold F223_0 G223_0;simp only [el_cond,el_ro,el_sum,el_fail,el_next,el_stop] <;> rfl)
theorem ok223_0 {ce:CallE}:LoopOK c223 ce [] 223 0 (sub [1,0,1,0,0] (body Tryz.f223)):=by
 intro m hm st k r h
 obtain rfl:l223_0=m:=Option.some.inj hm
 unfold l223_0 at h
 split at h
 ·rename_i g0 t0 g1 t7 t8
  obtain ⟨hg,h⟩:=bif_some h
  simp only [Bool.and_eq_true] at hg
  obtain ⟨q0,q1⟩:=hg
  obtain rfl:=cE q0
  obtain rfl:=bE q1
  refine ⟨((t7 - t8:Int).toNat+1),?_⟩
  rw [← h]
  exact loop_run (E223_0 t0 t7) (K223_0 t0 t7 k) (st223_0 t0 t7 ce k) _ t8
 ·cases h
def q223 (a0:List AV):Bool:=(ro (runW (R223_0 a0 (a0.length:Int)) (((a0.length:Int) - 0:Int).toNat+1) 0) false (sumE (fun _=>true) (fun p13=>true)))
def v223_0 (a0:List AV):Int:=(ro (runW (R223_0 a0 (a0.length:Int)) (((a0.length:Int) - 0:Int).toNat+1) 0) 0 (sumE (fun _=>(-1)) (fun p13=>p13)))
theorem e223 (a0:List AV):funA c223 0 223 [AV.sl [.int .i64,.int .i64] a0,AV.fn 200 []]=(ro (runW (R223_0 a0 (a0.length:Int)) (((a0.length:Int) - 0:Int).toNat+1) 0) none (sumE (fun _=>some (Ai (-1))) (fun p13=>some (Ai p13)))):=by kernel_rfl
def m223:TModel
 | [.sl g0 a0,.fn g1 []]=>bif ctsEq g0 ([.int .i64,.int .i64]) && Nat.beq g1 200 then some (q223 a0,AV.int .i64 (v223_0 a0)) else none
 | _=>none
theorem k223:Known Tryz.prog 223:=⟨Tryz.f223,Tryz.func223,by kernel_rfl,by kernel_rfl⟩
theorem meets223:Meets Tryz.prog 223 m223:=by
 refine mt (lvl:=0) (cf:=c223) rfl mixed k223 Tryz.func223 (by kernel_rfl) (loops_cons ok223_0 noLoop) (allT_cons meets200 allT_nil) allM_nil noI fun xs r h=>?_
 unfold m223 at h
 split at h
 ·rename_i g0 a0 g1
  obtain ⟨hg,h⟩:=bif_pair h
  simp only [Bool.and_eq_true] at hg
  obtain ⟨q0,q1⟩:=hg
  obtain rfl:=cE q0
  obtain rfl:=bE q1
  obtain ⟨h1,rfl⟩:=pair_inj h
  exact (e223 a0).trans ((brO (fun o:Option (Unit ⊕ Int)=>some (Ai (ro o 0 (sumE (fun _=>(-1)) (fun p13=>p13))))) (brS (fun o:Unit ⊕ Int=>some (Ai ((sumE (fun _=>(-1)) (fun p13=>p13)) o))) (fun _=>(fun _=>rfl)) (fun p13=>(fun _=>rfl)))) h1)
 ·cases h
noncomputable def c199:Cfg:=cfg Tryz.prog [(199,999,[4])] [(223,m223)] [] [] []
def q199 (a0:List AV):Bool:=q223 a0
def v199_0 (a0:List AV):Bool:=decide ((v223_0 a0) ≥ 0)
theorem e199 (a0:List AV):funA c199 0 199 [AV.sl [.int .i64,.int .i64] a0,AV.fn 200 []]=(bif q223 a0 then some (AV.bool (decide ((v223_0 a0) ≥ 0)))
 else none):=by kernel_rfl
def m199:TModel
 | [.sl g0 a0,.fn g1 []]=>bif ctsEq g0 ([.int .i64,.int .i64]) && Nat.beq g1 200 then some (q199 a0,AV.bool (v199_0 a0)) else none
 | _=>none
theorem k199:Known Tryz.prog 199:=⟨Tryz.f199,Tryz.func199,by kernel_rfl,by kernel_rfl⟩
theorem meets199:Meets Tryz.prog 199 m199:=by
 refine mt (lvl:=0) (cf:=c199) rfl mixed k199 Tryz.func199 (by kernel_rfl) noLoop (allT_cons meets223 allT_nil) allM_nil noI fun xs r h=>?_
 unfold m199 at h
 split at h
 ·rename_i g0 a0 g1
  obtain ⟨hg,h⟩:=bif_pair h
  simp only [Bool.and_eq_true] at hg
  obtain ⟨q0,q1⟩:=hg
  obtain rfl:=cE q0
  obtain rfl:=bE q1
  obtain ⟨h1,rfl⟩:=pair_inj h
  exact (e199 a0).trans ((brL1 (fun _=>rfl)) h1)
 ·cases h
noncomputable def c175:Cfg:=cfg Tryz.prog [(175,999,[2])] [(199,m199)] [] [] []
def q175 (a0:List AV):Bool:=(bif decide ((a0.length:Int)≤30) then q199 a0 else true)
def v175_0 (a0:List AV):Bool:=(bif decide ((a0.length:Int)≤30) then !(v199_0 a0) else false)
theorem e175 (a0:List AV):funA c175 0 175 [AV.sl [.int .i64,.int .i64] a0]=(bif decide ((a0.length:Int)≤30) then (bif q199 a0 then some (AV.bool (!(v199_0 a0)))
 else none)
 else some (AV.bool false)):=by kernel_rfl
def m175:TModel
 | [.sl g0 a0]=>bif ctsEq g0 ([.int .i64,.int .i64]) then some (q175 a0,AV.bool (v175_0 a0)) else none
 | _=>none
theorem k175:Known Tryz.prog 175:=⟨Tryz.f175,Tryz.func175,by kernel_rfl,by kernel_rfl⟩
theorem meets175:Meets Tryz.prog 175 m175:=by
 refine mt (lvl:=0) (cf:=c175) rfl mixed k175 Tryz.func175 (by kernel_rfl) noLoop (allT_cons meets199 allT_nil) allM_nil noI fun xs r h=>?_
 unfold m175 at h
 split at h
 ·rename_i g0 a0
  obtain ⟨hg,h⟩:=bif_pair h
  have q0:=hg
  obtain rfl:=cE q0
  obtain ⟨h1,rfl⟩:=pair_inj h
  exact (e175 a0).trans ((br (fun b=>some (AV.bool (bif b then !(v199_0 a0) else false))) (brL1 (fun _=>rfl)) (fun _=>rfl)) h1)
 ·cases h
noncomputable def c121:Cfg:=cfg Tryz.prog [(121,999,[6])] [(95,m95),(174,m174),(175,m175)] [] [] []
def q121 (a0:List AV) (ya yb yc:Int) (a2:List AV):Bool:=(q95 a0 && (bif (v95_0 a0) then (bif (v174_0 ya yb yc) then q175 a2 else true) else true))
def v121_0 (a0:List AV) (ya yb yc:Int) (a2:List AV):Bool:=(bif (v95_0 a0) then (bif (v174_0 ya yb yc) then (v175_0 a2) else false) else false)
theorem e121 (a0:List AV) (ya yb yc:Int) (a2:List AV):funA c121 0 121 [AV.sl [.int .i64] a0,AV.agg [Ai ya,Ai yb,Ai yc],AV.sl [.int .i64,.int .i64] a2]=(bif q95 a0 then (bif (v95_0 a0) then (bif (v174_0 ya yb yc) then (bif q175 a2 then some (AV.bool (v175_0 a2))
 else none)
 else some (AV.bool false))
 else some (AV.bool false))
 else none):=by kernel_rfl
def m121:TModel
 | [.sl g0 a0,.agg [.int .i64 ya,.int .i64 yb,.int .i64 yc],.sl g1 a2]=>bif ctsEq g0 ([.int .i64]) && ctsEq g1 ([.int .i64,.int .i64]) then some (q121 a0 ya yb yc a2,AV.bool (v121_0 a0 ya yb yc a2)) else none
 | _=>none
theorem k121:Known Tryz.prog 121:=⟨Tryz.f121,Tryz.func121,by kernel_rfl,by kernel_rfl⟩
theorem meets121:Meets Tryz.prog 121 m121:=by
 refine mt (lvl:=0) (cf:=c121) rfl mixed k121 Tryz.func121 (by kernel_rfl) noLoop (allT_cons meets95 (allT_cons meets174 (allT_cons meets175 allT_nil))) allM_nil noI fun xs r h=>?_
 unfold m121 at h
 split at h
 ·rename_i g0 a0 ya yb yc g1 a2
  obtain ⟨hg,h⟩:=bif_pair h
  simp only [Bool.and_eq_true] at hg
  obtain ⟨q0,q1⟩:=hg
  obtain rfl:=cE q0
  obtain rfl:=cE q1
  obtain ⟨h1,rfl⟩:=pair_inj h
  exact (e121 a0 ya yb yc a2).trans ((brL (br (fun b=>some (AV.bool (bif b then (bif (v174_0 ya yb yc) then (v175_0 a2) else false) else false))) (br (fun b=>some (AV.bool (bif b then (v175_0 a2) else false))) (brL1 (fun _=>rfl)) (fun _=>rfl)) (fun _=>rfl))) h1)
 ·cases h
noncomputable def c135:Cfg:=cfg Tryz.prog [(135,999,[2])] [] [] [] []
def q135 (a0:List AV):Bool:=decide (a0.length*8≤140737488355328) && decide (a0.length≤140737488355328)
def v135_0 (a0:List AV):List AV:=a0
theorem e135 (a0:List AV):funA c135 0 135 [AV.sl [.int .i64] a0]=(bif decide (0<a0.length) then (bif (decide ((([]:List AV).length+a0.length)*8≤140737488355328) && decide ((([]:List AV).length+a0.length)≤140737488355328)) then some (AV.fl [.int .i64] (([]:List AV)++a0))
 else none)
 else none):=by kernel_rfl
theorem e135n (b:Bool):funA c135 0 135 [AV.sle b [.int .i64]]=some (AV.fl [.int .i64] []):=by cases b <;> kernel_rfl
def m135:TModel
 | [.sl g0 a0]=>bif ctsEq g0 [.int .i64] then some (q135 a0,AV.fl [.int .i64] (v135_0 a0)) else none
 | _=>none
theorem k135:Known Tryz.prog 135:=⟨Tryz.f135,Tryz.func135,by kernel_rfl,by kernel_rfl⟩
theorem meets135:Meets Tryz.prog 135 m135:=by
 refine meet_nil (f:=Tryz.f135) (l:=[]) (hs:=[(135,999,[2])]) (ts:=[]) (ws:=[]) (is:=[]) (ls:=[]) (lvl:=0) (tys:=[.int .i64]) mixed k135 Tryz.func135 (by kernel_rfl) noLoop allT_nil allM_nil noI (fun xs r h=>?_) (fun b r h=>?_) (fun ys r h0 h=>?_)
 ·unfold m135 at h
  split at h
  ·rename_i g0 a0
   obtain ⟨hg,h⟩:=bif_pair h
   obtain rfl:=ctsEq_eq _ _ hg
   exact ⟨a0,rfl⟩
  ·cases h
 ·obtain ⟨hg,h⟩:=bif_pair (g:=ctsEq [.int .i64] [.int .i64]) h
  obtain ⟨_,rfl⟩:=pair_inj h
  exact e135n b
 ·obtain ⟨hg,h⟩:=bif_pair (g:=ctsEq [.int .i64] [.int .i64]) h
  obtain ⟨hq,rfl⟩:=pair_inj h
  refine (e135 ys).trans ?_
  unfold q135 at hq
  have e:([]:List AV).length+ys.length=ys.length:=by simp
  rw [e,hq,decide_eq_true h0]
  rfl
def G96_0_s0 {β:Type} (t13:Int) (h0:List AV) (t14:Int) (N:(Int ⊕ (Int × (List AV)))→β) (K:(Unit ⊕ ((List AV)))→β) (d:β):β:=(bif decide (t14<t13) then (bif (decide ((([AV.int .i64 t14]).length)*8≤140737488355328) && decide ((([AV.int .i64 t14]).length)≤140737488355328)) then N (.inr (IntKind.i64.wrap (t14+1),[AV.int .i64 t14]))
 else d)
 else K (.inl ()))
def F96_0_s0 (t13:Int) (h0:List AV) (t14:Int):Out (Int ⊕ (Int × (List AV))) (Unit ⊕ ((List AV))):=G96_0_s0 t13 h0 t14 .next .stop .fail
def G96_0_s1 {β:Type} (t13:Int) (h0:List AV) (t14:Int) (h1:List AV) (N:(Int ⊕ (Int × (List AV)))→β) (K:(Unit ⊕ ((List AV)))→β) (d:β):β:=(bif decide (t14<t13) then (bif (decide ((h1.length+([AV.int .i64 t14]).length)*8≤140737488355328) && decide ((h1.length+([AV.int .i64 t14]).length)≤140737488355328)) then N (.inr (IntKind.i64.wrap (t14+1),h1++([AV.int .i64 t14])))
 else d)
 else K (.inr h1))
def F96_0_s1 (t13:Int) (h0:List AV) (t14:Int) (h1:List AV):Out (Int ⊕ (Int × (List AV))) (Unit ⊕ ((List AV))):=G96_0_s1 t13 h0 t14 h1 .next .stop .fail
def R96_0 (t13:Int) (h0:List AV):(Int ⊕ (Int × (List AV)))→Out (Int ⊕ (Int × (List AV))) (Unit ⊕ ((List AV))):=sumE (fun s:Int=>F96_0_s0 t13 h0 s) (fun s:Int × (List AV)=>F96_0_s1 t13 h0 s.1 s.2)
def E96_0 (t13:Int) (h0:List AV):(Int ⊕ (Int × (List AV)))→St:=sumE (fun s:Int=>⟨[(2,AV.ptr [0,2] 0 0),(3,AV.ptr [0,3] 0 0),(13,Ai t13),(14,Ai s)],[([0,0,3],⟨false,[.int .i64],h0⟩),([0,2],⟨true,[],[AV.agg [AV.snil,AV.snil,AV.snil]]⟩),([0,3],⟨true,[],[AV.agg [AV.own [0,0,3],AV.snil,AV.snil]]⟩)]⟩) (fun s:Int × (List AV)=>⟨[(2,AV.ptr [0,2] 0 0),(3,AV.ptr [0,3] 0 0),(13,Ai t13),(14,Ai s.1)],[([0,0,3],⟨false,[.int .i64],h0⟩),([0,1,3],⟨false,[.int .i64],s.2⟩),([0,2],⟨true,[],[AV.agg [AV.snil,AV.snil,AV.snil]]⟩),([0,3],⟨true,[],[AV.agg [AV.own [0,0,3],AV.own [0,1,3],AV.snil]]⟩)]⟩)
def K96_0 (t13:Int) (h0:List AV) (k:Kont):(Unit ⊕ ((List AV)))→Option AV:=sumE (fun _:Unit=>k (.exit 0) ⟨[(2,AV.ptr [0,2] 0 0),(3,AV.ptr [0,3] 0 0)],[([0,0,3],⟨false,[.int .i64],h0⟩),([0,2],⟨true,[],[AV.agg [AV.snil,AV.snil,AV.snil]]⟩),([0,3],⟨true,[],[AV.agg [AV.own [0,0,3],AV.snil,AV.snil]]⟩)]⟩) (fun p:(List AV)=>k (.exit 0) ⟨[(2,AV.ptr [0,2] 0 0),(3,AV.ptr [0,3] 0 0)],[([0,0,3],⟨false,[.int .i64],h0⟩),([0,1,3],⟨false,[.int .i64],p⟩),([0,2],⟨true,[],[AV.agg [AV.snil,AV.snil,AV.snil]]⟩),([0,3],⟨true,[],[AV.agg [AV.own [0,0,3],AV.own [0,1,3],AV.snil]]⟩)]⟩)
def l96_0:LModel:=fun _ _ st k=>match st with
 | ⟨[(2,.ptr g0 g1 g2),(3,.ptr g3 g4 g5),(13,.int .i64 t13),(14,.int .i64 t14)],[(g6,⟨false,g7,h0⟩),(g8,⟨true,[],[.agg [.snil,.snil,.snil]]⟩),(g9,⟨true,[],[.agg [.own g10,.snil,.snil]]⟩)]⟩=>bif nmEq g0 ([0,2]) && Nat.beq g1 0 && Nat.beq g2 0 && nmEq g3 ([0,3]) && Nat.beq g4 0 && Nat.beq g5 0 && nmEq g6 ([0,0,3]) && ctsEq g7 ([.int .i64]) && nmEq g8 ([0,2]) && nmEq g9 ([0,3]) && nmEq g10 ([0,0,3]) then ro (runW (R96_0 t13 h0) ((t13 - t14:Int).toNat+1) (.inl t14)) none (K96_0 t13 h0 k) else none
 | ⟨[(2,.ptr g0 g1 g2),(3,.ptr g3 g4 g5),(13,.int .i64 t13),(14,.int .i64 t14)],[(g6,⟨false,g7,h0⟩),(g8,⟨false,g9,h1⟩),(g10,⟨true,[],[.agg [.snil,.snil,.snil]]⟩),(g11,⟨true,[],[.agg [.own g12,.own g13,.snil]]⟩)]⟩=>bif nmEq g0 ([0,2]) && Nat.beq g1 0 && Nat.beq g2 0 && nmEq g3 ([0,3]) && Nat.beq g4 0 && Nat.beq g5 0 && nmEq g6 ([0,0,3]) && ctsEq g7 ([.int .i64]) && nmEq g8 ([0,1,3]) && ctsEq g9 ([.int .i64]) && nmEq g10 ([0,2]) && nmEq g11 ([0,3]) && nmEq g12 ([0,0,3]) && nmEq g13 ([0,1,3]) then ro (runW (R96_0 t13 h0) ((t13 - t14:Int).toNat+1) (.inr (t14,h1))) none (K96_0 t13 h0 k) else none
 | _=>none
noncomputable def c96:Cfg:=cfg Tryz.prog [(96,0,[2,3,13,14]),(96,999,[2]),(96,1000,[2,3]),(96,1001,[2,3,13,14])] [(95,m95),(135,m135)] [] [] [(96,0,l96_0)]
theorem s96_0_s0 (t13:Int) (h0:List AV) (ce:CallE) (k:Kont) (s:Int) (next:St→Option AV):stepA (codeA c96 ce [] 96 0 (sub [1,1,1,0,1,0,0] (body Tryz.f96))) (normA [] [2,3,13,14]) next ((E96_0 t13 h0) (.inl s)) k=G96_0_s0 t13 h0 s (fun s=>next ((E96_0 t13 h0) s)) (K96_0 t13 h0 k) none:=by kernel_rfl
theorem s96_0_s1 (t13:Int) (h0:List AV) (ce:CallE) (k:Kont) (s:Int × (List AV)) (next:St→Option AV):stepA (codeA c96 ce [] 96 0 (sub [1,1,1,0,1,0,0] (body Tryz.f96))) (normA [] [2,3,13,14]) next ((E96_0 t13 h0) (.inr s)) k=G96_0_s1 t13 h0 s.1 s.2 (fun s=>next ((E96_0 t13 h0) s)) (K96_0 t13 h0 k) none:=by kernel_rfl
theorem st96_0 (t13:Int) (h0:List AV) (ce:CallE) (k:Kont) (s:Int ⊕ (Int × (List AV))) (next:St→Option AV):stepA (codeA c96 ce [] 96 0 (sub [1,1,1,0,1,0,0] (body Tryz.f96))) (normA [] [2,3,13,14]) next ((E96_0 t13 h0) s) k=(R96_0 t13 h0 s).el none (fun s=>next ((E96_0 t13 h0) s)) (K96_0 t13 h0 k):=(match s with | .inl s=>(s96_0_s0 t13 h0 ce k s next).trans (by unfold R96_0;unfold F96_0_s0 G96_0_s0;simp only [el_cond,el_ro,el_sum,el_fail,el_next,el_stop] <;> rfl) | .inr s=>(s96_0_s1 t13 h0 ce k s next).trans (by unfold R96_0;unfold F96_0_s1 G96_0_s1;simp only [el_cond,el_ro,el_sum,el_fail,el_next,el_stop] <;> rfl))
theorem ok96_0 {ce:CallE}:LoopOK c96 ce [] 96 0 (sub [1,1,1,0,1,0,0] (body Tryz.f96)):=by
 intro m hm st k r h
 obtain rfl:l96_0=m:=Option.some.inj hm
 unfold l96_0 at h
 split at h
 ·rename_i g0 g1 g2 g3 g4 g5 t13 t14 g6 g7 h0 g8 g9 g10
  obtain ⟨hg,h⟩:=bif_some h
  simp only [Bool.and_eq_true] at hg
  obtain ⟨⟨⟨⟨⟨⟨⟨⟨⟨⟨q0,q1⟩,q2⟩,q3⟩,q4⟩,q5⟩,q6⟩,q7⟩,q8⟩,q9⟩,q10⟩:=hg
  obtain rfl:=nE q0
  obtain rfl:=bE q1
  obtain rfl:=bE q2
  obtain rfl:=nE q3
  obtain rfl:=bE q4
  obtain rfl:=bE q5
  obtain rfl:=nE q6
  obtain rfl:=cE q7
  obtain rfl:=nE q8
  obtain rfl:=nE q9
  obtain rfl:=nE q10
  refine ⟨((t13 - t14:Int).toNat+1),?_⟩
  rw [← h]
  exact loop_run (E96_0 t13 h0) (K96_0 t13 h0 k) (st96_0 t13 h0 ce k) _ (.inl t14)
 ·rename_i g0 g1 g2 g3 g4 g5 t13 t14 g6 g7 h0 g8 g9 h1 g10 g11 g12 g13
  obtain ⟨hg,h⟩:=bif_some h
  simp only [Bool.and_eq_true] at hg
  obtain ⟨⟨⟨⟨⟨⟨⟨⟨⟨⟨⟨⟨⟨q0,q1⟩,q2⟩,q3⟩,q4⟩,q5⟩,q6⟩,q7⟩,q8⟩,q9⟩,q10⟩,q11⟩,q12⟩,q13⟩:=hg
  obtain rfl:=nE q0
  obtain rfl:=bE q1
  obtain rfl:=bE q2
  obtain rfl:=nE q3
  obtain rfl:=bE q4
  obtain rfl:=bE q5
  obtain rfl:=nE q6
  obtain rfl:=cE q7
  obtain rfl:=nE q8
  obtain rfl:=cE q9
  obtain rfl:=nE q10
  obtain rfl:=nE q11
  obtain rfl:=nE q12
  obtain rfl:=nE q13
  refine ⟨((t13 - t14:Int).toNat+1),?_⟩
  rw [← h]
  exact loop_run (E96_0 t13 h0) (K96_0 t13 h0 k) (st96_0 t13 h0 ce k) _ (.inr (t14,h1))
 ·cases h
def q96 (a0:List AV):Bool:=(q95 a0 && (bif !(v95_0 a0) then true else (q135 a0 && (ro (runW (R96_0 (a0.length:Int) (v135_0 a0)) (((a0.length:Int) - 0:Int).toNat+1) (.inl 0)) false (sumE (fun _=>true) (fun p15=>true))))))
def v96_0 (a0:List AV):List AV:=(bif !(v95_0 a0) then ([]:List AV) else (v135_0 a0))
def v96_1 (a0:List AV):List AV:=(bif !(v95_0 a0) then ([]:List AV) else (ro (runW (R96_0 (a0.length:Int) (v135_0 a0)) (((a0.length:Int) - 0:Int).toNat+1) (.inl 0)) [] (sumE (fun _=>([]:List AV)) (fun p15=>p15))))
def v96_2 (a0:List AV):List AV:=([]:List AV)
theorem e96 (a0:List AV):funA c96 0 96 [AV.sl [.int .i64] a0]=(bif q95 a0 then (bif !(v95_0 a0) then some (AV.agg [AV.fl [.int .i64] ([]:List AV),AV.fl [.int .i64] ([]:List AV),AV.fl [.int .i64,.int .i64] ([]:List AV)])
 else (bif q135 a0 then (ro (runW (R96_0 (a0.length:Int) (v135_0 a0)) (((a0.length:Int) - 0:Int).toNat+1) (.inl 0)) none (sumE (fun _=>some (AV.agg [AV.fl [.int .i64] (v135_0 a0),AV.fl [.int .i64] ([]:List AV),AV.fl [.int .i64,.int .i64] ([]:List AV)])) (fun p15=>some (AV.agg [AV.fl [.int .i64] (v135_0 a0),AV.fl [.int .i64] p15,AV.fl [.int .i64,.int .i64] ([]:List AV)]))))
 else none))
 else none):=by kernel_rfl
def m96:TModel
 | [.sl g0 a0]=>bif ctsEq g0 ([.int .i64]) then some (q96 a0,AV.agg [AV.fl [.int .i64] (v96_0 a0),AV.fl [.int .i64] (v96_1 a0),AV.fl [.int .i64,.int .i64] (v96_2 a0)]) else none
 | _=>none
theorem k96:Known Tryz.prog 96:=⟨Tryz.f96,Tryz.func96,by kernel_rfl,by kernel_rfl⟩
theorem meets96:Meets Tryz.prog 96 m96:=by
 refine mt (lvl:=0) (cf:=c96) rfl mixed k96 Tryz.func96 (by kernel_rfl) (loops_cons ok96_0 noLoop) (allT_cons meets95 (allT_cons meets135 allT_nil)) allM_nil noI fun xs r h=>?_
 unfold m96 at h
 split at h
 ·rename_i g0 a0
  obtain ⟨hg,h⟩:=bif_pair h
  have q0:=hg
  obtain rfl:=cE q0
  obtain ⟨h1,rfl⟩:=pair_inj h
  exact (e96 a0).trans ((brL (br (fun b=>some (AV.agg [AV.fl [.int .i64] (bif b then ([]:List AV) else (v135_0 a0)),AV.fl [.int .i64] (bif b then ([]:List AV) else (ro (runW (R96_0 (a0.length:Int) (v135_0 a0)) (((a0.length:Int) - 0:Int).toNat+1) (.inl 0)) [] (sumE (fun _=>([]:List AV)) (fun p15=>p15)))),AV.fl [.int .i64,.int .i64] ([]:List AV)])) (fun _=>rfl) (brL (brO (fun o:Option (Unit ⊕ ((List AV)))=>some (AV.agg [AV.fl [.int .i64] (v135_0 a0),AV.fl [.int .i64] (ro o [] (sumE (fun _=>([]:List AV)) (fun p15=>p15))),AV.fl [.int .i64,.int .i64] ([]:List AV)])) (brS (fun o:Unit ⊕ ((List AV))=>some (AV.agg [AV.fl [.int .i64] (v135_0 a0),AV.fl [.int .i64] ((sumE (fun _=>([]:List AV)) (fun p15=>p15)) o),AV.fl [.int .i64,.int .i64] ([]:List AV)])) (fun _=>(fun _=>rfl)) (fun p15=>(fun _=>rfl))))))) h1)
 ·cases h
def G19_0 {β:Type} (t1:Int) (t9:List AV) (t10:Int) (t11:Int) (N:(Int)→β) (K:(Unit ⊕ (Int × Int × Int))→β) (d:β):β:=(bif decide (t11<t10) then (bif (decide (0≤t11) && decide (t11<(t9.length:Int))) then (bif decide (fI (t9.getD t11.toNat .undef) 0=t1) then K (.inr (fI (t9.getD t11.toNat .undef) 1,fI (t9.getD t11.toNat .undef) 0,fI (t9.getD t11.toNat .undef) 1))
 else N (IntKind.i64.wrap (t11+1)))
 else d)
 else K (.inl ()))
def F19_0 (t1:Int) (t9:List AV) (t10 t11:Int):Out (Int) (Unit ⊕ (Int × Int × Int)):=G19_0 t1 t9 t10 t11 .next .stop .fail
def R19_0 (t1:Int) (t9:List AV) (t10:Int):(Int)→Out (Int) (Unit ⊕ (Int × Int × Int)):=fun s:Int=>F19_0 t1 t9 t10 s
def E19_0 (t1:Int) (t9:List AV) (t10:Int):(Int)→St:=fun s:Int=>⟨[(1,Ai t1),(9,AV.sl [.int .i64,.int .i64] t9),(10,Ai t10),(11,Ai s)],[]⟩
def K19_0 (t1:Int) (t9:List AV) (t10:Int) (k:Kont):(Unit ⊕ (Int × Int × Int))→Option AV:=sumE (fun _:Unit=>k (.exit 0) ⟨[],[]⟩) (fun p:Int × Int × Int=>k .ret ⟨[(4,Ai p.1),(5,AV.bool true)],[([1,7],⟨true,[],[AV.agg [Ai p.2.1,Ai p.2.2]]⟩)]⟩)
def l19_0:LModel:=fun _ _ st k=>match st with
 | ⟨[(1,.int .i64 t1),(9,.sl g0 t9),(10,.int .i64 t10),(11,.int .i64 t11)],[]⟩=>bif ctsEq g0 ([.int .i64,.int .i64]) then ro (runW (R19_0 t1 t9 t10) ((t10 - t11:Int).toNat+1) t11) none (K19_0 t1 t9 t10 k) else none
 | _=>none
noncomputable def c19:Cfg:=cfg Tryz.prog [(19,0,[1,9,10,11]),(19,999,[4,5]),(19,1000,[]),(19,1001,[1,9,10,11])] [] [] [] [(19,0,l19_0)]
theorem s19_0 (t1:Int) (t9:List AV) (t10:Int) (ce:CallE) (k:Kont) (s:Int) (next:St→Option AV):stepA (codeA c19 ce [] 19 0 (sub [1,0,1,0,0] (body Tryz.f19))) (normA [] [1,9,10,11]) next ((E19_0 t1 t9 t10) s) k=G19_0 t1 t9 t10 s (fun s=>next ((E19_0 t1 t9 t10) s)) (K19_0 t1 t9 t10 k) none:=by kernel_rfl
theorem st19_0 (t1:Int) (t9:List AV) (t10:Int) (ce:CallE) (k:Kont) (s:Int) (next:St→Option AV):stepA (codeA c19 ce [] 19 0 (sub [1,0,1,0,0] (body Tryz.f19))) (normA [] [1,9,10,11]) next ((E19_0 t1 t9 t10) s) k=(R19_0 t1 t9 t10 s).el none (fun s=>next ((E19_0 t1 t9 t10) s)) (K19_0 t1 t9 t10 k):=(s19_0 t1 t9 t10 ce k s next).trans (by unfold R19_0;unfold F19_0 G19_0;simp only [el_cond,el_ro,el_sum,el_fail,el_next,el_stop] <;> rfl)
theorem ok19_0 {ce:CallE}:LoopOK c19 ce [] 19 0 (sub [1,0,1,0,0] (body Tryz.f19)):=by
 intro m hm st k r h
 obtain rfl:l19_0=m:=Option.some.inj hm
 unfold l19_0 at h
 split at h
 ·rename_i t1 g0 t9 t10 t11
  obtain ⟨hg,h⟩:=bif_some h
  have q0:=hg
  obtain rfl:=cE q0
  refine ⟨((t10 - t11:Int).toNat+1),?_⟩
  rw [← h]
  exact loop_run (E19_0 t1 t9 t10) (K19_0 t1 t9 t10 k) (st19_0 t1 t9 t10 ce k) _ t11
 ·cases h
def q19 (xa xb xc:List AV) (a1:Int):Bool:=(ro (runW (R19_0 a1 xc (xc.length:Int)) (((xc.length:Int) - 0:Int).toNat+1) 0) false (sumE (fun _=>true) (fun p17=>true)))
def v19_0 (xa xb xc:List AV) (a1:Int):Int:=(ro (runW (R19_0 a1 xc (xc.length:Int)) (((xc.length:Int) - 0:Int).toNat+1) 0) 0 (sumE (fun _=>0) (fun p17=>p17.1)))
def v19_1 (xa xb xc:List AV) (a1:Int):Bool:=(ro (runW (R19_0 a1 xc (xc.length:Int)) (((xc.length:Int) - 0:Int).toNat+1) 0) false (sumE (fun _=>false) (fun p17=>true)))
theorem e19 (xa xb xc:List AV) (a1:Int):funA c19 0 19 [AV.agg [AV.sl [.int .i64] xa,AV.sl [.int .i64] xb,AV.sl [.int .i64,.int .i64] xc],Ai a1]=(ro (runW (R19_0 a1 xc (xc.length:Int)) (((xc.length:Int) - 0:Int).toNat+1) 0) none (sumE (fun _=>some (AV.tup [Ai 0,AV.bool false])) (fun p17=>some (AV.tup [Ai p17.1,AV.bool true])))):=by kernel_rfl
def m19:TModel
 | [.agg [.sl g0 xa,.sl g1 xb,.sl g2 xc],.int .i64 a1]=>bif ctsEq g0 ([.int .i64]) && ctsEq g1 ([.int .i64]) && ctsEq g2 ([.int .i64,.int .i64]) then some (q19 xa xb xc a1,AV.tup [AV.int .i64 (v19_0 xa xb xc a1),AV.bool (v19_1 xa xb xc a1)]) else none
 | _=>none
theorem k19:Known Tryz.prog 19:=⟨Tryz.f19,Tryz.func19,by kernel_rfl,by kernel_rfl⟩
theorem meets19:Meets Tryz.prog 19 m19:=by
 refine mt (lvl:=0) (cf:=c19) rfl mixed k19 Tryz.func19 (by kernel_rfl) (loops_cons ok19_0 noLoop) allT_nil allM_nil noI fun xs r h=>?_
 unfold m19 at h
 split at h
 ·rename_i g0 xa g1 xb g2 xc a1
  obtain ⟨hg,h⟩:=bif_pair h
  simp only [Bool.and_eq_true] at hg
  obtain ⟨⟨q0,q1⟩,q2⟩:=hg
  obtain rfl:=cE q0
  obtain rfl:=cE q1
  obtain rfl:=cE q2
  obtain ⟨h1,rfl⟩:=pair_inj h
  exact (e19 xa xb xc a1).trans ((brO (fun o:Option (Unit ⊕ (Int × Int × Int))=>some (AV.tup [Ai (ro o 0 (sumE (fun _=>0) (fun p17=>p17.1))),AV.bool (ro o false (sumE (fun _=>false) (fun p17=>true)))])) (brS (fun o:Unit ⊕ (Int × Int × Int)=>some (AV.tup [Ai ((sumE (fun _=>0) (fun p17=>p17.1)) o),AV.bool ((sumE (fun _=>false) (fun p17=>true)) o)])) (fun _=>(fun _=>rfl)) (fun p17=>(fun _=>rfl)))) h1)
 ·cases h
noncomputable def c143:Cfg:=cfg Tryz.prog [(143,999,[4])] [(19,m19)] [] [] []
def q143 (xa xb xc:List AV) (a1:Int):Bool:=q19 xa xb xc a1
def v143_0 (xa xb xc:List AV) (a1:Int):Bool:=(v19_1 xa xb xc a1)
theorem e143 (xa xb xc:List AV) (a1:Int):funA c143 0 143 [AV.agg [AV.sl [.int .i64] xa,AV.sl [.int .i64] xb,AV.sl [.int .i64,.int .i64] xc],Ai a1]=(bif q19 xa xb xc a1 then some (AV.bool (v19_1 xa xb xc a1))
 else none):=by kernel_rfl
def m143:TModel
 | [.agg [.sl g0 xa,.sl g1 xb,.sl g2 xc],.int .i64 a1]=>bif ctsEq g0 ([.int .i64]) && ctsEq g1 ([.int .i64]) && ctsEq g2 ([.int .i64,.int .i64]) then some (q143 xa xb xc a1,AV.bool (v143_0 xa xb xc a1)) else none
 | _=>none
theorem k143:Known Tryz.prog 143:=⟨Tryz.f143,Tryz.func143,by kernel_rfl,by kernel_rfl⟩
theorem meets143:Meets Tryz.prog 143 m143:=by
 refine mt (lvl:=0) (cf:=c143) rfl mixed k143 Tryz.func143 (by kernel_rfl) noLoop (allT_cons meets19 allT_nil) allM_nil noI fun xs r h=>?_
 unfold m143 at h
 split at h
 ·rename_i g0 xa g1 xb g2 xc a1
  obtain ⟨hg,h⟩:=bif_pair h
  simp only [Bool.and_eq_true] at hg
  obtain ⟨⟨q0,q1⟩,q2⟩:=hg
  obtain rfl:=cE q0
  obtain rfl:=cE q1
  obtain rfl:=cE q2
  obtain ⟨h1,rfl⟩:=pair_inj h
  exact (e143 xa xb xc a1).trans ((brL1 (fun _=>rfl)) h1)
 ·cases h
def G144_0 {β:Type} (t1:Int) (t7:Int) (t14:List AV) (t15:Int) (t6:Int) (t16:Int) (N:((Int × Int))→β) (K:(Int ⊕ (Int × Int × Int × Int))→β) (d:β):β:=(bif decide (t16<t15) then (bif (decide (0≤t16) && decide (t16<(t14.length:Int))) then (bif decide (fI (t14.getD t16.toNat .undef) 0≤t1) then (bif decide (fI (t14.getD t16.toNat .undef) 0 ≥ t1) then K (.inr (fI (t14.getD t16.toNat .undef) 1,fI (t14.getD t16.toNat .undef) 1,fI (t14.getD t16.toNat .undef) 0,fI (t14.getD t16.toNat .undef) 1))
 else N (fI (t14.getD t16.toNat .undef) 1,IntKind.i64.wrap (t16+1)))
 else (bif decide (fI (t14.getD t16.toNat .undef) 0 ≥ t1) then K (.inr (t6,fI (t14.getD t16.toNat .undef) 1,fI (t14.getD t16.toNat .undef) 0,fI (t14.getD t16.toNat .undef) 1))
 else N (t6,IntKind.i64.wrap (t16+1))))
 else d)
 else K (.inl t6))
def F144_0 (t1 t7:Int) (t14:List AV) (t15 t6 t16:Int):Out ((Int × Int)) (Int ⊕ (Int × Int × Int × Int)):=G144_0 t1 t7 t14 t15 t6 t16 .next .stop .fail
def R144_0 (t1 t7:Int) (t14:List AV) (t15:Int):((Int × Int))→Out ((Int × Int)) (Int ⊕ (Int × Int × Int × Int)):=fun s:Int × Int=>F144_0 t1 t7 t14 t15 s.1 s.2
def E144_0 (t1 t7:Int) (t14:List AV) (t15:Int):((Int × Int))→St:=fun s:Int × Int=>⟨[(1,Ai t1),(6,Ai s.1),(7,Ai t7),(14,AV.sl [.int .i64,.int .i64] t14),(15,Ai t15),(16,Ai s.2)],[]⟩
def K144_0 (t1 t7:Int) (t14:List AV) (t15:Int) (k:Kont):(Int ⊕ (Int × Int × Int × Int))→Option AV:=sumE (fun p:Int=>k (.exit 0) ⟨[(6,Ai p),(7,Ai t7)],[]⟩) (fun p:Int × Int × Int × Int=>k .ret ⟨[(4,Ai p.1),(5,Ai p.2.1)],[([1,9],⟨true,[],[AV.agg [Ai p.2.2.1,Ai p.2.2.2]]⟩)]⟩)
def l144_0:LModel:=fun _ _ st k=>match st with
 | ⟨[(1,.int .i64 t1),(6,.int .i64 t6),(7,.int .i64 t7),(14,.sl g0 t14),(15,.int .i64 t15),(16,.int .i64 t16)],[]⟩=>bif ctsEq g0 ([.int .i64,.int .i64]) then ro (runW (R144_0 t1 t7 t14 t15) ((t15 - t16:Int).toNat+1) (t6,t16)) none (K144_0 t1 t7 t14 t15 k) else none
 | _=>none
noncomputable def c144:Cfg:=cfg Tryz.prog [(144,0,[1,6,7,14,15,16]),(144,999,[4,5]),(144,1000,[6,7]),(144,1001,[1,6,7,14,15,16])] [] [] [] [(144,0,l144_0)]
theorem s144_0 (t1 t7:Int) (t14:List AV) (t15:Int) (ce:CallE) (k:Kont) (s:Int × Int) (next:St→Option AV):stepA (codeA c144 ce [] 144 0 (sub [1,1,0,1,0,0] (body Tryz.f144))) (normA [] [1,6,7,14,15,16]) next ((E144_0 t1 t7 t14 t15) s) k=G144_0 t1 t7 t14 t15 s.1 s.2 (fun s=>next ((E144_0 t1 t7 t14 t15) s)) (K144_0 t1 t7 t14 t15 k) none:=by kernel_rfl
theorem st144_0 (t1 t7:Int) (t14:List AV) (t15:Int) (ce:CallE) (k:Kont) (s:(Int × Int)) (next:St→Option AV):stepA (codeA c144 ce [] 144 0 (sub [1,1,0,1,0,0] (body Tryz.f144))) (normA [] [1,6,7,14,15,16]) next ((E144_0 t1 t7 t14 t15) s) k=(R144_0 t1 t7 t14 t15 s).el none (fun s=>next ((E144_0 t1 t7 t14 t15) s)) (K144_0 t1 t7 t14 t15 k):=(s144_0 t1 t7 t14 t15 ce k s next).trans (by unfold R144_0;unfold F144_0 G144_0;simp only [el_cond,el_ro,el_sum,el_fail,el_next,el_stop] <;> rfl)
theorem ok144_0 {ce:CallE}:LoopOK c144 ce [] 144 0 (sub [1,1,0,1,0,0] (body Tryz.f144)):=by
 intro m hm st k r h
 obtain rfl:l144_0=m:=Option.some.inj hm
 unfold l144_0 at h
 split at h
 ·rename_i t1 t6 t7 g0 t14 t15 t16
  obtain ⟨hg,h⟩:=bif_some h
  have q0:=hg
  obtain rfl:=cE q0
  refine ⟨((t15 - t16:Int).toNat+1),?_⟩
  rw [← h]
  exact loop_run (E144_0 t1 t7 t14 t15) (K144_0 t1 t7 t14 t15 k) (st144_0 t1 t7 t14 t15 ce k) _ (t6,t16)
 ·cases h
def q144 (xa xb xc:List AV) (a1:Int):Bool:=(ro (runW (R144_0 a1 (xa.length:Int) xc (xc.length:Int)) (((xc.length:Int) - 0:Int).toNat+1) (0,0)) false (sumE (fun p18=>true) (fun p19=>true)))
def v144_0 (xa xb xc:List AV) (a1:Int):Int:=(ro (runW (R144_0 a1 (xa.length:Int) xc (xc.length:Int)) (((xc.length:Int) - 0:Int).toNat+1) (0,0)) 0 (sumE (fun p18=>p18) (fun p19=>p19.1)))
def v144_1 (xa xb xc:List AV) (a1:Int):Int:=(ro (runW (R144_0 a1 (xa.length:Int) xc (xc.length:Int)) (((xc.length:Int) - 0:Int).toNat+1) (0,0)) 0 (sumE (fun p18=>(xa.length:Int)) (fun p19=>p19.2.1)))
theorem e144 (xa xb xc:List AV) (a1:Int):funA c144 0 144 [AV.agg [AV.sl [.int .i64] xa,AV.sl [.int .i64] xb,AV.sl [.int .i64,.int .i64] xc],Ai a1]=(ro (runW (R144_0 a1 (xa.length:Int) xc (xc.length:Int)) (((xc.length:Int) - 0:Int).toNat+1) (0,0)) none (sumE (fun p18=>some (AV.tup [Ai p18,Ai (xa.length:Int)])) (fun p19=>some (AV.tup [Ai p19.1,Ai p19.2.1])))):=by kernel_rfl
def m144:TModel
 | [.agg [.sl g0 xa,.sl g1 xb,.sl g2 xc],.int .i64 a1]=>bif ctsEq g0 ([.int .i64]) && ctsEq g1 ([.int .i64]) && ctsEq g2 ([.int .i64,.int .i64]) then some (q144 xa xb xc a1,AV.tup [AV.int .i64 (v144_0 xa xb xc a1),AV.int .i64 (v144_1 xa xb xc a1)]) else none
 | _=>none
theorem k144:Known Tryz.prog 144:=⟨Tryz.f144,Tryz.func144,by kernel_rfl,by kernel_rfl⟩
theorem meets144:Meets Tryz.prog 144 m144:=by
 refine mt (lvl:=0) (cf:=c144) rfl mixed k144 Tryz.func144 (by kernel_rfl) (loops_cons ok144_0 noLoop) allT_nil allM_nil noI fun xs r h=>?_
 unfold m144 at h
 split at h
 ·rename_i g0 xa g1 xb g2 xc a1
  obtain ⟨hg,h⟩:=bif_pair h
  simp only [Bool.and_eq_true] at hg
  obtain ⟨⟨q0,q1⟩,q2⟩:=hg
  obtain rfl:=cE q0
  obtain rfl:=cE q1
  obtain rfl:=cE q2
  obtain ⟨h1,rfl⟩:=pair_inj h
  exact (e144 xa xb xc a1).trans ((brO (fun o:Option (Int ⊕ (Int × Int × Int × Int))=>some (AV.tup [Ai (ro o 0 (sumE (fun p18=>p18) (fun p19=>p19.1))),Ai (ro o 0 (sumE (fun p18=>(xa.length:Int)) (fun p19=>p19.2.1)))])) (brS (fun o:Int ⊕ (Int × Int × Int × Int)=>some (AV.tup [Ai ((sumE (fun p18=>p18) (fun p19=>p19.1)) o),Ai ((sumE (fun p18=>(xa.length:Int)) (fun p19=>p19.2.1)) o)])) (fun p18=>(fun _=>rfl)) (fun p19=>(fun _=>rfl)))) h1)
 ·cases h
def G167_0 {β:Type} (t0:List AV) (t1:Int) (t7:Int) (t8:Int) (N:(Int)→β) (K:(Unit ⊕ Int)→β) (d:β):β:=(bif decide (t8<t7) then (bif (decide (0≤t8) && decide (t8<(t0.length:Int))) then (bif decide (t1=fI (t0.getD t8.toNat .undef) 0) then K (.inr t8)
 else N (IntKind.i64.wrap (t8+1)))
 else d)
 else K (.inl ()))
def F167_0 (t0:List AV) (t1 t7 t8:Int):Out (Int) (Unit ⊕ Int):=G167_0 t0 t1 t7 t8 .next .stop .fail
def R167_0 (t0:List AV) (t1 t7:Int):(Int)→Out (Int) (Unit ⊕ Int):=fun s:Int=>F167_0 t0 t1 t7 s
def E167_0 (t0:List AV) (t1 t7:Int):(Int)→St:=fun s:Int=>⟨[(0,AV.sl [.int .i64] t0),(1,Ai t1),(7,Ai t7),(8,Ai s)],[]⟩
def K167_0 (t0:List AV) (t1 t7:Int) (k:Kont):(Unit ⊕ Int)→Option AV:=sumE (fun _:Unit=>k (.exit 0) ⟨[],[]⟩) (fun p:Int=>k .ret ⟨[(4,Ai p)],[]⟩)
def l167_0:LModel:=fun _ _ st k=>match st with
 | ⟨[(0,.sl g0 t0),(1,.int .i64 t1),(7,.int .i64 t7),(8,.int .i64 t8)],[]⟩=>bif ctsEq g0 ([.int .i64]) then ro (runW (R167_0 t0 t1 t7) ((t7 - t8:Int).toNat+1) t8) none (K167_0 t0 t1 t7 k) else none
 | _=>none
noncomputable def c167:Cfg:=cfg Tryz.prog [(167,0,[0,1,7,8]),(167,999,[4]),(167,1000,[]),(167,1001,[0,1,7,8])] [] [] [] [(167,0,l167_0)]
theorem s167_0 (t0:List AV) (t1 t7:Int) (ce:CallE) (k:Kont) (s:Int) (next:St→Option AV):stepA (codeA c167 ce [] 167 0 (sub [1,0,1,0,0] (body Tryz.f167))) (normA [] [0,1,7,8]) next ((E167_0 t0 t1 t7) s) k=G167_0 t0 t1 t7 s (fun s=>next ((E167_0 t0 t1 t7) s)) (K167_0 t0 t1 t7 k) none:=by kernel_rfl
theorem st167_0 (t0:List AV) (t1 t7:Int) (ce:CallE) (k:Kont) (s:Int) (next:St→Option AV):stepA (codeA c167 ce [] 167 0 (sub [1,0,1,0,0] (body Tryz.f167))) (normA [] [0,1,7,8]) next ((E167_0 t0 t1 t7) s) k=(R167_0 t0 t1 t7 s).el none (fun s=>next ((E167_0 t0 t1 t7) s)) (K167_0 t0 t1 t7 k):=(s167_0 t0 t1 t7 ce k s next).trans (by unfold R167_0;unfold F167_0 G167_0;simp only [el_cond,el_ro,el_sum,el_fail,el_next,el_stop] <;> rfl)
theorem ok167_0 {ce:CallE}:LoopOK c167 ce [] 167 0 (sub [1,0,1,0,0] (body Tryz.f167)):=by
 intro m hm st k r h
 obtain rfl:l167_0=m:=Option.some.inj hm
 unfold l167_0 at h
 split at h
 ·rename_i g0 t0 t1 t7 t8
  obtain ⟨hg,h⟩:=bif_some h
  have q0:=hg
  obtain rfl:=cE q0
  refine ⟨((t7 - t8:Int).toNat+1),?_⟩
  rw [← h]
  exact loop_run (E167_0 t0 t1 t7) (K167_0 t0 t1 t7 k) (st167_0 t0 t1 t7 ce k) _ t8
 ·cases h
def q167 (a0:List AV) (a1:Int):Bool:=(ro (runW (R167_0 a0 a1 (a0.length:Int)) (((a0.length:Int) - 0:Int).toNat+1) 0) false (sumE (fun _=>true) (fun p21=>true)))
def v167_0 (a0:List AV) (a1:Int):Int:=(ro (runW (R167_0 a0 a1 (a0.length:Int)) (((a0.length:Int) - 0:Int).toNat+1) 0) 0 (sumE (fun _=>(-1)) (fun p21=>p21)))
theorem e167 (a0:List AV) (a1:Int):funA c167 0 167 [AV.sl [.int .i64] a0,Ai a1]=(ro (runW (R167_0 a0 a1 (a0.length:Int)) (((a0.length:Int) - 0:Int).toNat+1) 0) none (sumE (fun _=>some (Ai (-1))) (fun p21=>some (Ai p21)))):=by kernel_rfl
def m167:TModel
 | [.sl g0 a0,.int .i64 a1]=>bif ctsEq g0 ([.int .i64]) then some (q167 a0 a1,AV.int .i64 (v167_0 a0 a1)) else none
 | _=>none
theorem k167:Known Tryz.prog 167:=⟨Tryz.f167,Tryz.func167,by kernel_rfl,by kernel_rfl⟩
theorem meets167:Meets Tryz.prog 167 m167:=by
 refine mt (lvl:=0) (cf:=c167) rfl mixed k167 Tryz.func167 (by kernel_rfl) (loops_cons ok167_0 noLoop) allT_nil allM_nil noI fun xs r h=>?_
 unfold m167 at h
 split at h
 ·rename_i g0 a0 a1
  obtain ⟨hg,h⟩:=bif_pair h
  have q0:=hg
  obtain rfl:=cE q0
  obtain ⟨h1,rfl⟩:=pair_inj h
  exact (e167 a0 a1).trans ((brO (fun o:Option (Unit ⊕ Int)=>some (Ai (ro o 0 (sumE (fun _=>(-1)) (fun p21=>p21))))) (brS (fun o:Unit ⊕ Int=>some (Ai ((sumE (fun _=>(-1)) (fun p21=>p21)) o))) (fun _=>(fun _=>rfl)) (fun p21=>(fun _=>rfl)))) h1)
 ·cases h
noncomputable def c107:Cfg:=cfg Tryz.prog [(107,999,[4])] [(167,m167)] [] [] []
def q107 (a0:List AV) (a1:Int):Bool:=q167 a0 a1
def v107_0 (a0:List AV) (a1:Int):Bool:=decide ((v167_0 a0 a1) ≥ 0)
theorem e107 (a0:List AV) (a1:Int):funA c107 0 107 [AV.sl [.int .i64] a0,Ai a1]=(bif q167 a0 a1 then some (AV.bool (decide ((v167_0 a0 a1) ≥ 0)))
 else none):=by kernel_rfl
def m107:TModel
 | [.sl g0 a0,.int .i64 a1]=>bif ctsEq g0 ([.int .i64]) then some (q107 a0 a1,AV.bool (v107_0 a0 a1)) else none
 | _=>none
theorem k107:Known Tryz.prog 107:=⟨Tryz.f107,Tryz.func107,by kernel_rfl,by kernel_rfl⟩
theorem meets107:Meets Tryz.prog 107 m107:=by
 refine mt (lvl:=0) (cf:=c107) rfl mixed k107 Tryz.func107 (by kernel_rfl) noLoop (allT_cons meets167 allT_nil) allM_nil noI fun xs r h=>?_
 unfold m107 at h
 split at h
 ·rename_i g0 a0 a1
  obtain ⟨hg,h⟩:=bif_pair h
  have q0:=hg
  obtain rfl:=cE q0
  obtain ⟨h1,rfl⟩:=pair_inj h
  exact (e107 a0 a1).trans ((brL1 (fun _=>rfl)) h1)
 ·cases h
noncomputable def c108:Cfg:=cfg Tryz.prog [(108,999,[2])] [] [] [] []
def v108_0 (a0:Int):Bool:=(bif decide (a0 ≥ (-1000)) then decide (a0≤1000) else false)
theorem e108 (a0:Int):funA c108 0 108 [Ai a0]=(bif decide (a0 ≥ (-1000)) then some (AV.bool (decide (a0≤1000)))
 else some (AV.bool false)):=by kernel_rfl
def m108:TModel
 | [.int .i64 a0]=>some (true,AV.bool (v108_0 a0))
 | _=>none
theorem k108:Known Tryz.prog 108:=⟨Tryz.f108,Tryz.func108,by kernel_rfl,by kernel_rfl⟩
theorem meets108:Meets Tryz.prog 108 m108:=by
 refine mt (lvl:=0) (cf:=c108) rfl mixed k108 Tryz.func108 (by kernel_rfl) noLoop allT_nil allM_nil noI fun xs r h=>?_
 unfold m108 at h
 split at h
 ·rename_i a0
  obtain ⟨h1,rfl⟩:=pair_inj h
  exact (e108 a0).trans (of_tt (brT (fun b=>some (AV.bool (bif b then decide (a0≤1000) else false))) (fun _=>rfl) (fun _=>rfl)))
 ·cases h
def G39_4 {β:Type} (t50:List AV) (t51:Int) (t52:Int) (t103:List AV) (t104:Int) (h0_0:List AV) (h0_1:List AV) (h0_2:List AV) (h1_0:Int) (h1_1:Int) (t105:Int) (N:(Int)→β) (K:(Unit ⊕ Unit)→β) (d:β):β:=(bif decide (t105<t104) then (bif (decide (0≤t105) && decide (t105<(t103.length:Int))) then (bif !(decide (fI (t103.getD t105.toNat .undef) 0<h1_0) == decide (t105<h1_1)) then K (.inr ())
 else N (IntKind.i64.wrap (t105+1)))
 else d)
 else K (.inl ()))
def F39_4 (t50:List AV) (t51 t52:Int) (t103:List AV) (t104:Int) (h0_0 h0_1 h0_2:List AV) (h1_0 h1_1 t105:Int):Out (Int) (Unit ⊕ Unit):=G39_4 t50 t51 t52 t103 t104 h0_0 h0_1 h0_2 h1_0 h1_1 t105 .next .stop .fail
def R39_4 (t50:List AV) (t51 t52:Int) (t103:List AV) (t104:Int) (h0_0 h0_1 h0_2:List AV) (h1_0 h1_1:Int):(Int)→Out (Int) (Unit ⊕ Unit):=fun s:Int=>F39_4 t50 t51 t52 t103 t104 h0_0 h0_1 h0_2 h1_0 h1_1 s
def E39_4 (t50:List AV) (t51 t52:Int) (t103:List AV) (t104:Int) (h0_0 h0_1 h0_2:List AV) (h1_0 h1_1:Int):(Int)→St:=fun s:Int=>⟨[(1,AV.ptr [0,1] 0 0),(6,AV.ptr [0,6] 0 0),(50,AV.sl [.int .i64,.int .i64] t50),(51,Ai t51),(52,Ai t52),(103,AV.sl [.int .i64] t103),(104,Ai t104),(105,Ai s)],[([0,1],⟨true,[],[AV.agg [AV.sl [.int .i64] h0_0,AV.sl [.int .i64] h0_1,AV.sl [.int .i64,.int .i64] h0_2]]⟩),([0,6],⟨true,[],[AV.agg [Ai h1_0,Ai h1_1]]⟩)]⟩
def K39_4 (t50:List AV) (t51 t52:Int) (t103:List AV) (t104:Int) (h0_0 h0_1 h0_2:List AV) (h1_0 h1_1:Int) (k:Kont):(Unit ⊕ Unit)→Option AV:=sumE (fun _:Unit=>k (.exit 4) ⟨[(1,AV.ptr [0,1] 0 0),(50,AV.sl [.int .i64,.int .i64] t50),(51,Ai t51),(52,Ai t52)],[([0,1],⟨true,[],[AV.agg [AV.sl [.int .i64] h0_0,AV.sl [.int .i64] h0_1,AV.sl [.int .i64,.int .i64] h0_2]]⟩),([0,6],⟨true,[],[AV.agg [Ai h1_0,Ai h1_1]]⟩)]⟩) (fun _:Unit=>k .ret ⟨[(2,AV.bool false)],[([0,1],⟨true,[],[AV.agg [AV.sl [.int .i64] h0_0,AV.sl [.int .i64] h0_1,AV.sl [.int .i64,.int .i64] h0_2]]⟩),([0,6],⟨true,[],[AV.agg [Ai h1_0,Ai h1_1]]⟩)]⟩)
def l39_4:LModel:=fun _ _ st k=>match st with
 | ⟨[(1,.ptr g0 g1 g2),(6,.ptr g3 g4 g5),(50,.sl g6 t50),(51,.int .i64 t51),(52,.int .i64 t52),(103,.sl g7 t103),(104,.int .i64 t104),(105,.int .i64 t105)],[(g8,⟨true,[],[.agg [.sl g9 h0_0,.sl g10 h0_1,.sl g11 h0_2]]⟩),(g12,⟨true,[],[.agg [.int .i64 h1_0,.int .i64 h1_1]]⟩)]⟩=>bif nmEq g0 ([0,1]) && Nat.beq g1 0 && Nat.beq g2 0 && nmEq g3 ([0,6]) && Nat.beq g4 0 && Nat.beq g5 0 && ctsEq g6 ([.int .i64,.int .i64]) && ctsEq g7 ([.int .i64]) && nmEq g8 ([0,1]) && ctsEq g9 ([.int .i64]) && ctsEq g10 ([.int .i64]) && ctsEq g11 ([.int .i64,.int .i64]) && nmEq g12 ([0,6]) then ro (runW (R39_4 t50 t51 t52 t103 t104 h0_0 h0_1 h0_2 h1_0 h1_1) ((t104 - t105:Int).toNat+1) t105) none (K39_4 t50 t51 t52 t103 t104 h0_0 h0_1 h0_2 h1_0 h1_1 k) else none
 | _=>none
def G39_2 {β:Type} (t50:List AV) (t51:Int) (h0_0:List AV) (h0_1:List AV) (h0_2:List AV) (t52:Int) (N:(Int)→β) (K:(Unit ⊕ (Int × Int) ⊕ (Int × Int))→β) (d:β):β:=(bif decide (t52<t51) then (bif (decide (0≤t52) && decide (t52<(t50.length:Int))) then (bif !(v108_0 (fI (t50.getD t52.toNat .undef) 0)) then K (.inr (.inl (fI (t50.getD t52.toNat .undef) 0,fI (t50.getD t52.toNat .undef) 1)))
 else (bif decide (fI (t50.getD t52.toNat .undef) 1<0) then K (.inr (.inl (fI (t50.getD t52.toNat .undef) 0,fI (t50.getD t52.toNat .undef) 1)))
 else (bif decide (fI (t50.getD t52.toNat .undef) 1 > (h0_0.length:Int)) then K (.inr (.inl (fI (t50.getD t52.toNat .undef) 0,fI (t50.getD t52.toNat .undef) 1)))
 else (bif decide (t52 > 0) then (bif (decide (0≤IntKind.i64.wrap (t52 - 1)) && decide (IntKind.i64.wrap (t52 - 1)<(h0_2.length:Int))) then (bif decide (fI (t50.getD t52.toNat .undef) 0≤fI (h0_2.getD (IntKind.i64.wrap (t52 - 1)).toNat .undef) 0) then K (.inr (.inl (fI (t50.getD t52.toNat .undef) 0,fI (t50.getD t52.toNat .undef) 1)))
 else (bif (decide (0≤IntKind.i64.wrap (t52 - 1)) && decide (IntKind.i64.wrap (t52 - 1)<(h0_2.length:Int))) then (bif decide (fI (t50.getD t52.toNat .undef) 1<fI (h0_2.getD (IntKind.i64.wrap (t52 - 1)).toNat .undef) 1) then K (.inr (.inl (fI (t50.getD t52.toNat .undef) 0,fI (t50.getD t52.toNat .undef) 1)))
 else (ro (runW (R39_4 t50 t51 t52 h0_0 (h0_0.length:Int) h0_0 h0_1 h0_2 (fI (t50.getD t52.toNat .undef) 0) (fI (t50.getD t52.toNat .undef) 1)) (((h0_0.length:Int) - 0:Int).toNat+1) 0) d (sumE (fun _=>N (IntKind.i64.wrap (t52+1))) (fun _=>K (.inr (.inr (fI (t50.getD t52.toNat .undef) 0,fI (t50.getD t52.toNat .undef) 1)))))))
 else d))
 else d)
 else (ro (runW (R39_4 t50 t51 t52 h0_0 (h0_0.length:Int) h0_0 h0_1 h0_2 (fI (t50.getD t52.toNat .undef) 0) (fI (t50.getD t52.toNat .undef) 1)) (((h0_0.length:Int) - 0:Int).toNat+1) 0) d (sumE (fun _=>N (IntKind.i64.wrap (t52+1))) (fun _=>K (.inr (.inr (fI (t50.getD t52.toNat .undef) 0,fI (t50.getD t52.toNat .undef) 1))))))))))
 else d)
 else K (.inl ()))
def F39_2 (t50:List AV) (t51:Int) (h0_0 h0_1 h0_2:List AV) (t52:Int):Out (Int) (Unit ⊕ (Int × Int) ⊕ (Int × Int)):=G39_2 t50 t51 h0_0 h0_1 h0_2 t52 .next .stop .fail
def R39_2 (t50:List AV) (t51:Int) (h0_0 h0_1 h0_2:List AV):(Int)→Out (Int) (Unit ⊕ (Int × Int) ⊕ (Int × Int)):=fun s:Int=>F39_2 t50 t51 h0_0 h0_1 h0_2 s
def E39_2 (t50:List AV) (t51:Int) (h0_0 h0_1 h0_2:List AV):(Int)→St:=fun s:Int=>⟨[(1,AV.ptr [0,1] 0 0),(50,AV.sl [.int .i64,.int .i64] t50),(51,Ai t51),(52,Ai s)],[([0,1],⟨true,[],[AV.agg [AV.sl [.int .i64] h0_0,AV.sl [.int .i64] h0_1,AV.sl [.int .i64,.int .i64] h0_2]]⟩)]⟩
def K39_2 (t50:List AV) (t51:Int) (h0_0 h0_1 h0_2:List AV) (k:Kont):(Unit ⊕ (Int × Int) ⊕ (Int × Int))→Option AV:=sumE (fun _:Unit=>k (.exit 2) ⟨[],[([0,1],⟨true,[],[AV.agg [AV.sl [.int .i64] h0_0,AV.sl [.int .i64] h0_1,AV.sl [.int .i64,.int .i64] h0_2]]⟩)]⟩) (sumE (fun p:Int × Int=>k .ret ⟨[(2,AV.bool false)],[([0,1],⟨true,[],[AV.agg [AV.sl [.int .i64] h0_0,AV.sl [.int .i64] h0_1,AV.sl [.int .i64,.int .i64] h0_2]]⟩),([1,6],⟨true,[],[AV.agg [Ai p.1,Ai p.2]]⟩)]⟩) (fun p:Int × Int=>k .ret ⟨[(2,AV.bool false)],[([0,1],⟨true,[],[AV.agg [AV.sl [.int .i64] h0_0,AV.sl [.int .i64] h0_1,AV.sl [.int .i64,.int .i64] h0_2]]⟩),([0,6],⟨true,[],[AV.agg [Ai p.1,Ai p.2]]⟩)]⟩))
def l39_2:LModel:=fun _ _ st k=>match st with
 | ⟨[(1,.ptr g0 g1 g2),(50,.sl g3 t50),(51,.int .i64 t51),(52,.int .i64 t52)],[(g4,⟨true,[],[.agg [.sl g5 h0_0,.sl g6 h0_1,.sl g7 h0_2]]⟩)]⟩=>bif nmEq g0 ([0,1]) && Nat.beq g1 0 && Nat.beq g2 0 && ctsEq g3 ([.int .i64,.int .i64]) && nmEq g4 ([0,1]) && ctsEq g5 ([.int .i64]) && ctsEq g6 ([.int .i64]) && ctsEq g7 ([.int .i64,.int .i64]) then ro (runW (R39_2 t50 t51 h0_0 h0_1 h0_2) ((t51 - t52:Int).toNat+1) t52) none (K39_2 t50 t51 h0_0 h0_1 h0_2 k) else none
 | _=>none
def G39_0 {β:Type} (t35:List AV) (t36:Int) (h0_0:List AV) (h0_1:List AV) (h0_2:List AV) (t37:Int) (N:(Int)→β) (K:(Unit ⊕ Unit)→β) (d:β):β:=(bif decide (t37<t36) then (bif (decide (0≤t37) && decide (t37<(t35.length:Int))) then (bif (decide (0≤0) && decide (0≤t37) && decide (t37≤(h0_1.length:Int))) then (bif q107 ((h0_1.take (Int.toNat t37)).drop (Int.toNat 0)) (fI (t35.getD t37.toNat .undef) 0) then (bif (v107_0 ((h0_1.take (Int.toNat t37)).drop (Int.toNat 0)) (fI (t35.getD t37.toNat .undef) 0)) then K (.inr ())
 else N (IntKind.i64.wrap (t37+1)))
 else d)
 else d)
 else d)
 else K (.inl ()))
def F39_0 (t35:List AV) (t36:Int) (h0_0 h0_1 h0_2:List AV) (t37:Int):Out (Int) (Unit ⊕ Unit):=G39_0 t35 t36 h0_0 h0_1 h0_2 t37 .next .stop .fail
def R39_0 (t35:List AV) (t36:Int) (h0_0 h0_1 h0_2:List AV):(Int)→Out (Int) (Unit ⊕ Unit):=fun s:Int=>F39_0 t35 t36 h0_0 h0_1 h0_2 s
def E39_0 (t35:List AV) (t36:Int) (h0_0 h0_1 h0_2:List AV):(Int)→St:=fun s:Int=>⟨[(1,AV.ptr [0,1] 0 0),(35,AV.sl [.int .i64] t35),(36,Ai t36),(37,Ai s)],[([0,1],⟨true,[],[AV.agg [AV.sl [.int .i64] h0_0,AV.sl [.int .i64] h0_1,AV.sl [.int .i64,.int .i64] h0_2]]⟩)]⟩
def K39_0 (t35:List AV) (t36:Int) (h0_0 h0_1 h0_2:List AV) (k:Kont):(Unit ⊕ Unit)→Option AV:=sumE (fun _:Unit=>k (.exit 0) ⟨[(1,AV.ptr [0,1] 0 0)],[([0,1],⟨true,[],[AV.agg [AV.sl [.int .i64] h0_0,AV.sl [.int .i64] h0_1,AV.sl [.int .i64,.int .i64] h0_2]]⟩)]⟩) (fun _:Unit=>k .ret ⟨[(2,AV.bool false)],[([0,1],⟨true,[],[AV.agg [AV.sl [.int .i64] h0_0,AV.sl [.int .i64] h0_1,AV.sl [.int .i64,.int .i64] h0_2]]⟩)]⟩)
def l39_0:LModel:=fun _ _ st k=>match st with
 | ⟨[(1,.ptr g0 g1 g2),(35,.sl g3 t35),(36,.int .i64 t36),(37,.int .i64 t37)],[(g4,⟨true,[],[.agg [.sl g5 h0_0,.sl g6 h0_1,.sl g7 h0_2]]⟩)]⟩=>bif nmEq g0 ([0,1]) && Nat.beq g1 0 && Nat.beq g2 0 && ctsEq g3 ([.int .i64]) && nmEq g4 ([0,1]) && ctsEq g5 ([.int .i64]) && ctsEq g6 ([.int .i64]) && ctsEq g7 ([.int .i64,.int .i64]) then ro (runW (R39_0 t35 t36 h0_0 h0_1 h0_2) ((t36 - t37:Int).toNat+1) t37) none (K39_0 t35 t36 h0_0 h0_1 h0_2 k) else none
 | _=>none
noncomputable def c39:Cfg:=cfg Tryz.prog [(39,0,[1,35,36,37]),(39,2,[1,50,51,52]),(39,4,[1,6,50,51,52,103,104,105]),(39,999,[2]),(39,1000,[1]),(39,1001,[1,35,36,37]),(39,1002,[]),(39,1003,[1,50,51,52]),(39,1004,[1,50,51,52]),(39,1005,[1,6,50,51,52,103,104,105])] [(95,m95),(106,m106),(107,m107),(108,m108)] [] [] [(39,0,l39_0),(39,2,l39_2),(39,4,l39_4)]
theorem s39_4 (t50:List AV) (t51 t52:Int) (t103:List AV) (t104:Int) (h0_0 h0_1 h0_2:List AV) (h1_0 h1_1:Int) (ce:CallE) (k:Kont) (s:Int) (next:St→Option AV):stepA (codeA c39 ce [] 39 4 (sub [1,1,1,0,1,0,0,1,1,0,0,1,1,1,0,0] (body Tryz.f39))) (normA [] [1,6,50,51,52,103,104,105]) next ((E39_4 t50 t51 t52 t103 t104 h0_0 h0_1 h0_2 h1_0 h1_1) s) k=G39_4 t50 t51 t52 t103 t104 h0_0 h0_1 h0_2 h1_0 h1_1 s (fun s=>next ((E39_4 t50 t51 t52 t103 t104 h0_0 h0_1 h0_2 h1_0 h1_1) s)) (K39_4 t50 t51 t52 t103 t104 h0_0 h0_1 h0_2 h1_0 h1_1 k) none:=by kernel_rfl
theorem st39_4 (t50:List AV) (t51 t52:Int) (t103:List AV) (t104:Int) (h0_0 h0_1 h0_2:List AV) (h1_0 h1_1:Int) (ce:CallE) (k:Kont) (s:Int) (next:St→Option AV):stepA (codeA c39 ce [] 39 4 (sub [1,1,1,0,1,0,0,1,1,0,0,1,1,1,0,0] (body Tryz.f39))) (normA [] [1,6,50,51,52,103,104,105]) next ((E39_4 t50 t51 t52 t103 t104 h0_0 h0_1 h0_2 h1_0 h1_1) s) k=(R39_4 t50 t51 t52 t103 t104 h0_0 h0_1 h0_2 h1_0 h1_1 s).el none (fun s=>next ((E39_4 t50 t51 t52 t103 t104 h0_0 h0_1 h0_2 h1_0 h1_1) s)) (K39_4 t50 t51 t52 t103 t104 h0_0 h0_1 h0_2 h1_0 h1_1 k):=(s39_4 t50 t51 t52 t103 t104 h0_0 h0_1 h0_2 h1_0 h1_1 ce k s next).trans (by unfold R39_4;unfold F39_4 G39_4;simp only [el_cond,el_ro,el_sum,el_fail,el_next,el_stop] <;> rfl)
theorem ok39_4 {ce:CallE}:LoopOK c39 ce [] 39 4 (sub [1,1,1,0,1,0,0,1,1,0,0,1,1,1,0,0] (body Tryz.f39)):=by
 intro m hm st k r h
 obtain rfl:l39_4=m:=Option.some.inj hm
 unfold l39_4 at h
 split at h
 ·rename_i g0 g1 g2 g3 g4 g5 g6 t50 t51 t52 g7 t103 t104 t105 g8 g9 h0_0 g10 h0_1 g11 h0_2 g12 h1_0 h1_1
  obtain ⟨hg,h⟩:=bif_some h
  simp only [Bool.and_eq_true] at hg
  obtain ⟨⟨⟨⟨⟨⟨⟨⟨⟨⟨⟨⟨q0,q1⟩,q2⟩,q3⟩,q4⟩,q5⟩,q6⟩,q7⟩,q8⟩,q9⟩,q10⟩,q11⟩,q12⟩:=hg
  obtain rfl:=nE q0
  obtain rfl:=bE q1
  obtain rfl:=bE q2
  obtain rfl:=nE q3
  obtain rfl:=bE q4
  obtain rfl:=bE q5
  obtain rfl:=cE q6
  obtain rfl:=cE q7
  obtain rfl:=nE q8
  obtain rfl:=cE q9
  obtain rfl:=cE q10
  obtain rfl:=cE q11
  obtain rfl:=nE q12
  refine ⟨((t104 - t105:Int).toNat+1),?_⟩
  rw [← h]
  exact loop_run (E39_4 t50 t51 t52 t103 t104 h0_0 h0_1 h0_2 h1_0 h1_1) (K39_4 t50 t51 t52 t103 t104 h0_0 h0_1 h0_2 h1_0 h1_1 k) (st39_4 t50 t51 t52 t103 t104 h0_0 h0_1 h0_2 h1_0 h1_1 ce k) _ t105
 ·cases h
theorem s39_2 (t50:List AV) (t51:Int) (h0_0 h0_1 h0_2:List AV) (ce:CallE) (k:Kont) (s:Int) (next:St→Option AV):stepA (codeA c39 ce [] 39 2 (sub [1,1,1,0,1,0,0] (body Tryz.f39))) (normA [] [1,50,51,52]) next ((E39_2 t50 t51 h0_0 h0_1 h0_2) s) k=G39_2 t50 t51 h0_0 h0_1 h0_2 s (fun s=>next ((E39_2 t50 t51 h0_0 h0_1 h0_2) s)) (K39_2 t50 t51 h0_0 h0_1 h0_2 k) none:=by kernel_rfl
theorem st39_2 (t50:List AV) (t51:Int) (h0_0 h0_1 h0_2:List AV) (ce:CallE) (k:Kont) (s:Int) (next:St→Option AV):stepA (codeA c39 ce [] 39 2 (sub [1,1,1,0,1,0,0] (body Tryz.f39))) (normA [] [1,50,51,52]) next ((E39_2 t50 t51 h0_0 h0_1 h0_2) s) k=(R39_2 t50 t51 h0_0 h0_1 h0_2 s).el none (fun s=>next ((E39_2 t50 t51 h0_0 h0_1 h0_2) s)) (K39_2 t50 t51 h0_0 h0_1 h0_2 k):=(s39_2 t50 t51 h0_0 h0_1 h0_2 ce k s next).trans (by unfold R39_2;unfold F39_2 G39_2;simp only [el_cond,el_ro,el_sum,el_fail,el_next,el_stop] <;> rfl)
theorem ok39_2 {ce:CallE}:LoopOK c39 ce [] 39 2 (sub [1,1,1,0,1,0,0] (body Tryz.f39)):=by
 intro m hm st k r h
 obtain rfl:l39_2=m:=Option.some.inj hm
 unfold l39_2 at h
 split at h
 ·rename_i g0 g1 g2 g3 t50 t51 t52 g4 g5 h0_0 g6 h0_1 g7 h0_2
  obtain ⟨hg,h⟩:=bif_some h
  simp only [Bool.and_eq_true] at hg
  obtain ⟨⟨⟨⟨⟨⟨⟨q0,q1⟩,q2⟩,q3⟩,q4⟩,q5⟩,q6⟩,q7⟩:=hg
  obtain rfl:=nE q0
  obtain rfl:=bE q1
  obtain rfl:=bE q2
  obtain rfl:=cE q3
  obtain rfl:=nE q4
  obtain rfl:=cE q5
  obtain rfl:=cE q6
  obtain rfl:=cE q7
  refine ⟨((t51 - t52:Int).toNat+1),?_⟩
  rw [← h]
  exact loop_run (E39_2 t50 t51 h0_0 h0_1 h0_2) (K39_2 t50 t51 h0_0 h0_1 h0_2 k) (st39_2 t50 t51 h0_0 h0_1 h0_2 ce k) _ t52
 ·cases h
theorem s39_0 (t35:List AV) (t36:Int) (h0_0 h0_1 h0_2:List AV) (ce:CallE) (k:Kont) (s:Int) (next:St→Option AV):stepA (codeA c39 ce [] 39 0 (sub [1,1,0,1,0,0] (body Tryz.f39))) (normA [] [1,35,36,37]) next ((E39_0 t35 t36 h0_0 h0_1 h0_2) s) k=G39_0 t35 t36 h0_0 h0_1 h0_2 s (fun s=>next ((E39_0 t35 t36 h0_0 h0_1 h0_2) s)) (K39_0 t35 t36 h0_0 h0_1 h0_2 k) none:=by kernel_rfl
theorem st39_0 (t35:List AV) (t36:Int) (h0_0 h0_1 h0_2:List AV) (ce:CallE) (k:Kont) (s:Int) (next:St→Option AV):stepA (codeA c39 ce [] 39 0 (sub [1,1,0,1,0,0] (body Tryz.f39))) (normA [] [1,35,36,37]) next ((E39_0 t35 t36 h0_0 h0_1 h0_2) s) k=(R39_0 t35 t36 h0_0 h0_1 h0_2 s).el none (fun s=>next ((E39_0 t35 t36 h0_0 h0_1 h0_2) s)) (K39_0 t35 t36 h0_0 h0_1 h0_2 k):=(s39_0 t35 t36 h0_0 h0_1 h0_2 ce k s next).trans (by unfold R39_0;unfold F39_0 G39_0;simp only [el_cond,el_ro,el_sum,el_fail,el_next,el_stop] <;> rfl)
theorem ok39_0 {ce:CallE}:LoopOK c39 ce [] 39 0 (sub [1,1,0,1,0,0] (body Tryz.f39)):=by
 intro m hm st k r h
 obtain rfl:l39_0=m:=Option.some.inj hm
 unfold l39_0 at h
 split at h
 ·rename_i g0 g1 g2 g3 t35 t36 t37 g4 g5 h0_0 g6 h0_1 g7 h0_2
  obtain ⟨hg,h⟩:=bif_some h
  simp only [Bool.and_eq_true] at hg
  obtain ⟨⟨⟨⟨⟨⟨⟨q0,q1⟩,q2⟩,q3⟩,q4⟩,q5⟩,q6⟩,q7⟩:=hg
  obtain rfl:=nE q0
  obtain rfl:=bE q1
  obtain rfl:=bE q2
  obtain rfl:=cE q3
  obtain rfl:=nE q4
  obtain rfl:=cE q5
  obtain rfl:=cE q6
  obtain rfl:=cE q7
  refine ⟨((t36 - t37:Int).toNat+1),?_⟩
  rw [← h]
  exact loop_run (E39_0 t35 t36 h0_0 h0_1 h0_2) (K39_0 t35 t36 h0_0 h0_1 h0_2 k) (st39_0 t35 t36 h0_0 h0_1 h0_2 ce k) _ t37
 ·cases h
def q39 (xa xb xc:List AV):Bool:=(q95 xa && (bif !(v95_0 xa) then true else (bif !decide ((xb.length:Int)=(xa.length:Int)) then true else (q106 xb 0 999 && (bif !(v106_0 xb 0 999) then true else (bif decide ((xc.length:Int) > 2001) then true else (ro (runW (R39_0 xb (xb.length:Int) xa xb xc) (((xb.length:Int) - 0:Int).toNat+1) 0) false (sumE (fun _=>(ro (runW (R39_2 xc (xc.length:Int) xa xb xc) (((xc.length:Int) - 0:Int).toNat+1) 0) false (sumE (fun _=>true) (sumE (fun p28=>true) (fun p29=>true))))) (fun _=>true)))))))))
def v39_0 (xa xb xc:List AV):Bool:=(bif !(v95_0 xa) then false else (bif !decide ((xb.length:Int)=(xa.length:Int)) then false else (bif !(v106_0 xb 0 999) then false else (bif decide ((xc.length:Int) > 2001) then false else (ro (runW (R39_0 xb (xb.length:Int) xa xb xc) (((xb.length:Int) - 0:Int).toNat+1) 0) false (sumE (fun _=>(ro (runW (R39_2 xc (xc.length:Int) xa xb xc) (((xc.length:Int) - 0:Int).toNat+1) 0) false (sumE (fun _=>true) (sumE (fun p28=>false) (fun p29=>false))))) (fun _=>false)))))))
theorem e39 (xa xb xc:List AV):funA c39 0 39 [AV.agg [AV.sl [.int .i64] xa,AV.sl [.int .i64] xb,AV.sl [.int .i64,.int .i64] xc]]=(bif q95 xa then (bif !(v95_0 xa) then some (AV.bool false)
 else (bif !decide ((xb.length:Int)=(xa.length:Int)) then some (AV.bool false)
 else (bif q106 xb 0 999 then (bif !(v106_0 xb 0 999) then some (AV.bool false)
 else (bif decide ((xc.length:Int) > 2001) then some (AV.bool false)
 else (ro (runW (R39_0 xb (xb.length:Int) xa xb xc) (((xb.length:Int) - 0:Int).toNat+1) 0) none (sumE (fun _=>(ro (runW (R39_2 xc (xc.length:Int) xa xb xc) (((xc.length:Int) - 0:Int).toNat+1) 0) none (sumE (fun _=>some (AV.bool true)) (sumE (fun p28=>some (AV.bool false)) (fun p29=>some (AV.bool false)))))) (fun _=>some (AV.bool false))))))
 else none)))
 else none):=by kernel_rfl
theorem r39 (xa xb xc:List AV) (h:q39 xa xb xc=true):funA c39 0 39 [AV.agg [AV.sl [.int .i64] xa,AV.sl [.int .i64] xb,AV.sl [.int .i64,.int .i64] xc]]=some (AV.bool (v39_0 xa xb xc)):=by
 refine (e39 xa xb xc).trans ?_
 unfold q39 at h
 unfold v39_0
 refine ifG (fun hc=>?_) (fun hc=>?_) <;> first|rw [hc] at h ⊢|rw [hc] at h|rw [hc]|skip
 ·refine ifG (fun hc=>?_) (fun hc=>?_) <;> first|rw [hc] at h ⊢|rw [hc] at h|rw [hc]|skip
  ·rfl
  ·refine ifG (fun hc=>?_) (fun hc=>?_) <;> first|rw [hc] at h ⊢|rw [hc] at h|rw [hc]|skip
   ·rfl
   ·refine ifG (fun hc=>?_) (fun hc=>?_) <;> first|rw [hc] at h ⊢|rw [hc] at h|rw [hc]|skip
    ·refine ifG (fun hc=>?_) (fun hc=>?_) <;> first|rw [hc] at h ⊢|rw [hc] at h|rw [hc]|skip
     ·rfl
     ·refine ifG (fun hc=>?_) (fun hc=>?_) <;> first|rw [hc] at h ⊢|rw [hc] at h|rw [hc]|skip
      ·rfl
      ·refine roG (fun hc=>?_) (fun r hc=>?_) <;> first|rw [hc] at h ⊢|rw [hc] at h|rw [hc]|skip
       ·exact Bool.noConfusion h
       ·try simp only [ro] at h ⊢
        cases r with
        | inl _ =>
         try simp only [sumE] at h ⊢
         refine roG (fun hc=>?_) (fun r hc=>?_) <;> first|rw [hc] at h ⊢|rw [hc] at h|rw [hc]|skip
         ·exact Bool.noConfusion h
         ·try simp only [ro] at h ⊢
          cases r with
          | inl _ =>
           try simp only [sumE] at h ⊢
           rfl
          | inr r =>
           try simp only [sumE] at h ⊢
           cases r with
           | inl p28 =>
            try simp only [sumE] at h ⊢
            rfl
           | inr p29 =>
            try simp only [sumE] at h ⊢
            rfl
        | inr _ =>
         try simp only [sumE] at h ⊢
         rfl
    ·first|exact Bool.noConfusion h|exact Bool.noConfusion hc
 ·first|exact Bool.noConfusion h|exact Bool.noConfusion hc
def m39:TModel
 | [.agg [.sl g0 xa,.sl g1 xb,.sl g2 xc]]=>bif ctsEq g0 ([.int .i64]) && ctsEq g1 ([.int .i64]) && ctsEq g2 ([.int .i64,.int .i64]) then some (q39 xa xb xc,AV.bool (v39_0 xa xb xc)) else none
 | _=>none
theorem k39:Known Tryz.prog 39:=⟨Tryz.f39,Tryz.func39,by kernel_rfl,by kernel_rfl⟩
theorem meets39:Meets Tryz.prog 39 m39:=by
 refine mt (lvl:=0) (cf:=c39) rfl mixed k39 Tryz.func39 (by kernel_rfl) (loops_cons ok39_0 (loops_cons ok39_2 (loops_cons ok39_4 noLoop))) (allT_cons meets95 (allT_cons meets106 (allT_cons meets107 (allT_cons meets108 allT_nil)))) allM_nil noI fun xs r h=>?_
 unfold m39 at h
 split at h
 ·rename_i g0 xa g1 xb g2 xc
  obtain ⟨hg,h⟩:=bif_pair h
  simp only [Bool.and_eq_true] at hg
  obtain ⟨⟨q0,q1⟩,q2⟩:=hg
  obtain rfl:=cE q0
  obtain rfl:=cE q1
  obtain rfl:=cE q2
  obtain ⟨h1,rfl⟩:=pair_inj h
  exact r39 xa xb xc h1
 ·cases h
noncomputable def c257:Cfg:=cfg Tryz.prog [(257,999,[2])] [] [] [] []
def q257 (a0:Int):Bool:=(!decide (10007=0) && (bif decide (Int.tmod a0 10007<0) then !decide (10007=0) else !decide (10007=0)))
def v257_0 (a0:Int):Int:=(bif decide (Int.tmod a0 10007<0) then Int.tmod (IntKind.i64.wrap (IntKind.i64.wrap (IntKind.i64.wrap (Int.tmod a0 10007+10007)*1103)+2345)) 10007 else Int.tmod (IntKind.i64.wrap (IntKind.i64.wrap (Int.tmod a0 10007*1103)+2345)) 10007)
theorem e257 (a0:Int):funA c257 0 257 [Ai a0]=(bif !decide (10007=0) then (bif decide (Int.tmod a0 10007<0) then (bif !decide (10007=0) then some (Ai (Int.tmod (IntKind.i64.wrap (IntKind.i64.wrap (IntKind.i64.wrap (Int.tmod a0 10007+10007)*1103)+2345)) 10007))
 else none)
 else (bif !decide (10007=0) then some (Ai (Int.tmod (IntKind.i64.wrap (IntKind.i64.wrap (Int.tmod a0 10007*1103)+2345)) 10007))
 else none))
 else none):=by kernel_rfl
def m257:TModel
 | [.int .i64 a0]=>some (q257 a0,AV.int .i64 (v257_0 a0))
 | _=>none
theorem k257:Known Tryz.prog 257:=⟨Tryz.f257,Tryz.func257,by kernel_rfl,by kernel_rfl⟩
theorem meets257:Meets Tryz.prog 257 m257:=by
 refine mt (lvl:=0) (cf:=c257) rfl mixed k257 Tryz.func257 (by kernel_rfl) noLoop allT_nil allM_nil noI fun xs r h=>?_
 unfold m257 at h
 split at h
 ·rename_i a0
  obtain ⟨h1,rfl⟩:=pair_inj h
  exact (e257 a0).trans ((brL (br (fun b=>some (Ai (bif b then Int.tmod (IntKind.i64.wrap (IntKind.i64.wrap (IntKind.i64.wrap (Int.tmod a0 10007+10007)*1103)+2345)) 10007 else Int.tmod (IntKind.i64.wrap (IntKind.i64.wrap (Int.tmod a0 10007*1103)+2345)) 10007))) (brL1 (fun _=>rfl)) (brL1 (fun _=>rfl)))) h1)
 ·cases h
def q259 (b0:List AV):Bool:=decide (b0.length*8≤140737488355328)
def v259_0 (b0:List AV):List AV:=sortL b0
def m259:WModel:=sortM
theorem k259:Known Tryz.prog 259:=⟨Tryz.f259,Tryz.func259,by kernel_rfl,by kernel_rfl⟩
theorem meets259:MeetsM Tryz.prog 259 m259:=sort_meets ⟨k259,fun blk off cap zs w h1 h2 h3=>Any.slices_Sort_int lays189 blk off cap zs w h1 h2 h3,fun p cap w=>Any.slices_Sort_int_none lays189 p cap w⟩
noncomputable def c244:Cfg:=cfg Tryz.prog [(244,999,[2])] [(135,m135)] [(259,.w m259)] [] []
def q244 (a0:List AV):Bool:=(q135 a0 && q259 (v135_0 a0))
def v244_0 (a0:List AV):List AV:=(v259_0 (v135_0 a0))
theorem e244 (a0:List AV):funA c244 0 244 [AV.sl [.int .i64] a0]=(bif q135 a0 then (bif q259 (v135_0 a0) then some (AV.fl [.int .i64] (v259_0 (v135_0 a0)))
 else none)
 else none):=by kernel_rfl
def m244:TModel
 | [.sl g0 a0]=>bif ctsEq g0 ([.int .i64]) then some (q244 a0,AV.fl [.int .i64] (v244_0 a0)) else none
 | _=>none
theorem k244:Known Tryz.prog 244:=⟨Tryz.f244,Tryz.func244,by kernel_rfl,by kernel_rfl⟩
theorem meets244:Meets Tryz.prog 244 m244:=by
 refine mt (lvl:=0) (cf:=c244) rfl mixed k244 Tryz.func244 (by kernel_rfl) noLoop (allT_cons meets135 allT_nil) (allM_cons meets259 allM_nil) noI fun xs r h=>?_
 unfold m244 at h
 split at h
 ·rename_i g0 a0
  obtain ⟨hg,h⟩:=bif_pair h
  have q0:=hg
  obtain rfl:=cE q0
  obtain ⟨h1,rfl⟩:=pair_inj h
  exact (e244 a0).trans ((brL (brL1 (fun _=>rfl))) h1)
 ·cases h
noncomputable def c258:Cfg:=cfg Tryz.prog [(258,999,[2])] [(244,m244)] [] [] []
def q258 (a0:List AV):Bool:=(bif decide ((a0.length:Int)=0) then true else (bif decide ((a0.length:Int) > 64) then true else (q244 a0 && (!decide (2=0) && (decide (0≤IntKind.i64.wrap (Int.tdiv (IntKind.i64.wrap ((a0.length:Int) - 1)) 2)) && decide (IntKind.i64.wrap (Int.tdiv (IntKind.i64.wrap ((a0.length:Int) - 1)) 2)<((v244_0 a0).length:Int)))))))
def v258_0 (a0:List AV):Int:=(bif decide ((a0.length:Int)=0) then 0 else (bif decide ((a0.length:Int) > 64) then 0 else fI ((v244_0 a0).getD (IntKind.i64.wrap (Int.tdiv (IntKind.i64.wrap ((a0.length:Int) - 1)) 2)).toNat .undef) 0))
theorem e258 (a0:List AV):funA c258 0 258 [AV.sl [.int .i64] a0]=(bif decide ((a0.length:Int)=0) then some (Ai 0)
 else (bif decide ((a0.length:Int) > 64) then some (Ai 0)
 else (bif q244 a0 then (bif !decide (2=0) then (bif (decide (0≤IntKind.i64.wrap (Int.tdiv (IntKind.i64.wrap ((a0.length:Int) - 1)) 2)) && decide (IntKind.i64.wrap (Int.tdiv (IntKind.i64.wrap ((a0.length:Int) - 1)) 2)<((v244_0 a0).length:Int))) then some (Ai (fI ((v244_0 a0).getD (IntKind.i64.wrap (Int.tdiv (IntKind.i64.wrap ((a0.length:Int) - 1)) 2)).toNat .undef) 0))
 else none)
 else none)
 else none))):=by kernel_rfl
def m258:TModel
 | [.sl g0 a0]=>bif ctsEq g0 ([.int .i64]) then some (q258 a0,AV.int .i64 (v258_0 a0)) else none
 | _=>none
theorem k258:Known Tryz.prog 258:=⟨Tryz.f258,Tryz.func258,by kernel_rfl,by kernel_rfl⟩
theorem meets258:Meets Tryz.prog 258 m258:=by
 refine mt (lvl:=0) (cf:=c258) rfl mixed k258 Tryz.func258 (by kernel_rfl) noLoop (allT_cons meets244 allT_nil) allM_nil noI fun xs r h=>?_
 unfold m258 at h
 split at h
 ·rename_i g0 a0
  obtain ⟨hg,h⟩:=bif_pair h
  have q0:=hg
  obtain rfl:=cE q0
  obtain ⟨h1,rfl⟩:=pair_inj h
  exact (e258 a0).trans ((br (fun b=>some (Ai (bif b then 0 else (bif decide ((a0.length:Int) > 64) then 0 else fI ((v244_0 a0).getD (IntKind.i64.wrap (Int.tdiv (IntKind.i64.wrap ((a0.length:Int) - 1)) 2)).toNat .undef) 0)))) (fun _=>rfl) (br (fun b=>some (Ai (bif b then 0 else fI ((v244_0 a0).getD (IntKind.i64.wrap (Int.tdiv (IntKind.i64.wrap ((a0.length:Int) - 1)) 2)).toNat .undef) 0))) (fun _=>rfl) (brL (brL (brL1 (fun _=>rfl)))))) h1)
 ·cases h
noncomputable def c243:Cfg:=cfg Tryz.prog [(243,999,[8,9])] [(39,m39),(174,m174),(257,m257),(258,m258)] [] [] []
def q243 (xa xb xc:List AV) (ya yb yc a2 a3:Int):Bool:=(q39 xa xb xc && (bif !(v39_0 xa xb xc) then true else (bif !(v174_0 ya yb yc) then true else (bif decide (a2<0) then true else (bif decide (a2 ≥ a3) then true else (bif decide (a3 > (xa.length:Int)) then true else (bif decide (ya=2) then (q257 yc && (!decide (IntKind.i64.wrap (a3 - a2)=0) && (decide (0≤IntKind.i64.wrap (a2+Int.tmod (v257_0 yc) (IntKind.i64.wrap (a3 - a2)))) && decide (IntKind.i64.wrap (a2+Int.tmod (v257_0 yc) (IntKind.i64.wrap (a3 - a2)))<(xa.length:Int))))) else ((decide (0≤a2) && decide (a2≤a3) && decide (a3≤(xa.length:Int))) && q258 ((xa.take (Int.toNat a3)).drop (Int.toNat a2))))))))))
def v243_0 (xa xb xc:List AV) (ya yb yc a2 a3:Int):Int:=(bif !(v39_0 xa xb xc) then 0 else (bif !(v174_0 ya yb yc) then 0 else (bif decide (a2<0) then 0 else (bif decide (a2 ≥ a3) then 0 else (bif decide (a3 > (xa.length:Int)) then 0 else (bif decide (ya=2) then fI (xa.getD (IntKind.i64.wrap (a2+Int.tmod (v257_0 yc) (IntKind.i64.wrap (a3 - a2)))).toNat .undef) 0 else (v258_0 ((xa.take (Int.toNat a3)).drop (Int.toNat a2)))))))))
def v243_1 (xa xb xc:List AV) (ya yb yc a2 a3:Int):Int:=ya
def v243_2 (xa xb xc:List AV) (ya yb yc a2 a3:Int):Int:=yb
def v243_3 (xa xb xc:List AV) (ya yb yc a2 a3:Int):Int:=(bif !(v39_0 xa xb xc) then yc else (bif !(v174_0 ya yb yc) then yc else (bif decide (a2<0) then yc else (bif decide (a2 ≥ a3) then yc else (bif decide (a3 > (xa.length:Int)) then yc else (bif decide (ya=2) then (v257_0 yc) else yc))))))
theorem e243 (xa xb xc:List AV) (ya yb yc a2 a3:Int):funA c243 0 243 [AV.agg [AV.sl [.int .i64] xa,AV.sl [.int .i64] xb,AV.sl [.int .i64,.int .i64] xc],AV.agg [Ai ya,Ai yb,Ai yc],Ai a2,Ai a3]=(bif q39 xa xb xc then (bif !(v39_0 xa xb xc) then some (AV.tup [Ai 0,AV.agg [Ai ya,Ai yb,Ai yc]])
 else (bif !(v174_0 ya yb yc) then some (AV.tup [Ai 0,AV.agg [Ai ya,Ai yb,Ai yc]])
 else (bif decide (a2<0) then some (AV.tup [Ai 0,AV.agg [Ai ya,Ai yb,Ai yc]])
 else (bif decide (a2 ≥ a3) then some (AV.tup [Ai 0,AV.agg [Ai ya,Ai yb,Ai yc]])
 else (bif decide (a3 > (xa.length:Int)) then some (AV.tup [Ai 0,AV.agg [Ai ya,Ai yb,Ai yc]])
 else (bif decide (ya=2) then (bif q257 yc then (bif !decide (IntKind.i64.wrap (a3 - a2)=0) then (bif (decide (0≤IntKind.i64.wrap (a2+Int.tmod (v257_0 yc) (IntKind.i64.wrap (a3 - a2)))) && decide (IntKind.i64.wrap (a2+Int.tmod (v257_0 yc) (IntKind.i64.wrap (a3 - a2)))<(xa.length:Int))) then some (AV.tup [Ai (fI (xa.getD (IntKind.i64.wrap (a2+Int.tmod (v257_0 yc) (IntKind.i64.wrap (a3 - a2)))).toNat .undef) 0),AV.agg [Ai ya,Ai yb,Ai (v257_0 yc)]])
 else none)
 else none)
 else none)
 else (bif (decide (0≤a2) && decide (a2≤a3) && decide (a3≤(xa.length:Int))) then (bif q258 ((xa.take (Int.toNat a3)).drop (Int.toNat a2)) then some (AV.tup [Ai (v258_0 ((xa.take (Int.toNat a3)).drop (Int.toNat a2))),AV.agg [Ai ya,Ai yb,Ai yc]])
 else none)
 else none)))))))
 else none):=by kernel_rfl
theorem r243 (xa xb xc:List AV) (ya yb yc a2 a3:Int) (h:q243 xa xb xc ya yb yc a2 a3=true):funA c243 0 243 [AV.agg [AV.sl [.int .i64] xa,AV.sl [.int .i64] xb,AV.sl [.int .i64,.int .i64] xc],AV.agg [AV.int .i64 ya,AV.int .i64 yb,AV.int .i64 yc],AV.int .i64 a2,AV.int .i64 a3]=some (AV.tup [AV.int .i64 (v243_0 xa xb xc ya yb yc a2 a3),AV.agg [AV.int .i64 (v243_1 xa xb xc ya yb yc a2 a3),AV.int .i64 (v243_2 xa xb xc ya yb yc a2 a3),AV.int .i64 (v243_3 xa xb xc ya yb yc a2 a3)]]):=by
 refine (e243 xa xb xc ya yb yc a2 a3).trans ?_
 unfold q243 at h
 unfold v243_0 v243_1 v243_2 v243_3
 refine ifG (fun hc=>?_) (fun hc=>?_) <;> first|rw [hc] at h ⊢|rw [hc] at h|rw [hc]|skip
 ·refine ifG (fun hc=>?_) (fun hc=>?_) <;> first|rw [hc] at h ⊢|rw [hc] at h|rw [hc]|skip
  ·rfl
  ·refine ifG (fun hc=>?_) (fun hc=>?_) <;> first|rw [hc] at h ⊢|rw [hc] at h|rw [hc]|skip
   ·rfl
   ·refine ifG (fun hc=>?_) (fun hc=>?_) <;> first|rw [hc] at h ⊢|rw [hc] at h|rw [hc]|skip
    ·rfl
    ·refine ifG (fun hc=>?_) (fun hc=>?_) <;> first|rw [hc] at h ⊢|rw [hc] at h|rw [hc]|skip
     ·rfl
     ·refine ifG (fun hc=>?_) (fun hc=>?_) <;> first|rw [hc] at h ⊢|rw [hc] at h|rw [hc]|skip
      ·rfl
      ·refine ifG (fun hc=>?_) (fun hc=>?_) <;> first|rw [hc] at h ⊢|rw [hc] at h|rw [hc]|skip
       ·refine ifG (fun hc=>?_) (fun hc=>?_) <;> first|rw [hc] at h ⊢|rw [hc] at h|rw [hc]|skip
        ·refine ifG (fun hc=>?_) (fun hc=>?_) <;> first|rw [hc] at h ⊢|rw [hc] at h|rw [hc]|skip
         ·refine ifG (fun hc=>?_) (fun hc=>?_) <;> first|rw [hc] at h ⊢|rw [hc] at h|rw [hc]|skip
          ·rfl
          ·first|exact Bool.noConfusion h|exact Bool.noConfusion hc
         ·first|exact Bool.noConfusion h|exact Bool.noConfusion hc
        ·first|exact Bool.noConfusion h|exact Bool.noConfusion hc
       ·refine ifG (fun hc=>?_) (fun hc=>?_) <;> first|rw [hc] at h ⊢|rw [hc] at h|rw [hc]|skip
        ·refine ifG (fun hc=>?_) (fun hc=>?_) <;> first|rw [hc] at h ⊢|rw [hc] at h|rw [hc]|skip
         ·rfl
         ·first|exact Bool.noConfusion h|exact Bool.noConfusion hc
        ·first|exact Bool.noConfusion h|exact Bool.noConfusion hc
 ·first|exact Bool.noConfusion h|exact Bool.noConfusion hc
def m243:TModel
 | [.agg [.sl g0 xa,.sl g1 xb,.sl g2 xc],.agg [.int .i64 ya,.int .i64 yb,.int .i64 yc],.int .i64 a2,.int .i64 a3]=>bif ctsEq g0 ([.int .i64]) && ctsEq g1 ([.int .i64]) && ctsEq g2 ([.int .i64,.int .i64]) then some (q243 xa xb xc ya yb yc a2 a3,AV.tup [AV.int .i64 (v243_0 xa xb xc ya yb yc a2 a3),AV.agg [AV.int .i64 (v243_1 xa xb xc ya yb yc a2 a3),AV.int .i64 (v243_2 xa xb xc ya yb yc a2 a3),AV.int .i64 (v243_3 xa xb xc ya yb yc a2 a3)]]) else none
 | _=>none
theorem k243:Known Tryz.prog 243:=⟨Tryz.f243,Tryz.func243,by kernel_rfl,by kernel_rfl⟩
theorem meets243:Meets Tryz.prog 243 m243:=by
 refine mt (lvl:=0) (cf:=c243) rfl mixed k243 Tryz.func243 (by kernel_rfl) noLoop (allT_cons meets39 (allT_cons meets174 (allT_cons meets257 (allT_cons meets258 allT_nil)))) allM_nil noI fun xs r h=>?_
 unfold m243 at h
 split at h
 ·rename_i g0 xa g1 xb g2 xc ya yb yc a2 a3
  obtain ⟨hg,h⟩:=bif_pair h
  simp only [Bool.and_eq_true] at hg
  obtain ⟨⟨q0,q1⟩,q2⟩:=hg
  obtain rfl:=cE q0
  obtain rfl:=cE q1
  obtain rfl:=cE q2
  obtain ⟨h1,rfl⟩:=pair_inj h
  exact r243 xa xb xc ya yb yc a2 a3 h1
 ·cases h
noncomputable def c152:Cfg:=cfg Tryz.prog [(152,999,[2])] [] [] [] []
def q152 (a0:List AV):Bool:=decide (a0.length*16≤140737488355328) && decide (a0.length≤140737488355328)
def v152_0 (a0:List AV):List AV:=a0
theorem e152 (a0:List AV):funA c152 0 152 [AV.sl [.int .i64,.int .i64] a0]=(bif decide (0<a0.length) then (bif (decide ((([]:List AV).length+a0.length)*16≤140737488355328) && decide ((([]:List AV).length+a0.length)≤140737488355328)) then some (AV.fl [.int .i64,.int .i64] (([]:List AV)++a0))
 else none)
 else none):=by kernel_rfl
theorem e152n (b:Bool):funA c152 0 152 [AV.sle b [.int .i64,.int .i64]]=some (AV.fl [.int .i64,.int .i64] []):=by cases b <;> kernel_rfl
def m152:TModel
 | [.sl g0 a0]=>bif ctsEq g0 [.int .i64,.int .i64] then some (q152 a0,AV.fl [.int .i64,.int .i64] (v152_0 a0)) else none
 | _=>none
theorem k152:Known Tryz.prog 152:=⟨Tryz.f152,Tryz.func152,by kernel_rfl,by kernel_rfl⟩
theorem meets152:Meets Tryz.prog 152 m152:=by
 refine meet_nil (f:=Tryz.f152) (l:=[]) (hs:=[(152,999,[2])]) (ts:=[]) (ws:=[]) (is:=[]) (ls:=[]) (lvl:=0) (tys:=[.int .i64,.int .i64]) mixed k152 Tryz.func152 (by kernel_rfl) noLoop allT_nil allM_nil noI (fun xs r h=>?_) (fun b r h=>?_) (fun ys r h0 h=>?_)
 ·unfold m152 at h
  split at h
  ·rename_i g0 a0
   obtain ⟨hg,h⟩:=bif_pair h
   obtain rfl:=ctsEq_eq _ _ hg
   exact ⟨a0,rfl⟩
  ·cases h
 ·obtain ⟨hg,h⟩:=bif_pair (g:=ctsEq [.int .i64,.int .i64] [.int .i64,.int .i64]) h
  obtain ⟨_,rfl⟩:=pair_inj h
  exact e152n b
 ·obtain ⟨hg,h⟩:=bif_pair (g:=ctsEq [.int .i64,.int .i64] [.int .i64,.int .i64]) h
  obtain ⟨hq,rfl⟩:=pair_inj h
  refine (e152 ys).trans ?_
  unfold q152 at hq
  have e:([]:List AV).length+ys.length=ys.length:=by simp
  rw [e,hq,decide_eq_true h0]
  rfl
noncomputable def c133:Cfg:=cfg Tryz.prog [(133,999,[2])] [(135,m135),(152,m152)] [] [] []
def q133 (xa xb xc:List AV):Bool:=(q135 xa && (q135 xb && q152 xc))
def v133_0 (xa xb xc:List AV):List AV:=(v135_0 xa)
def v133_1 (xa xb xc:List AV):List AV:=(v135_0 xb)
def v133_2 (xa xb xc:List AV):List AV:=(v152_0 xc)
theorem e133 (xa xb xc:List AV):funA c133 0 133 [AV.agg [AV.sl [.int .i64] xa,AV.sl [.int .i64] xb,AV.sl [.int .i64,.int .i64] xc]]=(bif q135 xa then (bif q135 xb then (bif q152 xc then some (AV.agg [AV.fl [.int .i64] (v135_0 xa),AV.fl [.int .i64] (v135_0 xb),AV.fl [.int .i64,.int .i64] (v152_0 xc)])
 else none)
 else none)
 else none):=by kernel_rfl
def m133:TModel
 | [.agg [.sl g0 xa,.sl g1 xb,.sl g2 xc]]=>bif ctsEq g0 ([.int .i64]) && ctsEq g1 ([.int .i64]) && ctsEq g2 ([.int .i64,.int .i64]) then some (q133 xa xb xc,AV.agg [AV.fl [.int .i64] (v133_0 xa xb xc),AV.fl [.int .i64] (v133_1 xa xb xc),AV.fl [.int .i64,.int .i64] (v133_2 xa xb xc)]) else none
 | _=>none
theorem k133:Known Tryz.prog 133:=⟨Tryz.f133,Tryz.func133,by kernel_rfl,by kernel_rfl⟩
theorem meets133:Meets Tryz.prog 133 m133:=by
 refine mt (lvl:=0) (cf:=c133) rfl mixed k133 Tryz.func133 (by kernel_rfl) noLoop (allT_cons meets135 (allT_cons meets152 allT_nil)) allM_nil noI fun xs r h=>?_
 unfold m133 at h
 split at h
 ·rename_i g0 xa g1 xb g2 xc
  obtain ⟨hg,h⟩:=bif_pair h
  simp only [Bool.and_eq_true] at hg
  obtain ⟨⟨q0,q1⟩,q2⟩:=hg
  obtain rfl:=cE q0
  obtain rfl:=cE q1
  obtain rfl:=cE q2
  obtain ⟨h1,rfl⟩:=pair_inj h
  exact (e133 xa xb xc).trans ((brL (brL (brL1 (fun _=>rfl)))) h1)
 ·cases h
noncomputable def c184:Cfg:=cfg Tryz.prog [(184,999,[8,9,10]),(184,1000,[1,2])] [] [] [] []
def q184 (a0:List AV) (a1 a2 a3:Int):Bool:=((decide (0≤a1) && decide (a1<(a0.length:Int))) && (bif decide (fI (a0.getD a1.toNat .undef) 0<a3) then true else (decide (0≤a2) && decide (a2<(a0.length:Int)))))
def v184_0 (a0:List AV) (a1 a2 a3:Int):Int:=(bif decide (fI (a0.getD a1.toNat .undef) 0<a3) then IntKind.i64.wrap (a1+1) else (bif decide (fI (a0.getD a2.toNat .undef) 0 ≥ a3) then a1 else IntKind.i64.wrap (a1+1)))
def v184_1 (a0:List AV) (a1 a2 a3:Int):Int:=(bif decide (fI (a0.getD a1.toNat .undef) 0<a3) then a2 else IntKind.i64.wrap (a2 - 1))
def v184_2 (a0:List AV) (a1 a2 a3:Int):Bool:=(bif decide (fI (a0.getD a1.toNat .undef) 0<a3) then false else (bif decide (fI (a0.getD a2.toNat .undef) 0 ≥ a3) then false else true))
theorem e184 (a0:List AV) (a1 a2 a3:Int):funA c184 0 184 [AV.sl [.int .i64] a0,Ai a1,Ai a2,Ai a3]=(bif (decide (0≤a1) && decide (a1<(a0.length:Int))) then (bif decide (fI (a0.getD a1.toNat .undef) 0<a3) then some (AV.tup [Ai (IntKind.i64.wrap (a1+1)),Ai a2,AV.bool false])
 else (bif (decide (0≤a2) && decide (a2<(a0.length:Int))) then (bif decide (fI (a0.getD a2.toNat .undef) 0 ≥ a3) then some (AV.tup [Ai a1,Ai (IntKind.i64.wrap (a2 - 1)),AV.bool false])
 else some (AV.tup [Ai (IntKind.i64.wrap (a1+1)),Ai (IntKind.i64.wrap (a2 - 1)),AV.bool true]))
 else none))
 else none):=by kernel_rfl
def m184:TModel
 | [.sl g0 a0,.int .i64 a1,.int .i64 a2,.int .i64 a3]=>bif ctsEq g0 ([.int .i64]) then some (q184 a0 a1 a2 a3,AV.tup [AV.int .i64 (v184_0 a0 a1 a2 a3),AV.int .i64 (v184_1 a0 a1 a2 a3),AV.bool (v184_2 a0 a1 a2 a3)]) else none
 | _=>none
theorem k184:Known Tryz.prog 184:=⟨Tryz.f184,Tryz.func184,by kernel_rfl,by kernel_rfl⟩
theorem meets184:Meets Tryz.prog 184 m184:=by
 refine mt (lvl:=0) (cf:=c184) rfl mixed k184 Tryz.func184 (by kernel_rfl) noLoop allT_nil allM_nil noI fun xs r h=>?_
 unfold m184 at h
 split at h
 ·rename_i g0 a0 a1 a2 a3
  obtain ⟨hg,h⟩:=bif_pair h
  have q0:=hg
  obtain rfl:=cE q0
  obtain ⟨h1,rfl⟩:=pair_inj h
  exact (e184 a0 a1 a2 a3).trans ((brL (br (fun b=>some (AV.tup [Ai (bif b then IntKind.i64.wrap (a1+1) else (bif decide (fI (a0.getD a2.toNat .undef) 0 ≥ a3) then a1 else IntKind.i64.wrap (a1+1))),Ai (bif b then a2 else IntKind.i64.wrap (a2 - 1)),AV.bool (bif b then false else (bif decide (fI (a0.getD a2.toNat .undef) 0 ≥ a3) then false else true))])) (fun _=>rfl) (brL1 (brT (fun b=>some (AV.tup [Ai (bif b then a1 else IntKind.i64.wrap (a1+1)),Ai (IntKind.i64.wrap (a2 - 1)),AV.bool (bif b then false else true)])) (fun _=>rfl) (fun _=>rfl))))) h1)
 ·cases h
end
end Go.Proofs.YtealoedecngaoaaGreatDoor
