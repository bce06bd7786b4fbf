import Derived.Test.YtealoedecngaoaaGreatDoorP6
import Derived.Test.YtealoedecngaoaaGreatDoorP7
import Derived.Test.YtealoedecngaoaaGreatDoorP8
import Derived.Test.YtealoedecngaoaaGreatDoorP9
import Derived.Test.YtealoedecngaoaaGreatDoorProg
import Derived.KernelRfl
namespace Go.Proofs.YtealoedecngaoaaGreatDoor
open Go Go.Proofs.VE
set_option linter.unusedVariables false
set_option linter.unusedSimpArgs false
set_option maxRecDepth 100000
set_option maxHeartbeats 4000000
theorem mixed:Tryz.prog.follows .mixedOrders=true:=by kernel_rfl
noncomputable section
noncomputable def c7:Cfg:=cfg Tryz.prog [(7,999,[2])] [] [] [] []
def q7 (a0:List AV):Bool:=true
def v7_0 (a0:List AV):Bool:=decide ((a0.length:Int) > 1048576)
theorem e7 (a0:List AV):funA c7 0 7 [AV.sl [.int .u8] a0]=some (AV.bool (decide ((a0.length:Int) > 1048576))):=by kernel_rfl
def m7:TModel
 | [.sl g0 a0]=>bif ctsEq g0 ([.int .u8]) then some (true,AV.bool (v7_0 a0)) else none
 | _=>none
theorem k7:Known Tryz.prog 7:=⟨Tryz.f7,Tryz.func7,by kernel_rfl,by kernel_rfl⟩
theorem meets7:Meets Tryz.prog 7 m7:=by
 refine mt (lvl:=0) (cf:=c7) rfl mixed k7 Tryz.func7 (by kernel_rfl) noLoop allT_nil allM_nil noI fun xs r h=>?_
 unfold m7 at h
 split at h
 ·rename_i g0 a0
  obtain ⟨hg,h⟩:=bif_pair h
  have q0:=hg
  obtain rfl:=cE q0
  obtain ⟨h1,rfl⟩:=pair_inj h
  exact (e7 a0).trans (of_tt (fun _=>rfl))
 ·cases h
noncomputable def c182:Cfg:=cfg Tryz.prog [(182,999,[2])] [] [] [] []
def q182 (ua:List AV) (ub uc:Int):Bool:=(bif decide (ub<(ua.length:Int)) then (decide (0≤ub) && decide (ub<(ua.length:Int))) else true)
def v182_0 (ua:List AV) (ub uc:Int):Int:=VE.hid (fun (ua:List AV) (ub:Int) (uc:Int)=>(bif decide (ub<(ua.length:Int)) then IntKind.i64.wrap ((BitVec.ofInt 64 (IntKind.i64.wrap (IntKind.i64.wrap ((BitVec.ofInt 64 (IntKind.i64.wrap ((BitVec.ofInt 64 (Int.fdiv (IntKind.i64.wrap (IntKind.i64.wrap (uc*6364136223846793005)+1442695040888963407)) (2 ^ 33)) ^^^ BitVec.ofInt 64 (Int.fdiv (IntKind.i64.wrap (IntKind.i64.wrap (uc*6364136223846793005)+1442695040888963407)) (2 ^ 45))).toNat:Int)) &&& BitVec.ofInt 64 255).toNat:Int)+IntKind.i64.wrap (fI (ua.getD ub.toNat .undef) 0))) &&& BitVec.ofInt 64 255).toNat:Int) else IntKind.i64.wrap ((BitVec.ofInt 64 (IntKind.i64.wrap ((BitVec.ofInt 64 (Int.fdiv (IntKind.i64.wrap (IntKind.i64.wrap (uc*6364136223846793005)+1442695040888963407)) (2 ^ 33)) ^^^ BitVec.ofInt 64 (Int.fdiv (IntKind.i64.wrap (IntKind.i64.wrap (uc*6364136223846793005)+1442695040888963407)) (2 ^ 45))).toNat:Int)) &&& BitVec.ofInt 64 255).toNat:Int))) ua ub uc
def v182_1 (ua:List AV) (ub uc:Int):List AV:=ua
def v182_2 (ua:List AV) (ub uc:Int):Int:=VE.hid (fun (ua:List AV) (ub:Int) (uc:Int)=>(bif decide (ub<(ua.length:Int)) then IntKind.i64.wrap (ub+1) else ub)) ua ub uc
def v182_3 (ua:List AV) (ub uc:Int):Int:=VE.hid (fun (ua:List AV) (ub:Int) (uc:Int)=>IntKind.i64.wrap (IntKind.i64.wrap (uc*6364136223846793005)+1442695040888963407)) ua ub uc
theorem e182 (ua:List AV) (ub uc:Int) (K:List AV→List (Option Blk)→Option AV):inlA c182 1 182 [AV.ptr [1] 0 0] [0] (canH 1 [⟨true,[],[AV.agg [AV.sl [.int .u8] ua,Ai ub,Ai uc]]⟩]) (keepG Tryz.prog 1 [3] [] K)=(bif decide (ub<(ua.length:Int)) then (bif (decide (0≤ub) && decide (ub<(ua.length:Int))) then K [Ai (IntKind.i64.wrap ((BitVec.ofInt 64 (IntKind.i64.wrap (IntKind.i64.wrap ((BitVec.ofInt 64 (IntKind.i64.wrap ((BitVec.ofInt 64 (Int.fdiv (IntKind.i64.wrap (IntKind.i64.wrap (uc*6364136223846793005)+1442695040888963407)) (2 ^ 33)) ^^^ BitVec.ofInt 64 (Int.fdiv (IntKind.i64.wrap (IntKind.i64.wrap (uc*6364136223846793005)+1442695040888963407)) (2 ^ 45))).toNat:Int)) &&& BitVec.ofInt 64 255).toNat:Int)+IntKind.i64.wrap (fI (ua.getD ub.toNat .undef) 0))) &&& BitVec.ofInt 64 255).toNat:Int))] [some ⟨true,[],[AV.agg [AV.sl [.int .u8] ua,Ai (IntKind.i64.wrap (ub+1)),Ai (IntKind.i64.wrap (IntKind.i64.wrap (uc*6364136223846793005)+1442695040888963407))]]⟩]
 else none)
 else K [Ai (IntKind.i64.wrap ((BitVec.ofInt 64 (IntKind.i64.wrap ((BitVec.ofInt 64 (Int.fdiv (IntKind.i64.wrap (IntKind.i64.wrap (uc*6364136223846793005)+1442695040888963407)) (2 ^ 33)) ^^^ BitVec.ofInt 64 (Int.fdiv (IntKind.i64.wrap (IntKind.i64.wrap (uc*6364136223846793005)+1442695040888963407)) (2 ^ 45))).toNat:Int)) &&& BitVec.ofInt 64 255).toNat:Int))] [some ⟨true,[],[AV.agg [AV.sl [.int .u8] ua,Ai ub,Ai (IntKind.i64.wrap (IntKind.i64.wrap (uc*6364136223846793005)+1442695040888963407))]]⟩]):=by kernel_rfl
theorem r182 (ua:List AV) (ub uc:Int) (K:List AV→List (Option Blk)→Option AV) (h:q182 ua ub uc=true):inlA c182 1 182 [AV.ptr [1] 0 0] [0] (canH 1 [⟨true,[],[AV.agg [AV.sl [.int .u8] ua,AV.int .i64 ub,AV.int .i64 uc]]⟩]) (keepG Tryz.prog 1 [3] [] K)=K [AV.int .i64 (v182_0 ua ub uc)] [some ⟨true,[],[AV.agg [AV.sl [.int .u8] (v182_1 ua ub uc),AV.int .i64 (v182_2 ua ub uc),AV.int .i64 (v182_3 ua ub uc)]]⟩]:=by
 unfold v182_0 v182_2 v182_3
 simp only [VE.hid_eq]
 exact (e182 ua ub uc K).trans ((br (fun b=>K [AV.int .i64 (bif b then IntKind.i64.wrap ((BitVec.ofInt 64 (IntKind.i64.wrap (IntKind.i64.wrap ((BitVec.ofInt 64 (IntKind.i64.wrap ((BitVec.ofInt 64 (Int.fdiv (IntKind.i64.wrap (IntKind.i64.wrap (uc*6364136223846793005)+1442695040888963407)) (2 ^ 33)) ^^^ BitVec.ofInt 64 (Int.fdiv (IntKind.i64.wrap (IntKind.i64.wrap (uc*6364136223846793005)+1442695040888963407)) (2 ^ 45))).toNat:Int)) &&& BitVec.ofInt 64 255).toNat:Int)+IntKind.i64.wrap (fI (ua.getD ub.toNat .undef) 0))) &&& BitVec.ofInt 64 255).toNat:Int) else IntKind.i64.wrap ((BitVec.ofInt 64 (IntKind.i64.wrap ((BitVec.ofInt 64 (Int.fdiv (IntKind.i64.wrap (IntKind.i64.wrap (uc*6364136223846793005)+1442695040888963407)) (2 ^ 33)) ^^^ BitVec.ofInt 64 (Int.fdiv (IntKind.i64.wrap (IntKind.i64.wrap (uc*6364136223846793005)+1442695040888963407)) (2 ^ 45))).toNat:Int)) &&& BitVec.ofInt 64 255).toNat:Int))] [some ⟨true,[],[AV.agg [AV.sl [.int .u8] ua,AV.int .i64 (bif b then IntKind.i64.wrap (ub+1) else ub),AV.int .i64 (IntKind.i64.wrap (IntKind.i64.wrap (uc*6364136223846793005)+1442695040888963407))]]⟩]) (brL1 (fun _=>rfl)) (fun _=>rfl)) h)
def m182:GModel
 | [.ptr g0 g1 g2],[⟨true,[],[.agg [.sl g3 ua,.int .i64 ub,.int .i64 uc]]⟩]=>bif nmEq g0 ([1]) && Nat.beq g1 0 && Nat.beq g2 0 && ctsEq g3 ([.int .u8]) then some (q182 ua ub uc,[AV.int .i64 (v182_0 ua ub uc)],[some ⟨true,[],[AV.agg [AV.sl [.int .u8] (v182_1 ua ub uc),AV.int .i64 (v182_2 ua ub uc),AV.int .i64 (v182_3 ua ub uc)]]⟩]) else none
 | _,_=>none
theorem k182:Known Tryz.prog 182:=⟨Tryz.f182,Tryz.func182,by kernel_rfl,by kernel_rfl⟩
theorem meets182:MeetsG Tryz.prog 182 m182:=by
 refine mg (rt:=[3]) (gs:=[]) (lvl:=0) (cf:=c182) rfl mixed k182 Tryz.func182 (by kernel_rfl) noLoop allT_nil allM_nil noI fun xs bs r bs' h K=>?_
 unfold m182 at h
 split at h
 ·rename_i g0 g1 g2 g3 ua ub uc
  obtain ⟨hg,h⟩:=bif_pair h
  simp only [Bool.and_eq_true] at hg
  obtain ⟨⟨⟨q0,q1⟩,q2⟩,q3⟩:=hg
  obtain rfl:=nE q0
  obtain rfl:=bE q1
  obtain rfl:=bE q2
  obtain rfl:=cE q3
  obtain ⟨h1,rfl,rfl⟩:=trip_inj h
  exact r182 ua ub uc K h1
 ·cases h
noncomputable def c131:Cfg:=cfg Tryz.prog [(131,999,[4])] [] [(182,.g m182)] [] []
def q131 (a1:Int) (ua:List AV) (ub uc:Int):Bool:=(bif decide (a1≤0) then true else (bif decide (a1≤256) then (q182 ua ub uc && !decide (a1=0)) else (q182 ua ub uc && (q182 (v182_1 ua ub uc) (v182_2 ua ub uc) (v182_3 ua ub uc) && (q182 (v182_1 (v182_1 ua ub uc) (v182_2 ua ub uc) (v182_3 ua ub uc)) (v182_2 (v182_1 ua ub uc) (v182_2 ua ub uc) (v182_3 ua ub uc)) (v182_3 (v182_1 ua ub uc) (v182_2 ua ub uc) (v182_3 ua ub uc)) && (q182 (v182_1 (v182_1 (v182_1 ua ub uc) (v182_2 ua ub uc) (v182_3 ua ub uc)) (v182_2 (v182_1 ua ub uc) (v182_2 ua ub uc) (v182_3 ua ub uc)) (v182_3 (v182_1 ua ub uc) (v182_2 ua ub uc) (v182_3 ua ub uc))) (v182_2 (v182_1 (v182_1 ua ub uc) (v182_2 ua ub uc) (v182_3 ua ub uc)) (v182_2 (v182_1 ua ub uc) (v182_2 ua ub uc) (v182_3 ua ub uc)) (v182_3 (v182_1 ua ub uc) (v182_2 ua ub uc) (v182_3 ua ub uc))) (v182_3 (v182_1 (v182_1 ua ub uc) (v182_2 ua ub uc) (v182_3 ua ub uc)) (v182_2 (v182_1 ua ub uc) (v182_2 ua ub uc) (v182_3 ua ub uc)) (v182_3 (v182_1 ua ub uc) (v182_2 ua ub uc) (v182_3 ua ub uc))) && !decide (a1=0)))))))
def v131_0 (a1:Int) (ua:List AV) (ub uc:Int):Int:=VE.hid (fun (a1:Int) (ua:List AV) (ub:Int) (uc:Int)=>(bif decide (a1≤0) then 0 else (bif decide (a1≤256) then Int.tmod (v182_0 ua ub uc) a1 else Int.tmod (IntKind.i64.wrap (IntKind.i64.wrap (IntKind.i64.wrap (IntKind.i64.wrap ((v182_0 ua ub uc)*16777216)+IntKind.i64.wrap ((v182_0 (v182_1 ua ub uc) (v182_2 ua ub uc) (v182_3 ua ub uc))*65536))+IntKind.i64.wrap ((v182_0 (v182_1 (v182_1 ua ub uc) (v182_2 ua ub uc) (v182_3 ua ub uc)) (v182_2 (v182_1 ua ub uc) (v182_2 ua ub uc) (v182_3 ua ub uc)) (v182_3 (v182_1 ua ub uc) (v182_2 ua ub uc) (v182_3 ua ub uc)))*256))+(v182_0 (v182_1 (v182_1 (v182_1 ua ub uc) (v182_2 ua ub uc) (v182_3 ua ub uc)) (v182_2 (v182_1 ua ub uc) (v182_2 ua ub uc) (v182_3 ua ub uc)) (v182_3 (v182_1 ua ub uc) (v182_2 ua ub uc) (v182_3 ua ub uc))) (v182_2 (v182_1 (v182_1 ua ub uc) (v182_2 ua ub uc) (v182_3 ua ub uc)) (v182_2 (v182_1 ua ub uc) (v182_2 ua ub uc) (v182_3 ua ub uc)) (v182_3 (v182_1 ua ub uc) (v182_2 ua ub uc) (v182_3 ua ub uc))) (v182_3 (v182_1 (v182_1 ua ub uc) (v182_2 ua ub uc) (v182_3 ua ub uc)) (v182_2 (v182_1 ua ub uc) (v182_2 ua ub uc) (v182_3 ua ub uc)) (v182_3 (v182_1 ua ub uc) (v182_2 ua ub uc) (v182_3 ua ub uc)))))) a1))) a1 ua ub uc
def v131_1 (a1:Int) (ua:List AV) (ub uc:Int):List AV:=VE.hid (fun (a1:Int) (ua:List AV) (ub:Int) (uc:Int)=>(bif decide (a1≤0) then ua else (bif decide (a1≤256) then (v182_1 ua ub uc) else (v182_1 (v182_1 (v182_1 (v182_1 ua ub uc) (v182_2 ua ub uc) (v182_3 ua ub uc)) (v182_2 (v182_1 ua ub uc) (v182_2 ua ub uc) (v182_3 ua ub uc)) (v182_3 (v182_1 ua ub uc) (v182_2 ua ub uc) (v182_3 ua ub uc))) (v182_2 (v182_1 (v182_1 ua ub uc) (v182_2 ua ub uc) (v182_3 ua ub uc)) (v182_2 (v182_1 ua ub uc) (v182_2 ua ub uc) (v182_3 ua ub uc)) (v182_3 (v182_1 ua ub uc) (v182_2 ua ub uc) (v182_3 ua ub uc))) (v182_3 (v182_1 (v182_1 ua ub uc) (v182_2 ua ub uc) (v182_3 ua ub uc)) (v182_2 (v182_1 ua ub uc) (v182_2 ua ub uc) (v182_3 ua ub uc)) (v182_3 (v182_1 ua ub uc) (v182_2 ua ub uc) (v182_3 ua ub uc))))))) a1 ua ub uc
def v131_2 (a1:Int) (ua:List AV) (ub uc:Int):Int:=VE.hid (fun (a1:Int) (ua:List AV) (ub:Int) (uc:Int)=>(bif decide (a1≤0) then ub else (bif decide (a1≤256) then (v182_2 ua ub uc) else (v182_2 (v182_1 (v182_1 (v182_1 ua ub uc) (v182_2 ua ub uc) (v182_3 ua ub uc)) (v182_2 (v182_1 ua ub uc) (v182_2 ua ub uc) (v182_3 ua ub uc)) (v182_3 (v182_1 ua ub uc) (v182_2 ua ub uc) (v182_3 ua ub uc))) (v182_2 (v182_1 (v182_1 ua ub uc) (v182_2 ua ub uc) (v182_3 ua ub uc)) (v182_2 (v182_1 ua ub uc) (v182_2 ua ub uc) (v182_3 ua ub uc)) (v182_3 (v182_1 ua ub uc) (v182_2 ua ub uc) (v182_3 ua ub uc))) (v182_3 (v182_1 (v182_1 ua ub uc) (v182_2 ua ub uc) (v182_3 ua ub uc)) (v182_2 (v182_1 ua ub uc) (v182_2 ua ub uc) (v182_3 ua ub uc)) (v182_3 (v182_1 ua ub uc) (v182_2 ua ub uc) (v182_3 ua ub uc))))))) a1 ua ub uc
def v131_3 (a1:Int) (ua:List AV) (ub uc:Int):Int:=VE.hid (fun (a1:Int) (ua:List AV) (ub:Int) (uc:Int)=>(bif decide (a1≤0) then uc else (bif decide (a1≤256) then (v182_3 ua ub uc) else (v182_3 (v182_1 (v182_1 (v182_1 ua ub uc) (v182_2 ua ub uc) (v182_3 ua ub uc)) (v182_2 (v182_1 ua ub uc) (v182_2 ua ub uc) (v182_3 ua ub uc)) (v182_3 (v182_1 ua ub uc) (v182_2 ua ub uc) (v182_3 ua ub uc))) (v182_2 (v182_1 (v182_1 ua ub uc) (v182_2 ua ub uc) (v182_3 ua ub uc)) (v182_2 (v182_1 ua ub uc) (v182_2 ua ub uc) (v182_3 ua ub uc)) (v182_3 (v182_1 ua ub uc) (v182_2 ua ub uc) (v182_3 ua ub uc))) (v182_3 (v182_1 (v182_1 ua ub uc) (v182_2 ua ub uc) (v182_3 ua ub uc)) (v182_2 (v182_1 ua ub uc) (v182_2 ua ub uc) (v182_3 ua ub uc)) (v182_3 (v182_1 ua ub uc) (v182_2 ua ub uc) (v182_3 ua ub uc))))))) a1 ua ub uc
theorem e131 (a1:Int) (ua:List AV) (ub uc:Int) (K:List AV→List (Option Blk)→Option AV):inlA c131 1 131 [AV.ptr [1] 0 0,Ai a1] [0] (canH 1 [⟨true,[],[AV.agg [AV.sl [.int .u8] ua,Ai ub,Ai uc]]⟩]) (keepG Tryz.prog 1 [3] [] K)=((fun (x1:Int) (x2:List AV) (x3:Int) (x4:Int)=>((fun (x5:Int) (x6:List AV) (x7:Int) (x8:Int)=>((fun (x9:Int) (x10:List AV) (x11:Int) (x12:Int)=>(bif decide (a1≤0) then K [Ai 0] [some ⟨true,[],[AV.agg [AV.sl [.int .u8] ua,Ai ub,Ai uc]]⟩]
 else (bif decide (a1≤256) then (bif q182 ua ub uc then (bif !decide (a1=0) then K [Ai (Int.tmod x1 a1)] [some ⟨true,[],[AV.agg [AV.sl [.int .u8] x2,Ai x3,Ai x4]]⟩]
 else none)
 else none)
 else (bif q182 ua ub uc then (bif q182 x2 x3 x4 then (bif q182 x6 x7 x8 then (bif q182 x10 x11 x12 then (bif !decide (a1=0) then K [Ai (Int.tmod (IntKind.i64.wrap (IntKind.i64.wrap (IntKind.i64.wrap (IntKind.i64.wrap (x1*16777216)+IntKind.i64.wrap (x5*65536))+IntKind.i64.wrap (x9*256))+(v182_0 x10 x11 x12))) a1)] [some ⟨true,[],[AV.agg [AV.sl [.int .u8] (v182_1 x10 x11 x12),Ai (v182_2 x10 x11 x12),Ai (v182_3 x10 x11 x12)]]⟩]
 else none)
 else none)
 else none)
 else none)
 else none)))) (v182_0 x6 x7 x8) (v182_1 x6 x7 x8) (v182_2 x6 x7 x8) (v182_3 x6 x7 x8))) (v182_0 x2 x3 x4) (v182_1 x2 x3 x4) (v182_2 x2 x3 x4) (v182_3 x2 x3 x4))) (v182_0 ua ub uc) (v182_1 ua ub uc) (v182_2 ua ub uc) (v182_3 ua ub uc)):=by kernel_rfl
theorem r131 (a1:Int) (ua:List AV) (ub uc:Int) (K:List AV→List (Option Blk)→Option AV) (h:q131 a1 ua ub uc=true):inlA c131 1 131 [AV.ptr [1] 0 0,AV.int .i64 a1] [0] (canH 1 [⟨true,[],[AV.agg [AV.sl [.int .u8] ua,AV.int .i64 ub,AV.int .i64 uc]]⟩]) (keepG Tryz.prog 1 [3] [] K)=K [AV.int .i64 (v131_0 a1 ua ub uc)] [some ⟨true,[],[AV.agg [AV.sl [.int .u8] (v131_1 a1 ua ub uc),AV.int .i64 (v131_2 a1 ua ub uc),AV.int .i64 (v131_3 a1 ua ub uc)]]⟩]:=by
 unfold v131_0 v131_1 v131_2 v131_3
 simp only [VE.hid_eq]
 exact (e131 a1 ua ub uc K).trans ((br (fun b=>K [AV.int .i64 (bif b then 0 else (bif decide (a1≤256) then Int.tmod (v182_0 ua ub uc) a1 else Int.tmod (IntKind.i64.wrap (IntKind.i64.wrap (IntKind.i64.wrap (IntKind.i64.wrap ((v182_0 ua ub uc)*16777216)+IntKind.i64.wrap ((v182_0 (v182_1 ua ub uc) (v182_2 ua ub uc) (v182_3 ua ub uc))*65536))+IntKind.i64.wrap ((v182_0 (v182_1 (v182_1 ua ub uc) (v182_2 ua ub uc) (v182_3 ua ub uc)) (v182_2 (v182_1 ua ub uc) (v182_2 ua ub uc) (v182_3 ua ub uc)) (v182_3 (v182_1 ua ub uc) (v182_2 ua ub uc) (v182_3 ua ub uc)))*256))+(v182_0 (v182_1 (v182_1 (v182_1 ua ub uc) (v182_2 ua ub uc) (v182_3 ua ub uc)) (v182_2 (v182_1 ua ub uc) (v182_2 ua ub uc) (v182_3 ua ub uc)) (v182_3 (v182_1 ua ub uc) (v182_2 ua ub uc) (v182_3 ua ub uc))) (v182_2 (v182_1 (v182_1 ua ub uc) (v182_2 ua ub uc) (v182_3 ua ub uc)) (v182_2 (v182_1 ua ub uc) (v182_2 ua ub uc) (v182_3 ua ub uc)) (v182_3 (v182_1 ua ub uc) (v182_2 ua ub uc) (v182_3 ua ub uc))) (v182_3 (v182_1 (v182_1 ua ub uc) (v182_2 ua ub uc) (v182_3 ua ub uc)) (v182_2 (v182_1 ua ub uc) (v182_2 ua ub uc) (v182_3 ua ub uc)) (v182_3 (v182_1 ua ub uc) (v182_2 ua ub uc) (v182_3 ua ub uc)))))) a1))] [some ⟨true,[],[AV.agg [AV.sl [.int .u8] (bif b then ua else (bif decide (a1≤256) then (v182_1 ua ub uc) else (v182_1 (v182_1 (v182_1 (v182_1 ua ub uc) (v182_2 ua ub uc) (v182_3 ua ub uc)) (v182_2 (v182_1 ua ub uc) (v182_2 ua ub uc) (v182_3 ua ub uc)) (v182_3 (v182_1 ua ub uc) (v182_2 ua ub uc) (v182_3 ua ub uc))) (v182_2 (v182_1 (v182_1 ua ub uc) (v182_2 ua ub uc) (v182_3 ua ub uc)) (v182_2 (v182_1 ua ub uc) (v182_2 ua ub uc) (v182_3 ua ub uc)) (v182_3 (v182_1 ua ub uc) (v182_2 ua ub uc) (v182_3 ua ub uc))) (v182_3 (v182_1 (v182_1 ua ub uc) (v182_2 ua ub uc) (v182_3 ua ub uc)) (v182_2 (v182_1 ua ub uc) (v182_2 ua ub uc) (v182_3 ua ub uc)) (v182_3 (v182_1 ua ub uc) (v182_2 ua ub uc) (v182_3 ua ub uc)))))),AV.int .i64 (bif b then ub else (bif decide (a1≤256) then (v182_2 ua ub uc) else (v182_2 (v182_1 (v182_1 (v182_1 ua ub uc) (v182_2 ua ub uc) (v182_3 ua ub uc)) (v182_2 (v182_1 ua ub uc) (v182_2 ua ub uc) (v182_3 ua ub uc)) (v182_3 (v182_1 ua ub uc) (v182_2 ua ub uc) (v182_3 ua ub uc))) (v182_2 (v182_1 (v182_1 ua ub uc) (v182_2 ua ub uc) (v182_3 ua ub uc)) (v182_2 (v182_1 ua ub uc) (v182_2 ua ub uc) (v182_3 ua ub uc)) (v182_3 (v182_1 ua ub uc) (v182_2 ua ub uc) (v182_3 ua ub uc))) (v182_3 (v182_1 (v182_1 ua ub uc) (v182_2 ua ub uc) (v182_3 ua ub uc)) (v182_2 (v182_1 ua ub uc) (v182_2 ua ub uc) (v182_3 ua ub uc)) (v182_3 (v182_1 ua ub uc) (v182_2 ua ub uc) (v182_3 ua ub uc)))))),AV.int .i64 (bif b then uc else (bif decide (a1≤256) then (v182_3 ua ub uc) else (v182_3 (v182_1 (v182_1 (v182_1 ua ub uc) (v182_2 ua ub uc) (v182_3 ua ub uc)) (v182_2 (v182_1 ua ub uc) (v182_2 ua ub uc) (v182_3 ua ub uc)) (v182_3 (v182_1 ua ub uc) (v182_2 ua ub uc) (v182_3 ua ub uc))) (v182_2 (v182_1 (v182_1 ua ub uc) (v182_2 ua ub uc) (v182_3 ua ub uc)) (v182_2 (v182_1 ua ub uc) (v182_2 ua ub uc) (v182_3 ua ub uc)) (v182_3 (v182_1 ua ub uc) (v182_2 ua ub uc) (v182_3 ua ub uc))) (v182_3 (v182_1 (v182_1 ua ub uc) (v182_2 ua ub uc) (v182_3 ua ub uc)) (v182_2 (v182_1 ua ub uc) (v182_2 ua ub uc) (v182_3 ua ub uc)) (v182_3 (v182_1 ua ub uc) (v182_2 ua ub uc) (v182_3 ua ub uc))))))]]⟩]) (fun _=>rfl) (br (fun b=>K [AV.int .i64 (bif b then Int.tmod (v182_0 ua ub uc) a1 else Int.tmod (IntKind.i64.wrap (IntKind.i64.wrap (IntKind.i64.wrap (IntKind.i64.wrap ((v182_0 ua ub uc)*16777216)+IntKind.i64.wrap ((v182_0 (v182_1 ua ub uc) (v182_2 ua ub uc) (v182_3 ua ub uc))*65536))+IntKind.i64.wrap ((v182_0 (v182_1 (v182_1 ua ub uc) (v182_2 ua ub uc) (v182_3 ua ub uc)) (v182_2 (v182_1 ua ub uc) (v182_2 ua ub uc) (v182_3 ua ub uc)) (v182_3 (v182_1 ua ub uc) (v182_2 ua ub uc) (v182_3 ua ub uc)))*256))+(v182_0 (v182_1 (v182_1 (v182_1 ua ub uc) (v182_2 ua ub uc) (v182_3 ua ub uc)) (v182_2 (v182_1 ua ub uc) (v182_2 ua ub uc) (v182_3 ua ub uc)) (v182_3 (v182_1 ua ub uc) (v182_2 ua ub uc) (v182_3 ua ub uc))) (v182_2 (v182_1 (v182_1 ua ub uc) (v182_2 ua ub uc) (v182_3 ua ub uc)) (v182_2 (v182_1 ua ub uc) (v182_2 ua ub uc) (v182_3 ua ub uc)) (v182_3 (v182_1 ua ub uc) (v182_2 ua ub uc) (v182_3 ua ub uc))) (v182_3 (v182_1 (v182_1 ua ub uc) (v182_2 ua ub uc) (v182_3 ua ub uc)) (v182_2 (v182_1 ua ub uc) (v182_2 ua ub uc) (v182_3 ua ub uc)) (v182_3 (v182_1 ua ub uc) (v182_2 ua ub uc) (v182_3 ua ub uc)))))) a1)] [some ⟨true,[],[AV.agg [AV.sl [.int .u8] (bif b then (v182_1 ua ub uc) else (v182_1 (v182_1 (v182_1 (v182_1 ua ub uc) (v182_2 ua ub uc) (v182_3 ua ub uc)) (v182_2 (v182_1 ua ub uc) (v182_2 ua ub uc) (v182_3 ua ub uc)) (v182_3 (v182_1 ua ub uc) (v182_2 ua ub uc) (v182_3 ua ub uc))) (v182_2 (v182_1 (v182_1 ua ub uc) (v182_2 ua ub uc) (v182_3 ua ub uc)) (v182_2 (v182_1 ua ub uc) (v182_2 ua ub uc) (v182_3 ua ub uc)) (v182_3 (v182_1 ua ub uc) (v182_2 ua ub uc) (v182_3 ua ub uc))) (v182_3 (v182_1 (v182_1 ua ub uc) (v182_2 ua ub uc) (v182_3 ua ub uc)) (v182_2 (v182_1 ua ub uc) (v182_2 ua ub uc) (v182_3 ua ub uc)) (v182_3 (v182_1 ua ub uc) (v182_2 ua ub uc) (v182_3 ua ub uc))))),AV.int .i64 (bif b then (v182_2 ua ub uc) else (v182_2 (v182_1 (v182_1 (v182_1 ua ub uc) (v182_2 ua ub uc) (v182_3 ua ub uc)) (v182_2 (v182_1 ua ub uc) (v182_2 ua ub uc) (v182_3 ua ub uc)) (v182_3 (v182_1 ua ub uc) (v182_2 ua ub uc) (v182_3 ua ub uc))) (v182_2 (v182_1 (v182_1 ua ub uc) (v182_2 ua ub uc) (v182_3 ua ub uc)) (v182_2 (v182_1 ua ub uc) (v182_2 ua ub uc) (v182_3 ua ub uc)) (v182_3 (v182_1 ua ub uc) (v182_2 ua ub uc) (v182_3 ua ub uc))) (v182_3 (v182_1 (v182_1 ua ub uc) (v182_2 ua ub uc) (v182_3 ua ub uc)) (v182_2 (v182_1 ua ub uc) (v182_2 ua ub uc) (v182_3 ua ub uc)) (v182_3 (v182_1 ua ub uc) (v182_2 ua ub uc) (v182_3 ua ub uc))))),AV.int .i64 (bif b then (v182_3 ua ub uc) else (v182_3 (v182_1 (v182_1 (v182_1 ua ub uc) (v182_2 ua ub uc) (v182_3 ua ub uc)) (v182_2 (v182_1 ua ub uc) (v182_2 ua ub uc) (v182_3 ua ub uc)) (v182_3 (v182_1 ua ub uc) (v182_2 ua ub uc) (v182_3 ua ub uc))) (v182_2 (v182_1 (v182_1 ua ub uc) (v182_2 ua ub uc) (v182_3 ua ub uc)) (v182_2 (v182_1 ua ub uc) (v182_2 ua ub uc) (v182_3 ua ub uc)) (v182_3 (v182_1 ua ub uc) (v182_2 ua ub uc) (v182_3 ua ub uc))) (v182_3 (v182_1 (v182_1 ua ub uc) (v182_2 ua ub uc) (v182_3 ua ub uc)) (v182_2 (v182_1 ua ub uc) (v182_2 ua ub uc) (v182_3 ua ub uc)) (v182_3 (v182_1 ua ub uc) (v182_2 ua ub uc) (v182_3 ua ub uc)))))]]⟩]) (brL (brL1 (fun _=>rfl))) (brL (brL (brL (brL (brL1 (fun _=>rfl)))))))) h)
def m131:GModel
 | [.ptr g0 g1 g2,.int .i64 a1],[⟨true,[],[.agg [.sl g3 ua,.int .i64 ub,.int .i64 uc]]⟩]=>bif nmEq g0 ([1]) && Nat.beq g1 0 && Nat.beq g2 0 && ctsEq g3 ([.int .u8]) then some (q131 a1 ua ub uc,[AV.int .i64 (v131_0 a1 ua ub uc)],[some ⟨true,[],[AV.agg [AV.sl [.int .u8] (v131_1 a1 ua ub uc),AV.int .i64 (v131_2 a1 ua ub uc),AV.int .i64 (v131_3 a1 ua ub uc)]]⟩]) else none
 | _,_=>none
theorem k131:Known Tryz.prog 131:=⟨Tryz.f131,Tryz.func131,by kernel_rfl,by kernel_rfl⟩
theorem meets131:MeetsG Tryz.prog 131 m131:=by
 refine mg (rt:=[3]) (gs:=[]) (lvl:=0) (cf:=c131) rfl mixed k131 Tryz.func131 (by kernel_rfl) noLoop allT_nil (allG_cons meets182 allM_nil) noI fun xs bs r bs' h K=>?_
 unfold m131 at h
 split at h
 ·rename_i g0 g1 g2 a1 g3 ua ub uc
  obtain ⟨hg,h⟩:=bif_pair h
  simp only [Bool.and_eq_true] at hg
  obtain ⟨⟨⟨q0,q1⟩,q2⟩,q3⟩:=hg
  obtain rfl:=nE q0
  obtain rfl:=bE q1
  obtain rfl:=bE q2
  obtain rfl:=cE q3
  obtain ⟨h1,rfl,rfl⟩:=trip_inj h
  exact r131 a1 ua ub uc K h1
 ·cases h
noncomputable def c132:Cfg:=cfg Tryz.prog [(132,999,[4])] [] [(131,.g m131)] [] []
def T132 {β:Type} (k:(Int × (List AV) × Int × Int × (List AV))→β) (n:β) (ua:List AV) (ub:Int) (uc:Int) (b1:List AV):β:=(bif q131 (b1.length:Int) ua ub uc then (bif (decide (0≤(v131_0 (b1.length:Int) ua ub uc)) && decide ((v131_0 (b1.length:Int) ua ub uc)<(b1.length:Int))) then k (fI (b1.getD (v131_0 (b1.length:Int) ua ub uc).toNat .undef) 0,(v131_1 (b1.length:Int) ua ub uc),(v131_2 (b1.length:Int) ua ub uc),(v131_3 (b1.length:Int) ua ub uc),b1)
 else n)
 else n)
abbrev W132 (ua:List AV) (ub:Int) (uc:Int) (b1:List AV):Option (Int × (List AV) × Int × Int × (List AV)):=T132 some none ua ub uc b1
theorem n132 {β:Type} (k:(Int × (List AV) × Int × Int × (List AV))→β) (n:β) (ua:List AV) (ub:Int) (uc:Int) (b1:List AV):T132 k n ua ub uc b1=oe k n (W132 ua ub uc b1):=by
 unfold W132 T132
 simp only [oe_cond,oe_ro,oe_sum,oe_some,oe_none]
def q132 (ua:List AV) (ub uc:Int) (b1:List AV):Bool:=(W132 ua ub uc b1).isSome
def v132_0 (ua:List AV) (ub uc:Int) (b1:List AV):Int:=oe (fun t=>t.1) 0 (W132 ua ub uc b1)
def v132_1 (ua:List AV) (ub uc:Int) (b1:List AV):List AV:=oe (fun t=>t.2.1) [] (W132 ua ub uc b1)
def v132_2 (ua:List AV) (ub uc:Int) (b1:List AV):Int:=oe (fun t=>t.2.2.1) 0 (W132 ua ub uc b1)
def v132_3 (ua:List AV) (ub uc:Int) (b1:List AV):Int:=oe (fun t=>t.2.2.2.1) 0 (W132 ua ub uc b1)
def v132_4 (ua:List AV) (ub uc:Int) (b1:List AV):List AV:=oe (fun t=>t.2.2.2.2) [] (W132 ua ub uc b1)
theorem e132 (ua:List AV) (ub uc:Int) (b1:List AV) (K:List AV→List (Option Blk)→Option AV):inlA c132 1 132 [AV.ptr [1] 0 0,AV.own [2]] [0] (canH 1 [⟨true,[],[AV.agg [AV.sl [.int .u8] ua,Ai ub,Ai uc]]⟩,⟨false,[.int .i64],b1⟩]) (keepG Tryz.prog 2 [3] [] K)=T132 (fun t=>K [Ai t.1] [some ⟨true,[],[AV.agg [AV.sl [.int .u8] t.2.1,Ai t.2.2.1,Ai t.2.2.2.1]]⟩,some ⟨false,[.int .i64],t.2.2.2.2⟩]) none ua ub uc b1:=by kernel_rfl
theorem r132 (ua:List AV) (ub uc:Int) (b1:List AV) (K:List AV→List (Option Blk)→Option AV) (h:q132 ua ub uc b1=true):inlA c132 1 132 [AV.ptr [1] 0 0,AV.own [2]] [0] (canH 1 [⟨true,[],[AV.agg [AV.sl [.int .u8] ua,AV.int .i64 ub,AV.int .i64 uc]]⟩,⟨false,[.int .i64],b1⟩]) (keepG Tryz.prog 2 [3] [] K)=K [AV.int .i64 (v132_0 ua ub uc b1)] [some ⟨true,[],[AV.agg [AV.sl [.int .u8] (v132_1 ua ub uc b1),AV.int .i64 (v132_2 ua ub uc b1),AV.int .i64 (v132_3 ua ub uc b1)]]⟩,some ⟨false,[.int .i64],(v132_4 ua ub uc b1)⟩]:=by
 refine ((e132 ua ub uc b1 K).trans (n132 _ _ ua ub uc b1)).trans ?_
 unfold q132 at h
 unfold v132_0 v132_1 v132_2 v132_3 v132_4
 generalize W132 ua ub uc b1=o at *
 cases o with
 | none=>cases h
 | some t=>rfl
def m132:GModel
 | [.ptr g0 g1 g2,.own g3],[⟨true,[],[.agg [.sl g4 ua,.int .i64 ub,.int .i64 uc]]⟩,⟨false,g5,b1⟩]=>bif nmEq g0 ([1]) && Nat.beq g1 0 && Nat.beq g2 0 && nmEq g3 ([2]) && ctsEq g4 ([.int .u8]) && ctsEq g5 ([.int .i64]) then some (q132 ua ub uc b1,[AV.int .i64 (v132_0 ua ub uc b1)],[some ⟨true,[],[AV.agg [AV.sl [.int .u8] (v132_1 ua ub uc b1),AV.int .i64 (v132_2 ua ub uc b1),AV.int .i64 (v132_3 ua ub uc b1)]]⟩,some ⟨false,[.int .i64],(v132_4 ua ub uc b1)⟩]) else none
 | _,_=>none
theorem k132:Known Tryz.prog 132:=⟨Tryz.f132,Tryz.func132,by kernel_rfl,by kernel_rfl⟩
theorem meets132:MeetsG Tryz.prog 132 m132:=by
 refine mg (rt:=[3]) (gs:=[]) (lvl:=0) (cf:=c132) rfl mixed k132 Tryz.func132 (by kernel_rfl) noLoop allT_nil (allG_cons meets131 allM_nil) noI fun xs bs r bs' h K=>?_
 unfold m132 at h
 split at h
 ·rename_i g0 g1 g2 g3 g4 ua ub uc g5 b1
  obtain ⟨hg,h⟩:=bif_pair h
  simp only [Bool.and_eq_true] at hg
  obtain ⟨⟨⟨⟨⟨q0,q1⟩,q2⟩,q3⟩,q4⟩,q5⟩:=hg
  obtain rfl:=nE q0
  obtain rfl:=bE q1
  obtain rfl:=bE q2
  obtain rfl:=nE q3
  obtain rfl:=cE q4
  obtain rfl:=cE q5
  obtain ⟨h1,rfl,rfl⟩:=trip_inj h
  exact r132 ua ub uc b1 K h1
 ·cases h
def G91_0 {β:Type} (t6:Int) (t7:Int) (h0:List AV) (h1_0:List AV) (h1_1:Int) (h1_2:Int) (N:((Int × (List AV) × (List AV) × Int × Int))→β) (K:(((List AV) × (List AV) × Int × Int))→β) (d:β):β:=(bif decide (t7 > 0) then (bif q131 t6 h1_0 h1_1 h1_2 then (bif !decide (3=0) then (bif (decide ((h0.length+([AV.int .i64 (IntKind.i64.wrap ((v131_0 t6 h1_0 h1_1 h1_2) - IntKind.i64.wrap (Int.tdiv t6 3)))]).length)*8≤140737488355328) && decide ((h0.length+([AV.int .i64 (IntKind.i64.wrap ((v131_0 t6 h1_0 h1_1 h1_2) - IntKind.i64.wrap (Int.tdiv t6 3)))]).length)≤140737488355328)) then N (IntKind.i64.wrap (t7 - 1),h0++([AV.int .i64 (IntKind.i64.wrap ((v131_0 t6 h1_0 h1_1 h1_2) - IntKind.i64.wrap (Int.tdiv t6 3)))]),(v131_1 t6 h1_0 h1_1 h1_2),(v131_2 t6 h1_0 h1_1 h1_2),(v131_3 t6 h1_0 h1_1 h1_2))
 else d)
 else d)
 else d)
 else K (h0,h1_0,h1_1,h1_2))
def F91_0 (t6 t7:Int) (h0 h1_0:List AV) (h1_1 h1_2:Int):Out ((Int × (List AV) × (List AV) × Int × Int)) (((List AV) × (List AV) × Int × Int)):=G91_0 t6 t7 h0 h1_0 h1_1 h1_2 .next .stop .fail
def R91_0 (t6:Int):((Int × (List AV) × (List AV) × Int × Int))→Out ((Int × (List AV) × (List AV) × Int × Int)) (((List AV) × (List AV) × Int × Int)):=fun s:Int × (List AV) × (List AV) × Int × Int=>F91_0 t6 s.1 s.2.1 s.2.2.1 s.2.2.2.1 s.2.2.2.2
def E91_0 (t6:Int):((Int × (List AV) × (List AV) × Int × Int))→St:=fun s:Int × (List AV) × (List AV) × Int × Int=>⟨[(0,AV.ptr [1] 0 0),(5,AV.own [0,5,0]),(6,Ai t6),(7,Ai s.1)],[([0,5,0],⟨false,[.int .i64],s.2.1⟩),([1],⟨true,[],[AV.agg [AV.sl [.int .u8] s.2.2.1,Ai s.2.2.2.1,Ai s.2.2.2.2]]⟩)]⟩
def K91_0 (t6:Int) (k:Kont):(((List AV) × (List AV) × Int × Int))→Option AV:=fun p:(List AV) × (List AV) × Int × Int=>k (.exit 0) ⟨[(5,AV.own [0,5,0])],[([0,5,0],⟨false,[.int .i64],p.1⟩),([1],⟨true,[],[AV.agg [AV.sl [.int .u8] p.2.1,Ai p.2.2.1,Ai p.2.2.2]]⟩)]⟩
def l91_0:LModel:=fun _ _ st k=>match st with
 | ⟨[(0,.ptr g0 g1 g2),(5,.own g3),(6,.int .i64 t6),(7,.int .i64 t7)],[(g4,⟨false,g5,h0⟩),(g6,⟨true,[],[.agg [.sl g7 h1_0,.int .i64 h1_1,.int .i64 h1_2]]⟩)]⟩=>bif nmEq g0 ([1]) && Nat.beq g1 0 && Nat.beq g2 0 && nmEq g3 ([0,5,0]) && nmEq g4 ([0,5,0]) && ctsEq g5 ([.int .i64]) && nmEq g6 ([1]) && ctsEq g7 ([.int .u8]) then ro (runW (R91_0 t6) ((t7 - 0:Int).toNat+1) (t7,h0,h1_0,h1_1,h1_2)) none (K91_0 t6 k) else none
 | _=>none
noncomputable def c91:Cfg:=cfg Tryz.prog [(91,0,[0,5,6,7]),(91,999,[4]),(91,1000,[5]),(91,1001,[0,5,6,7])] [] [(131,.g m131),(132,.g m132)] [] [(91,0,l91_0)]
theorem s91_0 (t6:Int) (ce:CallE) (k:Kont) (s:Int × (List AV) × (List AV) × Int × Int) (next:St→Option AV):stepA (codeA c91 ce [0] 91 0 (sub [1,1,1,0,1,0,0] (body Tryz.f91))) (normA [0] [0,5,6,7]) next ((E91_0 t6) s) k=G91_0 t6 s.1 s.2.1 s.2.2.1 s.2.2.2.1 s.2.2.2.2 (fun s=>next ((E91_0 t6) s)) (K91_0 t6 k) none:=by kernel_rfl
theorem st91_0 (t6:Int) (ce:CallE) (k:Kont) (s:(Int × (List AV) × (List AV) × Int × Int)) (next:St→Option AV):stepA (codeA c91 ce [0] 91 0 (sub [1,1,1,0,1,0,0] (body Tryz.f91))) (normA [0] [0,5,6,7]) next ((E91_0 t6) s) k=(R91_0 t6 s).el none (fun s=>next ((E91_0 t6) s)) (K91_0 t6 k):=(s91_0 t6 ce k s next).trans (by unfold R91_0;unfold F91_0 G91_0;simp only [el_cond,el_ro,el_sum,el_fail,el_next,el_stop] <;> rfl)
theorem ok91_0 {ce:CallE}:LoopOK c91 ce [0] 91 0 (sub [1,1,1,0,1,0,0] (body Tryz.f91)):=by
 intro m hm st k r h
 obtain rfl:l91_0=m:=Option.some.inj hm
 unfold l91_0 at h
 split at h
 ·rename_i g0 g1 g2 g3 t6 t7 g4 g5 h0 g6 g7 h1_0 h1_1 h1_2
  obtain ⟨hg,h⟩:=bif_some h
  simp only [Bool.and_eq_true] at hg
  obtain ⟨⟨⟨⟨⟨⟨⟨q0,q1⟩,q2⟩,q3⟩,q4⟩,q5⟩,q6⟩,q7⟩:=hg
  obtain rfl:=nE q0
  obtain rfl:=bE q1
  obtain rfl:=bE q2
  obtain rfl:=nE q3
  obtain rfl:=nE q4
  obtain rfl:=cE q5
  obtain rfl:=nE q6
  obtain rfl:=cE q7
  refine ⟨((t7 - 0:Int).toNat+1),?_⟩
  rw [← h]
  exact loop_run (E91_0 t6) (K91_0 t6 k) (st91_0 t6 ce k) _ (t7,h0,h1_0,h1_1,h1_2)
 ·cases h
def T91 {β:Type} (k:((List AV) × (List AV) × Int × Int)→β) (n:β) (a1:Int) (ua:List AV) (ub:Int) (uc:Int):β:=by
 refine (?f0:Int→(List AV)→Int→Int→β) (v132_0 ua ub uc ([AV.int .i64 3,AV.int .i64 10,AV.int .i64 30,AV.int .i64 1000])) (v132_1 ua ub uc ([AV.int .i64 3,AV.int .i64 10,AV.int .i64 30,AV.int .i64 1000])) (v132_2 ua ub uc ([AV.int .i64 3,AV.int .i64 10,AV.int .i64 30,AV.int .i64 1000])) (v132_3 ua ub uc ([AV.int .i64 3,AV.int .i64 10,AV.int .i64 30,AV.int .i64 1000]));intro x1 x2 x3 x4
 exact (bif q132 ua ub uc ([AV.int .i64 3,AV.int .i64 10,AV.int .i64 30,AV.int .i64 1000]) then (bif q131 (IntKind.i64.wrap (a1+1)) x2 x3 x4 then (ro (runW (R91_0 x1) (((v131_0 (IntKind.i64.wrap (a1+1)) x2 x3 x4) - 0:Int).toNat+1) ((v131_0 (IntKind.i64.wrap (a1+1)) x2 x3 x4),([]:List AV),(v131_1 (IntKind.i64.wrap (a1+1)) x2 x3 x4),(v131_2 (IntKind.i64.wrap (a1+1)) x2 x3 x4),(v131_3 (IntKind.i64.wrap (a1+1)) x2 x3 x4))) n (fun p2=>k (p2.1,p2.2.1,p2.2.2.1,p2.2.2.2)))
 else n)
 else n)
abbrev W91 (a1:Int) (ua:List AV) (ub:Int) (uc:Int):Option ((List AV) × (List AV) × Int × Int):=T91 some none a1 ua ub uc
theorem n91 {β:Type} (k:((List AV) × (List AV) × Int × Int)→β) (n:β) (a1:Int) (ua:List AV) (ub:Int) (uc:Int):T91 k n a1 ua ub uc=oe k n (W91 a1 ua ub uc):=by
 unfold W91 T91
 simp only [oe_cond,oe_ro,oe_sum,oe_some,oe_none]
def q91 (a1:Int) (ua:List AV) (ub uc:Int):Bool:=(W91 a1 ua ub uc).isSome
def v91_0 (a1:Int) (ua:List AV) (ub uc:Int):List AV:=oe (fun t=>t.1) [] (W91 a1 ua ub uc)
def v91_1 (a1:Int) (ua:List AV) (ub uc:Int):List AV:=oe (fun t=>t.2.1) [] (W91 a1 ua ub uc)
def v91_2 (a1:Int) (ua:List AV) (ub uc:Int):Int:=oe (fun t=>t.2.2.1) 0 (W91 a1 ua ub uc)
def v91_3 (a1:Int) (ua:List AV) (ub uc:Int):Int:=oe (fun t=>t.2.2.2) 0 (W91 a1 ua ub uc)
theorem e91 (a1:Int) (ua:List AV) (ub uc:Int) (K:List AV→List (Option Blk)→Option AV):inlA c91 1 91 [AV.ptr [1] 0 0,Ai a1] [0] (canH 1 [⟨true,[],[AV.agg [AV.sl [.int .u8] ua,Ai ub,Ai uc]]⟩]) (keepG Tryz.prog 1 [24] [] K)=T91 (fun t=>K [AV.fl [.int .i64] t.1] [some ⟨true,[],[AV.agg [AV.sl [.int .u8] t.2.1,Ai t.2.2.1,Ai t.2.2.2]]⟩]) none a1 ua ub uc:=by kernel_rfl
theorem r91 (a1:Int) (ua:List AV) (ub uc:Int) (K:List AV→List (Option Blk)→Option AV) (h:q91 a1 ua ub uc=true):inlA c91 1 91 [AV.ptr [1] 0 0,AV.int .i64 a1] [0] (canH 1 [⟨true,[],[AV.agg [AV.sl [.int .u8] ua,AV.int .i64 ub,AV.int .i64 uc]]⟩]) (keepG Tryz.prog 1 [24] [] K)=K [AV.fl [.int .i64] (v91_0 a1 ua ub uc)] [some ⟨true,[],[AV.agg [AV.sl [.int .u8] (v91_1 a1 ua ub uc),AV.int .i64 (v91_2 a1 ua ub uc),AV.int .i64 (v91_3 a1 ua ub uc)]]⟩]:=by
 refine ((e91 a1 ua ub uc K).trans (n91 _ _ a1 ua ub uc)).trans ?_
 unfold q91 at h
 unfold v91_0 v91_1 v91_2 v91_3
 generalize W91 a1 ua ub uc=o at *
 cases o with
 | none=>cases h
 | some t=>rfl
def m91:GModel
 | [.ptr g0 g1 g2,.int .i64 a1],[⟨true,[],[.agg [.sl g3 ua,.int .i64 ub,.int .i64 uc]]⟩]=>bif nmEq g0 ([1]) && Nat.beq g1 0 && Nat.beq g2 0 && ctsEq g3 ([.int .u8]) then some (q91 a1 ua ub uc,[AV.fl [.int .i64] (v91_0 a1 ua ub uc)],[some ⟨true,[],[AV.agg [AV.sl [.int .u8] (v91_1 a1 ua ub uc),AV.int .i64 (v91_2 a1 ua ub uc),AV.int .i64 (v91_3 a1 ua ub uc)]]⟩]) else none
 | _,_=>none
theorem k91:Known Tryz.prog 91:=⟨Tryz.f91,Tryz.func91,by kernel_rfl,by kernel_rfl⟩
theorem meets91:MeetsG Tryz.prog 91 m91:=by
 refine mg (rt:=[24]) (gs:=[]) (lvl:=0) (cf:=c91) rfl mixed k91 Tryz.func91 (by kernel_rfl) (loops_cons ok91_0 noLoop) allT_nil (allG_cons meets131 (allG_cons meets132 allM_nil)) noI fun xs bs r bs' h K=>?_
 unfold m91 at h
 split at h
 ·rename_i g0 g1 g2 a1 g3 ua ub uc
  obtain ⟨hg,h⟩:=bif_pair h
  simp only [Bool.and_eq_true] at hg
  obtain ⟨⟨⟨q0,q1⟩,q2⟩,q3⟩:=hg
  obtain rfl:=nE q0
  obtain rfl:=bE q1
  obtain rfl:=bE q2
  obtain rfl:=cE q3
  obtain ⟨h1,rfl,rfl⟩:=trip_inj h
  exact r91 a1 ua ub uc K h1
 ·cases h
noncomputable def c72:Cfg:=cfg Tryz.prog [(72,999,[6])] [] [] [] []
def v72_0 (a0 a1 a2:Int):Bool:=(bif decide (a0 ≥ a1) then decide (a0≤a2) else false)
theorem e72 (a0 a1 a2:Int):funA c72 0 72 [Ai a0,Ai a1,Ai a2]=(bif decide (a0 ≥ a1) then some (AV.bool (decide (a0≤a2)))
 else some (AV.bool false)):=by kernel_rfl
def m72:TModel
 | [.int .i64 a0,.int .i64 a1,.int .i64 a2]=>some (true,AV.bool (v72_0 a0 a1 a2))
 | _=>none
theorem k72:Known Tryz.prog 72:=⟨Tryz.f72,Tryz.func72,by kernel_rfl,by kernel_rfl⟩
theorem meets72:Meets Tryz.prog 72 m72:=by
 refine mt (lvl:=0) (cf:=c72) rfl mixed k72 Tryz.func72 (by kernel_rfl) noLoop allT_nil allM_nil noI fun xs r h=>?_
 unfold m72 at h
 split at h
 ·rename_i a0 a1 a2
  obtain ⟨h1,rfl⟩:=pair_inj h
  exact (e72 a0 a1 a2).trans (of_tt (brT (fun b=>some (AV.bool (bif b then decide (a0≤a2) else false))) (fun _=>rfl) (fun _=>rfl)))
 ·cases h
def G100_0 {β:Type} (t0:List AV) (t3:Int) (N:(Int)→β) (K:(Unit ⊕ Unit)→β) (d:β):β:=(bif decide (t3<(t0.length:Int)) then (bif (decide (0≤t3) && decide (t3<(t0.length:Int))) then (bif !(v72_0 (fI (t0.getD t3.toNat .undef) 0) (-999) 999) then K (.inr ())
 else N (IntKind.i64.wrap (t3+1)))
 else d)
 else K (.inl ()))
def F100_0 (t0:List AV) (t3:Int):Out (Int) (Unit ⊕ Unit):=G100_0 t0 t3 .next .stop .fail
def R100_0 (t0:List AV):(Int)→Out (Int) (Unit ⊕ Unit):=fun s:Int=>F100_0 t0 s
def E100_0 (t0:List AV):(Int)→St:=fun s:Int=>⟨[(0,AV.sl [.int .i64] t0),(3,Ai s)],[]⟩
def K100_0 (t0:List AV) (k:Kont):(Unit ⊕ Unit)→Option AV:=sumE (fun _:Unit=>k (.exit 0) ⟨[(0,AV.sl [.int .i64] t0)],[]⟩) (fun _:Unit=>k .ret ⟨[(2,AV.bool false)],[]⟩)
def l100_0:LModel:=fun _ _ st k=>match st with
 | ⟨[(0,.sl g0 t0),(3,.int .i64 t3)],[]⟩=>bif ctsEq g0 ([.int .i64]) then ro (runW (R100_0 t0) (((t0.length:Int) - t3:Int).toNat+1) t3) none (K100_0 t0 k) else none
 | _=>none
noncomputable def c100:Cfg:=cfg Tryz.prog [(100,0,[0,3]),(100,999,[2]),(100,1000,[0]),(100,1001,[0,3])] [(72,m72)] [] [] [(100,0,l100_0)]
theorem s100_0 (t0:List AV) (ce:CallE) (k:Kont) (s:Int) (next:St→Option AV):stepA (codeA c100 ce [] 100 0 (sub [1,0,1,0,0] (body Tryz.f100))) (normA [] [0,3]) next ((E100_0 t0) s) k=G100_0 t0 s (fun s=>next ((E100_0 t0) s)) (K100_0 t0 k) none:=by kernel_rfl
theorem st100_0 (t0:List AV) (ce:CallE) (k:Kont) (s:Int) (next:St→Option AV):stepA (codeA c100 ce [] 100 0 (sub [1,0,1,0,0] (body Tryz.f100))) (normA [] [0,3]) next ((E100_0 t0) s) k=(R100_0 t0 s).el none (fun s=>next ((E100_0 t0) s)) (K100_0 t0 k):=(s100_0 t0 ce k s next).trans (by unfold R100_0;unfold F100_0 G100_0;simp only [el_cond,el_ro,el_sum,el_fail,el_next,el_stop] <;> rfl)
theorem ok100_0 {ce:CallE}:LoopOK c100 ce [] 100 0 (sub [1,0,1,0,0] (body Tryz.f100)):=by
 intro m hm st k r h
 obtain rfl:l100_0=m:=Option.some.inj hm
 unfold l100_0 at h
 split at h
 ·rename_i g0 t0 t3
  obtain ⟨hg,h⟩:=bif_some h
  have q0:=hg
  obtain rfl:=cE q0
  refine ⟨(((t0.length:Int) - t3:Int).toNat+1),?_⟩
  rw [← h]
  exact loop_run (E100_0 t0) (K100_0 t0 k) (st100_0 t0 ce k) _ t3
 ·cases h
def q100 (a0:List AV):Bool:=(ro (runW (R100_0 a0) (((a0.length:Int) - 0:Int).toNat+1) 0) false (sumE (fun _=>true) (fun _=>true)))
def v100_0 (a0:List AV):Bool:=(ro (runW (R100_0 a0) (((a0.length:Int) - 0:Int).toNat+1) 0) false (sumE (fun _=>decide ((a0.length:Int)≤64)) (fun _=>false)))
theorem e100 (a0:List AV):funA c100 0 100 [AV.sl [.int .i64] a0]=(ro (runW (R100_0 a0) (((a0.length:Int) - 0:Int).toNat+1) 0) none (sumE (fun _=>some (AV.bool (decide ((a0.length:Int)≤64)))) (fun _=>some (AV.bool false)))):=by kernel_rfl
def m100:TModel
 | [.sl g0 a0]=>bif ctsEq g0 ([.int .i64]) then some (q100 a0,AV.bool (v100_0 a0)) else none
 | _=>none
theorem k100:Known Tryz.prog 100:=⟨Tryz.f100,Tryz.func100,by kernel_rfl,by kernel_rfl⟩
theorem meets100:Meets Tryz.prog 100 m100:=by
 refine mt (lvl:=0) (cf:=c100) rfl mixed k100 Tryz.func100 (by kernel_rfl) (loops_cons ok100_0 noLoop) (allT_cons meets72 allT_nil) allM_nil noI fun xs r h=>?_
 unfold m100 at h
 split at h
 ·rename_i g0 a0
  obtain ⟨hg,h⟩:=bif_pair h
  have q0:=hg
  obtain rfl:=cE q0
  obtain ⟨h1,rfl⟩:=pair_inj h
  exact (e100 a0).trans ((brO (fun o:Option (Unit ⊕ Unit)=>some (AV.bool (ro o false (sumE (fun _=>decide ((a0.length:Int)≤64)) (fun _=>false))))) (brS (fun o:Unit ⊕ Unit=>some (AV.bool ((sumE (fun _=>decide ((a0.length:Int)≤64)) (fun _=>false)) o))) (fun _=>(fun _=>rfl)) (fun _=>(fun _=>rfl)))) h1)
 ·cases h
def G99_0_s0 {β:Type} (t0:List AV) (h0:List AV) (t4:Int) (N:(Int ⊕ (Int × (List AV)))→β) (K:(Unit ⊕ ((List AV)))→β) (d:β):β:=(bif decide (t4<(t0.length:Int)) then (bif (decide ((([AV.int .i64 t4]).length)*8≤140737488355328) && decide ((([AV.int .i64 t4]).length)≤140737488355328)) then N (.inr (IntKind.i64.wrap (t4+1),[AV.int .i64 t4]))
 else d)
 else K (.inl ()))
def F99_0_s0 (t0 h0:List AV) (t4:Int):Out (Int ⊕ (Int × (List AV))) (Unit ⊕ ((List AV))):=G99_0_s0 t0 h0 t4 .next .stop .fail
def G99_0_s1 {β:Type} (t0:List AV) (h0:List AV) (t4:Int) (h1:List AV) (N:(Int ⊕ (Int × (List AV)))→β) (K:(Unit ⊕ ((List AV)))→β) (d:β):β:=(bif decide (t4<(t0.length:Int)) then (bif (decide ((h1.length+([AV.int .i64 t4]).length)*8≤140737488355328) && decide ((h1.length+([AV.int .i64 t4]).length)≤140737488355328)) then N (.inr (IntKind.i64.wrap (t4+1),h1++([AV.int .i64 t4])))
 else d)
 else K (.inr h1))
def F99_0_s1 (t0 h0:List AV) (t4:Int) (h1:List AV):Out (Int ⊕ (Int × (List AV))) (Unit ⊕ ((List AV))):=G99_0_s1 t0 h0 t4 h1 .next .stop .fail
def R99_0 (t0 h0:List AV):(Int ⊕ (Int × (List AV)))→Out (Int ⊕ (Int × (List AV))) (Unit ⊕ ((List AV))):=sumE (fun s:Int=>F99_0_s0 t0 h0 s) (fun s:Int × (List AV)=>F99_0_s1 t0 h0 s.1 s.2)
def E99_0 (t0 h0:List AV):(Int ⊕ (Int × (List AV)))→St:=sumE (fun s:Int=>⟨[(0,AV.sl [.int .i64] t0),(2,AV.ptr [0,2] 0 0),(3,AV.ptr [0,3] 0 0),(4,Ai s)],[([0,0,3],⟨false,[.int .i64],h0⟩),([0,2],⟨true,[],[AV.agg [AV.snil,AV.snil,AV.snil]]⟩),([0,3],⟨true,[],[AV.agg [AV.own [0,0,3],AV.snil,AV.snil]]⟩)]⟩) (fun s:Int × (List AV)=>⟨[(0,AV.sl [.int .i64] t0),(2,AV.ptr [0,2] 0 0),(3,AV.ptr [0,3] 0 0),(4,Ai s.1)],[([0,0,3],⟨false,[.int .i64],h0⟩),([0,1,3],⟨false,[.int .i64],s.2⟩),([0,2],⟨true,[],[AV.agg [AV.snil,AV.snil,AV.snil]]⟩),([0,3],⟨true,[],[AV.agg [AV.own [0,0,3],AV.own [0,1,3],AV.snil]]⟩)]⟩)
def K99_0 (t0 h0:List AV) (k:Kont):(Unit ⊕ ((List AV)))→Option AV:=sumE (fun _:Unit=>k (.exit 0) ⟨[(2,AV.ptr [0,2] 0 0),(3,AV.ptr [0,3] 0 0)],[([0,0,3],⟨false,[.int .i64],h0⟩),([0,2],⟨true,[],[AV.agg [AV.snil,AV.snil,AV.snil]]⟩),([0,3],⟨true,[],[AV.agg [AV.own [0,0,3],AV.snil,AV.snil]]⟩)]⟩) (fun p:(List AV)=>k (.exit 0) ⟨[(2,AV.ptr [0,2] 0 0),(3,AV.ptr [0,3] 0 0)],[([0,0,3],⟨false,[.int .i64],h0⟩),([0,1,3],⟨false,[.int .i64],p⟩),([0,2],⟨true,[],[AV.agg [AV.snil,AV.snil,AV.snil]]⟩),([0,3],⟨true,[],[AV.agg [AV.own [0,0,3],AV.own [0,1,3],AV.snil]]⟩)]⟩)
def l99_0:LModel:=fun _ _ st k=>match st with
 | ⟨[(0,.sl g0 t0),(2,.ptr g1 g2 g3),(3,.ptr g4 g5 g6),(4,.int .i64 t4)],[(g7,⟨false,g8,h0⟩),(g9,⟨true,[],[.agg [.snil,.snil,.snil]]⟩),(g10,⟨true,[],[.agg [.own g11,.snil,.snil]]⟩)]⟩=>bif ctsEq g0 ([.int .i64]) && nmEq g1 ([0,2]) && Nat.beq g2 0 && Nat.beq g3 0 && nmEq g4 ([0,3]) && Nat.beq g5 0 && Nat.beq g6 0 && nmEq g7 ([0,0,3]) && ctsEq g8 ([.int .i64]) && nmEq g9 ([0,2]) && nmEq g10 ([0,3]) && nmEq g11 ([0,0,3]) then ro (runW (R99_0 t0 h0) (((t0.length:Int) - t4:Int).toNat+1) (.inl t4)) none (K99_0 t0 h0 k) else none
 | ⟨[(0,.sl g0 t0),(2,.ptr g1 g2 g3),(3,.ptr g4 g5 g6),(4,.int .i64 t4)],[(g7,⟨false,g8,h0⟩),(g9,⟨false,g10,h1⟩),(g11,⟨true,[],[.agg [.snil,.snil,.snil]]⟩),(g12,⟨true,[],[.agg [.own g13,.own g14,.snil]]⟩)]⟩=>bif ctsEq g0 ([.int .i64]) && nmEq g1 ([0,2]) && Nat.beq g2 0 && Nat.beq g3 0 && nmEq g4 ([0,3]) && Nat.beq g5 0 && Nat.beq g6 0 && nmEq g7 ([0,0,3]) && ctsEq g8 ([.int .i64]) && nmEq g9 ([0,1,3]) && ctsEq g10 ([.int .i64]) && nmEq g11 ([0,2]) && nmEq g12 ([0,3]) && nmEq g13 ([0,0,3]) && nmEq g14 ([0,1,3]) then ro (runW (R99_0 t0 h0) (((t0.length:Int) - t4:Int).toNat+1) (.inr (t4,h1))) none (K99_0 t0 h0 k) else none
 | _=>none
noncomputable def c99:Cfg:=cfg Tryz.prog [(99,0,[0,2,3,4]),(99,999,[2]),(99,1000,[2,3]),(99,1001,[0,2,3,4])] [(100,m100)] [] [] [(99,0,l99_0)]
theorem s99_0_s0 (t0 h0:List AV) (ce:CallE) (k:Kont) (s:Int) (next:St→Option AV):stepA (codeA c99 ce [] 99 0 (sub [1,1,1,0,1,0,0] (body Tryz.f99))) (normA [] [0,2,3,4]) next ((E99_0 t0 h0) (.inl s)) k=G99_0_s0 t0 h0 s (fun s=>next ((E99_0 t0 h0) s)) (K99_0 t0 h0 k) none:=by kernel_rfl
theorem s99_0_s1 (t0 h0:List AV) (ce:CallE) (k:Kont) (s:Int × (List AV)) (next:St→Option AV):stepA (codeA c99 ce [] 99 0 (sub [1,1,1,0,1,0,0] (body Tryz.f99))) (normA [] [0,2,3,4]) next ((E99_0 t0 h0) (.inr s)) k=G99_0_s1 t0 h0 s.1 s.2 (fun s=>next ((E99_0 t0 h0) s)) (K99_0 t0 h0 k) none:=by kernel_rfl
theorem st99_0 (t0 h0:List AV) (ce:CallE) (k:Kont) (s:Int ⊕ (Int × (List AV))) (next:St→Option AV):stepA (codeA c99 ce [] 99 0 (sub [1,1,1,0,1,0,0] (body Tryz.f99))) (normA [] [0,2,3,4]) next ((E99_0 t0 h0) s) k=(R99_0 t0 h0 s).el none (fun s=>next ((E99_0 t0 h0) s)) (K99_0 t0 h0 k):=(match s with | .inl s=>(s99_0_s0 t0 h0 ce k s next).trans (by unfold R99_0;unfold F99_0_s0 G99_0_s0;simp only [el_cond,el_ro,el_sum,el_fail,el_next,el_stop] <;> rfl) | .inr s=>(s99_0_s1 t0 h0 ce k s next).trans (by unfold R99_0;unfold F99_0_s1 G99_0_s1;simp only [el_cond,el_ro,el_sum,el_fail,el_next,el_stop] <;> rfl))
theorem ok99_0 {ce:CallE}:LoopOK c99 ce [] 99 0 (sub [1,1,1,0,1,0,0] (body Tryz.f99)):=by
 intro m hm st k r h
 obtain rfl:l99_0=m:=Option.some.inj hm
 unfold l99_0 at h
 split at h
 ·rename_i g0 t0 g1 g2 g3 g4 g5 g6 t4 g7 g8 h0 g9 g10 g11
  obtain ⟨hg,h⟩:=bif_some h
  simp only [Bool.and_eq_true] at hg
  obtain ⟨⟨⟨⟨⟨⟨⟨⟨⟨⟨⟨q0,q1⟩,q2⟩,q3⟩,q4⟩,q5⟩,q6⟩,q7⟩,q8⟩,q9⟩,q10⟩,q11⟩:=hg
  obtain rfl:=cE q0
  obtain rfl:=nE q1
  obtain rfl:=bE q2
  obtain rfl:=bE q3
  obtain rfl:=nE q4
  obtain rfl:=bE q5
  obtain rfl:=bE q6
  obtain rfl:=nE q7
  obtain rfl:=cE q8
  obtain rfl:=nE q9
  obtain rfl:=nE q10
  obtain rfl:=nE q11
  refine ⟨(((t0.length:Int) - t4:Int).toNat+1),?_⟩
  rw [← h]
  exact loop_run (E99_0 t0 h0) (K99_0 t0 h0 k) (st99_0 t0 h0 ce k) _ (.inl t4)
 ·rename_i g0 t0 g1 g2 g3 g4 g5 g6 t4 g7 g8 h0 g9 g10 h1 g11 g12 g13 g14
  obtain ⟨hg,h⟩:=bif_some h
  simp only [Bool.and_eq_true] at hg
  obtain ⟨⟨⟨⟨⟨⟨⟨⟨⟨⟨⟨⟨⟨⟨q0,q1⟩,q2⟩,q3⟩,q4⟩,q5⟩,q6⟩,q7⟩,q8⟩,q9⟩,q10⟩,q11⟩,q12⟩,q13⟩,q14⟩:=hg
  obtain rfl:=cE q0
  obtain rfl:=nE q1
  obtain rfl:=bE q2
  obtain rfl:=bE q3
  obtain rfl:=nE q4
  obtain rfl:=bE q5
  obtain rfl:=bE q6
  obtain rfl:=nE q7
  obtain rfl:=cE q8
  obtain rfl:=nE q9
  obtain rfl:=cE q10
  obtain rfl:=nE q11
  obtain rfl:=nE q12
  obtain rfl:=nE q13
  obtain rfl:=nE q14
  refine ⟨(((t0.length:Int) - t4:Int).toNat+1),?_⟩
  rw [← h]
  exact loop_run (E99_0 t0 h0) (K99_0 t0 h0 k) (st99_0 t0 h0 ce k) _ (.inr (t4,h1))
 ·cases h
def q99 (a0:List AV):Bool:=(q100 a0 && (bif !(v100_0 a0) then true else ((decide ((([]:List AV).length+a0.length)*8≤140737488355328) && decide ((([]:List AV).length+a0.length)≤140737488355328)) && (ro (runW (R99_0 a0 (([]:List AV)++a0)) (((a0.length:Int) - 0:Int).toNat+1) (.inl 0)) false (sumE (fun _=>true) (fun p6=>true))))))
def v99_0 (a0:List AV):List AV:=(bif !(v100_0 a0) then ([]:List AV) else ([]:List AV)++a0)
def v99_1 (a0:List AV):List AV:=(bif !(v100_0 a0) then ([]:List AV) else (ro (runW (R99_0 a0 (([]:List AV)++a0)) (((a0.length:Int) - 0:Int).toNat+1) (.inl 0)) [] (sumE (fun _=>([]:List AV)) (fun p6=>p6))))
def v99_2 (a0:List AV):List AV:=([]:List AV)
theorem e99 (a0:List AV):funA c99 0 99 [AV.sl [.int .i64] a0]=(bif q100 a0 then (bif !(v100_0 a0) then some (AV.agg [AV.fl [.int .i64] ([]:List AV),AV.fl [.int .i64] ([]:List AV),AV.fl [.int .i64,.int .i64] ([]:List AV)])
 else (bif (decide ((([]:List AV).length+a0.length)*8≤140737488355328) && decide ((([]:List AV).length+a0.length)≤140737488355328)) then (ro (runW (R99_0 a0 (([]:List AV)++a0)) (((a0.length:Int) - 0:Int).toNat+1) (.inl 0)) none (sumE (fun _=>some (AV.agg [AV.fl [.int .i64] (([]:List AV)++a0),AV.fl [.int .i64] ([]:List AV),AV.fl [.int .i64,.int .i64] ([]:List AV)])) (fun p6=>some (AV.agg [AV.fl [.int .i64] (([]:List AV)++a0),AV.fl [.int .i64] p6,AV.fl [.int .i64,.int .i64] ([]:List AV)]))))
 else none))
 else none):=by kernel_rfl
def m99:TModel
 | [.sl g0 a0]=>bif ctsEq g0 ([.int .i64]) then some (q99 a0,AV.agg [AV.fl [.int .i64] (v99_0 a0),AV.fl [.int .i64] (v99_1 a0),AV.fl [.int .i64,.int .i64] (v99_2 a0)]) else none
 | _=>none
theorem k99:Known Tryz.prog 99:=⟨Tryz.f99,Tryz.func99,by kernel_rfl,by kernel_rfl⟩
theorem meets99:Meets Tryz.prog 99 m99:=by
 refine mt (lvl:=0) (cf:=c99) rfl mixed k99 Tryz.func99 (by kernel_rfl) (loops_cons ok99_0 noLoop) (allT_cons meets100 allT_nil) allM_nil noI fun xs r h=>?_
 unfold m99 at h
 split at h
 ·rename_i g0 a0
  obtain ⟨hg,h⟩:=bif_pair h
  have q0:=hg
  obtain rfl:=cE q0
  obtain ⟨h1,rfl⟩:=pair_inj h
  exact (e99 a0).trans ((brL (br (fun b=>some (AV.agg [AV.fl [.int .i64] (bif b then ([]:List AV) else ([]:List AV)++a0),AV.fl [.int .i64] (bif b then ([]:List AV) else (ro (runW (R99_0 a0 (([]:List AV)++a0)) (((a0.length:Int) - 0:Int).toNat+1) (.inl 0)) [] (sumE (fun _=>([]:List AV)) (fun p6=>p6)))),AV.fl [.int .i64,.int .i64] ([]:List AV)])) (fun _=>rfl) (brL (brO (fun o:Option (Unit ⊕ ((List AV)))=>some (AV.agg [AV.fl [.int .i64] (([]:List AV)++a0),AV.fl [.int .i64] (ro o [] (sumE (fun _=>([]:List AV)) (fun p6=>p6))),AV.fl [.int .i64,.int .i64] ([]:List AV)])) (brS (fun o:Unit ⊕ ((List AV))=>some (AV.agg [AV.fl [.int .i64] (([]:List AV)++a0),AV.fl [.int .i64] ((sumE (fun _=>([]:List AV)) (fun p6=>p6)) o),AV.fl [.int .i64,.int .i64] ([]:List AV)])) (fun _=>(fun _=>rfl)) (fun p6=>(fun _=>rfl))))))) h1)
 ·cases h
noncomputable def c119:Cfg:=cfg Tryz.prog [(119,999,[4])] [] [(131,.g m131)] [] []
def T119 {β:Type} (k:(Bool × (List AV) × Int × Int)→β) (n:β) (a1:Int) (ua:List AV) (ub:Int) (uc:Int):β:=(bif q131 a1 ua ub uc then k (decide ((v131_0 a1 ua ub uc)=0),(v131_1 a1 ua ub uc),(v131_2 a1 ua ub uc),(v131_3 a1 ua ub uc))
 else n)
abbrev W119 (a1:Int) (ua:List AV) (ub:Int) (uc:Int):Option (Bool × (List AV) × Int × Int):=T119 some none a1 ua ub uc
theorem n119 {β:Type} (k:(Bool × (List AV) × Int × Int)→β) (n:β) (a1:Int) (ua:List AV) (ub:Int) (uc:Int):T119 k n a1 ua ub uc=oe k n (W119 a1 ua ub uc):=by
 unfold W119 T119
 simp only [oe_cond,oe_ro,oe_sum,oe_some,oe_none]
def q119 (a1:Int) (ua:List AV) (ub uc:Int):Bool:=(W119 a1 ua ub uc).isSome
def v119_0 (a1:Int) (ua:List AV) (ub uc:Int):Bool:=oe (fun t=>t.1) false (W119 a1 ua ub uc)
def v119_1 (a1:Int) (ua:List AV) (ub uc:Int):List AV:=oe (fun t=>t.2.1) [] (W119 a1 ua ub uc)
def v119_2 (a1:Int) (ua:List AV) (ub uc:Int):Int:=oe (fun t=>t.2.2.1) 0 (W119 a1 ua ub uc)
def v119_3 (a1:Int) (ua:List AV) (ub uc:Int):Int:=oe (fun t=>t.2.2.2) 0 (W119 a1 ua ub uc)
theorem e119 (a1:Int) (ua:List AV) (ub uc:Int) (K:List AV→List (Option Blk)→Option AV):inlA c119 1 119 [AV.ptr [1] 0 0,Ai a1] [0] (canH 1 [⟨true,[],[AV.agg [AV.sl [.int .u8] ua,Ai ub,Ai uc]]⟩]) (keepG Tryz.prog 1 [4] [] K)=T119 (fun t=>K [AV.bool t.1] [some ⟨true,[],[AV.agg [AV.sl [.int .u8] t.2.1,Ai t.2.2.1,Ai t.2.2.2]]⟩]) none a1 ua ub uc:=by kernel_rfl
theorem r119 (a1:Int) (ua:List AV) (ub uc:Int) (K:List AV→List (Option Blk)→Option AV) (h:q119 a1 ua ub uc=true):inlA c119 1 119 [AV.ptr [1] 0 0,AV.int .i64 a1] [0] (canH 1 [⟨true,[],[AV.agg [AV.sl [.int .u8] ua,AV.int .i64 ub,AV.int .i64 uc]]⟩]) (keepG Tryz.prog 1 [4] [] K)=K [AV.bool (v119_0 a1 ua ub uc)] [some ⟨true,[],[AV.agg [AV.sl [.int .u8] (v119_1 a1 ua ub uc),AV.int .i64 (v119_2 a1 ua ub uc),AV.int .i64 (v119_3 a1 ua ub uc)]]⟩]:=by
 refine ((e119 a1 ua ub uc K).trans (n119 _ _ a1 ua ub uc)).trans ?_
 unfold q119 at h
 unfold v119_0 v119_1 v119_2 v119_3
 generalize W119 a1 ua ub uc=o at *
 cases o with
 | none=>cases h
 | some t=>rfl
def m119:GModel
 | [.ptr g0 g1 g2,.int .i64 a1],[⟨true,[],[.agg [.sl g3 ua,.int .i64 ub,.int .i64 uc]]⟩]=>bif nmEq g0 ([1]) && Nat.beq g1 0 && Nat.beq g2 0 && ctsEq g3 ([.int .u8]) then some (q119 a1 ua ub uc,[AV.bool (v119_0 a1 ua ub uc)],[some ⟨true,[],[AV.agg [AV.sl [.int .u8] (v119_1 a1 ua ub uc),AV.int .i64 (v119_2 a1 ua ub uc),AV.int .i64 (v119_3 a1 ua ub uc)]]⟩]) else none
 | _,_=>none
theorem k119:Known Tryz.prog 119:=⟨Tryz.f119,Tryz.func119,by kernel_rfl,by kernel_rfl⟩
theorem meets119:MeetsG Tryz.prog 119 m119:=by
 refine mg (rt:=[4]) (gs:=[]) (lvl:=0) (cf:=c119) rfl mixed k119 Tryz.func119 (by kernel_rfl) noLoop allT_nil (allG_cons meets131 allM_nil) noI fun xs bs r bs' h K=>?_
 unfold m119 at h
 split at h
 ·rename_i g0 g1 g2 a1 g3 ua ub uc
  obtain ⟨hg,h⟩:=bif_pair h
  simp only [Bool.and_eq_true] at hg
  obtain ⟨⟨⟨q0,q1⟩,q2⟩,q3⟩:=hg
  obtain rfl:=nE q0
  obtain rfl:=bE q1
  obtain rfl:=bE q2
  obtain rfl:=cE q3
  obtain ⟨h1,rfl,rfl⟩:=trip_inj h
  exact r119 a1 ua ub uc K h1
 ·cases h
noncomputable def c109:Cfg:=cfg Tryz.prog [(109,999,[4])] [] [(119,.g m119),(131,.g m131),(132,.g m132)] [] []
def T109 {β:Type} (k:(Int × (List AV) × Int × Int × (List AV) × (List AV) × (List AV))→β) (n:β) (ua:List AV) (ub:Int) (uc:Int) (b1:List AV) (b2:List AV) (b3:List AV):β:=by
 refine (?f0:Bool→(List AV)→Int→Int→β) (v119_0 4 ua ub uc) (v119_1 4 ua ub uc) (v119_2 4 ua ub uc) (v119_3 4 ua ub uc);intro x1 x2 x3 x4
 refine (?f1:Int→(List AV)→Int→Int→β) (v131_0 (b1.length:Int) x2 x3 x4) (v131_1 (b1.length:Int) x2 x3 x4) (v131_2 (b1.length:Int) x2 x3 x4) (v131_3 (b1.length:Int) x2 x3 x4);intro x5 x6 x7 x8
 exact (bif decide ((b1.length:Int) > 0) then (bif q119 4 ua ub uc then (bif !x1 then (bif q131 (b1.length:Int) x2 x3 x4 then (bif (decide (0≤x5) && decide (x5<(b1.length:Int))) then (bif q131 3 x6 x7 x8 then k (IntKind.i64.wrap (IntKind.i64.wrap (fI (b1.getD x5.toNat .undef) 0+(v131_0 3 x6 x7 x8)) - 1),(v131_1 3 x6 x7 x8),(v131_2 3 x6 x7 x8),(v131_3 3 x6 x7 x8),b1,b2,b3)
 else n)
 else n)
 else n)
 else (bif q132 x2 x3 x4 ([AV.int .i64 0,AV.int .i64 3,AV.int .i64 (-2),AV.int .i64 (-1000),AV.int .i64 1000,AV.int .i64 50]) then k ((v132_0 x2 x3 x4 ([AV.int .i64 0,AV.int .i64 3,AV.int .i64 (-2),AV.int .i64 (-1000),AV.int .i64 1000,AV.int .i64 50])),(v132_1 x2 x3 x4 ([AV.int .i64 0,AV.int .i64 3,AV.int .i64 (-2),AV.int .i64 (-1000),AV.int .i64 1000,AV.int .i64 50])),(v132_2 x2 x3 x4 ([AV.int .i64 0,AV.int .i64 3,AV.int .i64 (-2),AV.int .i64 (-1000),AV.int .i64 1000,AV.int .i64 50])),(v132_3 x2 x3 x4 ([AV.int .i64 0,AV.int .i64 3,AV.int .i64 (-2),AV.int .i64 (-1000),AV.int .i64 1000,AV.int .i64 50])),b1,b2,b3)
 else n))
 else n)
 else (bif q132 ua ub uc ([AV.int .i64 0,AV.int .i64 3,AV.int .i64 (-2),AV.int .i64 (-1000),AV.int .i64 1000,AV.int .i64 50]) then k ((v132_0 ua ub uc ([AV.int .i64 0,AV.int .i64 3,AV.int .i64 (-2),AV.int .i64 (-1000),AV.int .i64 1000,AV.int .i64 50])),(v132_1 ua ub uc ([AV.int .i64 0,AV.int .i64 3,AV.int .i64 (-2),AV.int .i64 (-1000),AV.int .i64 1000,AV.int .i64 50])),(v132_2 ua ub uc ([AV.int .i64 0,AV.int .i64 3,AV.int .i64 (-2),AV.int .i64 (-1000),AV.int .i64 1000,AV.int .i64 50])),(v132_3 ua ub uc ([AV.int .i64 0,AV.int .i64 3,AV.int .i64 (-2),AV.int .i64 (-1000),AV.int .i64 1000,AV.int .i64 50])),b1,b2,b3)
 else n))
abbrev W109 (ua:List AV) (ub:Int) (uc:Int) (b1:List AV) (b2:List AV) (b3:List AV):Option (Int × (List AV) × Int × Int × (List AV) × (List AV) × (List AV)):=T109 some none ua ub uc b1 b2 b3
theorem n109 {β:Type} (k:(Int × (List AV) × Int × Int × (List AV) × (List AV) × (List AV))→β) (n:β) (ua:List AV) (ub:Int) (uc:Int) (b1:List AV) (b2:List AV) (b3:List AV):T109 k n ua ub uc b1 b2 b3=oe k n (W109 ua ub uc b1 b2 b3):=by
 unfold W109 T109
 simp only [oe_cond,oe_ro,oe_sum,oe_some,oe_none]
def q109 (ua:List AV) (ub uc:Int) (b1 b2 b3:List AV):Bool:=(W109 ua ub uc b1 b2 b3).isSome
def v109_0 (ua:List AV) (ub uc:Int) (b1 b2 b3:List AV):Int:=oe (fun t=>t.1) 0 (W109 ua ub uc b1 b2 b3)
def v109_1 (ua:List AV) (ub uc:Int) (b1 b2 b3:List AV):List AV:=oe (fun t=>t.2.1) [] (W109 ua ub uc b1 b2 b3)
def v109_2 (ua:List AV) (ub uc:Int) (b1 b2 b3:List AV):Int:=oe (fun t=>t.2.2.1) 0 (W109 ua ub uc b1 b2 b3)
def v109_3 (ua:List AV) (ub uc:Int) (b1 b2 b3:List AV):Int:=oe (fun t=>t.2.2.2.1) 0 (W109 ua ub uc b1 b2 b3)
def v109_4 (ua:List AV) (ub uc:Int) (b1 b2 b3:List AV):List AV:=oe (fun t=>t.2.2.2.2.1) [] (W109 ua ub uc b1 b2 b3)
def v109_5 (ua:List AV) (ub uc:Int) (b1 b2 b3:List AV):List AV:=oe (fun t=>t.2.2.2.2.2.1) [] (W109 ua ub uc b1 b2 b3)
def v109_6 (ua:List AV) (ub uc:Int) (b1 b2 b3:List AV):List AV:=oe (fun t=>t.2.2.2.2.2.2) [] (W109 ua ub uc b1 b2 b3)
theorem e109 (ua:List AV) (ub uc:Int) (b1 b2 b3:List AV) (K:List AV→List (Option Blk)→Option AV):inlA c109 1 109 [AV.ptr [1] 0 0,AV.agg [AV.own [2],AV.own [3],AV.own [4]]] [0] (canH 1 [⟨true,[],[AV.agg [AV.sl [.int .u8] ua,Ai ub,Ai uc]]⟩,⟨false,[.int .i64],b1⟩,⟨false,[.int .i64],b2⟩,⟨false,[.int .i64,.int .i64],b3⟩]) (keepG Tryz.prog 4 [3] [] K)=T109 (fun t=>K [Ai t.1] [some ⟨true,[],[AV.agg [AV.sl [.int .u8] t.2.1,Ai t.2.2.1,Ai t.2.2.2.1]]⟩,some ⟨false,[.int .i64],t.2.2.2.2.1⟩,some ⟨false,[.int .i64],t.2.2.2.2.2.1⟩,some ⟨false,[.int .i64,.int .i64],t.2.2.2.2.2.2⟩]) none ua ub uc b1 b2 b3:=by kernel_rfl
theorem r109 (ua:List AV) (ub uc:Int) (b1 b2 b3:List AV) (K:List AV→List (Option Blk)→Option AV) (h:q109 ua ub uc b1 b2 b3=true):inlA c109 1 109 [AV.ptr [1] 0 0,AV.agg [AV.own [2],AV.own [3],AV.own [4]]] [0] (canH 1 [⟨true,[],[AV.agg [AV.sl [.int .u8] ua,AV.int .i64 ub,AV.int .i64 uc]]⟩,⟨false,[.int .i64],b1⟩,⟨false,[.int .i64],b2⟩,⟨false,[.int .i64,.int .i64],b3⟩]) (keepG Tryz.prog 4 [3] [] K)=K [AV.int .i64 (v109_0 ua ub uc b1 b2 b3)] [some ⟨true,[],[AV.agg [AV.sl [.int .u8] (v109_1 ua ub uc b1 b2 b3),AV.int .i64 (v109_2 ua ub uc b1 b2 b3),AV.int .i64 (v109_3 ua ub uc b1 b2 b3)]]⟩,some ⟨false,[.int .i64],(v109_4 ua ub uc b1 b2 b3)⟩,some ⟨false,[.int .i64],(v109_5 ua ub uc b1 b2 b3)⟩,some ⟨false,[.int .i64,.int .i64],(v109_6 ua ub uc b1 b2 b3)⟩]:=by
 refine ((e109 ua ub uc b1 b2 b3 K).trans (n109 _ _ ua ub uc b1 b2 b3)).trans ?_
 unfold q109 at h
 unfold v109_0 v109_1 v109_2 v109_3 v109_4 v109_5 v109_6
 generalize W109 ua ub uc b1 b2 b3=o at *
 cases o with
 | none=>cases h
 | some t=>rfl
def m109:GModel
 | [.ptr g0 g1 g2,.agg [.own g3,.own g4,.own g5]],[⟨true,[],[.agg [.sl g6 ua,.int .i64 ub,.int .i64 uc]]⟩,⟨false,g7,b1⟩,⟨false,g8,b2⟩,⟨false,g9,b3⟩]=>bif nmEq g0 ([1]) && Nat.beq g1 0 && Nat.beq g2 0 && nmEq g3 ([2]) && nmEq g4 ([3]) && nmEq g5 ([4]) && ctsEq g6 ([.int .u8]) && ctsEq g7 ([.int .i64]) && ctsEq g8 ([.int .i64]) && ctsEq g9 ([.int .i64,.int .i64]) then some (q109 ua ub uc b1 b2 b3,[AV.int .i64 (v109_0 ua ub uc b1 b2 b3)],[some ⟨true,[],[AV.agg [AV.sl [.int .u8] (v109_1 ua ub uc b1 b2 b3),AV.int .i64 (v109_2 ua ub uc b1 b2 b3),AV.int .i64 (v109_3 ua ub uc b1 b2 b3)]]⟩,some ⟨false,[.int .i64],(v109_4 ua ub uc b1 b2 b3)⟩,some ⟨false,[.int .i64],(v109_5 ua ub uc b1 b2 b3)⟩,some ⟨false,[.int .i64,.int .i64],(v109_6 ua ub uc b1 b2 b3)⟩]) else none
 | _,_=>none
theorem k109:Known Tryz.prog 109:=⟨Tryz.f109,Tryz.func109,by kernel_rfl,by kernel_rfl⟩
theorem meets109:MeetsG Tryz.prog 109 m109:=by
 refine mg (rt:=[3]) (gs:=[]) (lvl:=0) (cf:=c109) rfl mixed k109 Tryz.func109 (by kernel_rfl) noLoop allT_nil (allG_cons meets119 (allG_cons meets131 (allG_cons meets132 allM_nil))) noI fun xs bs r bs' h K=>?_
 unfold m109 at h
 split at h
 ·rename_i g0 g1 g2 g3 g4 g5 g6 ua ub uc g7 b1 g8 b2 g9 b3
  obtain ⟨hg,h⟩:=bif_pair h
  simp only [Bool.and_eq_true] at hg
  obtain ⟨⟨⟨⟨⟨⟨⟨⟨⟨q0,q1⟩,q2⟩,q3⟩,q4⟩,q5⟩,q6⟩,q7⟩,q8⟩,q9⟩:=hg
  obtain rfl:=nE q0
  obtain rfl:=bE q1
  obtain rfl:=bE q2
  obtain rfl:=nE q3
  obtain rfl:=nE q4
  obtain rfl:=nE q5
  obtain rfl:=cE q6
  obtain rfl:=cE q7
  obtain rfl:=cE q8
  obtain rfl:=cE q9
  obtain ⟨h1,rfl,rfl⟩:=trip_inj h
  exact r109 ua ub uc b1 b2 b3 K h1
 ·cases h
def G145_0 {β:Type} (t0:List AV) (t1:Int) (t5:Int) (N:(Int)→β) (K:(Unit ⊕ Unit)→β) (d:β):β:=(bif decide (t5<(t0.length:Int)) then (bif (decide (0≤t5) && decide (t5<(t0.length:Int))) then (bif decide (fI (t0.getD t5.toNat .undef) 0=t1) then K (.inr ())
 else N (IntKind.i64.wrap (t5+1)))
 else d)
 else K (.inl ()))
def F145_0 (t0:List AV) (t1 t5:Int):Out (Int) (Unit ⊕ Unit):=G145_0 t0 t1 t5 .next .stop .fail
def R145_0 (t0:List AV) (t1:Int):(Int)→Out (Int) (Unit ⊕ Unit):=fun s:Int=>F145_0 t0 t1 s
def E145_0 (t0:List AV) (t1:Int):(Int)→St:=fun s:Int=>⟨[(0,AV.sl [.int .i64] t0),(1,Ai t1),(5,Ai s)],[]⟩
def K145_0 (t0:List AV) (t1:Int) (k:Kont):(Unit ⊕ Unit)→Option AV:=sumE (fun _:Unit=>k (.exit 0) ⟨[],[]⟩) (fun _:Unit=>k .ret ⟨[(4,AV.bool true)],[]⟩)
def l145_0:LModel:=fun _ _ st k=>match st with
 | ⟨[(0,.sl g0 t0),(1,.int .i64 t1),(5,.int .i64 t5)],[]⟩=>bif ctsEq g0 ([.int .i64]) then ro (runW (R145_0 t0 t1) (((t0.length:Int) - t5:Int).toNat+1) t5) none (K145_0 t0 t1 k) else none
 | _=>none
noncomputable def c145:Cfg:=cfg Tryz.prog [(145,0,[0,1,5]),(145,999,[4]),(145,1000,[]),(145,1001,[0,1,5])] [] [] [] [(145,0,l145_0)]
theorem s145_0 (t0:List AV) (t1:Int) (ce:CallE) (k:Kont) (s:Int) (next:St→Option AV):stepA (codeA c145 ce [] 145 0 (sub [1,0,1,0,0] (body Tryz.f145))) (normA [] [0,1,5]) next ((E145_0 t0 t1) s) k=G145_0 t0 t1 s (fun s=>next ((E145_0 t0 t1) s)) (K145_0 t0 t1 k) none:=by kernel_rfl
theorem st145_0 (t0:List AV) (t1:Int) (ce:CallE) (k:Kont) (s:Int) (next:St→Option AV):stepA (codeA c145 ce [] 145 0 (sub [1,0,1,0,0] (body Tryz.f145))) (normA [] [0,1,5]) next ((E145_0 t0 t1) s) k=(R145_0 t0 t1 s).el none (fun s=>next ((E145_0 t0 t1) s)) (K145_0 t0 t1 k):=(s145_0 t0 t1 ce k s next).trans (by unfold R145_0;unfold F145_0 G145_0;simp only [el_cond,el_ro,el_sum,el_fail,el_next,el_stop] <;> rfl)
theorem ok145_0 {ce:CallE}:LoopOK c145 ce [] 145 0 (sub [1,0,1,0,0] (body Tryz.f145)):=by
 intro m hm st k r h
 obtain rfl:l145_0=m:=Option.some.inj hm
 unfold l145_0 at h
 split at h
 ·rename_i g0 t0 t1 t5
  obtain ⟨hg,h⟩:=bif_some h
  have q0:=hg
  obtain rfl:=cE q0
  refine ⟨(((t0.length:Int) - t5:Int).toNat+1),?_⟩
  rw [← h]
  exact loop_run (E145_0 t0 t1) (K145_0 t0 t1 k) (st145_0 t0 t1 ce k) _ t5
 ·cases h
def q145 (a0:List AV) (a1:Int):Bool:=(ro (runW (R145_0 a0 a1) (((a0.length:Int) - 0:Int).toNat+1) 0) false (sumE (fun _=>true) (fun _=>true)))
def v145_0 (a0:List AV) (a1:Int):Bool:=(ro (runW (R145_0 a0 a1) (((a0.length:Int) - 0:Int).toNat+1) 0) false (sumE (fun _=>false) (fun _=>true)))
theorem e145 (a0:List AV) (a1:Int):funA c145 0 145 [AV.sl [.int .i64] a0,Ai a1]=(ro (runW (R145_0 a0 a1) (((a0.length:Int) - 0:Int).toNat+1) 0) none (sumE (fun _=>some (AV.bool false)) (fun _=>some (AV.bool true)))):=by kernel_rfl
def m145:TModel
 | [.sl g0 a0,.int .i64 a1]=>bif ctsEq g0 ([.int .i64]) then some (q145 a0 a1,AV.bool (v145_0 a0 a1)) else none
 | _=>none
theorem k145:Known Tryz.prog 145:=⟨Tryz.f145,Tryz.func145,by kernel_rfl,by kernel_rfl⟩
theorem meets145:Meets Tryz.prog 145 m145:=by
 refine mt (lvl:=0) (cf:=c145) rfl mixed k145 Tryz.func145 (by kernel_rfl) (loops_cons ok145_0 noLoop) allT_nil allM_nil noI fun xs r h=>?_
 unfold m145 at h
 split at h
 ·rename_i g0 a0 a1
  obtain ⟨hg,h⟩:=bif_pair h
  have q0:=hg
  obtain rfl:=cE q0
  obtain ⟨h1,rfl⟩:=pair_inj h
  exact (e145 a0 a1).trans ((brO (fun o:Option (Unit ⊕ Unit)=>some (AV.bool (ro o false (sumE (fun _=>false) (fun _=>true))))) (brS (fun o:Unit ⊕ Unit=>some (AV.bool ((sumE (fun _=>false) (fun _=>true)) o))) (fun _=>(fun _=>rfl)) (fun _=>(fun _=>rfl)))) h1)
 ·cases h
def G146_2 {β:Type} (t0:List AV) (t1:List AV) (t5:Int) (h0_0:Int) (h0_1:Int) (t7:Int) (N:(Int)→β) (K:(Unit ⊕ Unit)→β) (d:β):β:=(bif decide (t7<(t0.length:Int)) then (bif (decide (0≤t7) && decide (t7<(t0.length:Int))) then (bif !(decide (fI (t0.getD t7.toNat .undef) 0<h0_0) == decide (t7<h0_1)) then K (.inr ())
 else N (IntKind.i64.wrap (t7+1)))
 else d)
 else K (.inl ()))
def F146_2 (t0 t1:List AV) (t5 h0_0 h0_1 t7:Int):Out (Int) (Unit ⊕ Unit):=G146_2 t0 t1 t5 h0_0 h0_1 t7 .next .stop .fail
def R146_2 (t0 t1:List AV) (t5 h0_0 h0_1:Int):(Int)→Out (Int) (Unit ⊕ Unit):=fun s:Int=>F146_2 t0 t1 t5 h0_0 h0_1 s
def E146_2 (t0 t1:List AV) (t5 h0_0 h0_1:Int):(Int)→St:=fun s:Int=>⟨[(0,AV.sl [.int .i64] t0),(1,AV.sl [.int .i64,.int .i64] t1),(5,Ai t5),(6,AV.ptr [0,6] 0 0),(7,Ai s)],[([0,6],⟨true,[],[AV.agg [Ai h0_0,Ai h0_1]]⟩)]⟩
def K146_2 (t0 t1:List AV) (t5 h0_0 h0_1:Int) (k:Kont):(Unit ⊕ Unit)→Option AV:=sumE (fun _:Unit=>k (.exit 2) ⟨[(0,AV.sl [.int .i64] t0),(1,AV.sl [.int .i64,.int .i64] t1),(5,Ai t5)],[([0,6],⟨true,[],[AV.agg [Ai h0_0,Ai h0_1]]⟩)]⟩) (fun _:Unit=>k .ret ⟨[(4,AV.bool false)],[([0,6],⟨true,[],[AV.agg [Ai h0_0,Ai h0_1]]⟩)]⟩)
def l146_2:LModel:=fun _ _ st k=>match st with
 | ⟨[(0,.sl g0 t0),(1,.sl g1 t1),(5,.int .i64 t5),(6,.ptr g2 g3 g4),(7,.int .i64 t7)],[(g5,⟨true,[],[.agg [.int .i64 h0_0,.int .i64 h0_1]]⟩)]⟩=>bif ctsEq g0 ([.int .i64]) && ctsEq g1 ([.int .i64,.int .i64]) && nmEq g2 ([0,6]) && Nat.beq g3 0 && Nat.beq g4 0 && nmEq g5 ([0,6]) then ro (runW (R146_2 t0 t1 t5 h0_0 h0_1) (((t0.length:Int) - t7:Int).toNat+1) t7) none (K146_2 t0 t1 t5 h0_0 h0_1 k) else none
 | _=>none
def G146_0 {β:Type} (t0:List AV) (t1:List AV) (t5:Int) (N:(Int)→β) (K:(Unit ⊕ (Int × Int) ⊕ (Int × Int))→β) (d:β):β:=(bif decide (t5<(t1.length:Int)) then (bif (decide (0≤t5) && decide (t5<(t1.length:Int))) then (bif !(v72_0 (fI (t1.getD t5.toNat .undef) 0) (-1000) 1000) then K (.inr (.inl (fI (t1.getD t5.toNat .undef) 0,fI (t1.getD t5.toNat .undef) 1)))
 else (bif !(v72_0 (fI (t1.getD t5.toNat .undef) 1) 0 (t0.length:Int)) then K (.inr (.inl (fI (t1.getD t5.toNat .undef) 0,fI (t1.getD t5.toNat .undef) 1)))
 else (bif decide (t5 > 0) then (bif (decide (0≤IntKind.i64.wrap (t5 - 1)) && decide (IntKind.i64.wrap (t5 - 1)<(t1.length:Int))) then (bif decide (fI (t1.getD t5.toNat .undef) 0≤fI (t1.getD (IntKind.i64.wrap (t5 - 1)).toNat .undef) 0) then K (.inr (.inl (fI (t1.getD t5.toNat .undef) 0,fI (t1.getD t5.toNat .undef) 1)))
 else (bif (decide (0≤IntKind.i64.wrap (t5 - 1)) && decide (IntKind.i64.wrap (t5 - 1)<(t1.length:Int))) then (bif decide (fI (t1.getD t5.toNat .undef) 1<fI (t1.getD (IntKind.i64.wrap (t5 - 1)).toNat .undef) 1) then K (.inr (.inl (fI (t1.getD t5.toNat .undef) 0,fI (t1.getD t5.toNat .undef) 1)))
 else (ro (runW (R146_2 t0 t1 t5 (fI (t1.getD t5.toNat .undef) 0) (fI (t1.getD t5.toNat .undef) 1)) (((t0.length:Int) - 0:Int).toNat+1) 0) d (sumE (fun _=>N (IntKind.i64.wrap (t5+1))) (fun _=>K (.inr (.inr (fI (t1.getD t5.toNat .undef) 0,fI (t1.getD t5.toNat .undef) 1)))))))
 else d))
 else d)
 else (ro (runW (R146_2 t0 t1 t5 (fI (t1.getD t5.toNat .undef) 0) (fI (t1.getD t5.toNat .undef) 1)) (((t0.length:Int) - 0:Int).toNat+1) 0) d (sumE (fun _=>N (IntKind.i64.wrap (t5+1))) (fun _=>K (.inr (.inr (fI (t1.getD t5.toNat .undef) 0,fI (t1.getD t5.toNat .undef) 1)))))))))
 else d)
 else K (.inl ()))
def F146_0 (t0 t1:List AV) (t5:Int):Out (Int) (Unit ⊕ (Int × Int) ⊕ (Int × Int)):=G146_0 t0 t1 t5 .next .stop .fail
def R146_0 (t0 t1:List AV):(Int)→Out (Int) (Unit ⊕ (Int × Int) ⊕ (Int × Int)):=fun s:Int=>F146_0 t0 t1 s
def E146_0 (t0 t1:List AV):(Int)→St:=fun s:Int=>⟨[(0,AV.sl [.int .i64] t0),(1,AV.sl [.int .i64,.int .i64] t1),(5,Ai s)],[]⟩
def K146_0 (t0 t1:List AV) (k:Kont):(Unit ⊕ (Int × Int) ⊕ (Int × Int))→Option AV:=sumE (fun _:Unit=>k (.exit 0) ⟨[],[]⟩) (sumE (fun p:Int × Int=>k .ret ⟨[(4,AV.bool false)],[([1,6],⟨true,[],[AV.agg [Ai p.1,Ai p.2]]⟩)]⟩) (fun p:Int × Int=>k .ret ⟨[(4,AV.bool false)],[([0,6],⟨true,[],[AV.agg [Ai p.1,Ai p.2]]⟩)]⟩))
def l146_0:LModel:=fun _ _ st k=>match st with
 | ⟨[(0,.sl g0 t0),(1,.sl g1 t1),(5,.int .i64 t5)],[]⟩=>bif ctsEq g0 ([.int .i64]) && ctsEq g1 ([.int .i64,.int .i64]) then ro (runW (R146_0 t0 t1) (((t1.length:Int) - t5:Int).toNat+1) t5) none (K146_0 t0 t1 k) else none
 | _=>none
noncomputable def c146:Cfg:=cfg Tryz.prog [(146,0,[0,1,5]),(146,2,[0,1,5,6,7]),(146,999,[4]),(146,1000,[]),(146,1001,[0,1,5]),(146,1002,[0,1,5]),(146,1003,[0,1,5,6,7])] [(72,m72)] [] [] [(146,0,l146_0),(146,2,l146_2)]
theorem s146_2 (t0 t1:List AV) (t5 h0_0 h0_1:Int) (ce:CallE) (k:Kont) (s:Int) (next:St→Option AV):stepA (codeA c146 ce [] 146 2 (sub [1,0,1,0,0,1,0,0,1,1,1,0,0] (body Tryz.f146))) (normA [] [0,1,5,6,7]) next ((E146_2 t0 t1 t5 h0_0 h0_1) s) k=G146_2 t0 t1 t5 h0_0 h0_1 s (fun s=>next ((E146_2 t0 t1 t5 h0_0 h0_1) s)) (K146_2 t0 t1 t5 h0_0 h0_1 k) none:=by kernel_rfl
theorem st146_2 (t0 t1:List AV) (t5 h0_0 h0_1:Int) (ce:CallE) (k:Kont) (s:Int) (next:St→Option AV):stepA (codeA c146 ce [] 146 2 (sub [1,0,1,0,0,1,0,0,1,1,1,0,0] (body Tryz.f146))) (normA [] [0,1,5,6,7]) next ((E146_2 t0 t1 t5 h0_0 h0_1) s) k=(R146_2 t0 t1 t5 h0_0 h0_1 s).el none (fun s=>next ((E146_2 t0 t1 t5 h0_0 h0_1) s)) (K146_2 t0 t1 t5 h0_0 h0_1 k):=(s146_2 t0 t1 t5 h0_0 h0_1 ce k s next).trans (by unfold R146_2;unfold F146_2 G146_2;simp only [el_cond,el_ro,el_sum,el_fail,el_next,el_stop] <;> rfl)
theorem ok146_2 {ce:CallE}:LoopOK c146 ce [] 146 2 (sub [1,0,1,0,0,1,0,0,1,1,1,0,0] (body Tryz.f146)):=by
 intro m hm st k r h
 obtain rfl:l146_2=m:=Option.some.inj hm
 unfold l146_2 at h
 split at h
 ·rename_i g0 t0 g1 t1 t5 g2 g3 g4 t7 g5 h0_0 h0_1
  obtain ⟨hg,h⟩:=bif_some h
  simp only [Bool.and_eq_true] at hg
  obtain ⟨⟨⟨⟨⟨q0,q1⟩,q2⟩,q3⟩,q4⟩,q5⟩:=hg
  obtain rfl:=cE q0
  obtain rfl:=cE q1
  obtain rfl:=nE q2
  obtain rfl:=bE q3
  obtain rfl:=bE q4
  obtain rfl:=nE q5
  refine ⟨(((t0.length:Int) - t7:Int).toNat+1),?_⟩
  rw [← h]
  exact loop_run (E146_2 t0 t1 t5 h0_0 h0_1) (K146_2 t0 t1 t5 h0_0 h0_1 k) (st146_2 t0 t1 t5 h0_0 h0_1 ce k) _ t7
 ·cases h
theorem s146_0 (t0 t1:List AV) (ce:CallE) (k:Kont) (s:Int) (next:St→Option AV):stepA (codeA c146 ce [] 146 0 (sub [1,0,1,0,0] (body Tryz.f146))) (normA [] [0,1,5]) next ((E146_0 t0 t1) s) k=G146_0 t0 t1 s (fun s=>next ((E146_0 t0 t1) s)) (K146_0 t0 t1 k) none:=by kernel_rfl
theorem st146_0 (t0 t1:List AV) (ce:CallE) (k:Kont) (s:Int) (next:St→Option AV):stepA (codeA c146 ce [] 146 0 (sub [1,0,1,0,0] (body Tryz.f146))) (normA [] [0,1,5]) next ((E146_0 t0 t1) s) k=(R146_0 t0 t1 s).el none (fun s=>next ((E146_0 t0 t1) s)) (K146_0 t0 t1 k):=(s146_0 t0 t1 ce k s next).trans (by unfold R146_0;unfold F146_0 G146_0;simp only [el_cond,el_ro,el_sum,el_fail,el_next,el_stop] <;> rfl)
theorem ok146_0 {ce:CallE}:LoopOK c146 ce [] 146 0 (sub [1,0,1,0,0] (body Tryz.f146)):=by
 intro m hm st k r h
 obtain rfl:l146_0=m:=Option.some.inj hm
 unfold l146_0 at h
 split at h
 ·rename_i g0 t0 g1 t1 t5
  obtain ⟨hg,h⟩:=bif_some h
  simp only [Bool.and_eq_true] at hg
  obtain ⟨q0,q1⟩:=hg
  obtain rfl:=cE q0
  obtain rfl:=cE q1
  refine ⟨(((t1.length:Int) - t5:Int).toNat+1),?_⟩
  rw [← h]
  exact loop_run (E146_0 t0 t1) (K146_0 t0 t1 k) (st146_0 t0 t1 ce k) _ t5
 ·cases h
def q146 (a0 a1:List AV):Bool:=(ro (runW (R146_0 a0 a1) (((a1.length:Int) - 0:Int).toNat+1) 0) false (sumE (fun _=>true) (sumE (fun p15=>true) (fun p16=>true))))
def v146_0 (a0 a1:List AV):Bool:=(ro (runW (R146_0 a0 a1) (((a1.length:Int) - 0:Int).toNat+1) 0) false (sumE (fun _=>true) (sumE (fun p15=>false) (fun p16=>false))))
theorem e146 (a0 a1:List AV):funA c146 0 146 [AV.sl [.int .i64] a0,AV.sl [.int .i64,.int .i64] a1]=(ro (runW (R146_0 a0 a1) (((a1.length:Int) - 0:Int).toNat+1) 0) none (sumE (fun _=>some (AV.bool true)) (sumE (fun p15=>some (AV.bool false)) (fun p16=>some (AV.bool false))))):=by kernel_rfl
def m146:TModel
 | [.sl g0 a0,.sl g1 a1]=>bif ctsEq g0 ([.int .i64]) && ctsEq g1 ([.int .i64,.int .i64]) then some (q146 a0 a1,AV.bool (v146_0 a0 a1)) else none
 | _=>none
theorem k146:Known Tryz.prog 146:=⟨Tryz.f146,Tryz.func146,by kernel_rfl,by kernel_rfl⟩
theorem meets146:Meets Tryz.prog 146 m146:=by
 refine mt (lvl:=0) (cf:=c146) rfl mixed k146 Tryz.func146 (by kernel_rfl) (loops_cons ok146_0 (loops_cons ok146_2 noLoop)) (allT_cons meets72 allT_nil) allM_nil noI fun xs r h=>?_
 unfold m146 at h
 split at h
 ·rename_i g0 a0 g1 a1
  obtain ⟨hg,h⟩:=bif_pair h
  simp only [Bool.and_eq_true] at hg
  obtain ⟨q0,q1⟩:=hg
  obtain rfl:=cE q0
  obtain rfl:=cE q1
  obtain ⟨h1,rfl⟩:=pair_inj h
  exact (e146 a0 a1).trans ((brO (fun o:Option (Unit ⊕ (Int × Int) ⊕ (Int × Int))=>some (AV.bool (ro o false (sumE (fun _=>true) (sumE (fun p15=>false) (fun p16=>false)))))) (brS (fun o:Unit ⊕ (Int × Int) ⊕ (Int × Int)=>some (AV.bool ((sumE (fun _=>true) (sumE (fun p15=>false) (fun p16=>false))) o))) (fun _=>(fun _=>rfl)) (brS (fun o:(Int × Int) ⊕ (Int × Int)=>some (AV.bool ((sumE (fun p15=>false) (fun p16=>false)) o))) (fun p15=>(fun _=>rfl)) (fun p16=>(fun _=>rfl))))) h1)
 ·cases h
def G71_0 {β:Type} (h0_0:List AV) (h0_1:List AV) (h0_2:List AV) (t3:Int) (N:(Int)→β) (K:(Unit ⊕ Unit)→β) (d:β):β:=(bif decide (t3<(h0_1.length:Int)) then (bif (decide (0≤t3) && decide (t3<(h0_1.length:Int))) then (bif !(v72_0 (fI (h0_1.getD t3.toNat .undef) 0) 0 999) then K (.inr ())
 else (bif (decide (0≤0) && decide (0≤t3) && decide (t3≤(h0_1.length:Int))) then (bif (decide (0≤t3) && decide (t3<(h0_1.length:Int))) then (bif q145 ((h0_1.take (Int.toNat t3)).drop (Int.toNat 0)) (fI (h0_1.getD t3.toNat .undef) 0) then (bif (v145_0 ((h0_1.take (Int.toNat t3)).drop (Int.toNat 0)) (fI (h0_1.getD t3.toNat .undef) 0)) then K (.inr ())
 else N (IntKind.i64.wrap (t3+1)))
 else d)
 else d)
 else d))
 else d)
 else K (.inl ()))
def F71_0 (h0_0 h0_1 h0_2:List AV) (t3:Int):Out (Int) (Unit ⊕ Unit):=G71_0 h0_0 h0_1 h0_2 t3 .next .stop .fail
def R71_0 (h0_0 h0_1 h0_2:List AV):(Int)→Out (Int) (Unit ⊕ Unit):=fun s:Int=>F71_0 h0_0 h0_1 h0_2 s
def E71_0 (h0_0 h0_1 h0_2:List AV):(Int)→St:=fun s:Int=>⟨[(1,AV.ptr [0,1] 0 0),(3,Ai s)],[([0,1],⟨true,[],[AV.agg [AV.sl [.int .i64] h0_0,AV.sl [.int .i64] h0_1,AV.sl [.int .i64,.int .i64] h0_2]]⟩)]⟩
def K71_0 (h0_0 h0_1 h0_2:List AV) (k:Kont):(Unit ⊕ Unit)→Option AV:=sumE (fun _:Unit=>k (.exit 0) ⟨[(1,AV.ptr [0,1] 0 0)],[([0,1],⟨true,[],[AV.agg [AV.sl [.int .i64] h0_0,AV.sl [.int .i64] h0_1,AV.sl [.int .i64,.int .i64] h0_2]]⟩)]⟩) (fun _:Unit=>k .ret ⟨[(2,AV.bool false)],[([0,1],⟨true,[],[AV.agg [AV.sl [.int .i64] h0_0,AV.sl [.int .i64] h0_1,AV.sl [.int .i64,.int .i64] h0_2]]⟩)]⟩)
def l71_0:LModel:=fun _ _ st k=>match st with
 | ⟨[(1,.ptr g0 g1 g2),(3,.int .i64 t3)],[(g3,⟨true,[],[.agg [.sl g4 h0_0,.sl g5 h0_1,.sl g6 h0_2]]⟩)]⟩=>bif nmEq g0 ([0,1]) && Nat.beq g1 0 && Nat.beq g2 0 && nmEq g3 ([0,1]) && ctsEq g4 ([.int .i64]) && ctsEq g5 ([.int .i64]) && ctsEq g6 ([.int .i64,.int .i64]) then ro (runW (R71_0 h0_0 h0_1 h0_2) (((h0_1.length:Int) - t3:Int).toNat+1) t3) none (K71_0 h0_0 h0_1 h0_2 k) else none
 | _=>none
noncomputable def c71:Cfg:=cfg Tryz.prog [(71,0,[1,3]),(71,999,[2]),(71,1000,[1]),(71,1001,[1,3])] [(72,m72),(100,m100),(145,m145),(146,m146)] [] [] [(71,0,l71_0)]
theorem s71_0 (h0_0 h0_1 h0_2:List AV) (ce:CallE) (k:Kont) (s:Int) (next:St→Option AV):stepA (codeA c71 ce [] 71 0 (sub [1,1,0,1,0,0] (body Tryz.f71))) (normA [] [1,3]) next ((E71_0 h0_0 h0_1 h0_2) s) k=G71_0 h0_0 h0_1 h0_2 s (fun s=>next ((E71_0 h0_0 h0_1 h0_2) s)) (K71_0 h0_0 h0_1 h0_2 k) none:=by kernel_rfl
theorem st71_0 (h0_0 h0_1 h0_2:List AV) (ce:CallE) (k:Kont) (s:Int) (next:St→Option AV):stepA (codeA c71 ce [] 71 0 (sub [1,1,0,1,0,0] (body Tryz.f71))) (normA [] [1,3]) next ((E71_0 h0_0 h0_1 h0_2) s) k=(R71_0 h0_0 h0_1 h0_2 s).el none (fun s=>next ((E71_0 h0_0 h0_1 h0_2) s)) (K71_0 h0_0 h0_1 h0_2 k):=(s71_0 h0_0 h0_1 h0_2 ce k s next).trans (by unfold R71_0;unfold F71_0 G71_0;simp only [el_cond,el_ro,el_sum,el_fail,el_next,el_stop] <;> rfl)
theorem ok71_0 {ce:CallE}:LoopOK c71 ce [] 71 0 (sub [1,1,0,1,0,0] (body Tryz.f71)):=by
 intro m hm st k r h
 obtain rfl:l71_0=m:=Option.some.inj hm
 unfold l71_0 at h
 split at h
 ·rename_i g0 g1 g2 t3 g3 g4 h0_0 g5 h0_1 g6 h0_2
  obtain ⟨hg,h⟩:=bif_some h
  simp only [Bool.and_eq_true] at hg
  obtain ⟨⟨⟨⟨⟨⟨q0,q1⟩,q2⟩,q3⟩,q4⟩,q5⟩,q6⟩:=hg
  obtain rfl:=nE q0
  obtain rfl:=bE q1
  obtain rfl:=bE q2
  obtain rfl:=nE q3
  obtain rfl:=cE q4
  obtain rfl:=cE q5
  obtain rfl:=cE q6
  refine ⟨(((h0_1.length:Int) - t3:Int).toNat+1),?_⟩
  rw [← h]
  exact loop_run (E71_0 h0_0 h0_1 h0_2) (K71_0 h0_0 h0_1 h0_2 k) (st71_0 h0_0 h0_1 h0_2 ce k) _ t3
 ·cases h
def q71 (xa xb xc:List AV):Bool:=(q100 xa && (bif !(v100_0 xa) then true else (bif !decide ((xb.length:Int)=(xa.length:Int)) then true else (ro (runW (R71_0 xa xb xc) (((xb.length:Int) - 0:Int).toNat+1) 0) false (sumE (fun _=>q146 xa xc) (fun _=>true))))))
def v71_0 (xa xb xc:List AV):Bool:=(bif !(v100_0 xa) then false else (bif !decide ((xb.length:Int)=(xa.length:Int)) then false else (ro (runW (R71_0 xa xb xc) (((xb.length:Int) - 0:Int).toNat+1) 0) false (sumE (fun _=>(v146_0 xa xc)) (fun _=>false)))))
theorem e71 (xa xb xc:List AV):funA c71 0 71 [AV.agg [AV.sl [.int .i64] xa,AV.sl [.int .i64] xb,AV.sl [.int .i64,.int .i64] xc]]=(bif q100 xa then (bif !(v100_0 xa) then some (AV.bool false)
 else (bif !decide ((xb.length:Int)=(xa.length:Int)) then some (AV.bool false)
 else (ro (runW (R71_0 xa xb xc) (((xb.length:Int) - 0:Int).toNat+1) 0) none (sumE (fun _=>(bif q146 xa xc then some (AV.bool (v146_0 xa xc))
 else none)) (fun _=>some (AV.bool false))))))
 else none):=by kernel_rfl
def m71:TModel
 | [.agg [.sl g0 xa,.sl g1 xb,.sl g2 xc]]=>bif ctsEq g0 ([.int .i64]) && ctsEq g1 ([.int .i64]) && ctsEq g2 ([.int .i64,.int .i64]) then some (q71 xa xb xc,AV.bool (v71_0 xa xb xc)) else none
 | _=>none
theorem k71:Known Tryz.prog 71:=⟨Tryz.f71,Tryz.func71,by kernel_rfl,by kernel_rfl⟩
theorem meets71:Meets Tryz.prog 71 m71:=by
 refine mt (lvl:=0) (cf:=c71) rfl mixed k71 Tryz.func71 (by kernel_rfl) (loops_cons ok71_0 noLoop) (allT_cons meets72 (allT_cons meets100 (allT_cons meets145 (allT_cons meets146 allT_nil)))) allM_nil noI fun xs r h=>?_
 unfold m71 at h
 split at h
 ·rename_i g0 xa g1 xb g2 xc
  obtain ⟨hg,h⟩:=bif_pair h
  simp only [Bool.and_eq_true] at hg
  obtain ⟨⟨q0,q1⟩,q2⟩:=hg
  obtain rfl:=cE q0
  obtain rfl:=cE q1
  obtain rfl:=cE q2
  obtain ⟨h1,rfl⟩:=pair_inj h
  exact (e71 xa xb xc).trans ((brL (br (fun b=>some (AV.bool (bif b then false else (bif !decide ((xb.length:Int)=(xa.length:Int)) then false else (ro (runW (R71_0 xa xb xc) (((xb.length:Int) - 0:Int).toNat+1) 0) false (sumE (fun _=>(v146_0 xa xc)) (fun _=>false))))))) (fun _=>rfl) (br (fun b=>some (AV.bool (bif b then false else (ro (runW (R71_0 xa xb xc) (((xb.length:Int) - 0:Int).toNat+1) 0) false (sumE (fun _=>(v146_0 xa xc)) (fun _=>false)))))) (fun _=>rfl) (brO (fun o:Option (Unit ⊕ Unit)=>some (AV.bool (ro o false (sumE (fun _=>(v146_0 xa xc)) (fun _=>false))))) (brS (fun o:Unit ⊕ Unit=>some (AV.bool ((sumE (fun _=>(v146_0 xa xc)) (fun _=>false)) o))) (fun _=>(brL1 (fun _=>rfl))) (fun _=>(fun _=>rfl))))))) h1)
 ·cases h
noncomputable def c138:Cfg:=cfg Tryz.prog [(138,999,[2])] [] [] [] []
def q138 (xa xb xc:List AV):Bool:=((decide ((([]:List AV).length+xa.length)*8≤140737488355328) && decide ((([]:List AV).length+xa.length)≤140737488355328)) && ((decide ((([]:List AV).length+xb.length)*8≤140737488355328) && decide ((([]:List AV).length+xb.length)≤140737488355328)) && (decide ((([]:List AV).length+xc.length)*16≤140737488355328) && decide ((([]:List AV).length+xc.length)≤140737488355328))))
def v138_0 (xa xb xc:List AV):List AV:=([]:List AV)++xa
def v138_1 (xa xb xc:List AV):List AV:=([]:List AV)++xb
def v138_2 (xa xb xc:List AV):List AV:=([]:List AV)++xc
theorem e138 (xa xb xc:List AV):funA c138 0 138 [AV.agg [AV.sl [.int .i64] xa,AV.sl [.int .i64] xb,AV.sl [.int .i64,.int .i64] xc]]=(bif (decide ((([]:List AV).length+xa.length)*8≤140737488355328) && decide ((([]:List AV).length+xa.length)≤140737488355328)) then (bif (decide ((([]:List AV).length+xb.length)*8≤140737488355328) && decide ((([]:List AV).length+xb.length)≤140737488355328)) then (bif (decide ((([]:List AV).length+xc.length)*16≤140737488355328) && decide ((([]:List AV).length+xc.length)≤140737488355328)) then some (AV.agg [AV.fl [.int .i64] (([]:List AV)++xa),AV.fl [.int .i64] (([]:List AV)++xb),AV.fl [.int .i64,.int .i64] (([]:List AV)++xc)])
 else none)
 else none)
 else none):=by kernel_rfl
def m138:TModel
 | [.agg [.sl g0 xa,.sl g1 xb,.sl g2 xc]]=>bif ctsEq g0 ([.int .i64]) && ctsEq g1 ([.int .i64]) && ctsEq g2 ([.int .i64,.int .i64]) then some (q138 xa xb xc,AV.agg [AV.fl [.int .i64] (v138_0 xa xb xc),AV.fl [.int .i64] (v138_1 xa xb xc),AV.fl [.int .i64,.int .i64] (v138_2 xa xb xc)]) else none
 | _=>none
theorem k138:Known Tryz.prog 138:=⟨Tryz.f138,Tryz.func138,by kernel_rfl,by kernel_rfl⟩
theorem meets138:Meets Tryz.prog 138 m138:=by
 refine mt (lvl:=0) (cf:=c138) rfl mixed k138 Tryz.func138 (by kernel_rfl) noLoop allT_nil allM_nil noI fun xs r h=>?_
 unfold m138 at h
 split at h
 ·rename_i g0 xa g1 xb g2 xc
  obtain ⟨hg,h⟩:=bif_pair h
  simp only [Bool.and_eq_true] at hg
  obtain ⟨⟨q0,q1⟩,q2⟩:=hg
  obtain rfl:=cE q0
  obtain rfl:=cE q1
  obtain rfl:=cE q2
  obtain ⟨h1,rfl⟩:=pair_inj h
  exact (e138 xa xb xc).trans ((brL (brL (brL1 (fun _=>rfl)))) h1)
 ·cases h
def G21_0 {β:Type} (t1:Int) (h0_0:List AV) (h0_1:List AV) (h0_2:List AV) (t6:Int) (N:(Int)→β) (K:(Unit ⊕ Int)→β) (d:β):β:=(bif decide (t6<(h0_2.length:Int)) then (bif (decide (0≤t6) && decide (t6<(h0_2.length:Int))) then (bif decide (fI (h0_2.getD t6.toNat .undef) 0=t1) then (bif (decide (0≤t6) && decide (t6<(h0_2.length:Int))) then K (.inr (fI (h0_2.getD t6.toNat .undef) 1))
 else d)
 else N (IntKind.i64.wrap (t6+1)))
 else d)
 else K (.inl ()))
def F21_0 (t1:Int) (h0_0 h0_1 h0_2:List AV) (t6:Int):Out (Int) (Unit ⊕ Int):=G21_0 t1 h0_0 h0_1 h0_2 t6 .next .stop .fail
def R21_0 (t1:Int) (h0_0 h0_1 h0_2:List AV):(Int)→Out (Int) (Unit ⊕ Int):=fun s:Int=>F21_0 t1 h0_0 h0_1 h0_2 s
def E21_0 (t1:Int) (h0_0 h0_1 h0_2:List AV):(Int)→St:=fun s:Int=>⟨[(1,Ai t1),(2,AV.ptr [0,2] 0 0),(6,Ai s)],[([0,2],⟨true,[],[AV.agg [AV.sl [.int .i64] h0_0,AV.sl [.int .i64] h0_1,AV.sl [.int .i64,.int .i64] h0_2]]⟩)]⟩
def K21_0 (t1:Int) (h0_0 h0_1 h0_2:List AV) (k:Kont):(Unit ⊕ Int)→Option AV:=sumE (fun _:Unit=>k (.exit 0) ⟨[],[([0,2],⟨true,[],[AV.agg [AV.sl [.int .i64] h0_0,AV.sl [.int .i64] h0_1,AV.sl [.int .i64,.int .i64] h0_2]]⟩)]⟩) (fun p:Int=>k .ret ⟨[(4,Ai p),(5,AV.bool true)],[([0,2],⟨true,[],[AV.agg [AV.sl [.int .i64] h0_0,AV.sl [.int .i64] h0_1,AV.sl [.int .i64,.int .i64] h0_2]]⟩)]⟩)
def l21_0:LModel:=fun _ _ st k=>match st with
 | ⟨[(1,.int .i64 t1),(2,.ptr g0 g1 g2),(6,.int .i64 t6)],[(g3,⟨true,[],[.agg [.sl g4 h0_0,.sl g5 h0_1,.sl g6 h0_2]]⟩)]⟩=>bif nmEq g0 ([0,2]) && Nat.beq g1 0 && Nat.beq g2 0 && nmEq g3 ([0,2]) && ctsEq g4 ([.int .i64]) && ctsEq g5 ([.int .i64]) && ctsEq g6 ([.int .i64,.int .i64]) then ro (runW (R21_0 t1 h0_0 h0_1 h0_2) (((h0_2.length:Int) - t6:Int).toNat+1) t6) none (K21_0 t1 h0_0 h0_1 h0_2 k) else none
 | _=>none
noncomputable def c21:Cfg:=cfg Tryz.prog [(21,0,[1,2,6]),(21,999,[4,5]),(21,1000,[]),(21,1001,[1,2,6])] [] [] [] [(21,0,l21_0)]
theorem s21_0 (t1:Int) (h0_0 h0_1 h0_2:List AV) (ce:CallE) (k:Kont) (s:Int) (next:St→Option AV):stepA (codeA c21 ce [] 21 0 (sub [1,0,1,0,0] (body Tryz.f21))) (normA [] [1,2,6]) next ((E21_0 t1 h0_0 h0_1 h0_2) s) k=G21_0 t1 h0_0 h0_1 h0_2 s (fun s=>next ((E21_0 t1 h0_0 h0_1 h0_2) s)) (K21_0 t1 h0_0 h0_1 h0_2 k) none:=by kernel_rfl
theorem st21_0 (t1:Int) (h0_0 h0_1 h0_2:List AV) (ce:CallE) (k:Kont) (s:Int) (next:St→Option AV):stepA (codeA c21 ce [] 21 0 (sub [1,0,1,0,0] (body Tryz.f21))) (normA [] [1,2,6]) next ((E21_0 t1 h0_0 h0_1 h0_2) s) k=(R21_0 t1 h0_0 h0_1 h0_2 s).el none (fun s=>next ((E21_0 t1 h0_0 h0_1 h0_2) s)) (K21_0 t1 h0_0 h0_1 h0_2 k):=(s21_0 t1 h0_0 h0_1 h0_2 ce k s next).trans (by unfold R21_0;unfold F21_0 G21_0;simp only [el_cond,el_ro,el_sum,el_fail,el_next,el_stop] <;> rfl)
theorem ok21_0 {ce:CallE}:LoopOK c21 ce [] 21 0 (sub [1,0,1,0,0] (body Tryz.f21)):=by
 intro m hm st k r h
 obtain rfl:l21_0=m:=Option.some.inj hm
 unfold l21_0 at h
 split at h
 ·rename_i t1 g0 g1 g2 t6 g3 g4 h0_0 g5 h0_1 g6 h0_2
  obtain ⟨hg,h⟩:=bif_some h
  simp only [Bool.and_eq_true] at hg
  obtain ⟨⟨⟨⟨⟨⟨q0,q1⟩,q2⟩,q3⟩,q4⟩,q5⟩,q6⟩:=hg
  obtain rfl:=nE q0
  obtain rfl:=bE q1
  obtain rfl:=bE q2
  obtain rfl:=nE q3
  obtain rfl:=cE q4
  obtain rfl:=cE q5
  obtain rfl:=cE q6
  refine ⟨(((h0_2.length:Int) - t6:Int).toNat+1),?_⟩
  rw [← h]
  exact loop_run (E21_0 t1 h0_0 h0_1 h0_2) (K21_0 t1 h0_0 h0_1 h0_2 k) (st21_0 t1 h0_0 h0_1 h0_2 ce k) _ t6
 ·cases h
def q21 (xa xb xc:List AV) (a1:Int):Bool:=(ro (runW (R21_0 a1 xa xb xc) (((xc.length:Int) - 0:Int).toNat+1) 0) false (sumE (fun _=>true) (fun p19=>true)))
def v21_0 (xa xb xc:List AV) (a1:Int):Int:=(ro (runW (R21_0 a1 xa xb xc) (((xc.length:Int) - 0:Int).toNat+1) 0) 0 (sumE (fun _=>0) (fun p19=>p19)))
def v21_1 (xa xb xc:List AV) (a1:Int):Bool:=(ro (runW (R21_0 a1 xa xb xc) (((xc.length:Int) - 0:Int).toNat+1) 0) false (sumE (fun _=>false) (fun p19=>true)))
theorem e21 (xa xb xc:List AV) (a1:Int):funA c21 0 21 [AV.agg [AV.sl [.int .i64] xa,AV.sl [.int .i64] xb,AV.sl [.int .i64,.int .i64] xc],Ai a1]=(ro (runW (R21_0 a1 xa xb xc) (((xc.length:Int) - 0:Int).toNat+1) 0) none (sumE (fun _=>some (AV.tup [Ai 0,AV.bool false])) (fun p19=>some (AV.tup [Ai p19,AV.bool true])))):=by kernel_rfl
def m21:TModel
 | [.agg [.sl g0 xa,.sl g1 xb,.sl g2 xc],.int .i64 a1]=>bif ctsEq g0 ([.int .i64]) && ctsEq g1 ([.int .i64]) && ctsEq g2 ([.int .i64,.int .i64]) then some (q21 xa xb xc a1,AV.tup [AV.int .i64 (v21_0 xa xb xc a1),AV.bool (v21_1 xa xb xc a1)]) else none
 | _=>none
theorem k21:Known Tryz.prog 21:=⟨Tryz.f21,Tryz.func21,by kernel_rfl,by kernel_rfl⟩
theorem meets21:Meets Tryz.prog 21 m21:=by
 refine mt (lvl:=0) (cf:=c21) rfl mixed k21 Tryz.func21 (by kernel_rfl) (loops_cons ok21_0 noLoop) allT_nil allM_nil noI fun xs r h=>?_
 unfold m21 at h
 split at h
 ·rename_i g0 xa g1 xb g2 xc a1
  obtain ⟨hg,h⟩:=bif_pair h
  simp only [Bool.and_eq_true] at hg
  obtain ⟨⟨q0,q1⟩,q2⟩:=hg
  obtain rfl:=cE q0
  obtain rfl:=cE q1
  obtain rfl:=cE q2
  obtain ⟨h1,rfl⟩:=pair_inj h
  exact (e21 xa xb xc a1).trans ((brO (fun o:Option (Unit ⊕ Int)=>some (AV.tup [Ai (ro o 0 (sumE (fun _=>0) (fun p19=>p19))),AV.bool (ro o false (sumE (fun _=>false) (fun p19=>true)))])) (brS (fun o:Unit ⊕ Int=>some (AV.tup [Ai ((sumE (fun _=>0) (fun p19=>p19)) o),AV.bool ((sumE (fun _=>false) (fun p19=>true)) o)])) (fun _=>(fun _=>rfl)) (fun p19=>(fun _=>rfl)))) h1)
 ·cases h
def G164_2 {β:Type} (t1:List AV) (t2:Int) (t8:Int) (t9:Int) (t11:Int) (N:((Int × Int))→β) (K:(Int)→β) (d:β):β:=(bif decide (t11 ≥ 0) then (bif (decide (0≤t11) && decide (t11<(t1.length:Int))) then (bif decide (fI (t1.getD t11.toNat .undef) 0 ≥ t2) then (bif (decide (0≤t11) && decide (t11<(t1.length:Int))) then N (fI (t1.getD t11.toNat .undef) 1,IntKind.i64.wrap (t11 - 1))
 else d)
 else N (t9,IntKind.i64.wrap (t11 - 1)))
 else d)
 else K t9)
def F164_2 (t1:List AV) (t2 t8 t9 t11:Int):Out ((Int × Int)) (Int):=G164_2 t1 t2 t8 t9 t11 .next .stop .fail
def R164_2 (t1:List AV) (t2 t8:Int):((Int × Int))→Out ((Int × Int)) (Int):=fun s:Int × Int=>F164_2 t1 t2 t8 s.1 s.2
def E164_2 (t1:List AV) (t2 t8:Int):((Int × Int))→St:=fun s:Int × Int=>⟨[(1,AV.sl [.int .i64,.int .i64] t1),(2,Ai t2),(8,Ai t8),(9,Ai s.1),(11,Ai s.2)],[]⟩
def K164_2 (t1:List AV) (t2 t8:Int) (k:Kont):(Int)→Option AV:=fun p:Int=>k (.exit 2) ⟨[(8,Ai t8),(9,Ai p)],[]⟩
def l164_2:LModel:=fun _ _ st k=>match st with
 | ⟨[(1,.sl g0 t1),(2,.int .i64 t2),(8,.int .i64 t8),(9,.int .i64 t9),(11,.int .i64 t11)],[]⟩=>bif ctsEq g0 ([.int .i64,.int .i64]) then ro (runW (R164_2 t1 t2 t8) ((t11 - 0+1:Int).toNat+1) (t9,t11)) none (K164_2 t1 t2 t8 k) else none
 | _=>none
def G164_0 {β:Type} (t1:List AV) (t2:Int) (t9:Int) (t8:Int) (t10:Int) (N:((Int × Int))→β) (K:(Int)→β) (d:β):β:=(bif decide (t10<(t1.length:Int)) then (bif (decide (0≤t10) && decide (t10<(t1.length:Int))) then (bif decide (fI (t1.getD t10.toNat .undef) 0≤t2) then (bif (decide (0≤t10) && decide (t10<(t1.length:Int))) then N (fI (t1.getD t10.toNat .undef) 1,IntKind.i64.wrap (t10+1))
 else d)
 else N (t8,IntKind.i64.wrap (t10+1)))
 else d)
 else K t8)
def F164_0 (t1:List AV) (t2 t9 t8 t10:Int):Out ((Int × Int)) (Int):=G164_0 t1 t2 t9 t8 t10 .next .stop .fail
def R164_0 (t1:List AV) (t2 t9:Int):((Int × Int))→Out ((Int × Int)) (Int):=fun s:Int × Int=>F164_0 t1 t2 t9 s.1 s.2
def E164_0 (t1:List AV) (t2 t9:Int):((Int × Int))→St:=fun s:Int × Int=>⟨[(1,AV.sl [.int .i64,.int .i64] t1),(2,Ai t2),(8,Ai s.1),(9,Ai t9),(10,Ai s.2)],[]⟩
def K164_0 (t1:List AV) (t2 t9:Int) (k:Kont):(Int)→Option AV:=fun p:Int=>k (.exit 0) ⟨[(1,AV.sl [.int .i64,.int .i64] t1),(2,Ai t2),(8,Ai p),(9,Ai t9)],[]⟩
def l164_0:LModel:=fun _ _ st k=>match st with
 | ⟨[(1,.sl g0 t1),(2,.int .i64 t2),(8,.int .i64 t8),(9,.int .i64 t9),(10,.int .i64 t10)],[]⟩=>bif ctsEq g0 ([.int .i64,.int .i64]) then ro (runW (R164_0 t1 t2 t9) (((t1.length:Int) - t10:Int).toNat+1) (t8,t10)) none (K164_0 t1 t2 t9 k) else none
 | _=>none
noncomputable def c164:Cfg:=cfg Tryz.prog [(164,0,[1,2,8,9,10]),(164,2,[1,2,8,9,11]),(164,999,[6,7]),(164,1000,[1,2,8,9]),(164,1001,[1,2,8,9,10]),(164,1002,[8,9]),(164,1003,[1,2,8,9,11])] [] [] [] [(164,0,l164_0),(164,2,l164_2)]
theorem s164_2 (t1:List AV) (t2 t8:Int) (ce:CallE) (k:Kont) (s:Int × Int) (next:St→Option AV):stepA (codeA c164 ce [] 164 2 (sub [1,1,1,1,0,1,0,0] (body Tryz.f164))) (normA [] [1,2,8,9,11]) next ((E164_2 t1 t2 t8) s) k=G164_2 t1 t2 t8 s.1 s.2 (fun s=>next ((E164_2 t1 t2 t8) s)) (K164_2 t1 t2 t8 k) none:=by kernel_rfl
theorem st164_2 (t1:List AV) (t2 t8:Int) (ce:CallE) (k:Kont) (s:(Int × Int)) (next:St→Option AV):stepA (codeA c164 ce [] 164 2 (sub [1,1,1,1,0,1,0,0] (body Tryz.f164))) (normA [] [1,2,8,9,11]) next ((E164_2 t1 t2 t8) s) k=(R164_2 t1 t2 t8 s).el none (fun s=>next ((E164_2 t1 t2 t8) s)) (K164_2 t1 t2 t8 k):=(s164_2 t1 t2 t8 ce k s next).trans (by unfold R164_2;unfold F164_2 G164_2;simp only [el_cond,el_ro,el_sum,el_fail,el_next,el_stop] <;> rfl)
theorem ok164_2 {ce:CallE}:LoopOK c164 ce [] 164 2 (sub [1,1,1,1,0,1,0,0] (body Tryz.f164)):=by
 intro m hm st k r h
 obtain rfl:l164_2=m:=Option.some.inj hm
 unfold l164_2 at h
 split at h
 ·rename_i g0 t1 t2 t8 t9 t11
  obtain ⟨hg,h⟩:=bif_some h
  have q0:=hg
  obtain rfl:=cE q0
  refine ⟨((t11 - 0+1:Int).toNat+1),?_⟩
  rw [← h]
  exact loop_run (E164_2 t1 t2 t8) (K164_2 t1 t2 t8 k) (st164_2 t1 t2 t8 ce k) _ (t9,t11)
 ·cases h
theorem s164_0 (t1:List AV) (t2 t9:Int) (ce:CallE) (k:Kont) (s:Int × Int) (next:St→Option AV):stepA (codeA c164 ce [] 164 0 (sub [1,1,1,0,1,0,0] (body Tryz.f164))) (normA [] [1,2,8,9,10]) next ((E164_0 t1 t2 t9) s) k=G164_0 t1 t2 t9 s.1 s.2 (fun s=>next ((E164_0 t1 t2 t9) s)) (K164_0 t1 t2 t9 k) none:=by kernel_rfl
theorem st164_0 (t1:List AV) (t2 t9:Int) (ce:CallE) (k:Kont) (s:(Int × Int)) (next:St→Option AV):stepA (codeA c164 ce [] 164 0 (sub [1,1,1,0,1,0,0] (body Tryz.f164))) (normA [] [1,2,8,9,10]) next ((E164_0 t1 t2 t9) s) k=(R164_0 t1 t2 t9 s).el none (fun s=>next ((E164_0 t1 t2 t9) s)) (K164_0 t1 t2 t9 k):=(s164_0 t1 t2 t9 ce k s next).trans (by unfold R164_0;unfold F164_0 G164_0;simp only [el_cond,el_ro,el_sum,el_fail,el_next,el_stop] <;> rfl)
theorem ok164_0 {ce:CallE}:LoopOK c164 ce [] 164 0 (sub [1,1,1,0,1,0,0] (body Tryz.f164)):=by
 intro m hm st k r h
 obtain rfl:l164_0=m:=Option.some.inj hm
 unfold l164_0 at h
 split at h
 ·rename_i g0 t1 t2 t8 t9 t10
  obtain ⟨hg,h⟩:=bif_some h
  have q0:=hg
  obtain rfl:=cE q0
  refine ⟨(((t1.length:Int) - t10:Int).toNat+1),?_⟩
  rw [← h]
  exact loop_run (E164_0 t1 t2 t9) (K164_0 t1 t2 t9 k) (st164_0 t1 t2 t9 ce k) _ (t8,t10)
 ·cases h
def q164 (a0:Int) (a1:List AV) (a2:Int):Bool:=(ro (runW (R164_0 a1 a2 a0) (((a1.length:Int) - 0:Int).toNat+1) (0,0)) false (fun p20=>(ro (runW (R164_2 a1 a2 p20) (((IntKind.i64.wrap ((a1.length:Int) - 1)) - 0+1:Int).toNat+1) (a0,IntKind.i64.wrap ((a1.length:Int) - 1))) false (fun p21=>true))))
def v164_0 (a0:Int) (a1:List AV) (a2:Int):Int:=(ro (runW (R164_0 a1 a2 a0) (((a1.length:Int) - 0:Int).toNat+1) (0,0)) 0 (fun p20=>p20))
def v164_1 (a0:Int) (a1:List AV) (a2:Int):Int:=(ro (runW (R164_0 a1 a2 a0) (((a1.length:Int) - 0:Int).toNat+1) (0,0)) 0 (fun p20=>(ro (runW (R164_2 a1 a2 p20) (((IntKind.i64.wrap ((a1.length:Int) - 1)) - 0+1:Int).toNat+1) (a0,IntKind.i64.wrap ((a1.length:Int) - 1))) 0 (fun p21=>p21))))
theorem e164 (a0:Int) (a1:List AV) (a2:Int):funA c164 0 164 [Ai a0,AV.sl [.int .i64,.int .i64] a1,Ai a2]=(ro (runW (R164_0 a1 a2 a0) (((a1.length:Int) - 0:Int).toNat+1) (0,0)) none (fun p20=>(ro (runW (R164_2 a1 a2 p20) (((IntKind.i64.wrap ((a1.length:Int) - 1)) - 0+1:Int).toNat+1) (a0,IntKind.i64.wrap ((a1.length:Int) - 1))) none (fun p21=>some (AV.tup [Ai p20,Ai p21]))))):=by kernel_rfl
def m164:TModel
 | [.int .i64 a0,.sl g0 a1,.int .i64 a2]=>bif ctsEq g0 ([.int .i64,.int .i64]) then some (q164 a0 a1 a2,AV.tup [AV.int .i64 (v164_0 a0 a1 a2),AV.int .i64 (v164_1 a0 a1 a2)]) else none
 | _=>none
theorem k164:Known Tryz.prog 164:=⟨Tryz.f164,Tryz.func164,by kernel_rfl,by kernel_rfl⟩
theorem meets164:Meets Tryz.prog 164 m164:=by
 refine mt (lvl:=0) (cf:=c164) rfl mixed k164 Tryz.func164 (by kernel_rfl) (loops_cons ok164_0 (loops_cons ok164_2 noLoop)) allT_nil allM_nil noI fun xs r h=>?_
 unfold m164 at h
 split at h
 ·rename_i a0 g0 a1 a2
  obtain ⟨hg,h⟩:=bif_pair h
  have q0:=hg
  obtain rfl:=cE q0
  obtain ⟨h1,rfl⟩:=pair_inj h
  exact (e164 a0 a1 a2).trans ((brO (fun o:Option (Int)=>some (AV.tup [Ai (ro o 0 (fun p20=>p20)),Ai (ro o 0 (fun p20=>(ro (runW (R164_2 a1 a2 p20) (((IntKind.i64.wrap ((a1.length:Int) - 1)) - 0+1:Int).toNat+1) (a0,IntKind.i64.wrap ((a1.length:Int) - 1))) 0 (fun p21=>p21))))])) (fun p20=>(brO (fun o:Option (Int)=>some (AV.tup [Ai p20,Ai (ro o 0 (fun p21=>p21))])) (fun p21=>(fun _=>rfl))))) h1)
 ·cases h
noncomputable def c101:Cfg:=cfg Tryz.prog [(101,999,[4,5])] [(71,m71),(72,m72),(164,m164)] [] [] []
def q101 (xa xb xc:List AV) (a1:Int):Bool:=(q71 xa xb xc && (bif !(v71_0 xa xb xc) then true else (bif !(v72_0 a1 (-1000) 1000) then true else q164 (xa.length:Int) xc a1)))
def v101_0 (xa xb xc:List AV) (a1:Int):Int:=(bif !(v71_0 xa xb xc) then 0 else (bif !(v72_0 a1 (-1000) 1000) then 0 else (v164_0 (xa.length:Int) xc a1)))
def v101_1 (xa xb xc:List AV) (a1:Int):Int:=(bif !(v71_0 xa xb xc) then 0 else (bif !(v72_0 a1 (-1000) 1000) then 0 else (v164_1 (xa.length:Int) xc a1)))
theorem e101 (xa xb xc:List AV) (a1:Int):funA c101 0 101 [AV.agg [AV.sl [.int .i64] xa,AV.sl [.int .i64] xb,AV.sl [.int .i64,.int .i64] xc],Ai a1]=(bif q71 xa xb xc then (bif !(v71_0 xa xb xc) then some (AV.tup [Ai 0,Ai 0])
 else (bif !(v72_0 a1 (-1000) 1000) then some (AV.tup [Ai 0,Ai 0])
 else (bif q164 (xa.length:Int) xc a1 then some (AV.tup [Ai (v164_0 (xa.length:Int) xc a1),Ai (v164_1 (xa.length:Int) xc a1)])
 else none)))
 else none):=by kernel_rfl
def m101:TModel
 | [.agg [.sl g0 xa,.sl g1 xb,.sl g2 xc],.int .i64 a1]=>bif ctsEq g0 ([.int .i64]) && ctsEq g1 ([.int .i64]) && ctsEq g2 ([.int .i64,.int .i64]) then some (q101 xa xb xc a1,AV.tup [AV.int .i64 (v101_0 xa xb xc a1),AV.int .i64 (v101_1 xa xb xc a1)]) else none
 | _=>none
theorem k101:Known Tryz.prog 101:=⟨Tryz.f101,Tryz.func101,by kernel_rfl,by kernel_rfl⟩
theorem meets101:Meets Tryz.prog 101 m101:=by
 refine mt (lvl:=0) (cf:=c101) rfl mixed k101 Tryz.func101 (by kernel_rfl) noLoop (allT_cons meets71 (allT_cons meets72 (allT_cons meets164 allT_nil))) allM_nil noI fun xs r h=>?_
 unfold m101 at h
 split at h
 ·rename_i g0 xa g1 xb g2 xc a1
  obtain ⟨hg,h⟩:=bif_pair h
  simp only [Bool.and_eq_true] at hg
  obtain ⟨⟨q0,q1⟩,q2⟩:=hg
  obtain rfl:=cE q0
  obtain rfl:=cE q1
  obtain rfl:=cE q2
  obtain ⟨h1,rfl⟩:=pair_inj h
  exact (e101 xa xb xc a1).trans ((brL (br (fun b=>some (AV.tup [Ai (bif b then 0 else (bif !(v72_0 a1 (-1000) 1000) then 0 else (v164_0 (xa.length:Int) xc a1))),Ai (bif b then 0 else (bif !(v72_0 a1 (-1000) 1000) then 0 else (v164_1 (xa.length:Int) xc a1)))])) (fun _=>rfl) (br (fun b=>some (AV.tup [Ai (bif b then 0 else (v164_0 (xa.length:Int) xc a1)),Ai (bif b then 0 else (v164_1 (xa.length:Int) xc a1))])) (fun _=>rfl) (brL1 (fun _=>rfl))))) h1)
 ·cases h
def G169_0 {β:Type} (t0:List AV) (t3:Int) (t11:Int) (t12:Int) (h0:List AV) (N:((Int × Int × (List AV)))→β) (K:((Int × (List AV)))→β) (d:β):β:=(bif decide (t11≤t12) then (bif (decide (0≤t11) && decide (t11<(t0.length:Int))) then (bif decide (fI (t0.getD t11.toNat .undef) 0<t3) then N (IntKind.i64.wrap (t11+1),t12,h0)
 else (bif (decide (0≤t12) && decide (t12<(t0.length:Int))) then (bif decide (fI (t0.getD t12.toNat .undef) 0 ≥ t3) then N (t11,IntKind.i64.wrap (t12 - 1),h0)
 else (bif (decide ((h0.length+([AV.agg [AV.int .i64 t11,AV.int .i64 t12]]).length)*16≤140737488355328) && decide ((h0.length+([AV.agg [AV.int .i64 t11,AV.int .i64 t12]]).length)≤140737488355328)) then N (IntKind.i64.wrap (t11+1),IntKind.i64.wrap (t12 - 1),h0++([AV.agg [AV.int .i64 t11,AV.int .i64 t12]]))
 else d))
 else d))
 else d)
 else K (t11,h0))
def F169_0 (t0:List AV) (t3 t11 t12:Int) (h0:List AV):Out ((Int × Int × (List AV))) ((Int × (List AV))):=G169_0 t0 t3 t11 t12 h0 .next .stop .fail
def R169_0 (t0:List AV) (t3:Int):((Int × Int × (List AV)))→Out ((Int × Int × (List AV))) ((Int × (List AV))):=fun s:Int × Int × (List AV)=>F169_0 t0 t3 s.1 s.2.1 s.2.2
def E169_0 (t0:List AV) (t3:Int):((Int × Int × (List AV)))→St:=fun s:Int × Int × (List AV)=>⟨[(0,AV.sl [.int .i64] t0),(3,Ai t3),(10,AV.own [0,10]),(11,Ai s.1),(12,Ai s.2.1)],[([0,10],⟨false,[.int .i64,.int .i64],s.2.2⟩)]⟩
def K169_0 (t0:List AV) (t3:Int) (k:Kont):((Int × (List AV)))→Option AV:=fun p:Int × (List AV)=>k (.exit 0) ⟨[(10,AV.own [0,10]),(11,Ai p.1)],[([0,10],⟨false,[.int .i64,.int .i64],p.2⟩)]⟩
def l169_0:LModel:=fun _ _ st k=>match st with
 | ⟨[(0,.sl g0 t0),(3,.int .i64 t3),(10,.own g1),(11,.int .i64 t11),(12,.int .i64 t12)],[(g2,⟨false,g3,h0⟩)]⟩=>bif ctsEq g0 ([.int .i64]) && nmEq g1 ([0,10]) && nmEq g2 ([0,10]) && ctsEq g3 ([.int .i64,.int .i64]) then ro (runW (R169_0 t0 t3) ((t12 - t11+1:Int).toNat+1) (t11,t12,h0)) none (K169_0 t0 t3 k) else none
 | _=>none
noncomputable def c169:Cfg:=cfg Tryz.prog [(169,0,[0,3,10,11,12]),(169,999,[8,9]),(169,1000,[10,11]),(169,1001,[0,3,10,11,12]),(169,1002,[0,3,10,11,12])] [(72,m72)] [] [] [(169,0,l169_0)]
theorem s169_0 (t0:List AV) (t3:Int) (ce:CallE) (k:Kont) (s:Int × Int × (List AV)) (next:St→Option AV):stepA (codeA c169 ce [] 169 0 (sub [1,1,1,1,1,0,0,0] (body Tryz.f169))) (normA [] [0,3,10,11,12]) next ((E169_0 t0 t3) s) k=G169_0 t0 t3 s.1 s.2.1 s.2.2 (fun s=>next ((E169_0 t0 t3) s)) (K169_0 t0 t3 k) none:=by kernel_rfl
theorem st169_0 (t0:List AV) (t3:Int) (ce:CallE) (k:Kont) (s:(Int × Int × (List AV))) (next:St→Option AV):stepA (codeA c169 ce [] 169 0 (sub [1,1,1,1,1,0,0,0] (body Tryz.f169))) (normA [] [0,3,10,11,12]) next ((E169_0 t0 t3) s) k=(R169_0 t0 t3 s).el none (fun s=>next ((E169_0 t0 t3) s)) (K169_0 t0 t3 k):=(s169_0 t0 t3 ce k s next).trans (by unfold R169_0;unfold F169_0 G169_0;simp only [el_cond,el_ro,el_sum,el_fail,el_next,el_stop] <;> rfl)
theorem ok169_0 {ce:CallE}:LoopOK c169 ce [] 169 0 (sub [1,1,1,1,1,0,0,0] (body Tryz.f169)):=by
 intro m hm st k r h
 obtain rfl:l169_0=m:=Option.some.inj hm
 unfold l169_0 at h
 split at h
 ·rename_i g0 t0 t3 g1 t11 t12 g2 g3 h0
  obtain ⟨hg,h⟩:=bif_some h
  simp only [Bool.and_eq_true] at hg
  obtain ⟨⟨⟨q0,q1⟩,q2⟩,q3⟩:=hg
  obtain rfl:=cE q0
  obtain rfl:=nE q1
  obtain rfl:=nE q2
  obtain rfl:=cE q3
  refine ⟨((t12 - t11+1:Int).toNat+1),?_⟩
  rw [← h]
  exact loop_run (E169_0 t0 t3) (K169_0 t0 t3 k) (st169_0 t0 t3 ce k) _ (t11,t12,h0)
 ·cases h
def q169 (a0:List AV) (a1 a2 a3:Int):Bool:=(bif !(v72_0 a1 0 a2) then true else (bif decide (a2 > (a0.length:Int)) then true else (ro (runW (R169_0 a0 a3) (((IntKind.i64.wrap (a2 - 1)) - a1+1:Int).toNat+1) (a1,IntKind.i64.wrap (a2 - 1),([]:List AV))) false (fun p22=>true))))
def v169_0 (a0:List AV) (a1 a2 a3:Int):List AV:=(bif !(v72_0 a1 0 a2) then ([]:List AV) else (bif decide (a2 > (a0.length:Int)) then ([]:List AV) else (ro (runW (R169_0 a0 a3) (((IntKind.i64.wrap (a2 - 1)) - a1+1:Int).toNat+1) (a1,IntKind.i64.wrap (a2 - 1),([]:List AV))) [] (fun p22=>p22.2))))
def v169_1 (a0:List AV) (a1 a2 a3:Int):Int:=(bif !(v72_0 a1 0 a2) then 0 else (bif decide (a2 > (a0.length:Int)) then 0 else (ro (runW (R169_0 a0 a3) (((IntKind.i64.wrap (a2 - 1)) - a1+1:Int).toNat+1) (a1,IntKind.i64.wrap (a2 - 1),([]:List AV))) 0 (fun p22=>p22.1))))
theorem e169 (a0:List AV) (a1 a2 a3:Int):funA c169 0 169 [AV.sl [.int .i64] a0,Ai a1,Ai a2,Ai a3]=(bif !(v72_0 a1 0 a2) then some (AV.tup [AV.fl [.int .i64,.int .i64] ([]:List AV),Ai 0])
 else (bif decide (a2 > (a0.length:Int)) then some (AV.tup [AV.fl [.int .i64,.int .i64] ([]:List AV),Ai 0])
 else (ro (runW (R169_0 a0 a3) (((IntKind.i64.wrap (a2 - 1)) - a1+1:Int).toNat+1) (a1,IntKind.i64.wrap (a2 - 1),([]:List AV))) none (fun p22=>some (AV.tup [AV.fl [.int .i64,.int .i64] p22.2,Ai p22.1]))))):=by kernel_rfl
def m169:TModel
 | [.sl g0 a0,.int .i64 a1,.int .i64 a2,.int .i64 a3]=>bif ctsEq g0 ([.int .i64]) then some (q169 a0 a1 a2 a3,AV.tup [AV.fl [.int .i64,.int .i64] (v169_0 a0 a1 a2 a3),AV.int .i64 (v169_1 a0 a1 a2 a3)]) else none
 | _=>none
theorem k169:Known Tryz.prog 169:=⟨Tryz.f169,Tryz.func169,by kernel_rfl,by kernel_rfl⟩
theorem meets169:Meets Tryz.prog 169 m169:=by
 refine mt (lvl:=0) (cf:=c169) rfl mixed k169 Tryz.func169 (by kernel_rfl) (loops_cons ok169_0 noLoop) (allT_cons meets72 allT_nil) allM_nil noI fun xs r h=>?_
 unfold m169 at h
 split at h
 ·rename_i g0 a0 a1 a2 a3
  obtain ⟨hg,h⟩:=bif_pair h
  have q0:=hg
  obtain rfl:=cE q0
  obtain ⟨h1,rfl⟩:=pair_inj h
  exact (e169 a0 a1 a2 a3).trans ((br (fun b=>some (AV.tup [AV.fl [.int .i64,.int .i64] (bif b then ([]:List AV) else (bif decide (a2 > (a0.length:Int)) then ([]:List AV) else (ro (runW (R169_0 a0 a3) (((IntKind.i64.wrap (a2 - 1)) - a1+1:Int).toNat+1) (a1,IntKind.i64.wrap (a2 - 1),([]:List AV))) [] (fun p22=>p22.2)))),Ai (bif b then 0 else (bif decide (a2 > (a0.length:Int)) then 0 else (ro (runW (R169_0 a0 a3) (((IntKind.i64.wrap (a2 - 1)) - a1+1:Int).toNat+1) (a1,IntKind.i64.wrap (a2 - 1),([]:List AV))) 0 (fun p22=>p22.1))))])) (fun _=>rfl) (br (fun b=>some (AV.tup [AV.fl [.int .i64,.int .i64] (bif b then ([]:List AV) else (ro (runW (R169_0 a0 a3) (((IntKind.i64.wrap (a2 - 1)) - a1+1:Int).toNat+1) (a1,IntKind.i64.wrap (a2 - 1),([]:List AV))) [] (fun p22=>p22.2))),Ai (bif b then 0 else (ro (runW (R169_0 a0 a3) (((IntKind.i64.wrap (a2 - 1)) - a1+1:Int).toNat+1) (a1,IntKind.i64.wrap (a2 - 1),([]:List AV))) 0 (fun p22=>p22.1)))])) (fun _=>rfl) (brO (fun o:Option ((Int × (List AV)))=>some (AV.tup [AV.fl [.int .i64,.int .i64] (ro o [] (fun p22=>p22.2)),Ai (ro o 0 (fun p22=>p22.1))])) (fun p22=>(fun _=>rfl))))) h1)
 ·cases h
noncomputable def c149:Cfg:=cfg Tryz.prog [(149,999,[])] [] [] [] []
def q149 (a1 a2:Int) (b0:List AV):Bool:=((decide (0≤a1) && decide (a1<(b0.length:Int))) && ((decide (0≤a2) && decide (a2<(b0.length:Int))) && ((decide (0≤a1) && decide (a1<(b0.length:Int))) && (decide (0≤a2) && decide (a2<((b0.set a1.toNat (AV.agg [AV.int .i64 (fI (b0.getD a2.toNat .undef) 0)])).length:Int))))))
def v149_0 (a1 a2:Int) (b0:List AV):List AV:=(b0.set a1.toNat (AV.agg [AV.int .i64 (fI (b0.getD a2.toNat .undef) 0)])).set a2.toNat (AV.agg [AV.int .i64 (fI (b0.getD a1.toNat .undef) 0)])
theorem e149 (a1 a2:Int) (b0:List AV) (K:AV→List Blk→Option AV):inlA c149 1 149 [AV.own [1],Ai a1,Ai a2] [0] (canH 1 [⟨false,[.int .i64],b0⟩]) (keepB 1 K)=(bif (decide (0≤a1) && decide (a1<(b0.length:Int))) then (bif (decide (0≤a2) && decide (a2<(b0.length:Int))) then (bif (decide (0≤a1) && decide (a1<(b0.length:Int))) then (bif (decide (0≤a2) && decide (a2<((b0.set a1.toNat (AV.agg [Ai (fI (b0.getD a2.toNat .undef) 0)])).length:Int))) then K (AV.tup []) [⟨false,[.int .i64],(b0.set a1.toNat (AV.agg [Ai (fI (b0.getD a2.toNat .undef) 0)])).set a2.toNat (AV.agg [Ai (fI (b0.getD a1.toNat .undef) 0)])⟩]
 else none)
 else none)
 else none)
 else none):=by kernel_rfl
theorem r149 (a1 a2:Int) (b0:List AV) (K:AV→List Blk→Option AV) (h:q149 a1 a2 b0=true):inlA c149 1 149 [AV.own [1],AV.int .i64 a1,AV.int .i64 a2] [0] (canH 1 [⟨false,[.int .i64],b0⟩]) (keepB 1 K)=K (AV.tup []) [⟨false,[.int .i64],(v149_0 a1 a2 b0)⟩]:=(e149 a1 a2 b0 K).trans ((brL (brL (brL (brL1 (fun _=>rfl))))) h)
def m149:WModel
 | [.own g0,.int .i64 a1,.int .i64 a2],[⟨false,g1,b0⟩]=>bif nmEq g0 ([1]) && ctsEq g1 ([.int .i64]) then some (q149 a1 a2 b0,AV.tup [],[⟨false,[.int .i64],(v149_0 a1 a2 b0)⟩]) else none
 | _,_=>none
theorem k149:Known Tryz.prog 149:=⟨Tryz.f149,Tryz.func149,by kernel_rfl,by kernel_rfl⟩
theorem meets149:MeetsM Tryz.prog 149 m149:=by
 refine mw (lvl:=0) (cf:=c149) rfl mixed k149 Tryz.func149 (by kernel_rfl) noLoop allT_nil allM_nil noI fun xs bs r bs' h K=>?_
 unfold m149 at h
 split at h
 ·rename_i g0 a1 a2 g1 b0
  obtain ⟨hg,h⟩:=bif_pair h
  simp only [Bool.and_eq_true] at hg
  obtain ⟨q0,q1⟩:=hg
  obtain rfl:=nE q0
  obtain rfl:=cE q1
  obtain ⟨h1,rfl,rfl⟩:=trip_inj h
  exact r149 a1 a2 b0 K h1
 ·cases h
def G102_0 {β:Type} (t1:List AV) (h2_0:List AV) (h2_1:List AV) (h2_2:List AV) (h3:List AV) (t7:Int) (h0:List AV) (h1:List AV) (N:((Int × (List AV) × (List AV)))→β) (K:(((List AV) × (List AV)) ⊕ ((List AV) × (List AV) × (List AV) × (List AV) × (List AV)))→β) (d:β):β:=(bif decide (t7<(t1.length:Int)) then (bif (decide (0≤t7) && decide (t7<(t1.length:Int))) then (bif (decide (0≤t7) && decide (t7<(t1.length:Int))) then (bif !(v72_0 (fI (t1.getD t7.toNat .undef) 0) 0 (IntKind.i64.wrap ((h0.length:Int) - 1))) then (bif q138 h2_0 h2_1 h2_2 then K (.inr (h0,h1,(v138_0 h2_0 h2_1 h2_2),(v138_1 h2_0 h2_1 h2_2),(v138_2 h2_0 h2_1 h2_2)))
 else d)
 else (bif !(v72_0 (fI (t1.getD t7.toNat .undef) 1) 0 (IntKind.i64.wrap ((h0.length:Int) - 1))) then (bif q138 h2_0 h2_1 h2_2 then K (.inr (h0,h1,(v138_0 h2_0 h2_1 h2_2),(v138_1 h2_0 h2_1 h2_2),(v138_2 h2_0 h2_1 h2_2)))
 else d)
 else (bif q149 (fI (t1.getD t7.toNat .undef) 0) (fI (t1.getD t7.toNat .undef) 1) h0 then (bif q149 (fI (t1.getD t7.toNat .undef) 0) (fI (t1.getD t7.toNat .undef) 1) h1 then N (IntKind.i64.wrap (t7+1),(v149_0 (fI (t1.getD t7.toNat .undef) 0) (fI (t1.getD t7.toNat .undef) 1) h0),(v149_0 (fI (t1.getD t7.toNat .undef) 0) (fI (t1.getD t7.toNat .undef) 1) h1))
 else d)
 else d)))
 else d)
 else d)
 else K (.inl (h0,h1)))
def F102_0 (t1 h2_0 h2_1 h2_2 h3:List AV) (t7:Int) (h0 h1:List AV):Out ((Int × (List AV) × (List AV))) (((List AV) × (List AV)) ⊕ ((List AV) × (List AV) × (List AV) × (List AV) × (List AV))):=G102_0 t1 h2_0 h2_1 h2_2 h3 t7 h0 h1 .next .stop .fail
def R102_0 (t1 h2_0 h2_1 h2_2 h3:List AV):((Int × (List AV) × (List AV)))→Out ((Int × (List AV) × (List AV))) (((List AV) × (List AV)) ⊕ ((List AV) × (List AV) × (List AV) × (List AV) × (List AV))):=fun s:Int × (List AV) × (List AV)=>F102_0 t1 h2_0 h2_1 h2_2 h3 s.1 s.2.1 s.2.2
def E102_0 (t1 h2_0 h2_1 h2_2 h3:List AV):((Int × (List AV) × (List AV)))→St:=fun s:Int × (List AV) × (List AV)=>⟨[(1,AV.sl [.int .i64,.int .i64] t1),(2,AV.ptr [0,2] 0 0),(4,AV.ptr [0,4] 0 0),(6,AV.ptr [0,6] 0 0),(7,Ai s.1)],[([0,0,6],⟨false,[.int .i64],s.2.1⟩),([0,1,6],⟨false,[.int .i64],s.2.2⟩),([0,2],⟨true,[],[AV.agg [AV.sl [.int .i64] h2_0,AV.sl [.int .i64] h2_1,AV.sl [.int .i64,.int .i64] h2_2]]⟩),([0,2,6],⟨false,[.int .i64,.int .i64],h3⟩),([0,4],⟨true,[],[AV.agg [AV.snil,AV.snil,AV.snil]]⟩),([0,6],⟨true,[],[AV.agg [AV.own [0,0,6],AV.own [0,1,6],AV.own [0,2,6]]]⟩)]⟩
def K102_0 (t1 h2_0 h2_1 h2_2 h3:List AV) (k:Kont):(((List AV) × (List AV)) ⊕ ((List AV) × (List AV) × (List AV) × (List AV) × (List AV)))→Option AV:=sumE (fun p:(List AV) × (List AV)=>k (.exit 0) ⟨[(4,AV.ptr [0,4] 0 0),(6,AV.ptr [0,6] 0 0)],[([0,0,6],⟨false,[.int .i64],p.1⟩),([0,1,6],⟨false,[.int .i64],p.2⟩),([0,2],⟨true,[],[AV.agg [AV.sl [.int .i64] h2_0,AV.sl [.int .i64] h2_1,AV.sl [.int .i64,.int .i64] h2_2]]⟩),([0,2,6],⟨false,[.int .i64,.int .i64],h3⟩),([0,4],⟨true,[],[AV.agg [AV.snil,AV.snil,AV.snil]]⟩),([0,6],⟨true,[],[AV.agg [AV.own [0,0,6],AV.own [0,1,6],AV.own [0,2,6]]]⟩)]⟩) (fun p:(List AV) × (List AV) × (List AV) × (List AV) × (List AV)=>k .ret ⟨[(4,AV.ptr [0,4] 0 0),(5,AV.bool false)],[([0,0,6],⟨false,[.int .i64],p.1⟩),([0,1,6],⟨false,[.int .i64],p.2.1⟩),([0,1,53],⟨false,[.int .i64],p.2.2.1⟩),([0,2],⟨true,[],[AV.agg [AV.sl [.int .i64] h2_0,AV.sl [.int .i64] h2_1,AV.sl [.int .i64,.int .i64] h2_2]]⟩),([0,2,6],⟨false,[.int .i64,.int .i64],h3⟩),([0,4],⟨true,[],[AV.agg [AV.own [0,1,53],AV.own [1,1,53],AV.own [2,1,53]]]⟩),([0,6],⟨true,[],[AV.agg [AV.own [0,0,6],AV.own [0,1,6],AV.own [0,2,6]]]⟩),([1,1,53],⟨false,[.int .i64],p.2.2.2.1⟩),([2,1,53],⟨false,[.int .i64,.int .i64],p.2.2.2.2⟩)]⟩)
def l102_0:LModel:=fun _ _ st k=>match st with
 | ⟨[(1,.sl g0 t1),(2,.ptr g1 g2 g3),(4,.ptr g4 g5 g6),(6,.ptr g7 g8 g9),(7,.int .i64 t7)],[(g10,⟨false,g11,h0⟩),(g12,⟨false,g13,h1⟩),(g14,⟨true,[],[.agg [.sl g15 h2_0,.sl g16 h2_1,.sl g17 h2_2]]⟩),(g18,⟨false,g19,h3⟩),(g20,⟨true,[],[.agg [.snil,.snil,.snil]]⟩),(g21,⟨true,[],[.agg [.own g22,.own g23,.own g24]]⟩)]⟩=>bif ctsEq g0 ([.int .i64,.int .i64]) && nmEq g1 ([0,2]) && Nat.beq g2 0 && Nat.beq g3 0 && nmEq g4 ([0,4]) && Nat.beq g5 0 && Nat.beq g6 0 && nmEq g7 ([0,6]) && Nat.beq g8 0 && Nat.beq g9 0 && nmEq g10 ([0,0,6]) && ctsEq g11 ([.int .i64]) && nmEq g12 ([0,1,6]) && ctsEq g13 ([.int .i64]) && nmEq g14 ([0,2]) && ctsEq g15 ([.int .i64]) && ctsEq g16 ([.int .i64]) && ctsEq g17 ([.int .i64,.int .i64]) && nmEq g18 ([0,2,6]) && ctsEq g19 ([.int .i64,.int .i64]) && nmEq g20 ([0,4]) && nmEq g21 ([0,6]) && nmEq g22 ([0,0,6]) && nmEq g23 ([0,1,6]) && nmEq g24 ([0,2,6]) then ro (runW (R102_0 t1 h2_0 h2_1 h2_2 h3) (((t1.length:Int) - t7:Int).toNat+1) (t7,h0,h1)) none (K102_0 t1 h2_0 h2_1 h2_2 h3 k) else none
 | _=>none
noncomputable def c102:Cfg:=cfg Tryz.prog [(102,0,[1,2,4,6,7]),(102,999,[4,5]),(102,1000,[4,6]),(102,1001,[1,2,4,6,7])] [(72,m72),(138,m138)] [(149,.w m149)] [] [(102,0,l102_0)]
theorem s102_0 (t1 h2_0 h2_1 h2_2 h3:List AV) (ce:CallE) (k:Kont) (s:Int × (List AV) × (List AV)) (next:St→Option AV):stepA (codeA c102 ce [] 102 0 (sub [1,1,1,0,1,0,0] (body Tryz.f102))) (normA [] [1,2,4,6,7]) next ((E102_0 t1 h2_0 h2_1 h2_2 h3) s) k=G102_0 t1 h2_0 h2_1 h2_2 h3 s.1 s.2.1 s.2.2 (fun s=>next ((E102_0 t1 h2_0 h2_1 h2_2 h3) s)) (K102_0 t1 h2_0 h2_1 h2_2 h3 k) none:=by kernel_rfl
theorem st102_0 (t1 h2_0 h2_1 h2_2 h3:List AV) (ce:CallE) (k:Kont) (s:(Int × (List AV) × (List AV))) (next:St→Option AV):stepA (codeA c102 ce [] 102 0 (sub [1,1,1,0,1,0,0] (body Tryz.f102))) (normA [] [1,2,4,6,7]) next ((E102_0 t1 h2_0 h2_1 h2_2 h3) s) k=(R102_0 t1 h2_0 h2_1 h2_2 h3 s).el none (fun s=>next ((E102_0 t1 h2_0 h2_1 h2_2 h3) s)) (K102_0 t1 h2_0 h2_1 h2_2 h3 k):=(s102_0 t1 h2_0 h2_1 h2_2 h3 ce k s next).trans (by unfold R102_0;unfold F102_0 G102_0;simp only [el_cond,el_ro,el_sum,el_fail,el_next,el_stop] <;> rfl)
theorem ok102_0 {ce:CallE}:LoopOK c102 ce [] 102 0 (sub [1,1,1,0,1,0,0] (body Tryz.f102)):=by
 intro m hm st k r h
 obtain rfl:l102_0=m:=Option.some.inj hm
 unfold l102_0 at h
 split at h
 ·rename_i g0 t1 g1 g2 g3 g4 g5 g6 g7 g8 g9 t7 g10 g11 h0 g12 g13 h1 g14 g15 h2_0 g16 h2_1 g17 h2_2 g18 g19 h3 g20 g21 g22 g23 g24
  obtain ⟨hg,h⟩:=bif_some h
  simp only [Bool.and_eq_true] at hg
  obtain ⟨⟨⟨⟨⟨⟨⟨⟨⟨⟨⟨⟨⟨⟨⟨⟨⟨⟨⟨⟨⟨⟨⟨⟨q0,q1⟩,q2⟩,q3⟩,q4⟩,q5⟩,q6⟩,q7⟩,q8⟩,q9⟩,q10⟩,q11⟩,q12⟩,q13⟩,q14⟩,q15⟩,q16⟩,q17⟩,q18⟩,q19⟩,q20⟩,q21⟩,q22⟩,q23⟩,q24⟩:=hg
  obtain rfl:=cE q0
  obtain rfl:=nE q1
  obtain rfl:=bE q2
  obtain rfl:=bE q3
  obtain rfl:=nE q4
  obtain rfl:=bE q5
  obtain rfl:=bE q6
  obtain rfl:=nE q7
  obtain rfl:=bE q8
  obtain rfl:=bE q9
  obtain rfl:=nE q10
  obtain rfl:=cE q11
  obtain rfl:=nE q12
  obtain rfl:=cE q13
  obtain rfl:=nE q14
  obtain rfl:=cE q15
  obtain rfl:=cE q16
  obtain rfl:=cE q17
  obtain rfl:=nE q18
  obtain rfl:=cE q19
  obtain rfl:=nE q20
  obtain rfl:=nE q21
  obtain rfl:=nE q22
  obtain rfl:=nE q23
  obtain rfl:=nE q24
  refine ⟨(((t1.length:Int) - t7:Int).toNat+1),?_⟩
  rw [← h]
  exact loop_run (E102_0 t1 h2_0 h2_1 h2_2 h3) (K102_0 t1 h2_0 h2_1 h2_2 h3 k) (st102_0 t1 h2_0 h2_1 h2_2 h3 ce k) _ (t7,h0,h1)
 ·cases h
def q102 (xa xb xc a1:List AV):Bool:=(q138 xa xb xc && (bif !decide (((v138_1 xa xb xc).length:Int)=((v138_0 xa xb xc).length:Int)) then true else (ro (runW (R102_0 a1 xa xb xc (v138_2 xa xb xc)) (((a1.length:Int) - 0:Int).toNat+1) (0,(v138_0 xa xb xc),(v138_1 xa xb xc))) false (sumE (fun p23=>true) (fun p24=>true)))))
def v102_0 (xa xb xc a1:List AV):List AV:=(bif !decide (((v138_1 xa xb xc).length:Int)=((v138_0 xa xb xc).length:Int)) then (v138_0 xa xb xc) else (ro (runW (R102_0 a1 xa xb xc (v138_2 xa xb xc)) (((a1.length:Int) - 0:Int).toNat+1) (0,(v138_0 xa xb xc),(v138_1 xa xb xc))) [] (sumE (fun p23=>p23.1) (fun p24=>p24.2.2.1))))
def v102_1 (xa xb xc a1:List AV):List AV:=(bif !decide (((v138_1 xa xb xc).length:Int)=((v138_0 xa xb xc).length:Int)) then (v138_1 xa xb xc) else (ro (runW (R102_0 a1 xa xb xc (v138_2 xa xb xc)) (((a1.length:Int) - 0:Int).toNat+1) (0,(v138_0 xa xb xc),(v138_1 xa xb xc))) [] (sumE (fun p23=>p23.2) (fun p24=>p24.2.2.2.1))))
def v102_2 (xa xb xc a1:List AV):List AV:=(bif !decide (((v138_1 xa xb xc).length:Int)=((v138_0 xa xb xc).length:Int)) then (v138_2 xa xb xc) else (ro (runW (R102_0 a1 xa xb xc (v138_2 xa xb xc)) (((a1.length:Int) - 0:Int).toNat+1) (0,(v138_0 xa xb xc),(v138_1 xa xb xc))) [] (sumE (fun p23=>(v138_2 xa xb xc)) (fun p24=>p24.2.2.2.2))))
def v102_3 (xa xb xc a1:List AV):Bool:=(bif !decide (((v138_1 xa xb xc).length:Int)=((v138_0 xa xb xc).length:Int)) then false else (ro (runW (R102_0 a1 xa xb xc (v138_2 xa xb xc)) (((a1.length:Int) - 0:Int).toNat+1) (0,(v138_0 xa xb xc),(v138_1 xa xb xc))) false (sumE (fun p23=>true) (fun p24=>false))))
theorem e102 (xa xb xc a1:List AV):funA c102 0 102 [AV.agg [AV.sl [.int .i64] xa,AV.sl [.int .i64] xb,AV.sl [.int .i64,.int .i64] xc],AV.sl [.int .i64,.int .i64] a1]=(bif q138 xa xb xc then (bif !decide (((v138_1 xa xb xc).length:Int)=((v138_0 xa xb xc).length:Int)) then some (AV.tup [AV.agg [AV.fl [.int .i64] (v138_0 xa xb xc),AV.fl [.int .i64] (v138_1 xa xb xc),AV.fl [.int .i64,.int .i64] (v138_2 xa xb xc)],AV.bool false])
 else (ro (runW (R102_0 a1 xa xb xc (v138_2 xa xb xc)) (((a1.length:Int) - 0:Int).toNat+1) (0,(v138_0 xa xb xc),(v138_1 xa xb xc))) none (sumE (fun p23=>some (AV.tup [AV.agg [AV.fl [.int .i64] p23.1,AV.fl [.int .i64] p23.2,AV.fl [.int .i64,.int .i64] (v138_2 xa xb xc)],AV.bool true])) (fun p24=>some (AV.tup [AV.agg [AV.fl [.int .i64] p24.2.2.1,AV.fl [.int .i64] p24.2.2.2.1,AV.fl [.int .i64,.int .i64] p24.2.2.2.2],AV.bool false])))))
 else none):=by kernel_rfl
theorem r102 (xa xb xc a1:List AV) (h:q102 xa xb xc a1=true):funA c102 0 102 [AV.agg [AV.sl [.int .i64] xa,AV.sl [.int .i64] xb,AV.sl [.int .i64,.int .i64] xc],AV.sl [.int .i64,.int .i64] a1]=some (AV.tup [AV.agg [AV.fl [.int .i64] (v102_0 xa xb xc a1),AV.fl [.int .i64] (v102_1 xa xb xc a1),AV.fl [.int .i64,.int .i64] (v102_2 xa xb xc a1)],AV.bool (v102_3 xa xb xc a1)]):=by
 refine (e102 xa xb xc a1).trans ?_
 unfold q102 at h
 unfold v102_0 v102_1 v102_2 v102_3
 refine ifG (fun hc=>?_) (fun hc=>?_) <;> first|rw [hc] at h ⊢|rw [hc] at h|rw [hc]|skip
 ·refine ifG (fun hc=>?_) (fun hc=>?_) <;> first|rw [hc] at h ⊢|rw [hc] at h|rw [hc]|skip
  ·rfl
  ·refine roG (fun hc=>?_) (fun r hc=>?_) <;> first|rw [hc] at h ⊢|rw [hc] at h|rw [hc]|skip
   ·exact Bool.noConfusion h
   ·try simp only [ro] at h ⊢
    cases r with
    | inl p23 =>
     try simp only [sumE] at h ⊢
     rfl
    | inr p24 =>
     try simp only [sumE] at h ⊢
     rfl
 ·first|exact Bool.noConfusion h|exact Bool.noConfusion hc
def m102:TModel
 | [.agg [.sl g0 xa,.sl g1 xb,.sl g2 xc],.sl g3 a1]=>bif ctsEq g0 ([.int .i64]) && ctsEq g1 ([.int .i64]) && ctsEq g2 ([.int .i64,.int .i64]) && ctsEq g3 ([.int .i64,.int .i64]) then some (q102 xa xb xc a1,AV.tup [AV.agg [AV.fl [.int .i64] (v102_0 xa xb xc a1),AV.fl [.int .i64] (v102_1 xa xb xc a1),AV.fl [.int .i64,.int .i64] (v102_2 xa xb xc a1)],AV.bool (v102_3 xa xb xc a1)]) else none
 | _=>none
theorem k102:Known Tryz.prog 102:=⟨Tryz.f102,Tryz.func102,by kernel_rfl,by kernel_rfl⟩
theorem meets102:Meets Tryz.prog 102 m102:=by
 refine mt (lvl:=0) (cf:=c102) rfl mixed k102 Tryz.func102 (by kernel_rfl) (loops_cons ok102_0 noLoop) (allT_cons meets72 (allT_cons meets138 allT_nil)) (allM_cons meets149 allM_nil) noI fun xs r h=>?_
 unfold m102 at h
 split at h
 ·rename_i g0 xa g1 xb g2 xc g3 a1
  obtain ⟨hg,h⟩:=bif_pair h
  simp only [Bool.and_eq_true] at hg
  obtain ⟨⟨⟨q0,q1⟩,q2⟩,q3⟩:=hg
  obtain rfl:=cE q0
  obtain rfl:=cE q1
  obtain rfl:=cE q2
  obtain rfl:=cE q3
  obtain ⟨h1,rfl⟩:=pair_inj h
  exact r102 xa xb xc a1 h1
 ·cases h
def G103_0 {β:Type} (h0:List AV) (h1:List AV) (h2_0:List AV) (h2_1:List AV) (h2_2:List AV) (h4_0:Int) (h4_1:Int) (t7:Bool) (t8:Int) (h3:List AV) (N:((Bool × Int × (List AV)))→β) (K:((Bool × (List AV)))→β) (d:β):β:=(bif decide (t8<(h2_2.length:Int)) then (bif !t7 then (bif (decide (0≤t8) && decide (t8<(h2_2.length:Int))) then (bif decide (fI (h2_2.getD t8.toNat .undef) 0 > h4_0) then (bif (decide ((h3.length+([AV.agg [AV.int .i64 h4_0,AV.int .i64 h4_1]]).length)*16≤140737488355328) && decide ((h3.length+([AV.agg [AV.int .i64 h4_0,AV.int .i64 h4_1]]).length)≤140737488355328)) then (bif (decide (0≤t8) && decide (t8<(h2_2.length:Int))) then (bif (decide (((h3++([AV.agg [AV.int .i64 h4_0,AV.int .i64 h4_1]])).length+([AV.agg [AV.int .i64 (fI (h2_2.getD t8.toNat .undef) 0),AV.int .i64 (fI (h2_2.getD t8.toNat .undef) 1)]]).length)*16≤140737488355328) && decide (((h3++([AV.agg [AV.int .i64 h4_0,AV.int .i64 h4_1]])).length+([AV.agg [AV.int .i64 (fI (h2_2.getD t8.toNat .undef) 0),AV.int .i64 (fI (h2_2.getD t8.toNat .undef) 1)]]).length)≤140737488355328)) then N (true,IntKind.i64.wrap (t8+1),(h3++([AV.agg [AV.int .i64 h4_0,AV.int .i64 h4_1]]))++([AV.agg [AV.int .i64 (fI (h2_2.getD t8.toNat .undef) 0),AV.int .i64 (fI (h2_2.getD t8.toNat .undef) 1)]]))
 else d)
 else d)
 else d)
 else (bif (decide (0≤t8) && decide (t8<(h2_2.length:Int))) then (bif (decide ((h3.length+([AV.agg [AV.int .i64 (fI (h2_2.getD t8.toNat .undef) 0),AV.int .i64 (fI (h2_2.getD t8.toNat .undef) 1)]]).length)*16≤140737488355328) && decide ((h3.length+([AV.agg [AV.int .i64 (fI (h2_2.getD t8.toNat .undef) 0),AV.int .i64 (fI (h2_2.getD t8.toNat .undef) 1)]]).length)≤140737488355328)) then N (t7,IntKind.i64.wrap (t8+1),h3++([AV.agg [AV.int .i64 (fI (h2_2.getD t8.toNat .undef) 0),AV.int .i64 (fI (h2_2.getD t8.toNat .undef) 1)]]))
 else d)
 else d))
 else d)
 else (bif (decide (0≤t8) && decide (t8<(h2_2.length:Int))) then (bif (decide ((h3.length+([AV.agg [AV.int .i64 (fI (h2_2.getD t8.toNat .undef) 0),AV.int .i64 (fI (h2_2.getD t8.toNat .undef) 1)]]).length)*16≤140737488355328) && decide ((h3.length+([AV.agg [AV.int .i64 (fI (h2_2.getD t8.toNat .undef) 0),AV.int .i64 (fI (h2_2.getD t8.toNat .undef) 1)]]).length)≤140737488355328)) then N (t7,IntKind.i64.wrap (t8+1),h3++([AV.agg [AV.int .i64 (fI (h2_2.getD t8.toNat .undef) 0),AV.int .i64 (fI (h2_2.getD t8.toNat .undef) 1)]]))
 else d)
 else d))
 else K (t7,h3))
def F103_0 (h0 h1 h2_0 h2_1 h2_2:List AV) (h4_0 h4_1:Int) (t7:Bool) (t8:Int) (h3:List AV):Out ((Bool × Int × (List AV))) ((Bool × (List AV))):=G103_0 h0 h1 h2_0 h2_1 h2_2 h4_0 h4_1 t7 t8 h3 .next .stop .fail
def R103_0 (h0 h1 h2_0 h2_1 h2_2:List AV) (h4_0 h4_1:Int):((Bool × Int × (List AV)))→Out ((Bool × Int × (List AV))) ((Bool × (List AV))):=fun s:Bool × Int × (List AV)=>F103_0 h0 h1 h2_0 h2_1 h2_2 h4_0 h4_1 s.1 s.2.1 s.2.2
def E103_0 (h0 h1 h2_0 h2_1 h2_2:List AV) (h4_0 h4_1:Int):((Bool × Int × (List AV)))→St:=fun s:Bool × Int × (List AV)=>⟨[(2,AV.ptr [0,2] 0 0),(3,AV.ptr [0,3] 0 0),(4,AV.ptr [0,4] 0 0),(6,AV.ptr [0,6] 0 0),(7,AV.bool s.1),(8,Ai s.2.1)],[([0,0,6],⟨false,[.int .i64],h0⟩),([0,1,6],⟨false,[.int .i64],h1⟩),([0,2],⟨true,[],[AV.agg [AV.sl [.int .i64] h2_0,AV.sl [.int .i64] h2_1,AV.sl [.int .i64,.int .i64] h2_2]]⟩),([0,2,6],⟨false,[.int .i64,.int .i64],s.2.2⟩),([0,3],⟨true,[],[AV.agg [Ai h4_0,Ai h4_1]]⟩),([0,4],⟨true,[],[AV.agg [AV.snil,AV.snil,AV.snil]]⟩),([0,6],⟨true,[],[AV.agg [AV.own [0,0,6],AV.own [0,1,6],AV.own [0,2,6]]]⟩)]⟩
def K103_0 (h0 h1 h2_0 h2_1 h2_2:List AV) (h4_0 h4_1:Int) (k:Kont):((Bool × (List AV)))→Option AV:=fun p:Bool × (List AV)=>k (.exit 0) ⟨[(2,AV.ptr [0,2] 0 0),(3,AV.ptr [0,3] 0 0),(4,AV.ptr [0,4] 0 0),(6,AV.ptr [0,6] 0 0),(7,AV.bool p.1)],[([0,0,6],⟨false,[.int .i64],h0⟩),([0,1,6],⟨false,[.int .i64],h1⟩),([0,2],⟨true,[],[AV.agg [AV.sl [.int .i64] h2_0,AV.sl [.int .i64] h2_1,AV.sl [.int .i64,.int .i64] h2_2]]⟩),([0,2,6],⟨false,[.int .i64,.int .i64],p.2⟩),([0,3],⟨true,[],[AV.agg [Ai h4_0,Ai h4_1]]⟩),([0,4],⟨true,[],[AV.agg [AV.snil,AV.snil,AV.snil]]⟩),([0,6],⟨true,[],[AV.agg [AV.own [0,0,6],AV.own [0,1,6],AV.own [0,2,6]]]⟩)]⟩
def l103_0:LModel:=fun _ _ st k=>match st with
 | ⟨[(2,.ptr g0 g1 g2),(3,.ptr g3 g4 g5),(4,.ptr g6 g7 g8),(6,.ptr g9 g10 g11),(7,.bool t7),(8,.int .i64 t8)],[(g12,⟨false,g13,h0⟩),(g14,⟨false,g15,h1⟩),(g16,⟨true,[],[.agg [.sl g17 h2_0,.sl g18 h2_1,.sl g19 h2_2]]⟩),(g20,⟨false,g21,h3⟩),(g22,⟨true,[],[.agg [.int .i64 h4_0,.int .i64 h4_1]]⟩),(g23,⟨true,[],[.agg [.snil,.snil,.snil]]⟩),(g24,⟨true,[],[.agg [.own g25,.own g26,.own g27]]⟩)]⟩=>bif nmEq g0 ([0,2]) && Nat.beq g1 0 && Nat.beq g2 0 && nmEq g3 ([0,3]) && Nat.beq g4 0 && Nat.beq g5 0 && nmEq g6 ([0,4]) && Nat.beq g7 0 && Nat.beq g8 0 && nmEq g9 ([0,6]) && Nat.beq g10 0 && Nat.beq g11 0 && nmEq g12 ([0,0,6]) && ctsEq g13 ([.int .i64]) && nmEq g14 ([0,1,6]) && ctsEq g15 ([.int .i64]) && nmEq g16 ([0,2]) && ctsEq g17 ([.int .i64]) && ctsEq g18 ([.int .i64]) && ctsEq g19 ([.int .i64,.int .i64]) && nmEq g20 ([0,2,6]) && ctsEq g21 ([.int .i64,.int .i64]) && nmEq g22 ([0,3]) && nmEq g23 ([0,4]) && nmEq g24 ([0,6]) && nmEq g25 ([0,0,6]) && nmEq g26 ([0,1,6]) && nmEq g27 ([0,2,6]) then ro (runW (R103_0 h0 h1 h2_0 h2_1 h2_2 h4_0 h4_1) (((h2_2.length:Int) - t8:Int).toNat+1) (t7,t8,h3)) none (K103_0 h0 h1 h2_0 h2_1 h2_2 h4_0 h4_1 k) else none
 | _=>none
noncomputable def c103:Cfg:=cfg Tryz.prog [(103,0,[2,3,4,6,7,8]),(103,999,[4,5]),(103,1000,[2,3,4,6,7]),(103,1001,[2,3,4,6,7,8])] [(71,m71),(138,m138)] [] [] [(103,0,l103_0)]
theorem s103_0 (h0 h1 h2_0 h2_1 h2_2:List AV) (h4_0 h4_1:Int) (ce:CallE) (k:Kont) (s:Bool × Int × (List AV)) (next:St→Option AV):stepA (codeA c103 ce [] 103 0 (sub [1,1,1,1,0,1,0,0] (body Tryz.f103))) (normA [] [2,3,4,6,7,8]) next ((E103_0 h0 h1 h2_0 h2_1 h2_2 h4_0 h4_1) s) k=G103_0 h0 h1 h2_0 h2_1 h2_2 h4_0 h4_1 s.1 s.2.1 s.2.2 (fun s=>next ((E103_0 h0 h1 h2_0 h2_1 h2_2 h4_0 h4_1) s)) (K103_0 h0 h1 h2_0 h2_1 h2_2 h4_0 h4_1 k) none:=by kernel_rfl
theorem st103_0 (h0 h1 h2_0 h2_1 h2_2:List AV) (h4_0 h4_1:Int) (ce:CallE) (k:Kont) (s:(Bool × Int × (List AV))) (next:St→Option AV):stepA (codeA c103 ce [] 103 0 (sub [1,1,1,1,0,1,0,0] (body Tryz.f103))) (normA [] [2,3,4,6,7,8]) next ((E103_0 h0 h1 h2_0 h2_1 h2_2 h4_0 h4_1) s) k=(R103_0 h0 h1 h2_0 h2_1 h2_2 h4_0 h4_1 s).el none (fun s=>next ((E103_0 h0 h1 h2_0 h2_1 h2_2 h4_0 h4_1) s)) (K103_0 h0 h1 h2_0 h2_1 h2_2 h4_0 h4_1 k):=(s103_0 h0 h1 h2_0 h2_1 h2_2 h4_0 h4_1 ce k s next).trans (by unfold R103_0;unfold F103_0 G103_0;simp only [el_cond,el_ro,el_sum,el_fail,el_next,el_stop] <;> rfl)
theorem ok103_0 {ce:CallE}:LoopOK c103 ce [] 103 0 (sub [1,1,1,1,0,1,0,0] (body Tryz.f103)):=by
 intro m hm st k r h
 obtain rfl:l103_0=m:=Option.some.inj hm
 unfold l103_0 at h
 split at h
 ·rename_i g0 g1 g2 g3 g4 g5 g6 g7 g8 g9 g10 g11 t7 t8 g12 g13 h0 g14 g15 h1 g16 g17 h2_0 g18 h2_1 g19 h2_2 g20 g21 h3 g22 h4_0 h4_1 g23 g24 g25 g26 g27
  obtain ⟨hg,h⟩:=bif_some h
  simp only [Bool.and_eq_true] at hg
  obtain ⟨⟨⟨⟨⟨⟨⟨⟨⟨⟨⟨⟨⟨⟨⟨⟨⟨⟨⟨⟨⟨⟨⟨⟨⟨⟨⟨q0,q1⟩,q2⟩,q3⟩,q4⟩,q5⟩,q6⟩,q7⟩,q8⟩,q9⟩,q10⟩,q11⟩,q12⟩,q13⟩,q14⟩,q15⟩,q16⟩,q17⟩,q18⟩,q19⟩,q20⟩,q21⟩,q22⟩,q23⟩,q24⟩,q25⟩,q26⟩,q27⟩:=hg
  obtain rfl:=nE q0
  obtain rfl:=bE q1
  obtain rfl:=bE q2
  obtain rfl:=nE q3
  obtain rfl:=bE q4
  obtain rfl:=bE q5
  obtain rfl:=nE q6
  obtain rfl:=bE q7
  obtain rfl:=bE q8
  obtain rfl:=nE q9
  obtain rfl:=bE q10
  obtain rfl:=bE q11
  obtain rfl:=nE q12
  obtain rfl:=cE q13
  obtain rfl:=nE q14
  obtain rfl:=cE q15
  obtain rfl:=nE q16
  obtain rfl:=cE q17
  obtain rfl:=cE q18
  obtain rfl:=cE q19
  obtain rfl:=nE q20
  obtain rfl:=cE q21
  obtain rfl:=nE q22
  obtain rfl:=nE q23
  obtain rfl:=nE q24
  obtain rfl:=nE q25
  obtain rfl:=nE q26
  obtain rfl:=nE q27
  refine ⟨(((h2_2.length:Int) - t8:Int).toNat+1),?_⟩
  rw [← h]
  exact loop_run (E103_0 h0 h1 h2_0 h2_1 h2_2 h4_0 h4_1) (K103_0 h0 h1 h2_0 h2_1 h2_2 h4_0 h4_1 k) (st103_0 h0 h1 h2_0 h2_1 h2_2 h4_0 h4_1 ce k) _ (t7,t8,h3)
 ·cases h
def q103 (xa xb xc:List AV) (ya yb:Int):Bool:=(q138 xa xb xc && (ro (runW (R103_0 (v138_0 xa xb xc) (v138_1 xa xb xc) xa xb xc ya yb) (((xc.length:Int) - 0:Int).toNat+1) (false,0,([]:List AV))) false (fun p25=>(bif !p25.1 then ((decide ((p25.2.length+([AV.agg [AV.int .i64 ya,AV.int .i64 yb]]).length)*16≤140737488355328) && decide ((p25.2.length+([AV.agg [AV.int .i64 ya,AV.int .i64 yb]]).length)≤140737488355328)) && (q71 xa xb xc && (bif !(v71_0 xa xb xc) then q138 xa xb xc else (q71 (v138_0 xa xb xc) (v138_1 xa xb xc) (p25.2++([AV.agg [AV.int .i64 ya,AV.int .i64 yb]])) && (bif !(v71_0 (v138_0 xa xb xc) (v138_1 xa xb xc) (p25.2++([AV.agg [AV.int .i64 ya,AV.int .i64 yb]]))) then q138 xa xb xc else true))))) else (q71 xa xb xc && (bif !(v71_0 xa xb xc) then q138 xa xb xc else (q71 (v138_0 xa xb xc) (v138_1 xa xb xc) p25.2 && (bif !(v71_0 (v138_0 xa xb xc) (v138_1 xa xb xc) p25.2) then q138 xa xb xc else true))))))))
def v103_0 (xa xb xc:List AV) (ya yb:Int):List AV:=(v138_0 xa xb xc)
def v103_1 (xa xb xc:List AV) (ya yb:Int):List AV:=(v138_1 xa xb xc)
def v103_2 (xa xb xc:List AV) (ya yb:Int):List AV:=(ro (runW (R103_0 (v138_0 xa xb xc) (v138_1 xa xb xc) xa xb xc ya yb) (((xc.length:Int) - 0:Int).toNat+1) (false,0,([]:List AV))) [] (fun p25=>(bif !p25.1 then (bif !(v71_0 xa xb xc) then (v138_2 xa xb xc) else (bif !(v71_0 (v138_0 xa xb xc) (v138_1 xa xb xc) (p25.2++([AV.agg [AV.int .i64 ya,AV.int .i64 yb]]))) then (v138_2 xa xb xc) else p25.2++([AV.agg [AV.int .i64 ya,AV.int .i64 yb]]))) else (bif !(v71_0 xa xb xc) then (v138_2 xa xb xc) else (bif !(v71_0 (v138_0 xa xb xc) (v138_1 xa xb xc) p25.2) then (v138_2 xa xb xc) else p25.2)))))
def v103_3 (xa xb xc:List AV) (ya yb:Int):Bool:=(ro (runW (R103_0 (v138_0 xa xb xc) (v138_1 xa xb xc) xa xb xc ya yb) (((xc.length:Int) - 0:Int).toNat+1) (false,0,([]:List AV))) false (fun p25=>(bif !p25.1 then (bif !(v71_0 xa xb xc) then false else (bif !(v71_0 (v138_0 xa xb xc) (v138_1 xa xb xc) (p25.2++([AV.agg [AV.int .i64 ya,AV.int .i64 yb]]))) then false else true)) else (bif !(v71_0 xa xb xc) then false else (bif !(v71_0 (v138_0 xa xb xc) (v138_1 xa xb xc) p25.2) then false else true)))))
theorem e103 (xa xb xc:List AV) (ya yb:Int):funA c103 0 103 [AV.agg [AV.sl [.int .i64] xa,AV.sl [.int .i64] xb,AV.sl [.int .i64,.int .i64] xc],AV.agg [Ai ya,Ai yb]]=((fun (x1:List AV) (x2:List AV) (x3:List AV)=>(bif q138 xa xb xc then (ro (runW (R103_0 x1 x2 xa xb xc ya yb) (((xc.length:Int) - 0:Int).toNat+1) (false,0,([]:List AV))) none (fun p25=>(bif !p25.1 then (bif (decide ((p25.2.length+([AV.agg [Ai ya,Ai yb]]).length)*16≤140737488355328) && decide ((p25.2.length+([AV.agg [Ai ya,Ai yb]]).length)≤140737488355328)) then (bif q71 xa xb xc then (bif !(v71_0 xa xb xc) then (bif q138 xa xb xc then some (AV.tup [AV.agg [AV.fl [.int .i64] x1,AV.fl [.int .i64] x2,AV.fl [.int .i64,.int .i64] x3],AV.bool false])
 else none)
 else (bif q71 x1 x2 (p25.2++([AV.agg [Ai ya,Ai yb]])) then (bif !(v71_0 x1 x2 (p25.2++([AV.agg [Ai ya,Ai yb]]))) then (bif q138 xa xb xc then some (AV.tup [AV.agg [AV.fl [.int .i64] x1,AV.fl [.int .i64] x2,AV.fl [.int .i64,.int .i64] x3],AV.bool false])
 else none)
 else some (AV.tup [AV.agg [AV.fl [.int .i64] x1,AV.fl [.int .i64] x2,AV.fl [.int .i64,.int .i64] (p25.2++([AV.agg [Ai ya,Ai yb]]))],AV.bool true]))
 else none))
 else none)
 else none)
 else (bif q71 xa xb xc then (bif !(v71_0 xa xb xc) then (bif q138 xa xb xc then some (AV.tup [AV.agg [AV.fl [.int .i64] x1,AV.fl [.int .i64] x2,AV.fl [.int .i64,.int .i64] x3],AV.bool false])
 else none)
 else (bif q71 x1 x2 p25.2 then (bif !(v71_0 x1 x2 p25.2) then (bif q138 xa xb xc then some (AV.tup [AV.agg [AV.fl [.int .i64] x1,AV.fl [.int .i64] x2,AV.fl [.int .i64,.int .i64] x3],AV.bool false])
 else none)
 else some (AV.tup [AV.agg [AV.fl [.int .i64] x1,AV.fl [.int .i64] x2,AV.fl [.int .i64,.int .i64] p25.2],AV.bool true]))
 else none))
 else none))))
 else none)) (v138_0 xa xb xc) (v138_1 xa xb xc) (v138_2 xa xb xc)):=by kernel_rfl
theorem r103 (xa xb xc:List AV) (ya yb:Int) (h:q103 xa xb xc ya yb=true):funA c103 0 103 [AV.agg [AV.sl [.int .i64] xa,AV.sl [.int .i64] xb,AV.sl [.int .i64,.int .i64] xc],AV.agg [AV.int .i64 ya,AV.int .i64 yb]]=some (AV.tup [AV.agg [AV.fl [.int .i64] (v103_0 xa xb xc ya yb),AV.fl [.int .i64] (v103_1 xa xb xc ya yb),AV.fl [.int .i64,.int .i64] (v103_2 xa xb xc ya yb)],AV.bool (v103_3 xa xb xc ya yb)]):=by
 refine (e103 xa xb xc ya yb).trans ?_
 unfold q103 at h
 unfold v103_0 v103_1 v103_2 v103_3
 refine ifG (fun hc=>?_) (fun hc=>?_) <;> first|rw [hc] at h ⊢|rw [hc] at h|rw [hc]|skip
 ·refine roG (fun hc=>?_) (fun r hc=>?_) <;> first|rw [hc] at h ⊢|rw [hc] at h|rw [hc]|skip
  ·exact Bool.noConfusion h
  ·try simp only [ro] at h ⊢
   refine ifG (fun hc=>?_) (fun hc=>?_) <;> first|rw [hc] at h ⊢|rw [hc] at h|rw [hc]|skip
   ·refine ifG (fun hc=>?_) (fun hc=>?_) <;> first|rw [hc] at h ⊢|rw [hc] at h|rw [hc]|skip
    ·refine ifG (fun hc=>?_) (fun hc=>?_) <;> first|rw [hc] at h ⊢|rw [hc] at h|rw [hc]|skip
     ·refine ifG (fun hc=>?_) (fun hc=>?_) <;> first|rw [hc] at h ⊢|rw [hc] at h|rw [hc]|skip
      ·refine ifT ?_
       rfl
      ·refine ifG (fun hc=>?_) (fun hc=>?_) <;> first|rw [hc] at h ⊢|rw [hc] at h|rw [hc]|skip
       ·refine ifG (fun hc=>?_) (fun hc=>?_) <;> first|rw [hc] at h ⊢|rw [hc] at h|rw [hc]|skip
        ·refine ifT ?_
         rfl
        ·rfl
       ·first|exact Bool.noConfusion h|exact Bool.noConfusion hc
     ·first|exact Bool.noConfusion h|exact Bool.noConfusion hc
    ·first|exact Bool.noConfusion h|exact Bool.noConfusion hc
   ·refine ifG (fun hc=>?_) (fun hc=>?_) <;> first|rw [hc] at h ⊢|rw [hc] at h|rw [hc]|skip
    ·refine ifG (fun hc=>?_) (fun hc=>?_) <;> first|rw [hc] at h ⊢|rw [hc] at h|rw [hc]|skip
     ·refine ifT ?_
      rfl
     ·refine ifG (fun hc=>?_) (fun hc=>?_) <;> first|rw [hc] at h ⊢|rw [hc] at h|rw [hc]|skip
      ·refine ifG (fun hc=>?_) (fun hc=>?_) <;> first|rw [hc] at h ⊢|rw [hc] at h|rw [hc]|skip
       ·refine ifT ?_
        rfl
       ·rfl
      ·first|exact Bool.noConfusion h|exact Bool.noConfusion hc
    ·first|exact Bool.noConfusion h|exact Bool.noConfusion hc
 ·first|exact Bool.noConfusion h|exact Bool.noConfusion hc
def m103:TModel
 | [.agg [.sl g0 xa,.sl g1 xb,.sl g2 xc],.agg [.int .i64 ya,.int .i64 yb]]=>bif ctsEq g0 ([.int .i64]) && ctsEq g1 ([.int .i64]) && ctsEq g2 ([.int .i64,.int .i64]) then some (q103 xa xb xc ya yb,AV.tup [AV.agg [AV.fl [.int .i64] (v103_0 xa xb xc ya yb),AV.fl [.int .i64] (v103_1 xa xb xc ya yb),AV.fl [.int .i64,.int .i64] (v103_2 xa xb xc ya yb)],AV.bool (v103_3 xa xb xc ya yb)]) else none
 | _=>none
theorem k103:Known Tryz.prog 103:=⟨Tryz.f103,Tryz.func103,by kernel_rfl,by kernel_rfl⟩
theorem meets103:Meets Tryz.prog 103 m103:=by
 refine mt (lvl:=0) (cf:=c103) rfl mixed k103 Tryz.func103 (by kernel_rfl) (loops_cons ok103_0 noLoop) (allT_cons meets71 (allT_cons meets138 allT_nil)) allM_nil noI fun xs r h=>?_
 unfold m103 at h
 split at h
 ·rename_i g0 xa g1 xb g2 xc ya yb
  obtain ⟨hg,h⟩:=bif_pair h
  simp only [Bool.and_eq_true] at hg
  obtain ⟨⟨q0,q1⟩,q2⟩:=hg
  obtain rfl:=cE q0
  obtain rfl:=cE q1
  obtain rfl:=cE q2
  obtain ⟨h1,rfl⟩:=pair_inj h
  exact r103 xa xb xc ya yb h1
 ·cases h
noncomputable def c111:Cfg:=cfg Tryz.prog [(111,999,[4,5,6])] [(21,m21),(71,m71),(72,m72),(101,m101),(102,m102),(103,m103),(138,m138),(169,m169)] [] [] []
def q111 (xa xb xc:List AV) (a1:Int):Bool:=(q71 xa xb xc && (bif !(v71_0 xa xb xc) then q138 xa xb xc else (bif !(v72_0 a1 (-1000) 1000) then q138 xa xb xc else (q21 xa xb xc a1 && (bif (v21_1 xa xb xc a1) then q138 xa xb xc else (q101 xa xb xc a1 && (q169 xa (v101_0 xa xb xc a1) (v101_1 xa xb xc a1) a1 && (q102 xa xb xc (v169_0 xa (v101_0 xa xb xc a1) (v101_1 xa xb xc a1) a1) && q103 (v102_0 xa xb xc (v169_0 xa (v101_0 xa xb xc a1) (v101_1 xa xb xc a1) a1)) (v102_1 xa xb xc (v169_0 xa (v101_0 xa xb xc a1) (v101_1 xa xb xc a1) a1)) (v102_2 xa xb xc (v169_0 xa (v101_0 xa xb xc a1) (v101_1 xa xb xc a1) a1)) a1 (v169_1 xa (v101_0 xa xb xc a1) (v101_1 xa xb xc a1) a1)))))))))
def v111_0 (xa xb xc:List AV) (a1:Int):List AV:=(bif !(v71_0 xa xb xc) then (v138_0 xa xb xc) else (bif !(v72_0 a1 (-1000) 1000) then (v138_0 xa xb xc) else (bif (v21_1 xa xb xc a1) then (v138_0 xa xb xc) else (v103_0 (v102_0 xa xb xc (v169_0 xa (v101_0 xa xb xc a1) (v101_1 xa xb xc a1) a1)) (v102_1 xa xb xc (v169_0 xa (v101_0 xa xb xc a1) (v101_1 xa xb xc a1) a1)) (v102_2 xa xb xc (v169_0 xa (v101_0 xa xb xc a1) (v101_1 xa xb xc a1) a1)) a1 (v169_1 xa (v101_0 xa xb xc a1) (v101_1 xa xb xc a1) a1)))))
def v111_1 (xa xb xc:List AV) (a1:Int):List AV:=(bif !(v71_0 xa xb xc) then (v138_1 xa xb xc) else (bif !(v72_0 a1 (-1000) 1000) then (v138_1 xa xb xc) else (bif (v21_1 xa xb xc a1) then (v138_1 xa xb xc) else (v103_1 (v102_0 xa xb xc (v169_0 xa (v101_0 xa xb xc a1) (v101_1 xa xb xc a1) a1)) (v102_1 xa xb xc (v169_0 xa (v101_0 xa xb xc a1) (v101_1 xa xb xc a1) a1)) (v102_2 xa xb xc (v169_0 xa (v101_0 xa xb xc a1) (v101_1 xa xb xc a1) a1)) a1 (v169_1 xa (v101_0 xa xb xc a1) (v101_1 xa xb xc a1) a1)))))
def v111_2 (xa xb xc:List AV) (a1:Int):List AV:=(bif !(v71_0 xa xb xc) then (v138_2 xa xb xc) else (bif !(v72_0 a1 (-1000) 1000) then (v138_2 xa xb xc) else (bif (v21_1 xa xb xc a1) then (v138_2 xa xb xc) else (v103_2 (v102_0 xa xb xc (v169_0 xa (v101_0 xa xb xc a1) (v101_1 xa xb xc a1) a1)) (v102_1 xa xb xc (v169_0 xa (v101_0 xa xb xc a1) (v101_1 xa xb xc a1) a1)) (v102_2 xa xb xc (v169_0 xa (v101_0 xa xb xc a1) (v101_1 xa xb xc a1) a1)) a1 (v169_1 xa (v101_0 xa xb xc a1) (v101_1 xa xb xc a1) a1)))))
def v111_3 (xa xb xc:List AV) (a1:Int):List AV:=(bif !(v71_0 xa xb xc) then ([]:List AV) else (bif !(v72_0 a1 (-1000) 1000) then ([]:List AV) else (bif (v21_1 xa xb xc a1) then ([]:List AV) else (v169_0 xa (v101_0 xa xb xc a1) (v101_1 xa xb xc a1) a1))))
def v111_4 (xa xb xc:List AV) (a1:Int):Bool:=(bif !(v71_0 xa xb xc) then false else (bif !(v72_0 a1 (-1000) 1000) then false else true))
theorem e111 (xa xb xc:List AV) (a1:Int):funA c111 0 111 [AV.agg [AV.sl [.int .i64] xa,AV.sl [.int .i64] xb,AV.sl [.int .i64,.int .i64] xc],Ai a1]=((fun (x1:Int) (x2:Int)=>((fun (x3:List AV) (x4:Int)=>((fun (x5:List AV) (x6:List AV) (x7:List AV)=>(bif q71 xa xb xc then (bif !(v71_0 xa xb xc) then (bif q138 xa xb xc then some (AV.tup [AV.agg [AV.fl [.int .i64] (v138_0 xa xb xc),AV.fl [.int .i64] (v138_1 xa xb xc),AV.fl [.int .i64,.int .i64] (v138_2 xa xb xc)],AV.fl [.int .i64,.int .i64] ([]:List AV),AV.bool false])
 else none)
 else (bif !(v72_0 a1 (-1000) 1000) then (bif q138 xa xb xc then some (AV.tup [AV.agg [AV.fl [.int .i64] (v138_0 xa xb xc),AV.fl [.int .i64] (v138_1 xa xb xc),AV.fl [.int .i64,.int .i64] (v138_2 xa xb xc)],AV.fl [.int .i64,.int .i64] ([]:List AV),AV.bool false])
 else none)
 else (bif q21 xa xb xc a1 then (bif (v21_1 xa xb xc a1) then (bif q138 xa xb xc then some (AV.tup [AV.agg [AV.fl [.int .i64] (v138_0 xa xb xc),AV.fl [.int .i64] (v138_1 xa xb xc),AV.fl [.int .i64,.int .i64] (v138_2 xa xb xc)],AV.fl [.int .i64,.int .i64] ([]:List AV),AV.bool true])
 else none)
 else (bif q101 xa xb xc a1 then (bif q169 xa x1 x2 a1 then (bif q102 xa xb xc x3 then (bif q103 x5 x6 x7 a1 x4 then some (AV.tup [AV.agg [AV.fl [.int .i64] (v103_0 x5 x6 x7 a1 x4),AV.fl [.int .i64] (v103_1 x5 x6 x7 a1 x4),AV.fl [.int .i64,.int .i64] (v103_2 x5 x6 x7 a1 x4)],AV.fl [.int .i64,.int .i64] x3,AV.bool true])
 else none)
 else none)
 else none)
 else none))
 else none)))
 else none)) (v102_0 xa xb xc x3) (v102_1 xa xb xc x3) (v102_2 xa xb xc x3))) (v169_0 xa x1 x2 a1) (v169_1 xa x1 x2 a1))) (v101_0 xa xb xc a1) (v101_1 xa xb xc a1)):=by kernel_rfl
theorem r111 (xa xb xc:List AV) (a1:Int) (h:q111 xa xb xc a1=true):funA c111 0 111 [AV.agg [AV.sl [.int .i64] xa,AV.sl [.int .i64] xb,AV.sl [.int .i64,.int .i64] xc],AV.int .i64 a1]=some (AV.tup [AV.agg [AV.fl [.int .i64] (v111_0 xa xb xc a1),AV.fl [.int .i64] (v111_1 xa xb xc a1),AV.fl [.int .i64,.int .i64] (v111_2 xa xb xc a1)],AV.fl [.int .i64,.int .i64] (v111_3 xa xb xc a1),AV.bool (v111_4 xa xb xc a1)]):=by
 refine (e111 xa xb xc a1).trans ?_
 unfold q111 at h
 unfold v111_0 v111_1 v111_2 v111_3 v111_4
 refine ifG (fun hc=>?_) (fun hc=>?_) <;> first|rw [hc] at h ⊢|rw [hc] at h|rw [hc]|skip
 ·refine ifG (fun hc=>?_) (fun hc=>?_) <;> first|rw [hc] at h ⊢|rw [hc] at h|rw [hc]|skip
  ·refine ifG (fun hc=>?_) (fun hc=>?_) <;> first|rw [hc] at h ⊢|rw [hc] at h|rw [hc]|skip
   ·rfl
   ·first|exact Bool.noConfusion h|exact Bool.noConfusion hc
  ·refine ifG (fun hc=>?_) (fun hc=>?_) <;> first|rw [hc] at h ⊢|rw [hc] at h|rw [hc]|skip
   ·refine ifG (fun hc=>?_) (fun hc=>?_) <;> first|rw [hc] at h ⊢|rw [hc] at h|rw [hc]|skip
    ·rfl
    ·first|exact Bool.noConfusion h|exact Bool.noConfusion hc
   ·refine ifG (fun hc=>?_) (fun hc=>?_) <;> first|rw [hc] at h ⊢|rw [hc] at h|rw [hc]|skip
    ·refine ifG (fun hc=>?_) (fun hc=>?_) <;> first|rw [hc] at h ⊢|rw [hc] at h|rw [hc]|skip
     ·refine ifG (fun hc=>?_) (fun hc=>?_) <;> first|rw [hc] at h ⊢|rw [hc] at h|rw [hc]|skip
      ·rfl
      ·first|exact Bool.noConfusion h|exact Bool.noConfusion hc
     ·refine ifG (fun hc=>?_) (fun hc=>?_) <;> first|rw [hc] at h ⊢|rw [hc] at h|rw [hc]|skip
      ·refine ifG (fun hc=>?_) (fun hc=>?_) <;> first|rw [hc] at h ⊢|rw [hc] at h|rw [hc]|skip
       ·refine ifG (fun hc=>?_) (fun hc=>?_) <;> first|rw [hc] at h ⊢|rw [hc] at h|rw [hc]|skip
        ·refine ifG (fun hc=>?_) (fun hc=>?_) <;> first|rw [hc] at h ⊢|rw [hc] at h|rw [hc]|skip
         ·rfl
         ·first|exact Bool.noConfusion h|exact Bool.noConfusion hc
        ·first|exact Bool.noConfusion h|exact Bool.noConfusion hc
       ·first|exact Bool.noConfusion h|exact Bool.noConfusion hc
      ·first|exact Bool.noConfusion h|exact Bool.noConfusion hc
    ·first|exact Bool.noConfusion h|exact Bool.noConfusion hc
 ·first|exact Bool.noConfusion h|exact Bool.noConfusion hc
def m111:TModel
 | [.agg [.sl g0 xa,.sl g1 xb,.sl g2 xc],.int .i64 a1]=>bif ctsEq g0 ([.int .i64]) && ctsEq g1 ([.int .i64]) && ctsEq g2 ([.int .i64,.int .i64]) then some (q111 xa xb xc a1,AV.tup [AV.agg [AV.fl [.int .i64] (v111_0 xa xb xc a1),AV.fl [.int .i64] (v111_1 xa xb xc a1),AV.fl [.int .i64,.int .i64] (v111_2 xa xb xc a1)],AV.fl [.int .i64,.int .i64] (v111_3 xa xb xc a1),AV.bool (v111_4 xa xb xc a1)]) else none
 | _=>none
theorem k111:Known Tryz.prog 111:=⟨Tryz.f111,Tryz.func111,by kernel_rfl,by kernel_rfl⟩
theorem meets111:Meets Tryz.prog 111 m111:=by
 refine mt (lvl:=0) (cf:=c111) rfl mixed k111 Tryz.func111 (by kernel_rfl) noLoop (allT_cons meets21 (allT_cons meets71 (allT_cons meets72 (allT_cons meets101 (allT_cons meets102 (allT_cons meets103 (allT_cons meets138 (allT_cons meets169 allT_nil)))))))) allM_nil noI fun xs r h=>?_
 unfold m111 at h
 split at h
 ·rename_i g0 xa g1 xb g2 xc a1
  obtain ⟨hg,h⟩:=bif_pair h
  simp only [Bool.and_eq_true] at hg
  obtain ⟨⟨q0,q1⟩,q2⟩:=hg
  obtain rfl:=cE q0
  obtain rfl:=cE q1
  obtain rfl:=cE q2
  obtain ⟨h1,rfl⟩:=pair_inj h
  exact r111 xa xb xc a1 h1
 ·cases h
def G151_0 {β:Type} (t4:Int) (h0:List AV) (h1:List AV) (h3:List AV) (h5_0:List AV) (h5_1:Int) (h5_2:Int) (N:((Int × (List AV) × (List AV) × (List AV) × (List AV) × Int × Int))→β) (K:(((List AV) × (List AV) × (List AV) × (List AV) × Int × Int))→β) (d:β):β:=by
 refine (?f0:Int→(List AV)→Int→Int→(List AV)→(List AV)→(List AV)→β) (v109_0 h5_0 h5_1 h5_2 h0 h1 h3) (v109_1 h5_0 h5_1 h5_2 h0 h1 h3) (v109_2 h5_0 h5_1 h5_2 h0 h1 h3) (v109_3 h5_0 h5_1 h5_2 h0 h1 h3) (v109_4 h5_0 h5_1 h5_2 h0 h1 h3) (v109_5 h5_0 h5_1 h5_2 h0 h1 h3) (v109_6 h5_0 h5_1 h5_2 h0 h1 h3);intro x1 x2 x3 x4 x5 x6 x7
 exact (bif decide (t4 > 0) then (bif q109 h5_0 h5_1 h5_2 h0 h1 h3 then (bif q111 x5 x6 x7 x1 then N (IntKind.i64.wrap (t4 - 1),(v111_0 x5 x6 x7 x1),(v111_1 x5 x6 x7 x1),(v111_2 x5 x6 x7 x1),x2,x3,x4)
 else d)
 else d)
 else K (h0,h1,h3,h5_0,h5_1,h5_2))
def F151_0 (t4:Int) (h0 h1 h3 h5_0:List AV) (h5_1 h5_2:Int):Out ((Int × (List AV) × (List AV) × (List AV) × (List AV) × Int × Int)) (((List AV) × (List AV) × (List AV) × (List AV) × Int × Int)):=G151_0 t4 h0 h1 h3 h5_0 h5_1 h5_2 .next .stop .fail
def R151_0:((Int × (List AV) × (List AV) × (List AV) × (List AV) × Int × Int))→Out ((Int × (List AV) × (List AV) × (List AV) × (List AV) × Int × Int)) (((List AV) × (List AV) × (List AV) × (List AV) × Int × Int)):=fun s:Int × (List AV) × (List AV) × (List AV) × (List AV) × Int × Int=>F151_0 s.1 s.2.1 s.2.2.1 s.2.2.2.1 s.2.2.2.2.1 s.2.2.2.2.2.1 s.2.2.2.2.2.2
def E151_0:((Int × (List AV) × (List AV) × (List AV) × (List AV) × Int × Int))→St:=fun s:Int × (List AV) × (List AV) × (List AV) × (List AV) × Int × Int=>⟨[(0,AV.ptr [1] 0 0),(2,AV.ptr [0,2,0] 0 0),(3,AV.ptr [0,3,0] 0 0),(4,Ai s.1)],[([0,0,3,0],⟨false,[.int .i64],s.2.1⟩),([0,1,3,0],⟨false,[.int .i64],s.2.2.1⟩),([0,2,0],⟨true,[],[AV.agg [AV.snil,AV.snil,AV.snil]]⟩),([0,2,3,0],⟨false,[.int .i64,.int .i64],s.2.2.2.1⟩),([0,3,0],⟨true,[],[AV.agg [AV.own [0,0,3,0],AV.own [0,1,3,0],AV.own [0,2,3,0]]]⟩),([1],⟨true,[],[AV.agg [AV.sl [.int .u8] s.2.2.2.2.1,Ai s.2.2.2.2.2.1,Ai s.2.2.2.2.2.2]]⟩)]⟩
def K151_0 (k:Kont):(((List AV) × (List AV) × (List AV) × (List AV) × Int × Int))→Option AV:=fun p:(List AV) × (List AV) × (List AV) × (List AV) × Int × Int=>k (.exit 0) ⟨[(2,AV.ptr [0,2,0] 0 0),(3,AV.ptr [0,3,0] 0 0)],[([0,0,3,0],⟨false,[.int .i64],p.1⟩),([0,1,3,0],⟨false,[.int .i64],p.2.1⟩),([0,2,0],⟨true,[],[AV.agg [AV.snil,AV.snil,AV.snil]]⟩),([0,2,3,0],⟨false,[.int .i64,.int .i64],p.2.2.1⟩),([0,3,0],⟨true,[],[AV.agg [AV.own [0,0,3,0],AV.own [0,1,3,0],AV.own [0,2,3,0]]]⟩),([1],⟨true,[],[AV.agg [AV.sl [.int .u8] p.2.2.2.1,Ai p.2.2.2.2.1,Ai p.2.2.2.2.2]]⟩)]⟩
def l151_0:LModel:=fun _ _ st k=>match st with
 | ⟨[(0,.ptr g0 g1 g2),(2,.ptr g3 g4 g5),(3,.ptr g6 g7 g8),(4,.int .i64 t4)],[(g9,⟨false,g10,h0⟩),(g11,⟨false,g12,h1⟩),(g13,⟨true,[],[.agg [.snil,.snil,.snil]]⟩),(g14,⟨false,g15,h3⟩),(g16,⟨true,[],[.agg [.own g17,.own g18,.own g19]]⟩),(g20,⟨true,[],[.agg [.sl g21 h5_0,.int .i64 h5_1,.int .i64 h5_2]]⟩)]⟩=>bif nmEq g0 ([1]) && Nat.beq g1 0 && Nat.beq g2 0 && nmEq g3 ([0,2,0]) && Nat.beq g4 0 && Nat.beq g5 0 && nmEq g6 ([0,3,0]) && Nat.beq g7 0 && Nat.beq g8 0 && nmEq g9 ([0,0,3,0]) && ctsEq g10 ([.int .i64]) && nmEq g11 ([0,1,3,0]) && ctsEq g12 ([.int .i64]) && nmEq g13 ([0,2,0]) && nmEq g14 ([0,2,3,0]) && ctsEq g15 ([.int .i64,.int .i64]) && nmEq g16 ([0,3,0]) && nmEq g17 ([0,0,3,0]) && nmEq g18 ([0,1,3,0]) && nmEq g19 ([0,2,3,0]) && nmEq g20 ([1]) && ctsEq g21 ([.int .u8]) then ro (runW (R151_0) ((t4 - 0:Int).toNat+1) (t4,h0,h1,h3,h5_0,h5_1,h5_2)) none (K151_0 k) else none
 | _=>none
noncomputable def c151:Cfg:=cfg Tryz.prog [(151,0,[0,2,3,4]),(151,999,[2]),(151,1000,[2,3]),(151,1001,[0,2,3,4])] [(99,m99),(111,m111)] [(91,.g m91),(109,.g m109),(131,.g m131)] [] [(151,0,l151_0)]
theorem s151_0 (ce:CallE) (k:Kont) (s:Int × (List AV) × (List AV) × (List AV) × (List AV) × Int × Int) (next:St→Option AV):stepA (codeA c151 ce [0] 151 0 (sub [1,1,0,1,0,0] (body Tryz.f151))) (normA [0] [0,2,3,4]) next (E151_0 s) k=G151_0 s.1 s.2.1 s.2.2.1 s.2.2.2.1 s.2.2.2.2.1 s.2.2.2.2.2.1 s.2.2.2.2.2.2 (fun s=>next (E151_0 s)) (K151_0 k) none:=by kernel_rfl
theorem st151_0 (ce:CallE) (k:Kont) (s:(Int × (List AV) × (List AV) × (List AV) × (List AV) × Int × Int)) (next:St→Option AV):stepA (codeA c151 ce [0] 151 0 (sub [1,1,0,1,0,0] (body Tryz.f151))) (normA [0] [0,2,3,4]) next (E151_0 s) k=(R151_0 s).el none (fun s=>next (E151_0 s)) (K151_0 k):=(s151_0 ce k s next).trans (by unfold R151_0;unfold F151_0 G151_0;simp only [el_cond,el_ro,el_sum,el_fail,el_next,el_stop] <;> rfl)
theorem ok151_0 {ce:CallE}:LoopOK c151 ce [0] 151 0 (sub [1,1,0,1,0,0] (body Tryz.f151)):=by
 intro m hm st k r h
 obtain rfl:l151_0=m:=Option.some.inj hm
 unfold l151_0 at h
 split at h
 ·rename_i g0 g1 g2 g3 g4 g5 g6 g7 g8 t4 g9 g10 h0 g11 g12 h1 g13 g14 g15 h3 g16 g17 g18 g19 g20 g21 h5_0 h5_1 h5_2
  obtain ⟨hg,h⟩:=bif_some h
  simp only [Bool.and_eq_true] at hg
  obtain ⟨⟨⟨⟨⟨⟨⟨⟨⟨⟨⟨⟨⟨⟨⟨⟨⟨⟨⟨⟨⟨q0,q1⟩,q2⟩,q3⟩,q4⟩,q5⟩,q6⟩,q7⟩,q8⟩,q9⟩,q10⟩,q11⟩,q12⟩,q13⟩,q14⟩,q15⟩,q16⟩,q17⟩,q18⟩,q19⟩,q20⟩,q21⟩:=hg
  obtain rfl:=nE q0
  obtain rfl:=bE q1
  obtain rfl:=bE q2
  obtain rfl:=nE q3
  obtain rfl:=bE q4
  obtain rfl:=bE q5
  obtain rfl:=nE q6
  obtain rfl:=bE q7
  obtain rfl:=bE q8
  obtain rfl:=nE q9
  obtain rfl:=cE q10
  obtain rfl:=nE q11
  obtain rfl:=cE q12
  obtain rfl:=nE q13
  obtain rfl:=nE q14
  obtain rfl:=cE q15
  obtain rfl:=nE q16
  obtain rfl:=nE q17
  obtain rfl:=nE q18
  obtain rfl:=nE q19
  obtain rfl:=nE q20
  obtain rfl:=cE q21
  refine ⟨((t4 - 0:Int).toNat+1),?_⟩
  rw [← h]
  exact loop_run E151_0 (K151_0 k) (st151_0 ce k) _ (t4,h0,h1,h3,h5_0,h5_1,h5_2)
 ·cases h
def T151 {β:Type} (k:((List AV) × (List AV) × (List AV) × (List AV) × Int × Int)→β) (n:β) (ua:List AV) (ub:Int) (uc:Int):β:=by
 refine (?f0:(List AV)→(List AV)→Int→Int→β) (v91_0 14 ua ub uc) (v91_1 14 ua ub uc) (v91_2 14 ua ub uc) (v91_3 14 ua ub uc);intro x1 x2 x3 x4
 exact (bif q91 14 ua ub uc then (bif q99 x1 then (bif q131 5 x2 x3 x4 then (ro (runW (R151_0) (((v131_0 5 x2 x3 x4) - 0:Int).toNat+1) ((v131_0 5 x2 x3 x4),(v99_0 x1),(v99_1 x1),(v99_2 x1),(v131_1 5 x2 x3 x4),(v131_2 5 x2 x3 x4),(v131_3 5 x2 x3 x4))) n (fun p26=>k (p26.1,p26.2.1,p26.2.2.1,p26.2.2.2.1,p26.2.2.2.2.1,p26.2.2.2.2.2)))
 else n)
 else n)
 else n)
abbrev W151 (ua:List AV) (ub:Int) (uc:Int):Option ((List AV) × (List AV) × (List AV) × (List AV) × Int × Int):=T151 some none ua ub uc
theorem n151 {β:Type} (k:((List AV) × (List AV) × (List AV) × (List AV) × Int × Int)→β) (n:β) (ua:List AV) (ub:Int) (uc:Int):T151 k n ua ub uc=oe k n (W151 ua ub uc):=by
 unfold W151 T151
 simp only [oe_cond,oe_ro,oe_sum,oe_some,oe_none]
def q151 (ua:List AV) (ub uc:Int):Bool:=(W151 ua ub uc).isSome
def v151_0 (ua:List AV) (ub uc:Int):List AV:=oe (fun t=>t.1) [] (W151 ua ub uc)
def v151_1 (ua:List AV) (ub uc:Int):List AV:=oe (fun t=>t.2.1) [] (W151 ua ub uc)
def v151_2 (ua:List AV) (ub uc:Int):List AV:=oe (fun t=>t.2.2.1) [] (W151 ua ub uc)
def v151_3 (ua:List AV) (ub uc:Int):List AV:=oe (fun t=>t.2.2.2.1) [] (W151 ua ub uc)
def v151_4 (ua:List AV) (ub uc:Int):Int:=oe (fun t=>t.2.2.2.2.1) 0 (W151 ua ub uc)
def v151_5 (ua:List AV) (ub uc:Int):Int:=oe (fun t=>t.2.2.2.2.2) 0 (W151 ua ub uc)
theorem e151 (ua:List AV) (ub uc:Int) (K:List AV→List (Option Blk)→Option AV):inlA c151 1 151 [AV.ptr [1] 0 0] [0] (canH 1 [⟨true,[],[AV.agg [AV.sl [.int .u8] ua,Ai ub,Ai uc]]⟩]) (keepG Tryz.prog 1 [27] [] K)=T151 (fun t=>K [AV.agg [AV.fl [.int .i64] t.1,AV.fl [.int .i64] t.2.1,AV.fl [.int .i64,.int .i64] t.2.2.1]] [some ⟨true,[],[AV.agg [AV.sl [.int .u8] t.2.2.2.1,Ai t.2.2.2.2.1,Ai t.2.2.2.2.2]]⟩]) none ua ub uc:=by kernel_rfl
theorem r151 (ua:List AV) (ub uc:Int) (K:List AV→List (Option Blk)→Option AV) (h:q151 ua ub uc=true):inlA c151 1 151 [AV.ptr [1] 0 0] [0] (canH 1 [⟨true,[],[AV.agg [AV.sl [.int .u8] ua,AV.int .i64 ub,AV.int .i64 uc]]⟩]) (keepG Tryz.prog 1 [27] [] K)=K [AV.agg [AV.fl [.int .i64] (v151_0 ua ub uc),AV.fl [.int .i64] (v151_1 ua ub uc),AV.fl [.int .i64,.int .i64] (v151_2 ua ub uc)]] [some ⟨true,[],[AV.agg [AV.sl [.int .u8] (v151_3 ua ub uc),AV.int .i64 (v151_4 ua ub uc),AV.int .i64 (v151_5 ua ub uc)]]⟩]:=by
 refine ((e151 ua ub uc K).trans (n151 _ _ ua ub uc)).trans ?_
 unfold q151 at h
 unfold v151_0 v151_1 v151_2 v151_3 v151_4 v151_5
 generalize W151 ua ub uc=o at *
 cases o with
 | none=>cases h
 | some t=>rfl
def m151:GModel
 | [.ptr g0 g1 g2],[⟨true,[],[.agg [.sl g3 ua,.int .i64 ub,.int .i64 uc]]⟩]=>bif nmEq g0 ([1]) && Nat.beq g1 0 && Nat.beq g2 0 && ctsEq g3 ([.int .u8]) then some (q151 ua ub uc,[AV.agg [AV.fl [.int .i64] (v151_0 ua ub uc),AV.fl [.int .i64] (v151_1 ua ub uc),AV.fl [.int .i64,.int .i64] (v151_2 ua ub uc)]],[some ⟨true,[],[AV.agg [AV.sl [.int .u8] (v151_3 ua ub uc),AV.int .i64 (v151_4 ua ub uc),AV.int .i64 (v151_5 ua ub uc)]]⟩]) else none
 | _,_=>none
theorem k151:Known Tryz.prog 151:=⟨Tryz.f151,Tryz.func151,by kernel_rfl,by kernel_rfl⟩
theorem meets151:MeetsG Tryz.prog 151 m151:=by
 refine mg (rt:=[27]) (gs:=[]) (lvl:=0) (cf:=c151) rfl mixed k151 Tryz.func151 (by kernel_rfl) (loops_cons ok151_0 noLoop) (allT_cons meets99 (allT_cons meets111 allT_nil)) (allG_cons meets91 (allG_cons meets109 (allG_cons meets131 allM_nil))) noI fun xs bs r bs' h K=>?_
 unfold m151 at h
 split at h
 ·rename_i g0 g1 g2 g3 ua ub uc
  obtain ⟨hg,h⟩:=bif_pair h
  simp only [Bool.and_eq_true] at hg
  obtain ⟨⟨⟨q0,q1⟩,q2⟩,q3⟩:=hg
  obtain rfl:=nE q0
  obtain rfl:=bE q1
  obtain rfl:=bE q2
  obtain rfl:=cE q3
  obtain ⟨h1,rfl,rfl⟩:=trip_inj h
  exact r151 ua ub uc K h1
 ·cases h
noncomputable def c80:Cfg:=cfg Tryz.prog [(80,999,[2]),(80,1000,[2,3])] [] [(131,.g m131),(132,.g m132),(151,.g m151)] [] []
def T80 {β:Type} (k:((List AV) × (List AV) × (List AV) × (List AV) × Int × Int)→β) (n:β) (ua:List AV) (ub:Int) (uc:Int):β:=by
 refine (?f0:(List AV)→(List AV)→(List AV)→(List AV)→Int→Int→β) (v151_0 ua ub uc) (v151_1 ua ub uc) (v151_2 ua ub uc) (v151_3 ua ub uc) (v151_4 ua ub uc) (v151_5 ua ub uc);intro x1 x2 x3 x4 x5 x6
 refine (?f1:Int→(List AV)→Int→Int→β) (v131_0 12 x4 x5 x6) (v131_1 12 x4 x5 x6) (v131_2 12 x4 x5 x6) (v131_3 12 x4 x5 x6);intro x7 x8 x9 x10
 refine (?f2:Int→(List AV)→Int→Int→β) (v131_0 9 x8 x9 x10) (v131_1 9 x8 x9 x10) (v131_2 9 x8 x9 x10) (v131_3 9 x8 x9 x10);intro x11 x12 x13 x14
 exact (bif q151 ua ub uc then (bif q131 12 x4 x5 x6 then (bif decide (x7=0) then (bif decide ((x1.length:Int) > 0) then (bif q132 x8 x9 x10 ([AV.int .i64 0,AV.int .i64 999,AV.int .i64 1000,AV.int .i64 (-5)]) then (bif (decide (0≤0) && decide (0<(x1.length:Int))) then k (x1.set (0:Int).toNat (AV.agg [AV.int .i64 (v132_0 x8 x9 x10 ([AV.int .i64 0,AV.int .i64 999,AV.int .i64 1000,AV.int .i64 (-5)]))]),x2,x3,(v132_1 x8 x9 x10 ([AV.int .i64 0,AV.int .i64 999,AV.int .i64 1000,AV.int .i64 (-5)])),(v132_2 x8 x9 x10 ([AV.int .i64 0,AV.int .i64 999,AV.int .i64 1000,AV.int .i64 (-5)])),(v132_3 x8 x9 x10 ([AV.int .i64 0,AV.int .i64 999,AV.int .i64 1000,AV.int .i64 (-5)])))
 else n)
 else n)
 else k (x1,x2,x3,x8,x9,x10))
 else (bif decide (x7=1) then (bif q131 9 x8 x9 x10 then (bif q131 9 x12 x13 x14 then (bif (decide ((x3.length+([AV.agg [AV.int .i64 x11,AV.int .i64 (v131_0 9 x12 x13 x14)]]).length)*16≤140737488355328) && decide ((x3.length+([AV.agg [AV.int .i64 x11,AV.int .i64 (v131_0 9 x12 x13 x14)]]).length)≤140737488355328)) then k (x1,x2,x3++([AV.agg [AV.int .i64 x11,AV.int .i64 (v131_0 9 x12 x13 x14)]]),(v131_1 9 x12 x13 x14),(v131_2 9 x12 x13 x14),(v131_3 9 x12 x13 x14))
 else n)
 else n)
 else n)
 else (bif decide (x7=2) then (bif (decide ((x2.length+([AV.int .i64 0]).length)*8≤140737488355328) && decide ((x2.length+([AV.int .i64 0]).length)≤140737488355328)) then k (x1,x2++([AV.int .i64 0]),x3,x8,x9,x10)
 else n)
 else k (x1,x2,x3,x8,x9,x10))))
 else n)
 else n)
abbrev W80 (ua:List AV) (ub:Int) (uc:Int):Option ((List AV) × (List AV) × (List AV) × (List AV) × Int × Int):=T80 some none ua ub uc
theorem n80 {β:Type} (k:((List AV) × (List AV) × (List AV) × (List AV) × Int × Int)→β) (n:β) (ua:List AV) (ub:Int) (uc:Int):T80 k n ua ub uc=oe k n (W80 ua ub uc):=by
 unfold W80 T80
 simp only [oe_cond,oe_ro,oe_sum,oe_some,oe_none]
def q80 (ua:List AV) (ub uc:Int):Bool:=(W80 ua ub uc).isSome
def v80_0 (ua:List AV) (ub uc:Int):List AV:=oe (fun t=>t.1) [] (W80 ua ub uc)
def v80_1 (ua:List AV) (ub uc:Int):List AV:=oe (fun t=>t.2.1) [] (W80 ua ub uc)
def v80_2 (ua:List AV) (ub uc:Int):List AV:=oe (fun t=>t.2.2.1) [] (W80 ua ub uc)
def v80_3 (ua:List AV) (ub uc:Int):List AV:=oe (fun t=>t.2.2.2.1) [] (W80 ua ub uc)
def v80_4 (ua:List AV) (ub uc:Int):Int:=oe (fun t=>t.2.2.2.2.1) 0 (W80 ua ub uc)
def v80_5 (ua:List AV) (ub uc:Int):Int:=oe (fun t=>t.2.2.2.2.2) 0 (W80 ua ub uc)
theorem e80 (ua:List AV) (ub uc:Int) (K:List AV→List (Option Blk)→Option AV):inlA c80 1 80 [AV.ptr [1] 0 0] [0] (canH 1 [⟨true,[],[AV.agg [AV.sl [.int .u8] ua,Ai ub,Ai uc]]⟩]) (keepG Tryz.prog 1 [27] [] K)=T80 (fun t=>K [AV.agg [AV.fl [.int .i64] t.1,AV.fl [.int .i64] t.2.1,AV.fl [.int .i64,.int .i64] t.2.2.1]] [some ⟨true,[],[AV.agg [AV.sl [.int .u8] t.2.2.2.1,Ai t.2.2.2.2.1,Ai t.2.2.2.2.2]]⟩]) none ua ub uc:=by kernel_rfl
theorem r80 (ua:List AV) (ub uc:Int) (K:List AV→List (Option Blk)→Option AV) (h:q80 ua ub uc=true):inlA c80 1 80 [AV.ptr [1] 0 0] [0] (canH 1 [⟨true,[],[AV.agg [AV.sl [.int .u8] ua,AV.int .i64 ub,AV.int .i64 uc]]⟩]) (keepG Tryz.prog 1 [27] [] K)=K [AV.agg [AV.fl [.int .i64] (v80_0 ua ub uc),AV.fl [.int .i64] (v80_1 ua ub uc),AV.fl [.int .i64,.int .i64] (v80_2 ua ub uc)]] [some ⟨true,[],[AV.agg [AV.sl [.int .u8] (v80_3 ua ub uc),AV.int .i64 (v80_4 ua ub uc),AV.int .i64 (v80_5 ua ub uc)]]⟩]:=by
 refine ((e80 ua ub uc K).trans (n80 _ _ ua ub uc)).trans ?_
 unfold q80 at h
 unfold v80_0 v80_1 v80_2 v80_3 v80_4 v80_5
 generalize W80 ua ub uc=o at *
 cases o with
 | none=>cases h
 | some t=>rfl
def m80:GModel
 | [.ptr g0 g1 g2],[⟨true,[],[.agg [.sl g3 ua,.int .i64 ub,.int .i64 uc]]⟩]=>bif nmEq g0 ([1]) && Nat.beq g1 0 && Nat.beq g2 0 && ctsEq g3 ([.int .u8]) then some (q80 ua ub uc,[AV.agg [AV.fl [.int .i64] (v80_0 ua ub uc),AV.fl [.int .i64] (v80_1 ua ub uc),AV.fl [.int .i64,.int .i64] (v80_2 ua ub uc)]],[some ⟨true,[],[AV.agg [AV.sl [.int .u8] (v80_3 ua ub uc),AV.int .i64 (v80_4 ua ub uc),AV.int .i64 (v80_5 ua ub uc)]]⟩]) else none
 | _,_=>none
theorem k80:Known Tryz.prog 80:=⟨Tryz.f80,Tryz.func80,by kernel_rfl,by kernel_rfl⟩
theorem meets80:MeetsG Tryz.prog 80 m80:=by
 refine mg (rt:=[27]) (gs:=[]) (lvl:=0) (cf:=c80) rfl mixed k80 Tryz.func80 (by kernel_rfl) noLoop allT_nil (allG_cons meets131 (allG_cons meets132 (allG_cons meets151 allM_nil))) noI fun xs bs r bs' h K=>?_
 unfold m80 at h
 split at h
 ·rename_i g0 g1 g2 g3 ua ub uc
  obtain ⟨hg,h⟩:=bif_pair h
  simp only [Bool.and_eq_true] at hg
  obtain ⟨⟨⟨q0,q1⟩,q2⟩,q3⟩:=hg
  obtain rfl:=nE q0
  obtain rfl:=bE q1
  obtain rfl:=bE q2
  obtain rfl:=cE q3
  obtain ⟨h1,rfl,rfl⟩:=trip_inj h
  exact r80 ua ub uc K h1
 ·cases h
def G24i61_0 {β:Type} (t0:List AV) (t3:Int) (t4:Int) (N:((Int × Int))→β) (K:(Int)→β) (d:β):β:=(bif decide (t4<(t0.length:Int)) then (bif decide (t4<4000) then (bif (decide (0≤t4) && decide (t4<(t0.length:Int))) then N (IntKind.i64.wrap ((BitVec.ofInt 64 (IntKind.i64.wrap (IntKind.i64.wrap (IntKind.i64.wrap (t3*131)+IntKind.i64.wrap (fI (t0.getD t4.toNat .undef) 0))+7)) &&& BitVec.ofInt 64 1073741823).toNat:Int),IntKind.i64.wrap (t4+1))
 else d)
 else K t3)
 else K t3)
def F24i61_0 (t0:List AV) (t3 t4:Int):Out ((Int × Int)) (Int):=G24i61_0 t0 t3 t4 .next .stop .fail
def R24i61_0 (t0:List AV):((Int × Int))→Out ((Int × Int)) (Int):=fun s:Int × Int=>F24i61_0 t0 s.1 s.2
def E24i61_0 (t0:List AV):((Int × Int))→St:=fun s:Int × Int=>⟨[(0,AV.sl [.int .u8] t0),(3,Ai s.1),(4,Ai s.2)],[([1,2],⟨true,[],[AV.agg [AV.snil,AV.snil,AV.snil]]⟩)]⟩
def K24i61_0 (t0:List AV) (k:Kont):(Int)→Option AV:=fun p:Int=>k (.exit 0) ⟨[(0,AV.sl [.int .u8] t0),(3,Ai p)],[([1,2],⟨true,[],[AV.agg [AV.snil,AV.snil,AV.snil]]⟩)]⟩
def l24i61_0:LModel:=fun _ π st k=>match st with
 | ⟨[(0,.sl g1 t0),(3,.int .i64 t3),(4,.int .i64 t4)],[(g2,⟨true,[],[.agg [.snil,.snil,.snil]]⟩)]⟩=>bif nmEq π ([4]) && ctsEq g1 ([.int .u8]) && nmEq g2 ([1,2]) then ro (runW (R24i61_0 t0) (((t0.length:Int) - t4:Int).toNat+1) (t3,t4)) none (K24i61_0 t0 k) else none
 | _=>none
noncomputable def c24:Cfg:=cfg Tryz.prog [(24,999,[2]),(61,0,[0,3,4]),(61,999,[2]),(61,1000,[0,3]),(61,1001,[0,3,4])] [] [(80,.g m80)] [61] [(61,0,l24i61_0)]
theorem s24i61_0 (t0:List AV) (ce:CallE) (k:Kont) (s:Int × Int) (next:St→Option AV):stepA (codeA c24 ce [4] 61 0 (sub [1,1,0,1,0,0] (body Tryz.f61))) (normA [4] [0,3,4]) next ((E24i61_0 t0) s) k=G24i61_0 t0 s.1 s.2 (fun s=>next ((E24i61_0 t0) s)) (K24i61_0 t0 k) none:=by kernel_rfl
theorem st24i61_0 (t0:List AV) (ce:CallE) (k:Kont) (s:(Int × Int)) (next:St→Option AV):stepA (codeA c24 ce [4] 61 0 (sub [1,1,0,1,0,0] (body Tryz.f61))) (normA [4] [0,3,4]) next ((E24i61_0 t0) s) k=(R24i61_0 t0 s).el none (fun s=>next ((E24i61_0 t0) s)) (K24i61_0 t0 k):=(s24i61_0 t0 ce k s next).trans (by unfold R24i61_0;unfold F24i61_0 G24i61_0;simp only [el_cond,el_ro,el_sum,el_fail,el_next,el_stop] <;> rfl)
theorem ok24i61_0 {ce:CallE} {π:Nm}:LoopOK c24 ce π 61 0 (sub [1,1,0,1,0,0] (body Tryz.f61)):=by
 intro m hm st k r h
 obtain rfl:l24i61_0=m:=Option.some.inj hm
 unfold l24i61_0 at h
 split at h
 ·rename_i g1 t0 t3 t4 g2
  obtain ⟨hg,h⟩:=bif_some h
  simp only [Bool.and_eq_true] at hg
  obtain ⟨⟨q0,q1⟩,q2⟩:=hg
  obtain rfl:=nE q0
  obtain rfl:=cE q1
  obtain rfl:=nE q2
  refine ⟨(((t0.length:Int) - t4:Int).toNat+1),?_⟩
  rw [← h]
  exact loop_run (E24i61_0 t0) (K24i61_0 t0 k) (st24i61_0 t0 ce k) _ (t3,t4)
 ·cases h
def T24 {β:Type} (k:((List AV) × (List AV) × (List AV))→β) (n:β) (a0:List AV):β:=(ro (runW (R24i61_0 a0) (((a0.length:Int) - 0:Int).toNat+1) (IntKind.i64.wrap (10101+(a0.length:Int)),0)) n (fun p1=>(bif q80 a0 0 p1 then k ((v80_0 a0 0 p1),(v80_1 a0 0 p1),(v80_2 a0 0 p1))
 else n)))
abbrev W24 (a0:List AV):Option ((List AV) × (List AV) × (List AV)):=T24 some none a0
theorem n24 {β:Type} (k:((List AV) × (List AV) × (List AV))→β) (n:β) (a0:List AV):T24 k n a0=oe k n (W24 a0):=by
 unfold W24 T24
 simp only [oe_cond,oe_ro,oe_sum,oe_some,oe_none]
def q24 (a0:List AV):Bool:=(W24 a0).isSome
def v24_0 (a0:List AV):List AV:=oe (fun t=>t.1) [] (W24 a0)
def v24_1 (a0:List AV):List AV:=oe (fun t=>t.2.1) [] (W24 a0)
def v24_2 (a0:List AV):List AV:=oe (fun t=>t.2.2) [] (W24 a0)
theorem e24 (a0:List AV):funA c24 1 24 [AV.sl [.int .u8] a0]=T24 (fun t=>some (AV.agg [AV.fl [.int .i64] t.1,AV.fl [.int .i64] t.2.1,AV.fl [.int .i64,.int .i64] t.2.2])) none a0:=by kernel_rfl
theorem r24 (a0:List AV) (h:q24 a0=true):funA c24 1 24 [AV.sl [.int .u8] a0]=some (AV.agg [AV.fl [.int .i64] (v24_0 a0),AV.fl [.int .i64] (v24_1 a0),AV.fl [.int .i64,.int .i64] (v24_2 a0)]):=by
 refine ((e24 a0).trans (n24 _ _ a0)).trans ?_
 unfold q24 at h
 unfold v24_0 v24_1 v24_2
 generalize W24 a0=o at *
 cases o with
 | none=>cases h
 | some t=>rfl
def m24:TModel
 | [.sl g0 a0]=>bif ctsEq g0 ([.int .u8]) then some (q24 a0,AV.agg [AV.fl [.int .i64] (v24_0 a0),AV.fl [.int .i64] (v24_1 a0),AV.fl [.int .i64,.int .i64] (v24_2 a0)]) else none
 | _=>none
theorem k24:Known Tryz.prog 24:=⟨Tryz.f24,Tryz.func24,by kernel_rfl,by kernel_rfl⟩
theorem i24_61:InlK Tryz.prog [(24,999,[2]),(61,0,[0,3,4]),(61,999,[2]),(61,1000,[0,3]),(61,1001,[0,3,4])] [] [(80,.g m80)] [61] [(61,0,l24i61_0)] 61:=⟨⟨Tryz.f61,Tryz.func61,by kernel_rfl,by kernel_rfl⟩,Tryz.f61,[(0,sub [1,1,0,1,0,0] (body Tryz.f61))],Tryz.func61,by kernel_rfl,fun ce π=>(loops_cons (ok24i61_0 (ce:=ce) (π:=π)) noLoop)⟩
theorem meets24:Meets Tryz.prog 24 m24:=by
 refine mt (lvl:=1) (cf:=c24) rfl mixed k24 Tryz.func24 (by kernel_rfl) noLoop allT_nil (allG_cons meets80 allM_nil) (allI_cons i24_61 noI) fun xs r h=>?_
 unfold m24 at h
 split at h
 ·rename_i g0 a0
  obtain ⟨hg,h⟩:=bif_pair h
  have q0:=hg
  obtain rfl:=cE q0
  obtain ⟨h1,rfl⟩:=pair_inj h
  exact r24 a0 h1
 ·cases h
noncomputable def c166:Cfg:=cfg Tryz.prog [(166,999,[4])] [] [] [] []
def v166_0 (a0:Int) (a1 a2:AV):Bool:=(bif decide (a0<fI a1 0) then true else decide (a0 > fI a2 0))
theorem e166 (a0:Int) (a1 a2:AV):funA c166 0 166 [Ai a0,AV.rptr [.int .i64] a1 0,AV.rptr [.int .i64] a2 0]=(bif decide (a0<fI a1 0) then some (AV.bool true)
 else some (AV.bool (decide (a0 > fI a2 0)))):=by kernel_rfl
def m166:TModel
 | [.int .i64 a0,.rptr g0 a1 g1,.rptr g2 a2 g3]=>bif ctsEq g0 ([.int .i64]) && Nat.beq g1 0 && ctsEq g2 ([.int .i64]) && Nat.beq g3 0 then some (true,AV.bool (v166_0 a0 a1 a2)) else none
 | _=>none
theorem k166:Known Tryz.prog 166:=⟨Tryz.f166,Tryz.func166,by kernel_rfl,by kernel_rfl⟩
theorem meets166:Meets Tryz.prog 166 m166:=by
 refine mt (lvl:=0) (cf:=c166) rfl mixed k166 Tryz.func166 (by kernel_rfl) noLoop allT_nil allM_nil noI fun xs r h=>?_
 unfold m166 at h
 split at h
 ·rename_i a0 g0 a1 g1 g2 a2 g3
  obtain ⟨hg,h⟩:=bif_pair h
  simp only [Bool.and_eq_true] at hg
  obtain ⟨⟨⟨q0,q1⟩,q2⟩,q3⟩:=hg
  obtain rfl:=cE q0
  obtain rfl:=bE q1
  obtain rfl:=cE q2
  obtain rfl:=bE q3
  obtain ⟨h1,rfl⟩:=pair_inj h
  exact (e166 a0 a1 a2).trans (of_tt (brT (fun b=>some (AV.bool (bif b then true else decide (a0 > fI a2 0)))) (fun _=>rfl) (fun _=>rfl)))
 ·cases h
def G191_0 {β:Type} (t0:List AV) (t1_0:AV) (t1_1:AV) (t7:Int) (t8:Int) (N:(Int)→β) (K:(Unit ⊕ Int)→β) (d:β):β:=(bif decide (t8<t7) then (bif (decide (0≤t8) && decide (t8<(t0.length:Int))) then (bif (v166_0 (fI (t0.getD t8.toNat .undef) 0) t1_0 t1_1) then K (.inr t8)
 else N (IntKind.i64.wrap (t8+1)))
 else d)
 else K (.inl ()))
def F191_0 (t0:List AV) (t1_0 t1_1:AV) (t7 t8:Int):Out (Int) (Unit ⊕ Int):=G191_0 t0 t1_0 t1_1 t7 t8 .next .stop .fail
def R191_0 (t0:List AV) (t1_0 t1_1:AV) (t7:Int):(Int)→Out (Int) (Unit ⊕ Int):=fun s:Int=>F191_0 t0 t1_0 t1_1 t7 s
def E191_0 (t0:List AV) (t1_0 t1_1:AV) (t7:Int):(Int)→St:=fun s:Int=>⟨[(0,AV.sl [.int .i64] t0),(1,AV.fn 166 [AV.rptr [.int .i64] t1_0 0,AV.rptr [.int .i64] t1_1 0]),(7,Ai t7),(8,Ai s)],[]⟩
def K191_0 (t0:List AV) (t1_0 t1_1:AV) (t7:Int) (k:Kont):(Unit ⊕ Int)→Option AV:=sumE (fun _:Unit=>k (.exit 0) ⟨[],[]⟩) (fun p:Int=>k .ret ⟨[(4,Ai p)],[]⟩)
def l191_0:LModel:=fun _ _ st k=>match st with
 | ⟨[(0,.sl g0 t0),(1,.fn g1 [.rptr g2 t1_0 g3,.rptr g4 t1_1 g5]),(7,.int .i64 t7),(8,.int .i64 t8)],[]⟩=>bif ctsEq g0 ([.int .i64]) && Nat.beq g1 166 && ctsEq g2 ([.int .i64]) && Nat.beq g3 0 && ctsEq g4 ([.int .i64]) && Nat.beq g5 0 then ro (runW (R191_0 t0 t1_0 t1_1 t7) ((t7 - t8:Int).toNat+1) t8) none (K191_0 t0 t1_0 t1_1 t7 k) else none
 | _=>none
noncomputable def c191:Cfg:=cfg Tryz.prog [(191,0,[0,1,7,8]),(191,999,[4]),(191,1000,[]),(191,1001,[0,1,7,8])] [(166,m166)] [] [] [(191,0,l191_0)]
theorem s191_0 (t0:List AV) (t1_0 t1_1:AV) (t7:Int) (ce:CallE) (k:Kont) (s:Int) (next:St→Option AV):stepA (codeA c191 ce [] 191 0 (sub [1,0,1,0,0] (body Tryz.f191))) (normA [] [0,1,7,8]) next ((E191_0 t0 t1_0 t1_1 t7) s) k=G191_0 t0 t1_0 t1_1 t7 s (fun s=>next ((E191_0 t0 t1_0 t1_1 t7) s)) (K191_0 t0 t1_0 t1_1 t7 k) none:=by kernel_rfl
theorem st191_0 (t0:List AV) (t1_0 t1_1:AV) (t7:Int) (ce:CallE) (k:Kont) (s:Int) (next:St→Option AV):stepA (codeA c191 ce [] 191 0 (sub [1,0,1,0,0] (body Tryz.f191))) (normA [] [0,1,7,8]) next ((E191_0 t0 t1_0 t1_1 t7) s) k=(R191_0 t0 t1_0 t1_1 t7 s).el none (fun s=>next ((E191_0 t0 t1_0 t1_1 t7) s)) (K191_0 t0 t1_0 t1_1 t7 k):=(s191_0 t0 t1_0 t1_1 t7 ce k s next).trans (by unfold R191_0;unfold F191_0 G191_0;simp only [el_cond,el_ro,el_sum,el_fail,el_next,el_stop] <;> rfl)
theorem ok191_0 {ce:CallE}:LoopOK c191 ce [] 191 0 (sub [1,0,1,0,0] (body Tryz.f191)):=by
 intro m hm st k r h
 obtain rfl:l191_0=m:=Option.some.inj hm
 unfold l191_0 at h
 split at h
 ·rename_i g0 t0 g1 g2 t1_0 g3 g4 t1_1 g5 t7 t8
  obtain ⟨hg,h⟩:=bif_some h
  simp only [Bool.and_eq_true] at hg
  obtain ⟨⟨⟨⟨⟨q0,q1⟩,q2⟩,q3⟩,q4⟩,q5⟩:=hg
  obtain rfl:=cE q0
  obtain rfl:=bE q1
  obtain rfl:=cE q2
  obtain rfl:=bE q3
  obtain rfl:=cE q4
  obtain rfl:=bE q5
  refine ⟨((t7 - t8:Int).toNat+1),?_⟩
  rw [← h]
  exact loop_run (E191_0 t0 t1_0 t1_1 t7) (K191_0 t0 t1_0 t1_1 t7 k) (st191_0 t0 t1_0 t1_1 t7 ce k) _ t8
 ·cases h
def q191 (a0:List AV) (ya yb:AV):Bool:=(ro (runW (R191_0 a0 ya yb (a0.length:Int)) (((a0.length:Int) - 0:Int).toNat+1) 0) false (sumE (fun _=>true) (fun p28=>true)))
def v191_0 (a0:List AV) (ya yb:AV):Int:=(ro (runW (R191_0 a0 ya yb (a0.length:Int)) (((a0.length:Int) - 0:Int).toNat+1) 0) 0 (sumE (fun _=>(-1)) (fun p28=>p28)))
theorem e191 (a0:List AV) (ya yb:AV):funA c191 0 191 [AV.sl [.int .i64] a0,AV.fn 166 [AV.rptr [.int .i64] ya 0,AV.rptr [.int .i64] yb 0]]=(ro (runW (R191_0 a0 ya yb (a0.length:Int)) (((a0.length:Int) - 0:Int).toNat+1) 0) none (sumE (fun _=>some (Ai (-1))) (fun p28=>some (Ai p28)))):=by kernel_rfl
def m191:TModel
 | [.sl g0 a0,.fn g1 [.rptr g2 ya g3,.rptr g4 yb g5]]=>bif ctsEq g0 ([.int .i64]) && Nat.beq g1 166 && ctsEq g2 ([.int .i64]) && Nat.beq g3 0 && ctsEq g4 ([.int .i64]) && Nat.beq g5 0 then some (q191 a0 ya yb,AV.int .i64 (v191_0 a0 ya yb)) else none
 | _=>none
theorem k191:Known Tryz.prog 191:=⟨Tryz.f191,Tryz.func191,by kernel_rfl,by kernel_rfl⟩
theorem meets191:Meets Tryz.prog 191 m191:=by
 refine mt (lvl:=0) (cf:=c191) rfl mixed k191 Tryz.func191 (by kernel_rfl) (loops_cons ok191_0 noLoop) (allT_cons meets166 allT_nil) allM_nil noI fun xs r h=>?_
 unfold m191 at h
 split at h
 ·rename_i g0 a0 g1 g2 ya g3 g4 yb g5
  obtain ⟨hg,h⟩:=bif_pair h
  simp only [Bool.and_eq_true] at hg
  obtain ⟨⟨⟨⟨⟨q0,q1⟩,q2⟩,q3⟩,q4⟩,q5⟩:=hg
  obtain rfl:=cE q0
  obtain rfl:=bE q1
  obtain rfl:=cE q2
  obtain rfl:=bE q3
  obtain rfl:=cE q4
  obtain rfl:=bE q5
  obtain ⟨h1,rfl⟩:=pair_inj h
  exact (e191 a0 ya yb).trans ((brO (fun o:Option (Unit ⊕ Int)=>some (Ai (ro o 0 (sumE (fun _=>(-1)) (fun p28=>p28))))) (brS (fun o:Unit ⊕ Int=>some (Ai ((sumE (fun _=>(-1)) (fun p28=>p28)) o))) (fun _=>(fun _=>rfl)) (fun p28=>(fun _=>rfl)))) h1)
 ·cases h
noncomputable def c165:Cfg:=cfg Tryz.prog [(165,999,[4])] [(191,m191)] [] [] []
def q165 (a0:List AV) (ya yb:AV):Bool:=q191 a0 ya yb
def v165_0 (a0:List AV) (ya yb:AV):Bool:=decide ((v191_0 a0 ya yb) ≥ 0)
theorem e165 (a0:List AV) (ya yb:AV):funA c165 0 165 [AV.sl [.int .i64] a0,AV.fn 166 [AV.rptr [.int .i64] ya 0,AV.rptr [.int .i64] yb 0]]=(bif q191 a0 ya yb then some (AV.bool (decide ((v191_0 a0 ya yb) ≥ 0)))
 else none):=by kernel_rfl
def m165:TModel
 | [.sl g0 a0,.fn g1 [.rptr g2 ya g3,.rptr g4 yb g5]]=>bif ctsEq g0 ([.int .i64]) && Nat.beq g1 166 && ctsEq g2 ([.int .i64]) && Nat.beq g3 0 && ctsEq g4 ([.int .i64]) && Nat.beq g5 0 then some (q165 a0 ya yb,AV.bool (v165_0 a0 ya yb)) else none
 | _=>none
theorem k165:Known Tryz.prog 165:=⟨Tryz.f165,Tryz.func165,by kernel_rfl,by kernel_rfl⟩
theorem meets165:Meets Tryz.prog 165 m165:=by
 refine mt (lvl:=0) (cf:=c165) rfl mixed k165 Tryz.func165 (by kernel_rfl) noLoop (allT_cons meets191 allT_nil) allM_nil noI fun xs r h=>?_
 unfold m165 at h
 split at h
 ·rename_i g0 a0 g1 g2 ya g3 g4 yb g5
  obtain ⟨hg,h⟩:=bif_pair h
  simp only [Bool.and_eq_true] at hg
  obtain ⟨⟨⟨⟨⟨q0,q1⟩,q2⟩,q3⟩,q4⟩,q5⟩:=hg
  obtain rfl:=cE q0
  obtain rfl:=bE q1
  obtain rfl:=cE q2
  obtain rfl:=bE q3
  obtain rfl:=cE q4
  obtain rfl:=bE q5
  obtain ⟨h1,rfl⟩:=pair_inj h
  exact (e165 a0 ya yb).trans ((brL1 (fun _=>rfl)) h1)
 ·cases h
noncomputable def c106:Cfg:=cfg Tryz.prog [(106,999,[6])] [(165,m165)] [] [] []
def q106 (a0:List AV) (a1 a2:Int):Bool:=q165 a0 (AV.int .i64 a1) (AV.int .i64 a2)
def v106_0 (a0:List AV) (a1 a2:Int):Bool := !(v165_0 a0 (AV.int .i64 a1) (AV.int .i64 a2))
theorem e106 (a0:List AV) (a1 a2:Int):funA c106 0 106 [AV.sl [.int .i64] a0,Ai a1,Ai a2]=(bif q165 a0 (Ai a1) (Ai a2) then some (AV.bool (!(v165_0 a0 (Ai a1) (Ai a2))))
 else none):=by kernel_rfl
def m106:TModel
 | [.sl g0 a0,.int .i64 a1,.int .i64 a2]=>bif ctsEq g0 ([.int .i64]) then some (q106 a0 a1 a2,AV.bool (v106_0 a0 a1 a2)) else none
 | _=>none
theorem k106:Known Tryz.prog 106:=⟨Tryz.f106,Tryz.func106,by kernel_rfl,by kernel_rfl⟩
theorem meets106:Meets Tryz.prog 106 m106:=by
 refine mt (lvl:=0) (cf:=c106) rfl mixed k106 Tryz.func106 (by kernel_rfl) noLoop (allT_cons meets165 allT_nil) allM_nil noI fun xs r h=>?_
 unfold m106 at h
 split at h
 ·rename_i g0 a0 a1 a2
  obtain ⟨hg,h⟩:=bif_pair h
  have q0:=hg
  obtain rfl:=cE q0
  obtain ⟨h1,rfl⟩:=pair_inj h
  exact (e106 a0 a1 a2).trans ((brL1 (fun _=>rfl)) h1)
 ·cases h
noncomputable def c95:Cfg:=cfg Tryz.prog [(95,999,[2])] [(106,m106)] [] [] []
def q95 (a0:List AV):Bool:=(bif decide ((a0.length:Int)≤64) then q106 a0 (-999) 999 else true)
def v95_0 (a0:List AV):Bool:=(bif decide ((a0.length:Int)≤64) then (v106_0 a0 (-999) 999) else false)
theorem e95 (a0:List AV):funA c95 0 95 [AV.sl [.int .i64] a0]=(bif decide ((a0.length:Int)≤64) then (bif q106 a0 (-999) 999 then some (AV.bool (v106_0 a0 (-999) 999))
 else none)
 else some (AV.bool false)):=by kernel_rfl
def m95:TModel
 | [.sl g0 a0]=>bif ctsEq g0 ([.int .i64]) then some (q95 a0,AV.bool (v95_0 a0)) else none
 | _=>none
theorem k95:Known Tryz.prog 95:=⟨Tryz.f95,Tryz.func95,by kernel_rfl,by kernel_rfl⟩
theorem meets95:Meets Tryz.prog 95 m95:=by
 refine mt (lvl:=0) (cf:=c95) rfl mixed k95 Tryz.func95 (by kernel_rfl) noLoop (allT_cons meets106 allT_nil) allM_nil noI fun xs r h=>?_
 unfold m95 at h
 split at h
 ·rename_i g0 a0
  obtain ⟨hg,h⟩:=bif_pair h
  have q0:=hg
  obtain rfl:=cE q0
  obtain ⟨h1,rfl⟩:=pair_inj h
  exact (e95 a0).trans ((br (fun b=>some (AV.bool (bif b then (v106_0 a0 (-999) 999) else false))) (brL1 (fun _=>rfl)) (fun _=>rfl)) h1)
 ·cases h
def G167_0 {β:Type} (t0:List AV) (t1:Int) (t7:Int) (t8:Int) (N:(Int)→β) (K:(Unit ⊕ Int)→β) (d:β):β:=(bif decide (t8<t7) then (bif (decide (0≤t8) && decide (t8<(t0.length:Int))) then (bif decide (t1=fI (t0.getD t8.toNat .undef) 0) then K (.inr t8)
 else N (IntKind.i64.wrap (t8+1)))
 else d)
 else K (.inl ()))
def F167_0 (t0:List AV) (t1 t7 t8:Int):Out (Int) (Unit ⊕ Int):=G167_0 t0 t1 t7 t8 .next .stop .fail
def R167_0 (t0:List AV) (t1 t7:Int):(Int)→Out (Int) (Unit ⊕ Int):=fun s:Int=>F167_0 t0 t1 t7 s
def E167_0 (t0:List AV) (t1 t7:Int):(Int)→St:=fun s:Int=>⟨[(0,AV.sl [.int .i64] t0),(1,Ai t1),(7,Ai t7),(8,Ai s)],[]⟩
def K167_0 (t0:List AV) (t1 t7:Int) (k:Kont):(Unit ⊕ Int)→Option AV:=sumE (fun _:Unit=>k (.exit 0) ⟨[],[]⟩) (fun p:Int=>k .ret ⟨[(4,Ai p)],[]⟩)
def l167_0:LModel:=fun _ _ st k=>match st with
 | ⟨[(0,.sl g0 t0),(1,.int .i64 t1),(7,.int .i64 t7),(8,.int .i64 t8)],[]⟩=>bif ctsEq g0 ([.int .i64]) then ro (runW (R167_0 t0 t1 t7) ((t7 - t8:Int).toNat+1) t8) none (K167_0 t0 t1 t7 k) else none
 | _=>none
noncomputable def c167:Cfg:=cfg Tryz.prog [(167,0,[0,1,7,8]),(167,999,[4]),(167,1000,[]),(167,1001,[0,1,7,8])] [] [] [] [(167,0,l167_0)]
theorem s167_0 (t0:List AV) (t1 t7:Int) (ce:CallE) (k:Kont) (s:Int) (next:St→Option AV):stepA (codeA c167 ce [] 167 0 (sub [1,0,1,0,0] (body Tryz.f167))) (normA [] [0,1,7,8]) next ((E167_0 t0 t1 t7) s) k=G167_0 t0 t1 t7 s (fun s=>next ((E167_0 t0 t1 t7) s)) (K167_0 t0 t1 t7 k) none:=by kernel_rfl
theorem st167_0 (t0:List AV) (t1 t7:Int) (ce:CallE) (k:Kont) (s:Int) (next:St→Option AV):stepA (codeA c167 ce [] 167 0 (sub [1,0,1,0,0] (body Tryz.f167))) (normA [] [0,1,7,8]) next ((E167_0 t0 t1 t7) s) k=(R167_0 t0 t1 t7 s).el none (fun s=>next ((E167_0 t0 t1 t7) s)) (K167_0 t0 t1 t7 k):=(s167_0 t0 t1 t7 ce k s next).trans (by unfold R167_0;unfold F167_0 G167_0;simp only [el_cond,el_ro,el_sum,el_fail,el_next,el_stop] <;> rfl)
theorem ok167_0 {ce:CallE}:LoopOK c167 ce [] 167 0 (sub [1,0,1,0,0] (body Tryz.f167)):=by
 intro m hm st k r h
 obtain rfl:l167_0=m:=Option.some.inj hm
 unfold l167_0 at h
 split at h
 ·rename_i g0 t0 t1 t7 t8
  obtain ⟨hg,h⟩:=bif_some h
  have q0:=hg
  obtain rfl:=cE q0
  refine ⟨((t7 - t8:Int).toNat+1),?_⟩
  rw [← h]
  exact loop_run (E167_0 t0 t1 t7) (K167_0 t0 t1 t7 k) (st167_0 t0 t1 t7 ce k) _ t8
 ·cases h
def q167 (a0:List AV) (a1:Int):Bool:=(ro (runW (R167_0 a0 a1 (a0.length:Int)) (((a0.length:Int) - 0:Int).toNat+1) 0) false (sumE (fun _=>true) (fun p30=>true)))
def v167_0 (a0:List AV) (a1:Int):Int:=(ro (runW (R167_0 a0 a1 (a0.length:Int)) (((a0.length:Int) - 0:Int).toNat+1) 0) 0 (sumE (fun _=>(-1)) (fun p30=>p30)))
theorem e167 (a0:List AV) (a1:Int):funA c167 0 167 [AV.sl [.int .i64] a0,Ai a1]=(ro (runW (R167_0 a0 a1 (a0.length:Int)) (((a0.length:Int) - 0:Int).toNat+1) 0) none (sumE (fun _=>some (Ai (-1))) (fun p30=>some (Ai p30)))):=by kernel_rfl
def m167:TModel
 | [.sl g0 a0,.int .i64 a1]=>bif ctsEq g0 ([.int .i64]) then some (q167 a0 a1,AV.int .i64 (v167_0 a0 a1)) else none
 | _=>none
theorem k167:Known Tryz.prog 167:=⟨Tryz.f167,Tryz.func167,by kernel_rfl,by kernel_rfl⟩
theorem meets167:Meets Tryz.prog 167 m167:=by
 refine mt (lvl:=0) (cf:=c167) rfl mixed k167 Tryz.func167 (by kernel_rfl) (loops_cons ok167_0 noLoop) allT_nil allM_nil noI fun xs r h=>?_
 unfold m167 at h
 split at h
 ·rename_i g0 a0 a1
  obtain ⟨hg,h⟩:=bif_pair h
  have q0:=hg
  obtain rfl:=cE q0
  obtain ⟨h1,rfl⟩:=pair_inj h
  exact (e167 a0 a1).trans ((brO (fun o:Option (Unit ⊕ Int)=>some (Ai (ro o 0 (sumE (fun _=>(-1)) (fun p30=>p30))))) (brS (fun o:Unit ⊕ Int=>some (Ai ((sumE (fun _=>(-1)) (fun p30=>p30)) o))) (fun _=>(fun _=>rfl)) (fun p30=>(fun _=>rfl)))) h1)
 ·cases h
noncomputable def c107:Cfg:=cfg Tryz.prog [(107,999,[4])] [(167,m167)] [] [] []
def q107 (a0:List AV) (a1:Int):Bool:=q167 a0 a1
def v107_0 (a0:List AV) (a1:Int):Bool:=decide ((v167_0 a0 a1) ≥ 0)
theorem e107 (a0:List AV) (a1:Int):funA c107 0 107 [AV.sl [.int .i64] a0,Ai a1]=(bif q167 a0 a1 then some (AV.bool (decide ((v167_0 a0 a1) ≥ 0)))
 else none):=by kernel_rfl
def m107:TModel
 | [.sl g0 a0,.int .i64 a1]=>bif ctsEq g0 ([.int .i64]) then some (q107 a0 a1,AV.bool (v107_0 a0 a1)) else none
 | _=>none
theorem k107:Known Tryz.prog 107:=⟨Tryz.f107,Tryz.func107,by kernel_rfl,by kernel_rfl⟩
theorem meets107:Meets Tryz.prog 107 m107:=by
 refine mt (lvl:=0) (cf:=c107) rfl mixed k107 Tryz.func107 (by kernel_rfl) noLoop (allT_cons meets167 allT_nil) allM_nil noI fun xs r h=>?_
 unfold m107 at h
 split at h
 ·rename_i g0 a0 a1
  obtain ⟨hg,h⟩:=bif_pair h
  have q0:=hg
  obtain rfl:=cE q0
  obtain ⟨h1,rfl⟩:=pair_inj h
  exact (e107 a0 a1).trans ((brL1 (fun _=>rfl)) h1)
 ·cases h
noncomputable def c108:Cfg:=cfg Tryz.prog [(108,999,[2])] [] [] [] []
def v108_0 (a0:Int):Bool:=(bif decide (a0 ≥ (-1000)) then decide (a0≤1000) else false)
theorem e108 (a0:Int):funA c108 0 108 [Ai a0]=(bif decide (a0 ≥ (-1000)) then some (AV.bool (decide (a0≤1000)))
 else some (AV.bool false)):=by kernel_rfl
def m108:TModel
 | [.int .i64 a0]=>some (true,AV.bool (v108_0 a0))
 | _=>none
theorem k108:Known Tryz.prog 108:=⟨Tryz.f108,Tryz.func108,by kernel_rfl,by kernel_rfl⟩
theorem meets108:Meets Tryz.prog 108 m108:=by
 refine mt (lvl:=0) (cf:=c108) rfl mixed k108 Tryz.func108 (by kernel_rfl) noLoop allT_nil allM_nil noI fun xs r h=>?_
 unfold m108 at h
 split at h
 ·rename_i a0
  obtain ⟨h1,rfl⟩:=pair_inj h
  exact (e108 a0).trans (of_tt (brT (fun b=>some (AV.bool (bif b then decide (a0≤1000) else false))) (fun _=>rfl) (fun _=>rfl)))
 ·cases h
end
end Go.Proofs.YtealoedecngaoaaGreatDoor
