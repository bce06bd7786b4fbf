import Derived.Test.YtbmfgibbjchijaaGreatP6
import Derived.Test.YtbmfgibbjchijaaGreatP7
import Derived.Test.YtbmfgibbjchijaaGreatP8
import Derived.Test.YtbmfgibbjchijaaGreatP5
import Derived.Test.YtbmfgibbjchijaaGreatProg
import Derived.KernelRfl
namespace Go.Proofs.YtbmfgibbjchijaaGreat
open Go Go.Proofs.VE
set_option linter.unusedVariables false
set_option linter.unusedSimpArgs false
set_option maxRecDepth 100000
set_option maxHeartbeats 4000000
theorem mixed:Tryz.prog.follows .mixedOrders=true:=by kernel_rfl
noncomputable section
noncomputable def c6:Cfg:=cfg Tryz.prog [(6,999,[2])] [] [] [] []
def q6 (a0:List AV):Bool:=true
def v6_0 (a0:List AV):Bool:=decide ((a0.length:Int) > 1048576)
theorem e6 (a0:List AV):funA c6 0 6 [AV.sl [.int .u8] a0]=some (AV.bool (decide ((a0.length:Int) > 1048576))):=by kernel_rfl
def m6:TModel
 | [.sl g0 a0]=>bif ctsEq g0 ([.int .u8]) then some (true,AV.bool (v6_0 a0)) else none
 | _=>none
theorem k6:Known Tryz.prog 6:=⟨Tryz.f6,Tryz.func6,by kernel_rfl,by kernel_rfl⟩
theorem meets6:Meets Tryz.prog 6 m6:=by
 refine mt (lvl:=0) (cf:=c6) rfl mixed k6 Tryz.func6 (by kernel_rfl) noLoop allT_nil allM_nil noI fun xs r h=>?_
 unfold m6 at h
 split at h
 ·rename_i g0 a0
  obtain ⟨hg,h⟩:=bif_pair h
  have q0:=hg
  obtain rfl:=cE q0
  obtain ⟨h1,rfl⟩:=pair_inj h
  exact (e6 a0).trans (of_tt (fun _=>rfl))
 ·cases h
noncomputable def c95:Cfg:=cfg Tryz.prog [(95,999,[2])] [] [] [] []
def q95 (ua:List AV) (ub uc:Int):Bool:=(bif decide (ub<(ua.length:Int)) then (decide (0≤ub) && decide (ub<(ua.length:Int))) else true)
def v95_0 (ua:List AV) (ub uc:Int):Int:=VE.hid (fun (ua:List AV) (ub:Int) (uc:Int)=>(bif decide (ub<(ua.length:Int)) then IntKind.i64.wrap ((BitVec.ofInt 64 (IntKind.i64.wrap (IntKind.i64.wrap ((BitVec.ofInt 64 (IntKind.i64.wrap ((BitVec.ofInt 64 (Int.fdiv (IntKind.i64.wrap (IntKind.i64.wrap (uc*6364136223846793005)+1442695040888963407)) (2 ^ 33)) ^^^ BitVec.ofInt 64 (Int.fdiv (IntKind.i64.wrap (IntKind.i64.wrap (uc*6364136223846793005)+1442695040888963407)) (2 ^ 45))).toNat:Int)) &&& BitVec.ofInt 64 255).toNat:Int)+IntKind.i64.wrap (fI (ua.getD ub.toNat .undef) 0))) &&& BitVec.ofInt 64 255).toNat:Int) else IntKind.i64.wrap ((BitVec.ofInt 64 (IntKind.i64.wrap ((BitVec.ofInt 64 (Int.fdiv (IntKind.i64.wrap (IntKind.i64.wrap (uc*6364136223846793005)+1442695040888963407)) (2 ^ 33)) ^^^ BitVec.ofInt 64 (Int.fdiv (IntKind.i64.wrap (IntKind.i64.wrap (uc*6364136223846793005)+1442695040888963407)) (2 ^ 45))).toNat:Int)) &&& BitVec.ofInt 64 255).toNat:Int))) ua ub uc
def v95_1 (ua:List AV) (ub uc:Int):List AV:=ua
def v95_2 (ua:List AV) (ub uc:Int):Int:=VE.hid (fun (ua:List AV) (ub:Int) (uc:Int)=>(bif decide (ub<(ua.length:Int)) then IntKind.i64.wrap (ub+1) else ub)) ua ub uc
def v95_3 (ua:List AV) (ub uc:Int):Int:=VE.hid (fun (ua:List AV) (ub:Int) (uc:Int)=>IntKind.i64.wrap (IntKind.i64.wrap (uc*6364136223846793005)+1442695040888963407)) ua ub uc
theorem e95 (ua:List AV) (ub uc:Int) (K:List AV→List (Option Blk)→Option AV):inlA c95 1 95 [AV.ptr [1] 0 0] [0] (canH 1 [⟨true,[],[AV.agg [AV.sl [.int .u8] ua,Ai ub,Ai uc]]⟩]) (keepG Tryz.prog 1 [3] [] K)=(bif decide (ub<(ua.length:Int)) then (bif (decide (0≤ub) && decide (ub<(ua.length:Int))) then K [Ai (IntKind.i64.wrap ((BitVec.ofInt 64 (IntKind.i64.wrap (IntKind.i64.wrap ((BitVec.ofInt 64 (IntKind.i64.wrap ((BitVec.ofInt 64 (Int.fdiv (IntKind.i64.wrap (IntKind.i64.wrap (uc*6364136223846793005)+1442695040888963407)) (2 ^ 33)) ^^^ BitVec.ofInt 64 (Int.fdiv (IntKind.i64.wrap (IntKind.i64.wrap (uc*6364136223846793005)+1442695040888963407)) (2 ^ 45))).toNat:Int)) &&& BitVec.ofInt 64 255).toNat:Int)+IntKind.i64.wrap (fI (ua.getD ub.toNat .undef) 0))) &&& BitVec.ofInt 64 255).toNat:Int))] [some ⟨true,[],[AV.agg [AV.sl [.int .u8] ua,Ai (IntKind.i64.wrap (ub+1)),Ai (IntKind.i64.wrap (IntKind.i64.wrap (uc*6364136223846793005)+1442695040888963407))]]⟩]
 else none)
 else K [Ai (IntKind.i64.wrap ((BitVec.ofInt 64 (IntKind.i64.wrap ((BitVec.ofInt 64 (Int.fdiv (IntKind.i64.wrap (IntKind.i64.wrap (uc*6364136223846793005)+1442695040888963407)) (2 ^ 33)) ^^^ BitVec.ofInt 64 (Int.fdiv (IntKind.i64.wrap (IntKind.i64.wrap (uc*6364136223846793005)+1442695040888963407)) (2 ^ 45))).toNat:Int)) &&& BitVec.ofInt 64 255).toNat:Int))] [some ⟨true,[],[AV.agg [AV.sl [.int .u8] ua,Ai ub,Ai (IntKind.i64.wrap (IntKind.i64.wrap (uc*6364136223846793005)+1442695040888963407))]]⟩]):=by kernel_rfl
theorem r95 (ua:List AV) (ub uc:Int) (K:List AV→List (Option Blk)→Option AV) (h:q95 ua ub uc=true):inlA c95 1 95 [AV.ptr [1] 0 0] [0] (canH 1 [⟨true,[],[AV.agg [AV.sl [.int .u8] ua,AV.int .i64 ub,AV.int .i64 uc]]⟩]) (keepG Tryz.prog 1 [3] [] K)=K [AV.int .i64 (v95_0 ua ub uc)] [some ⟨true,[],[AV.agg [AV.sl [.int .u8] (v95_1 ua ub uc),AV.int .i64 (v95_2 ua ub uc),AV.int .i64 (v95_3 ua ub uc)]]⟩]:=by
 unfold v95_0 v95_2 v95_3
 simp only [VE.hid_eq]
 exact (e95 ua ub uc K).trans ((br (fun b=>K [AV.int .i64 (bif b then IntKind.i64.wrap ((BitVec.ofInt 64 (IntKind.i64.wrap (IntKind.i64.wrap ((BitVec.ofInt 64 (IntKind.i64.wrap ((BitVec.ofInt 64 (Int.fdiv (IntKind.i64.wrap (IntKind.i64.wrap (uc*6364136223846793005)+1442695040888963407)) (2 ^ 33)) ^^^ BitVec.ofInt 64 (Int.fdiv (IntKind.i64.wrap (IntKind.i64.wrap (uc*6364136223846793005)+1442695040888963407)) (2 ^ 45))).toNat:Int)) &&& BitVec.ofInt 64 255).toNat:Int)+IntKind.i64.wrap (fI (ua.getD ub.toNat .undef) 0))) &&& BitVec.ofInt 64 255).toNat:Int) else IntKind.i64.wrap ((BitVec.ofInt 64 (IntKind.i64.wrap ((BitVec.ofInt 64 (Int.fdiv (IntKind.i64.wrap (IntKind.i64.wrap (uc*6364136223846793005)+1442695040888963407)) (2 ^ 33)) ^^^ BitVec.ofInt 64 (Int.fdiv (IntKind.i64.wrap (IntKind.i64.wrap (uc*6364136223846793005)+1442695040888963407)) (2 ^ 45))).toNat:Int)) &&& BitVec.ofInt 64 255).toNat:Int))] [some ⟨true,[],[AV.agg [AV.sl [.int .u8] ua,AV.int .i64 (bif b then IntKind.i64.wrap (ub+1) else ub),AV.int .i64 (IntKind.i64.wrap (IntKind.i64.wrap (uc*6364136223846793005)+1442695040888963407))]]⟩]) (brL1 (fun _=>rfl)) (fun _=>rfl)) h)
def m95:GModel
 | [.ptr g0 g1 g2],[⟨true,[],[.agg [.sl g3 ua,.int .i64 ub,.int .i64 uc]]⟩]=>bif nmEq g0 ([1]) && Nat.beq g1 0 && Nat.beq g2 0 && ctsEq g3 ([.int .u8]) then some (q95 ua ub uc,[AV.int .i64 (v95_0 ua ub uc)],[some ⟨true,[],[AV.agg [AV.sl [.int .u8] (v95_1 ua ub uc),AV.int .i64 (v95_2 ua ub uc),AV.int .i64 (v95_3 ua ub uc)]]⟩]) else none
 | _,_=>none
theorem k95:Known Tryz.prog 95:=⟨Tryz.f95,Tryz.func95,by kernel_rfl,by kernel_rfl⟩
theorem meets95:MeetsG Tryz.prog 95 m95:=by
 refine mg (rt:=[3]) (gs:=[]) (lvl:=0) (cf:=c95) rfl mixed k95 Tryz.func95 (by kernel_rfl) noLoop allT_nil allM_nil noI fun xs bs r bs' h K=>?_
 unfold m95 at h
 split at h
 ·rename_i g0 g1 g2 g3 ua ub uc
  obtain ⟨hg,h⟩:=bif_pair h
  simp only [Bool.and_eq_true] at hg
  obtain ⟨⟨⟨q0,q1⟩,q2⟩,q3⟩:=hg
  obtain rfl:=nE q0
  obtain rfl:=bE q1
  obtain rfl:=bE q2
  obtain rfl:=cE q3
  obtain ⟨h1,rfl,rfl⟩:=trip_inj h
  exact r95 ua ub uc K h1
 ·cases h
noncomputable def c42:Cfg:=cfg Tryz.prog [(42,999,[4])] [] [(95,.g m95)] [] []
def q42 (a1:Int) (ua:List AV) (ub uc:Int):Bool:=(bif decide (a1≤0) then true else (bif decide (a1≤256) then (q95 ua ub uc && !decide (a1=0)) else (q95 ua ub uc && (q95 (v95_1 ua ub uc) (v95_2 ua ub uc) (v95_3 ua ub uc) && (q95 (v95_1 (v95_1 ua ub uc) (v95_2 ua ub uc) (v95_3 ua ub uc)) (v95_2 (v95_1 ua ub uc) (v95_2 ua ub uc) (v95_3 ua ub uc)) (v95_3 (v95_1 ua ub uc) (v95_2 ua ub uc) (v95_3 ua ub uc)) && (q95 (v95_1 (v95_1 (v95_1 ua ub uc) (v95_2 ua ub uc) (v95_3 ua ub uc)) (v95_2 (v95_1 ua ub uc) (v95_2 ua ub uc) (v95_3 ua ub uc)) (v95_3 (v95_1 ua ub uc) (v95_2 ua ub uc) (v95_3 ua ub uc))) (v95_2 (v95_1 (v95_1 ua ub uc) (v95_2 ua ub uc) (v95_3 ua ub uc)) (v95_2 (v95_1 ua ub uc) (v95_2 ua ub uc) (v95_3 ua ub uc)) (v95_3 (v95_1 ua ub uc) (v95_2 ua ub uc) (v95_3 ua ub uc))) (v95_3 (v95_1 (v95_1 ua ub uc) (v95_2 ua ub uc) (v95_3 ua ub uc)) (v95_2 (v95_1 ua ub uc) (v95_2 ua ub uc) (v95_3 ua ub uc)) (v95_3 (v95_1 ua ub uc) (v95_2 ua ub uc) (v95_3 ua ub uc))) && !decide (a1=0)))))))
def v42_0 (a1:Int) (ua:List AV) (ub uc:Int):Int:=VE.hid (fun (a1:Int) (ua:List AV) (ub:Int) (uc:Int)=>(bif decide (a1≤0) then 0 else (bif decide (a1≤256) then Int.tmod (v95_0 ua ub uc) a1 else Int.tmod (IntKind.i64.wrap (IntKind.i64.wrap (IntKind.i64.wrap (IntKind.i64.wrap ((v95_0 ua ub uc)*16777216)+IntKind.i64.wrap ((v95_0 (v95_1 ua ub uc) (v95_2 ua ub uc) (v95_3 ua ub uc))*65536))+IntKind.i64.wrap ((v95_0 (v95_1 (v95_1 ua ub uc) (v95_2 ua ub uc) (v95_3 ua ub uc)) (v95_2 (v95_1 ua ub uc) (v95_2 ua ub uc) (v95_3 ua ub uc)) (v95_3 (v95_1 ua ub uc) (v95_2 ua ub uc) (v95_3 ua ub uc)))*256))+(v95_0 (v95_1 (v95_1 (v95_1 ua ub uc) (v95_2 ua ub uc) (v95_3 ua ub uc)) (v95_2 (v95_1 ua ub uc) (v95_2 ua ub uc) (v95_3 ua ub uc)) (v95_3 (v95_1 ua ub uc) (v95_2 ua ub uc) (v95_3 ua ub uc))) (v95_2 (v95_1 (v95_1 ua ub uc) (v95_2 ua ub uc) (v95_3 ua ub uc)) (v95_2 (v95_1 ua ub uc) (v95_2 ua ub uc) (v95_3 ua ub uc)) (v95_3 (v95_1 ua ub uc) (v95_2 ua ub uc) (v95_3 ua ub uc))) (v95_3 (v95_1 (v95_1 ua ub uc) (v95_2 ua ub uc) (v95_3 ua ub uc)) (v95_2 (v95_1 ua ub uc) (v95_2 ua ub uc) (v95_3 ua ub uc)) (v95_3 (v95_1 ua ub uc) (v95_2 ua ub uc) (v95_3 ua ub uc)))))) a1))) a1 ua ub uc
def v42_1 (a1:Int) (ua:List AV) (ub uc:Int):List AV:=VE.hid (fun (a1:Int) (ua:List AV) (ub:Int) (uc:Int)=>(bif decide (a1≤0) then ua else (bif decide (a1≤256) then (v95_1 ua ub uc) else (v95_1 (v95_1 (v95_1 (v95_1 ua ub uc) (v95_2 ua ub uc) (v95_3 ua ub uc)) (v95_2 (v95_1 ua ub uc) (v95_2 ua ub uc) (v95_3 ua ub uc)) (v95_3 (v95_1 ua ub uc) (v95_2 ua ub uc) (v95_3 ua ub uc))) (v95_2 (v95_1 (v95_1 ua ub uc) (v95_2 ua ub uc) (v95_3 ua ub uc)) (v95_2 (v95_1 ua ub uc) (v95_2 ua ub uc) (v95_3 ua ub uc)) (v95_3 (v95_1 ua ub uc) (v95_2 ua ub uc) (v95_3 ua ub uc))) (v95_3 (v95_1 (v95_1 ua ub uc) (v95_2 ua ub uc) (v95_3 ua ub uc)) (v95_2 (v95_1 ua ub uc) (v95_2 ua ub uc) (v95_3 ua ub uc)) (v95_3 (v95_1 ua ub uc) (v95_2 ua ub uc) (v95_3 ua ub uc))))))) a1 ua ub uc
def v42_2 (a1:Int) (ua:List AV) (ub uc:Int):Int:=VE.hid (fun (a1:Int) (ua:List AV) (ub:Int) (uc:Int)=>(bif decide (a1≤0) then ub else (bif decide (a1≤256) then (v95_2 ua ub uc) else (v95_2 (v95_1 (v95_1 (v95_1 ua ub uc) (v95_2 ua ub uc) (v95_3 ua ub uc)) (v95_2 (v95_1 ua ub uc) (v95_2 ua ub uc) (v95_3 ua ub uc)) (v95_3 (v95_1 ua ub uc) (v95_2 ua ub uc) (v95_3 ua ub uc))) (v95_2 (v95_1 (v95_1 ua ub uc) (v95_2 ua ub uc) (v95_3 ua ub uc)) (v95_2 (v95_1 ua ub uc) (v95_2 ua ub uc) (v95_3 ua ub uc)) (v95_3 (v95_1 ua ub uc) (v95_2 ua ub uc) (v95_3 ua ub uc))) (v95_3 (v95_1 (v95_1 ua ub uc) (v95_2 ua ub uc) (v95_3 ua ub uc)) (v95_2 (v95_1 ua ub uc) (v95_2 ua ub uc) (v95_3 ua ub uc)) (v95_3 (v95_1 ua ub uc) (v95_2 ua ub uc) (v95_3 ua ub uc))))))) a1 ua ub uc
def v42_3 (a1:Int) (ua:List AV) (ub uc:Int):Int:=VE.hid (fun (a1:Int) (ua:List AV) (ub:Int) (uc:Int)=>(bif decide (a1≤0) then uc else (bif decide (a1≤256) then (v95_3 ua ub uc) else (v95_3 (v95_1 (v95_1 (v95_1 ua ub uc) (v95_2 ua ub uc) (v95_3 ua ub uc)) (v95_2 (v95_1 ua ub uc) (v95_2 ua ub uc) (v95_3 ua ub uc)) (v95_3 (v95_1 ua ub uc) (v95_2 ua ub uc) (v95_3 ua ub uc))) (v95_2 (v95_1 (v95_1 ua ub uc) (v95_2 ua ub uc) (v95_3 ua ub uc)) (v95_2 (v95_1 ua ub uc) (v95_2 ua ub uc) (v95_3 ua ub uc)) (v95_3 (v95_1 ua ub uc) (v95_2 ua ub uc) (v95_3 ua ub uc))) (v95_3 (v95_1 (v95_1 ua ub uc) (v95_2 ua ub uc) (v95_3 ua ub uc)) (v95_2 (v95_1 ua ub uc) (v95_2 ua ub uc) (v95_3 ua ub uc)) (v95_3 (v95_1 ua ub uc) (v95_2 ua ub uc) (v95_3 ua ub uc))))))) a1 ua ub uc
theorem e42 (a1:Int) (ua:List AV) (ub uc:Int) (K:List AV→List (Option Blk)→Option AV):inlA c42 1 42 [AV.ptr [1] 0 0,Ai a1] [0] (canH 1 [⟨true,[],[AV.agg [AV.sl [.int .u8] ua,Ai ub,Ai uc]]⟩]) (keepG Tryz.prog 1 [3] [] K)=((fun (x1:Int) (x2:List AV) (x3:Int) (x4:Int)=>((fun (x5:Int) (x6:List AV) (x7:Int) (x8:Int)=>((fun (x9:Int) (x10:List AV) (x11:Int) (x12:Int)=>(bif decide (a1≤0) then K [Ai 0] [some ⟨true,[],[AV.agg [AV.sl [.int .u8] ua,Ai ub,Ai uc]]⟩]
 else (bif decide (a1≤256) then (bif q95 ua ub uc then (bif !decide (a1=0) then K [Ai (Int.tmod x1 a1)] [some ⟨true,[],[AV.agg [AV.sl [.int .u8] x2,Ai x3,Ai x4]]⟩]
 else none)
 else none)
 else (bif q95 ua ub uc then (bif q95 x2 x3 x4 then (bif q95 x6 x7 x8 then (bif q95 x10 x11 x12 then (bif !decide (a1=0) then K [Ai (Int.tmod (IntKind.i64.wrap (IntKind.i64.wrap (IntKind.i64.wrap (IntKind.i64.wrap (x1*16777216)+IntKind.i64.wrap (x5*65536))+IntKind.i64.wrap (x9*256))+(v95_0 x10 x11 x12))) a1)] [some ⟨true,[],[AV.agg [AV.sl [.int .u8] (v95_1 x10 x11 x12),Ai (v95_2 x10 x11 x12),Ai (v95_3 x10 x11 x12)]]⟩]
 else none)
 else none)
 else none)
 else none)
 else none)))) (v95_0 x6 x7 x8) (v95_1 x6 x7 x8) (v95_2 x6 x7 x8) (v95_3 x6 x7 x8))) (v95_0 x2 x3 x4) (v95_1 x2 x3 x4) (v95_2 x2 x3 x4) (v95_3 x2 x3 x4))) (v95_0 ua ub uc) (v95_1 ua ub uc) (v95_2 ua ub uc) (v95_3 ua ub uc)):=by kernel_rfl
theorem r42 (a1:Int) (ua:List AV) (ub uc:Int) (K:List AV→List (Option Blk)→Option AV) (h:q42 a1 ua ub uc=true):inlA c42 1 42 [AV.ptr [1] 0 0,AV.int .i64 a1] [0] (canH 1 [⟨true,[],[AV.agg [AV.sl [.int .u8] ua,AV.int .i64 ub,AV.int .i64 uc]]⟩]) (keepG Tryz.prog 1 [3] [] K)=K [AV.int .i64 (v42_0 a1 ua ub uc)] [some ⟨true,[],[AV.agg [AV.sl [.int .u8] (v42_1 a1 ua ub uc),AV.int .i64 (v42_2 a1 ua ub uc),AV.int .i64 (v42_3 a1 ua ub uc)]]⟩]:=by
 unfold v42_0 v42_1 v42_2 v42_3
 simp only [VE.hid_eq]
 exact (e42 a1 ua ub uc K).trans ((br (fun b=>K [AV.int .i64 (bif b then 0 else (bif decide (a1≤256) then Int.tmod (v95_0 ua ub uc) a1 else Int.tmod (IntKind.i64.wrap (IntKind.i64.wrap (IntKind.i64.wrap (IntKind.i64.wrap ((v95_0 ua ub uc)*16777216)+IntKind.i64.wrap ((v95_0 (v95_1 ua ub uc) (v95_2 ua ub uc) (v95_3 ua ub uc))*65536))+IntKind.i64.wrap ((v95_0 (v95_1 (v95_1 ua ub uc) (v95_2 ua ub uc) (v95_3 ua ub uc)) (v95_2 (v95_1 ua ub uc) (v95_2 ua ub uc) (v95_3 ua ub uc)) (v95_3 (v95_1 ua ub uc) (v95_2 ua ub uc) (v95_3 ua ub uc)))*256))+(v95_0 (v95_1 (v95_1 (v95_1 ua ub uc) (v95_2 ua ub uc) (v95_3 ua ub uc)) (v95_2 (v95_1 ua ub uc) (v95_2 ua ub uc) (v95_3 ua ub uc)) (v95_3 (v95_1 ua ub uc) (v95_2 ua ub uc) (v95_3 ua ub uc))) (v95_2 (v95_1 (v95_1 ua ub uc) (v95_2 ua ub uc) (v95_3 ua ub uc)) (v95_2 (v95_1 ua ub uc) (v95_2 ua ub uc) (v95_3 ua ub uc)) (v95_3 (v95_1 ua ub uc) (v95_2 ua ub uc) (v95_3 ua ub uc))) (v95_3 (v95_1 (v95_1 ua ub uc) (v95_2 ua ub uc) (v95_3 ua ub uc)) (v95_2 (v95_1 ua ub uc) (v95_2 ua ub uc) (v95_3 ua ub uc)) (v95_3 (v95_1 ua ub uc) (v95_2 ua ub uc) (v95_3 ua ub uc)))))) a1))] [some ⟨true,[],[AV.agg [AV.sl [.int .u8] (bif b then ua else (bif decide (a1≤256) then (v95_1 ua ub uc) else (v95_1 (v95_1 (v95_1 (v95_1 ua ub uc) (v95_2 ua ub uc) (v95_3 ua ub uc)) (v95_2 (v95_1 ua ub uc) (v95_2 ua ub uc) (v95_3 ua ub uc)) (v95_3 (v95_1 ua ub uc) (v95_2 ua ub uc) (v95_3 ua ub uc))) (v95_2 (v95_1 (v95_1 ua ub uc) (v95_2 ua ub uc) (v95_3 ua ub uc)) (v95_2 (v95_1 ua ub uc) (v95_2 ua ub uc) (v95_3 ua ub uc)) (v95_3 (v95_1 ua ub uc) (v95_2 ua ub uc) (v95_3 ua ub uc))) (v95_3 (v95_1 (v95_1 ua ub uc) (v95_2 ua ub uc) (v95_3 ua ub uc)) (v95_2 (v95_1 ua ub uc) (v95_2 ua ub uc) (v95_3 ua ub uc)) (v95_3 (v95_1 ua ub uc) (v95_2 ua ub uc) (v95_3 ua ub uc)))))),AV.int .i64 (bif b then ub else (bif decide (a1≤256) then (v95_2 ua ub uc) else (v95_2 (v95_1 (v95_1 (v95_1 ua ub uc) (v95_2 ua ub uc) (v95_3 ua ub uc)) (v95_2 (v95_1 ua ub uc) (v95_2 ua ub uc) (v95_3 ua ub uc)) (v95_3 (v95_1 ua ub uc) (v95_2 ua ub uc) (v95_3 ua ub uc))) (v95_2 (v95_1 (v95_1 ua ub uc) (v95_2 ua ub uc) (v95_3 ua ub uc)) (v95_2 (v95_1 ua ub uc) (v95_2 ua ub uc) (v95_3 ua ub uc)) (v95_3 (v95_1 ua ub uc) (v95_2 ua ub uc) (v95_3 ua ub uc))) (v95_3 (v95_1 (v95_1 ua ub uc) (v95_2 ua ub uc) (v95_3 ua ub uc)) (v95_2 (v95_1 ua ub uc) (v95_2 ua ub uc) (v95_3 ua ub uc)) (v95_3 (v95_1 ua ub uc) (v95_2 ua ub uc) (v95_3 ua ub uc)))))),AV.int .i64 (bif b then uc else (bif decide (a1≤256) then (v95_3 ua ub uc) else (v95_3 (v95_1 (v95_1 (v95_1 ua ub uc) (v95_2 ua ub uc) (v95_3 ua ub uc)) (v95_2 (v95_1 ua ub uc) (v95_2 ua ub uc) (v95_3 ua ub uc)) (v95_3 (v95_1 ua ub uc) (v95_2 ua ub uc) (v95_3 ua ub uc))) (v95_2 (v95_1 (v95_1 ua ub uc) (v95_2 ua ub uc) (v95_3 ua ub uc)) (v95_2 (v95_1 ua ub uc) (v95_2 ua ub uc) (v95_3 ua ub uc)) (v95_3 (v95_1 ua ub uc) (v95_2 ua ub uc) (v95_3 ua ub uc))) (v95_3 (v95_1 (v95_1 ua ub uc) (v95_2 ua ub uc) (v95_3 ua ub uc)) (v95_2 (v95_1 ua ub uc) (v95_2 ua ub uc) (v95_3 ua ub uc)) (v95_3 (v95_1 ua ub uc) (v95_2 ua ub uc) (v95_3 ua ub uc))))))]]⟩]) (fun _=>rfl) (br (fun b=>K [AV.int .i64 (bif b then Int.tmod (v95_0 ua ub uc) a1 else Int.tmod (IntKind.i64.wrap (IntKind.i64.wrap (IntKind.i64.wrap (IntKind.i64.wrap ((v95_0 ua ub uc)*16777216)+IntKind.i64.wrap ((v95_0 (v95_1 ua ub uc) (v95_2 ua ub uc) (v95_3 ua ub uc))*65536))+IntKind.i64.wrap ((v95_0 (v95_1 (v95_1 ua ub uc) (v95_2 ua ub uc) (v95_3 ua ub uc)) (v95_2 (v95_1 ua ub uc) (v95_2 ua ub uc) (v95_3 ua ub uc)) (v95_3 (v95_1 ua ub uc) (v95_2 ua ub uc) (v95_3 ua ub uc)))*256))+(v95_0 (v95_1 (v95_1 (v95_1 ua ub uc) (v95_2 ua ub uc) (v95_3 ua ub uc)) (v95_2 (v95_1 ua ub uc) (v95_2 ua ub uc) (v95_3 ua ub uc)) (v95_3 (v95_1 ua ub uc) (v95_2 ua ub uc) (v95_3 ua ub uc))) (v95_2 (v95_1 (v95_1 ua ub uc) (v95_2 ua ub uc) (v95_3 ua ub uc)) (v95_2 (v95_1 ua ub uc) (v95_2 ua ub uc) (v95_3 ua ub uc)) (v95_3 (v95_1 ua ub uc) (v95_2 ua ub uc) (v95_3 ua ub uc))) (v95_3 (v95_1 (v95_1 ua ub uc) (v95_2 ua ub uc) (v95_3 ua ub uc)) (v95_2 (v95_1 ua ub uc) (v95_2 ua ub uc) (v95_3 ua ub uc)) (v95_3 (v95_1 ua ub uc) (v95_2 ua ub uc) (v95_3 ua ub uc)))))) a1)] [some ⟨true,[],[AV.agg [AV.sl [.int .u8] (bif b then (v95_1 ua ub uc) else (v95_1 (v95_1 (v95_1 (v95_1 ua ub uc) (v95_2 ua ub uc) (v95_3 ua ub uc)) (v95_2 (v95_1 ua ub uc) (v95_2 ua ub uc) (v95_3 ua ub uc)) (v95_3 (v95_1 ua ub uc) (v95_2 ua ub uc) (v95_3 ua ub uc))) (v95_2 (v95_1 (v95_1 ua ub uc) (v95_2 ua ub uc) (v95_3 ua ub uc)) (v95_2 (v95_1 ua ub uc) (v95_2 ua ub uc) (v95_3 ua ub uc)) (v95_3 (v95_1 ua ub uc) (v95_2 ua ub uc) (v95_3 ua ub uc))) (v95_3 (v95_1 (v95_1 ua ub uc) (v95_2 ua ub uc) (v95_3 ua ub uc)) (v95_2 (v95_1 ua ub uc) (v95_2 ua ub uc) (v95_3 ua ub uc)) (v95_3 (v95_1 ua ub uc) (v95_2 ua ub uc) (v95_3 ua ub uc))))),AV.int .i64 (bif b then (v95_2 ua ub uc) else (v95_2 (v95_1 (v95_1 (v95_1 ua ub uc) (v95_2 ua ub uc) (v95_3 ua ub uc)) (v95_2 (v95_1 ua ub uc) (v95_2 ua ub uc) (v95_3 ua ub uc)) (v95_3 (v95_1 ua ub uc) (v95_2 ua ub uc) (v95_3 ua ub uc))) (v95_2 (v95_1 (v95_1 ua ub uc) (v95_2 ua ub uc) (v95_3 ua ub uc)) (v95_2 (v95_1 ua ub uc) (v95_2 ua ub uc) (v95_3 ua ub uc)) (v95_3 (v95_1 ua ub uc) (v95_2 ua ub uc) (v95_3 ua ub uc))) (v95_3 (v95_1 (v95_1 ua ub uc) (v95_2 ua ub uc) (v95_3 ua ub uc)) (v95_2 (v95_1 ua ub uc) (v95_2 ua ub uc) (v95_3 ua ub uc)) (v95_3 (v95_1 ua ub uc) (v95_2 ua ub uc) (v95_3 ua ub uc))))),AV.int .i64 (bif b then (v95_3 ua ub uc) else (v95_3 (v95_1 (v95_1 (v95_1 ua ub uc) (v95_2 ua ub uc) (v95_3 ua ub uc)) (v95_2 (v95_1 ua ub uc) (v95_2 ua ub uc) (v95_3 ua ub uc)) (v95_3 (v95_1 ua ub uc) (v95_2 ua ub uc) (v95_3 ua ub uc))) (v95_2 (v95_1 (v95_1 ua ub uc) (v95_2 ua ub uc) (v95_3 ua ub uc)) (v95_2 (v95_1 ua ub uc) (v95_2 ua ub uc) (v95_3 ua ub uc)) (v95_3 (v95_1 ua ub uc) (v95_2 ua ub uc) (v95_3 ua ub uc))) (v95_3 (v95_1 (v95_1 ua ub uc) (v95_2 ua ub uc) (v95_3 ua ub uc)) (v95_2 (v95_1 ua ub uc) (v95_2 ua ub uc) (v95_3 ua ub uc)) (v95_3 (v95_1 ua ub uc) (v95_2 ua ub uc) (v95_3 ua ub uc)))))]]⟩]) (brL (brL1 (fun _=>rfl))) (brL (brL (brL (brL (brL1 (fun _=>rfl)))))))) h)
def m42:GModel
 | [.ptr g0 g1 g2,.int .i64 a1],[⟨true,[],[.agg [.sl g3 ua,.int .i64 ub,.int .i64 uc]]⟩]=>bif nmEq g0 ([1]) && Nat.beq g1 0 && Nat.beq g2 0 && ctsEq g3 ([.int .u8]) then some (q42 a1 ua ub uc,[AV.int .i64 (v42_0 a1 ua ub uc)],[some ⟨true,[],[AV.agg [AV.sl [.int .u8] (v42_1 a1 ua ub uc),AV.int .i64 (v42_2 a1 ua ub uc),AV.int .i64 (v42_3 a1 ua ub uc)]]⟩]) else none
 | _,_=>none
theorem k42:Known Tryz.prog 42:=⟨Tryz.f42,Tryz.func42,by kernel_rfl,by kernel_rfl⟩
theorem meets42:MeetsG Tryz.prog 42 m42:=by
 refine mg (rt:=[3]) (gs:=[]) (lvl:=0) (cf:=c42) rfl mixed k42 Tryz.func42 (by kernel_rfl) noLoop allT_nil (allG_cons meets95 allM_nil) noI fun xs bs r bs' h K=>?_
 unfold m42 at h
 split at h
 ·rename_i g0 g1 g2 a1 g3 ua ub uc
  obtain ⟨hg,h⟩:=bif_pair h
  simp only [Bool.and_eq_true] at hg
  obtain ⟨⟨⟨q0,q1⟩,q2⟩,q3⟩:=hg
  obtain rfl:=nE q0
  obtain rfl:=bE q1
  obtain rfl:=bE q2
  obtain rfl:=cE q3
  obtain ⟨h1,rfl,rfl⟩:=trip_inj h
  exact r42 a1 ua ub uc K h1
 ·cases h
noncomputable def c93:Cfg:=cfg Tryz.prog [(93,999,[4])] [] [(42,.g m42)] [] []
def T93 {β:Type} (k:(Int × (List AV) × Int × Int × (List AV))→β) (n:β) (ua:List AV) (ub:Int) (uc:Int) (b1:List AV):β:=(bif q42 (b1.length:Int) ua ub uc then (bif (decide (0≤(v42_0 (b1.length:Int) ua ub uc)) && decide ((v42_0 (b1.length:Int) ua ub uc)<(b1.length:Int))) then k (fI (b1.getD (v42_0 (b1.length:Int) ua ub uc).toNat .undef) 0,(v42_1 (b1.length:Int) ua ub uc),(v42_2 (b1.length:Int) ua ub uc),(v42_3 (b1.length:Int) ua ub uc),b1)
 else n)
 else n)
abbrev W93 (ua:List AV) (ub:Int) (uc:Int) (b1:List AV):Option (Int × (List AV) × Int × Int × (List AV)):=T93 some none ua ub uc b1
theorem n93 {β:Type} (k:(Int × (List AV) × Int × Int × (List AV))→β) (n:β) (ua:List AV) (ub:Int) (uc:Int) (b1:List AV):T93 k n ua ub uc b1=oe k n (W93 ua ub uc b1):=by
 unfold W93 T93
 simp only [oe_cond,oe_ro,oe_sum,oe_some,oe_none]
def q93 (ua:List AV) (ub uc:Int) (b1:List AV):Bool:=(W93 ua ub uc b1).isSome
def v93_0 (ua:List AV) (ub uc:Int) (b1:List AV):Int:=oe (fun t=>t.1) 0 (W93 ua ub uc b1)
def v93_1 (ua:List AV) (ub uc:Int) (b1:List AV):List AV:=oe (fun t=>t.2.1) [] (W93 ua ub uc b1)
def v93_2 (ua:List AV) (ub uc:Int) (b1:List AV):Int:=oe (fun t=>t.2.2.1) 0 (W93 ua ub uc b1)
def v93_3 (ua:List AV) (ub uc:Int) (b1:List AV):Int:=oe (fun t=>t.2.2.2.1) 0 (W93 ua ub uc b1)
def v93_4 (ua:List AV) (ub uc:Int) (b1:List AV):List AV:=oe (fun t=>t.2.2.2.2) [] (W93 ua ub uc b1)
theorem e93 (ua:List AV) (ub uc:Int) (b1:List AV) (K:List AV→List (Option Blk)→Option AV):inlA c93 1 93 [AV.ptr [1] 0 0,AV.own [2]] [0] (canH 1 [⟨true,[],[AV.agg [AV.sl [.int .u8] ua,Ai ub,Ai uc]]⟩,⟨false,[.int .i64],b1⟩]) (keepG Tryz.prog 2 [3] [] K)=T93 (fun t=>K [Ai t.1] [some ⟨true,[],[AV.agg [AV.sl [.int .u8] t.2.1,Ai t.2.2.1,Ai t.2.2.2.1]]⟩,some ⟨false,[.int .i64],t.2.2.2.2⟩]) none ua ub uc b1:=by kernel_rfl
theorem r93 (ua:List AV) (ub uc:Int) (b1:List AV) (K:List AV→List (Option Blk)→Option AV) (h:q93 ua ub uc b1=true):inlA c93 1 93 [AV.ptr [1] 0 0,AV.own [2]] [0] (canH 1 [⟨true,[],[AV.agg [AV.sl [.int .u8] ua,AV.int .i64 ub,AV.int .i64 uc]]⟩,⟨false,[.int .i64],b1⟩]) (keepG Tryz.prog 2 [3] [] K)=K [AV.int .i64 (v93_0 ua ub uc b1)] [some ⟨true,[],[AV.agg [AV.sl [.int .u8] (v93_1 ua ub uc b1),AV.int .i64 (v93_2 ua ub uc b1),AV.int .i64 (v93_3 ua ub uc b1)]]⟩,some ⟨false,[.int .i64],(v93_4 ua ub uc b1)⟩]:=by
 refine ((e93 ua ub uc b1 K).trans (n93 _ _ ua ub uc b1)).trans ?_
 unfold q93 at h
 unfold v93_0 v93_1 v93_2 v93_3 v93_4
 generalize W93 ua ub uc b1=o at *
 cases o with
 | none=>cases h
 | some t=>rfl
def m93:GModel
 | [.ptr g0 g1 g2,.own g3],[⟨true,[],[.agg [.sl g4 ua,.int .i64 ub,.int .i64 uc]]⟩,⟨false,g5,b1⟩]=>bif nmEq g0 ([1]) && Nat.beq g1 0 && Nat.beq g2 0 && nmEq g3 ([2]) && ctsEq g4 ([.int .u8]) && ctsEq g5 ([.int .i64]) then some (q93 ua ub uc b1,[AV.int .i64 (v93_0 ua ub uc b1)],[some ⟨true,[],[AV.agg [AV.sl [.int .u8] (v93_1 ua ub uc b1),AV.int .i64 (v93_2 ua ub uc b1),AV.int .i64 (v93_3 ua ub uc b1)]]⟩,some ⟨false,[.int .i64],(v93_4 ua ub uc b1)⟩]) else none
 | _,_=>none
theorem k93:Known Tryz.prog 93:=⟨Tryz.f93,Tryz.func93,by kernel_rfl,by kernel_rfl⟩
theorem meets93:MeetsG Tryz.prog 93 m93:=by
 refine mg (rt:=[3]) (gs:=[]) (lvl:=0) (cf:=c93) rfl mixed k93 Tryz.func93 (by kernel_rfl) noLoop allT_nil (allG_cons meets42 allM_nil) noI fun xs bs r bs' h K=>?_
 unfold m93 at h
 split at h
 ·rename_i g0 g1 g2 g3 g4 ua ub uc g5 b1
  obtain ⟨hg,h⟩:=bif_pair h
  simp only [Bool.and_eq_true] at hg
  obtain ⟨⟨⟨⟨⟨q0,q1⟩,q2⟩,q3⟩,q4⟩,q5⟩:=hg
  obtain rfl:=nE q0
  obtain rfl:=bE q1
  obtain rfl:=bE q2
  obtain rfl:=nE q3
  obtain rfl:=cE q4
  obtain rfl:=cE q5
  obtain ⟨h1,rfl,rfl⟩:=trip_inj h
  exact r93 ua ub uc b1 K h1
 ·cases h
def G123_0 {β:Type} (t6:Int) (t7:Int) (h0:List AV) (h1_0:List AV) (h1_1:Int) (h1_2:Int) (N:((Int × (List AV) × (List AV) × Int × Int))→β) (K:(((List AV) × (List AV) × Int × Int))→β) (d:β):β:=(bif decide (t7 > 0) then (bif q42 t6 h1_0 h1_1 h1_2 then (bif !decide (3=0) then (bif (decide ((h0.length+([AV.int .i64 (IntKind.i64.wrap ((v42_0 t6 h1_0 h1_1 h1_2) - IntKind.i64.wrap (Int.tdiv t6 3)))]).length)*8≤140737488355328) && decide ((h0.length+([AV.int .i64 (IntKind.i64.wrap ((v42_0 t6 h1_0 h1_1 h1_2) - IntKind.i64.wrap (Int.tdiv t6 3)))]).length)≤140737488355328)) then N (IntKind.i64.wrap (t7 - 1),h0++([AV.int .i64 (IntKind.i64.wrap ((v42_0 t6 h1_0 h1_1 h1_2) - IntKind.i64.wrap (Int.tdiv t6 3)))]),(v42_1 t6 h1_0 h1_1 h1_2),(v42_2 t6 h1_0 h1_1 h1_2),(v42_3 t6 h1_0 h1_1 h1_2))
 else d)
 else d)
 else d)
 else K (h0,h1_0,h1_1,h1_2))
def F123_0 (t6 t7:Int) (h0 h1_0:List AV) (h1_1 h1_2:Int):Out ((Int × (List AV) × (List AV) × Int × Int)) (((List AV) × (List AV) × Int × Int)):=G123_0 t6 t7 h0 h1_0 h1_1 h1_2 .next .stop .fail
def R123_0 (t6:Int):((Int × (List AV) × (List AV) × Int × Int))→Out ((Int × (List AV) × (List AV) × Int × Int)) (((List AV) × (List AV) × Int × Int)):=fun s:Int × (List AV) × (List AV) × Int × Int=>F123_0 t6 s.1 s.2.1 s.2.2.1 s.2.2.2.1 s.2.2.2.2
def E123_0 (t6:Int):((Int × (List AV) × (List AV) × Int × Int))→St:=fun s:Int × (List AV) × (List AV) × Int × Int=>⟨[(0,AV.ptr [1] 0 0),(5,AV.own [0,5,0]),(6,Ai t6),(7,Ai s.1)],[([0,5,0],⟨false,[.int .i64],s.2.1⟩),([1],⟨true,[],[AV.agg [AV.sl [.int .u8] s.2.2.1,Ai s.2.2.2.1,Ai s.2.2.2.2]]⟩)]⟩
def K123_0 (t6:Int) (k:Kont):(((List AV) × (List AV) × Int × Int))→Option AV:=fun p:(List AV) × (List AV) × Int × Int=>k (.exit 0) ⟨[(5,AV.own [0,5,0])],[([0,5,0],⟨false,[.int .i64],p.1⟩),([1],⟨true,[],[AV.agg [AV.sl [.int .u8] p.2.1,Ai p.2.2.1,Ai p.2.2.2]]⟩)]⟩
def l123_0:LModel:=fun _ _ st k=>match st with
 | ⟨[(0,.ptr g0 g1 g2),(5,.own g3),(6,.int .i64 t6),(7,.int .i64 t7)],[(g4,⟨false,g5,h0⟩),(g6,⟨true,[],[.agg [.sl g7 h1_0,.int .i64 h1_1,.int .i64 h1_2]]⟩)]⟩=>bif nmEq g0 ([1]) && Nat.beq g1 0 && Nat.beq g2 0 && nmEq g3 ([0,5,0]) && nmEq g4 ([0,5,0]) && ctsEq g5 ([.int .i64]) && nmEq g6 ([1]) && ctsEq g7 ([.int .u8]) then ro (runW (R123_0 t6) ((t7 - 0:Int).toNat+1) (t7,h0,h1_0,h1_1,h1_2)) none (K123_0 t6 k) else none
 | _=>none
noncomputable def c123:Cfg:=cfg Tryz.prog [(123,0,[0,5,6,7]),(123,999,[4]),(123,1000,[5]),(123,1001,[0,5,6,7])] [] [(42,.g m42),(93,.g m93)] [] [(123,0,l123_0)]
theorem s123_0 (t6:Int) (ce:CallE) (k:Kont) (s:Int × (List AV) × (List AV) × Int × Int) (next:St→Option AV):stepA (codeA c123 ce [0] 123 0 (sub [1,1,1,0,1,0,0] (body Tryz.f123))) (normA [0] [0,5,6,7]) next ((E123_0 t6) s) k=G123_0 t6 s.1 s.2.1 s.2.2.1 s.2.2.2.1 s.2.2.2.2 (fun s=>next ((E123_0 t6) s)) (K123_0 t6 k) none:=by kernel_rfl
theorem st123_0 (t6:Int) (ce:CallE) (k:Kont) (s:(Int × (List AV) × (List AV) × Int × Int)) (next:St→Option AV):stepA (codeA c123 ce [0] 123 0 (sub [1,1,1,0,1,0,0] (body Tryz.f123))) (normA [0] [0,5,6,7]) next ((E123_0 t6) s) k=(R123_0 t6 s).el none (fun s=>next ((E123_0 t6) s)) (K123_0 t6 k):=(s123_0 t6 ce k s next).trans (by unfold R123_0;unfold F123_0 G123_0;simp only [el_cond,el_ro,el_sum,el_fail,el_next,el_stop] <;> rfl)
theorem ok123_0 {ce:CallE}:LoopOK c123 ce [0] 123 0 (sub [1,1,1,0,1,0,0] (body Tryz.f123)):=by
 intro m hm st k r h
 obtain rfl:l123_0=m:=Option.some.inj hm
 unfold l123_0 at h
 split at h
 ·rename_i g0 g1 g2 g3 t6 t7 g4 g5 h0 g6 g7 h1_0 h1_1 h1_2
  obtain ⟨hg,h⟩:=bif_some h
  simp only [Bool.and_eq_true] at hg
  obtain ⟨⟨⟨⟨⟨⟨⟨q0,q1⟩,q2⟩,q3⟩,q4⟩,q5⟩,q6⟩,q7⟩:=hg
  obtain rfl:=nE q0
  obtain rfl:=bE q1
  obtain rfl:=bE q2
  obtain rfl:=nE q3
  obtain rfl:=nE q4
  obtain rfl:=cE q5
  obtain rfl:=nE q6
  obtain rfl:=cE q7
  refine ⟨((t7 - 0:Int).toNat+1),?_⟩
  rw [← h]
  exact loop_run (E123_0 t6) (K123_0 t6 k) (st123_0 t6 ce k) _ (t7,h0,h1_0,h1_1,h1_2)
 ·cases h
def T123 {β:Type} (k:((List AV) × (List AV) × Int × Int)→β) (n:β) (a1:Int) (ua:List AV) (ub:Int) (uc:Int):β:=by
 refine (?f0:Int→(List AV)→Int→Int→β) (v93_0 ua ub uc ([AV.int .i64 3,AV.int .i64 10,AV.int .i64 30,AV.int .i64 1000])) (v93_1 ua ub uc ([AV.int .i64 3,AV.int .i64 10,AV.int .i64 30,AV.int .i64 1000])) (v93_2 ua ub uc ([AV.int .i64 3,AV.int .i64 10,AV.int .i64 30,AV.int .i64 1000])) (v93_3 ua ub uc ([AV.int .i64 3,AV.int .i64 10,AV.int .i64 30,AV.int .i64 1000]));intro x1 x2 x3 x4
 exact (bif q93 ua ub uc ([AV.int .i64 3,AV.int .i64 10,AV.int .i64 30,AV.int .i64 1000]) then (bif q42 (IntKind.i64.wrap (a1+1)) x2 x3 x4 then (ro (runW (R123_0 x1) (((v42_0 (IntKind.i64.wrap (a1+1)) x2 x3 x4) - 0:Int).toNat+1) ((v42_0 (IntKind.i64.wrap (a1+1)) x2 x3 x4),([]:List AV),(v42_1 (IntKind.i64.wrap (a1+1)) x2 x3 x4),(v42_2 (IntKind.i64.wrap (a1+1)) x2 x3 x4),(v42_3 (IntKind.i64.wrap (a1+1)) x2 x3 x4))) n (fun p2=>k (p2.1,p2.2.1,p2.2.2.1,p2.2.2.2)))
 else n)
 else n)
abbrev W123 (a1:Int) (ua:List AV) (ub:Int) (uc:Int):Option ((List AV) × (List AV) × Int × Int):=T123 some none a1 ua ub uc
theorem n123 {β:Type} (k:((List AV) × (List AV) × Int × Int)→β) (n:β) (a1:Int) (ua:List AV) (ub:Int) (uc:Int):T123 k n a1 ua ub uc=oe k n (W123 a1 ua ub uc):=by
 unfold W123 T123
 simp only [oe_cond,oe_ro,oe_sum,oe_some,oe_none]
def q123 (a1:Int) (ua:List AV) (ub uc:Int):Bool:=(W123 a1 ua ub uc).isSome
def v123_0 (a1:Int) (ua:List AV) (ub uc:Int):List AV:=oe (fun t=>t.1) [] (W123 a1 ua ub uc)
def v123_1 (a1:Int) (ua:List AV) (ub uc:Int):List AV:=oe (fun t=>t.2.1) [] (W123 a1 ua ub uc)
def v123_2 (a1:Int) (ua:List AV) (ub uc:Int):Int:=oe (fun t=>t.2.2.1) 0 (W123 a1 ua ub uc)
def v123_3 (a1:Int) (ua:List AV) (ub uc:Int):Int:=oe (fun t=>t.2.2.2) 0 (W123 a1 ua ub uc)
theorem e123 (a1:Int) (ua:List AV) (ub uc:Int) (K:List AV→List (Option Blk)→Option AV):inlA c123 1 123 [AV.ptr [1] 0 0,Ai a1] [0] (canH 1 [⟨true,[],[AV.agg [AV.sl [.int .u8] ua,Ai ub,Ai uc]]⟩]) (keepG Tryz.prog 1 [25] [] K)=T123 (fun t=>K [AV.fl [.int .i64] t.1] [some ⟨true,[],[AV.agg [AV.sl [.int .u8] t.2.1,Ai t.2.2.1,Ai t.2.2.2]]⟩]) none a1 ua ub uc:=by kernel_rfl
theorem r123 (a1:Int) (ua:List AV) (ub uc:Int) (K:List AV→List (Option Blk)→Option AV) (h:q123 a1 ua ub uc=true):inlA c123 1 123 [AV.ptr [1] 0 0,AV.int .i64 a1] [0] (canH 1 [⟨true,[],[AV.agg [AV.sl [.int .u8] ua,AV.int .i64 ub,AV.int .i64 uc]]⟩]) (keepG Tryz.prog 1 [25] [] K)=K [AV.fl [.int .i64] (v123_0 a1 ua ub uc)] [some ⟨true,[],[AV.agg [AV.sl [.int .u8] (v123_1 a1 ua ub uc),AV.int .i64 (v123_2 a1 ua ub uc),AV.int .i64 (v123_3 a1 ua ub uc)]]⟩]:=by
 refine ((e123 a1 ua ub uc K).trans (n123 _ _ a1 ua ub uc)).trans ?_
 unfold q123 at h
 unfold v123_0 v123_1 v123_2 v123_3
 generalize W123 a1 ua ub uc=o at *
 cases o with
 | none=>cases h
 | some t=>rfl
def m123:GModel
 | [.ptr g0 g1 g2,.int .i64 a1],[⟨true,[],[.agg [.sl g3 ua,.int .i64 ub,.int .i64 uc]]⟩]=>bif nmEq g0 ([1]) && Nat.beq g1 0 && Nat.beq g2 0 && ctsEq g3 ([.int .u8]) then some (q123 a1 ua ub uc,[AV.fl [.int .i64] (v123_0 a1 ua ub uc)],[some ⟨true,[],[AV.agg [AV.sl [.int .u8] (v123_1 a1 ua ub uc),AV.int .i64 (v123_2 a1 ua ub uc),AV.int .i64 (v123_3 a1 ua ub uc)]]⟩]) else none
 | _,_=>none
theorem k123:Known Tryz.prog 123:=⟨Tryz.f123,Tryz.func123,by kernel_rfl,by kernel_rfl⟩
theorem meets123:MeetsG Tryz.prog 123 m123:=by
 refine mg (rt:=[25]) (gs:=[]) (lvl:=0) (cf:=c123) rfl mixed k123 Tryz.func123 (by kernel_rfl) (loops_cons ok123_0 noLoop) allT_nil (allG_cons meets42 (allG_cons meets93 allM_nil)) noI fun xs bs r bs' h K=>?_
 unfold m123 at h
 split at h
 ·rename_i g0 g1 g2 a1 g3 ua ub uc
  obtain ⟨hg,h⟩:=bif_pair h
  simp only [Bool.and_eq_true] at hg
  obtain ⟨⟨⟨q0,q1⟩,q2⟩,q3⟩:=hg
  obtain rfl:=nE q0
  obtain rfl:=bE q1
  obtain rfl:=bE q2
  obtain rfl:=cE q3
  obtain ⟨h1,rfl,rfl⟩:=trip_inj h
  exact r123 a1 ua ub uc K h1
 ·cases h
noncomputable def c97:Cfg:=cfg Tryz.prog [(97,999,[4])] [] [(42,.g m42)] [] []
def T97 {β:Type} (k:(Bool × (List AV) × Int × Int)→β) (n:β) (a1:Int) (ua:List AV) (ub:Int) (uc:Int):β:=(bif q42 a1 ua ub uc then k (decide ((v42_0 a1 ua ub uc)=0),(v42_1 a1 ua ub uc),(v42_2 a1 ua ub uc),(v42_3 a1 ua ub uc))
 else n)
abbrev W97 (a1:Int) (ua:List AV) (ub:Int) (uc:Int):Option (Bool × (List AV) × Int × Int):=T97 some none a1 ua ub uc
theorem n97 {β:Type} (k:(Bool × (List AV) × Int × Int)→β) (n:β) (a1:Int) (ua:List AV) (ub:Int) (uc:Int):T97 k n a1 ua ub uc=oe k n (W97 a1 ua ub uc):=by
 unfold W97 T97
 simp only [oe_cond,oe_ro,oe_sum,oe_some,oe_none]
def q97 (a1:Int) (ua:List AV) (ub uc:Int):Bool:=(W97 a1 ua ub uc).isSome
def v97_0 (a1:Int) (ua:List AV) (ub uc:Int):Bool:=oe (fun t=>t.1) false (W97 a1 ua ub uc)
def v97_1 (a1:Int) (ua:List AV) (ub uc:Int):List AV:=oe (fun t=>t.2.1) [] (W97 a1 ua ub uc)
def v97_2 (a1:Int) (ua:List AV) (ub uc:Int):Int:=oe (fun t=>t.2.2.1) 0 (W97 a1 ua ub uc)
def v97_3 (a1:Int) (ua:List AV) (ub uc:Int):Int:=oe (fun t=>t.2.2.2) 0 (W97 a1 ua ub uc)
theorem e97 (a1:Int) (ua:List AV) (ub uc:Int) (K:List AV→List (Option Blk)→Option AV):inlA c97 1 97 [AV.ptr [1] 0 0,Ai a1] [0] (canH 1 [⟨true,[],[AV.agg [AV.sl [.int .u8] ua,Ai ub,Ai uc]]⟩]) (keepG Tryz.prog 1 [4] [] K)=T97 (fun t=>K [AV.bool t.1] [some ⟨true,[],[AV.agg [AV.sl [.int .u8] t.2.1,Ai t.2.2.1,Ai t.2.2.2]]⟩]) none a1 ua ub uc:=by kernel_rfl
theorem r97 (a1:Int) (ua:List AV) (ub uc:Int) (K:List AV→List (Option Blk)→Option AV) (h:q97 a1 ua ub uc=true):inlA c97 1 97 [AV.ptr [1] 0 0,AV.int .i64 a1] [0] (canH 1 [⟨true,[],[AV.agg [AV.sl [.int .u8] ua,AV.int .i64 ub,AV.int .i64 uc]]⟩]) (keepG Tryz.prog 1 [4] [] K)=K [AV.bool (v97_0 a1 ua ub uc)] [some ⟨true,[],[AV.agg [AV.sl [.int .u8] (v97_1 a1 ua ub uc),AV.int .i64 (v97_2 a1 ua ub uc),AV.int .i64 (v97_3 a1 ua ub uc)]]⟩]:=by
 refine ((e97 a1 ua ub uc K).trans (n97 _ _ a1 ua ub uc)).trans ?_
 unfold q97 at h
 unfold v97_0 v97_1 v97_2 v97_3
 generalize W97 a1 ua ub uc=o at *
 cases o with
 | none=>cases h
 | some t=>rfl
def m97:GModel
 | [.ptr g0 g1 g2,.int .i64 a1],[⟨true,[],[.agg [.sl g3 ua,.int .i64 ub,.int .i64 uc]]⟩]=>bif nmEq g0 ([1]) && Nat.beq g1 0 && Nat.beq g2 0 && ctsEq g3 ([.int .u8]) then some (q97 a1 ua ub uc,[AV.bool (v97_0 a1 ua ub uc)],[some ⟨true,[],[AV.agg [AV.sl [.int .u8] (v97_1 a1 ua ub uc),AV.int .i64 (v97_2 a1 ua ub uc),AV.int .i64 (v97_3 a1 ua ub uc)]]⟩]) else none
 | _,_=>none
theorem k97:Known Tryz.prog 97:=⟨Tryz.f97,Tryz.func97,by kernel_rfl,by kernel_rfl⟩
theorem meets97:MeetsG Tryz.prog 97 m97:=by
 refine mg (rt:=[4]) (gs:=[]) (lvl:=0) (cf:=c97) rfl mixed k97 Tryz.func97 (by kernel_rfl) noLoop allT_nil (allG_cons meets42 allM_nil) noI fun xs bs r bs' h K=>?_
 unfold m97 at h
 split at h
 ·rename_i g0 g1 g2 a1 g3 ua ub uc
  obtain ⟨hg,h⟩:=bif_pair h
  simp only [Bool.and_eq_true] at hg
  obtain ⟨⟨⟨q0,q1⟩,q2⟩,q3⟩:=hg
  obtain rfl:=nE q0
  obtain rfl:=bE q1
  obtain rfl:=bE q2
  obtain rfl:=cE q3
  obtain ⟨h1,rfl,rfl⟩:=trip_inj h
  exact r97 a1 ua ub uc K h1
 ·cases h
noncomputable def c124:Cfg:=cfg Tryz.prog [(124,999,[2])] [] [(42,.g m42),(93,.g m93)] [] []
def T124 {β:Type} (k:(Int × Int × Int × (List AV) × Int × Int)→β) (n:β) (ua:List AV) (ub:Int) (uc:Int):β:=by
 refine (?f0:Int→(List AV)→Int→Int→β) (v42_0 3 ua ub uc) (v42_1 3 ua ub uc) (v42_2 3 ua ub uc) (v42_3 3 ua ub uc);intro x1 x2 x3 x4
 refine (?f1:Int→(List AV)→Int→Int→β) (v93_0 x2 x3 x4 ([AV.int .i64 1,AV.int .i64 2,AV.int .i64 3,AV.int .i64 5,AV.int .i64 64])) (v93_1 x2 x3 x4 ([AV.int .i64 1,AV.int .i64 2,AV.int .i64 3,AV.int .i64 5,AV.int .i64 64])) (v93_2 x2 x3 x4 ([AV.int .i64 1,AV.int .i64 2,AV.int .i64 3,AV.int .i64 5,AV.int .i64 64])) (v93_3 x2 x3 x4 ([AV.int .i64 1,AV.int .i64 2,AV.int .i64 3,AV.int .i64 5,AV.int .i64 64]));intro x5 x6 x7 x8
 exact (bif q42 3 ua ub uc then (bif q93 x2 x3 x4 ([AV.int .i64 1,AV.int .i64 2,AV.int .i64 3,AV.int .i64 5,AV.int .i64 64]) then (bif q42 10007 x6 x7 x8 then k (x1,x5,(v42_0 10007 x6 x7 x8),(v42_1 10007 x6 x7 x8),(v42_2 10007 x6 x7 x8),(v42_3 10007 x6 x7 x8))
 else n)
 else n)
 else n)
abbrev W124 (ua:List AV) (ub:Int) (uc:Int):Option (Int × Int × Int × (List AV) × Int × Int):=T124 some none ua ub uc
theorem n124 {β:Type} (k:(Int × Int × Int × (List AV) × Int × Int)→β) (n:β) (ua:List AV) (ub:Int) (uc:Int):T124 k n ua ub uc=oe k n (W124 ua ub uc):=by
 unfold W124 T124
 simp only [oe_cond,oe_ro,oe_sum,oe_some,oe_none]
def q124 (ua:List AV) (ub uc:Int):Bool:=(W124 ua ub uc).isSome
def v124_0 (ua:List AV) (ub uc:Int):Int:=oe (fun t=>t.1) 0 (W124 ua ub uc)
def v124_1 (ua:List AV) (ub uc:Int):Int:=oe (fun t=>t.2.1) 0 (W124 ua ub uc)
def v124_2 (ua:List AV) (ub uc:Int):Int:=oe (fun t=>t.2.2.1) 0 (W124 ua ub uc)
def v124_3 (ua:List AV) (ub uc:Int):List AV:=oe (fun t=>t.2.2.2.1) [] (W124 ua ub uc)
def v124_4 (ua:List AV) (ub uc:Int):Int:=oe (fun t=>t.2.2.2.2.1) 0 (W124 ua ub uc)
def v124_5 (ua:List AV) (ub uc:Int):Int:=oe (fun t=>t.2.2.2.2.2) 0 (W124 ua ub uc)
theorem e124 (ua:List AV) (ub uc:Int) (K:List AV→List (Option Blk)→Option AV):inlA c124 1 124 [AV.ptr [1] 0 0] [0] (canH 1 [⟨true,[],[AV.agg [AV.sl [.int .u8] ua,Ai ub,Ai uc]]⟩]) (keepG Tryz.prog 1 [106] [] K)=T124 (fun t=>K [AV.agg [Ai t.1,Ai t.2.1,Ai t.2.2.1]] [some ⟨true,[],[AV.agg [AV.sl [.int .u8] t.2.2.2.1,Ai t.2.2.2.2.1,Ai t.2.2.2.2.2]]⟩]) none ua ub uc:=by kernel_rfl
theorem r124 (ua:List AV) (ub uc:Int) (K:List AV→List (Option Blk)→Option AV) (h:q124 ua ub uc=true):inlA c124 1 124 [AV.ptr [1] 0 0] [0] (canH 1 [⟨true,[],[AV.agg [AV.sl [.int .u8] ua,AV.int .i64 ub,AV.int .i64 uc]]⟩]) (keepG Tryz.prog 1 [106] [] K)=K [AV.agg [AV.int .i64 (v124_0 ua ub uc),AV.int .i64 (v124_1 ua ub uc),AV.int .i64 (v124_2 ua ub uc)]] [some ⟨true,[],[AV.agg [AV.sl [.int .u8] (v124_3 ua ub uc),AV.int .i64 (v124_4 ua ub uc),AV.int .i64 (v124_5 ua ub uc)]]⟩]:=by
 refine ((e124 ua ub uc K).trans (n124 _ _ ua ub uc)).trans ?_
 unfold q124 at h
 unfold v124_0 v124_1 v124_2 v124_3 v124_4 v124_5
 generalize W124 ua ub uc=o at *
 cases o with
 | none=>cases h
 | some t=>rfl
def m124:GModel
 | [.ptr g0 g1 g2],[⟨true,[],[.agg [.sl g3 ua,.int .i64 ub,.int .i64 uc]]⟩]=>bif nmEq g0 ([1]) && Nat.beq g1 0 && Nat.beq g2 0 && ctsEq g3 ([.int .u8]) then some (q124 ua ub uc,[AV.agg [AV.int .i64 (v124_0 ua ub uc),AV.int .i64 (v124_1 ua ub uc),AV.int .i64 (v124_2 ua ub uc)]],[some ⟨true,[],[AV.agg [AV.sl [.int .u8] (v124_3 ua ub uc),AV.int .i64 (v124_4 ua ub uc),AV.int .i64 (v124_5 ua ub uc)]]⟩]) else none
 | _,_=>none
theorem k124:Known Tryz.prog 124:=⟨Tryz.f124,Tryz.func124,by kernel_rfl,by kernel_rfl⟩
theorem meets124:MeetsG Tryz.prog 124 m124:=by
 refine mg (rt:=[106]) (gs:=[]) (lvl:=0) (cf:=c124) rfl mixed k124 Tryz.func124 (by kernel_rfl) noLoop allT_nil (allG_cons meets42 (allG_cons meets93 allM_nil)) noI fun xs bs r bs' h K=>?_
 unfold m124 at h
 split at h
 ·rename_i g0 g1 g2 g3 ua ub uc
  obtain ⟨hg,h⟩:=bif_pair h
  simp only [Bool.and_eq_true] at hg
  obtain ⟨⟨⟨q0,q1⟩,q2⟩,q3⟩:=hg
  obtain rfl:=nE q0
  obtain rfl:=bE q1
  obtain rfl:=bE q2
  obtain rfl:=cE q3
  obtain ⟨h1,rfl,rfl⟩:=trip_inj h
  exact r124 ua ub uc K h1
 ·cases h
noncomputable def c52:Cfg:=cfg Tryz.prog [(52,999,[6])] [] [] [] []
def q52 (a0 a1 a2:Int):Bool:=true
def v52_0 (a0 a1 a2:Int):Bool:=(bif decide (a0 ≥ a1) then decide (a0≤a2) else false)
theorem e52 (a0 a1 a2:Int):funA c52 0 52 [Ai a0,Ai a1,Ai a2]=(bif decide (a0 ≥ a1) then some (AV.bool (decide (a0≤a2)))
 else some (AV.bool false)):=by kernel_rfl
def m52:TModel
 | [.int .i64 a0,.int .i64 a1,.int .i64 a2]=>some (true,AV.bool (v52_0 a0 a1 a2))
 | _=>none
theorem k52:Known Tryz.prog 52:=⟨Tryz.f52,Tryz.func52,by kernel_rfl,by kernel_rfl⟩
theorem meets52:Meets Tryz.prog 52 m52:=by
 refine mt (lvl:=0) (cf:=c52) rfl mixed k52 Tryz.func52 (by kernel_rfl) noLoop allT_nil allM_nil noI fun xs r h=>?_
 unfold m52 at h
 split at h
 ·rename_i a0 a1 a2
  obtain ⟨h1,rfl⟩:=pair_inj h
  exact (e52 a0 a1 a2).trans (of_tt (brT (fun b=>some (AV.bool (bif b then decide (a0≤a2) else false))) (fun _=>rfl) (fun _=>rfl)))
 ·cases h
def G116_0 {β:Type} (t0:List AV) (t3:Int) (N:(Int)→β) (K:(Unit ⊕ Unit)→β) (d:β):β:=(bif decide (t3<(t0.length:Int)) then (bif (decide (0≤t3) && decide (t3<(t0.length:Int))) then (bif !(v52_0 (fI (t0.getD t3.toNat .undef) 0) (-999) 999) then K (.inr ())
 else N (IntKind.i64.wrap (t3+1)))
 else d)
 else K (.inl ()))
def F116_0 (t0:List AV) (t3:Int):Out (Int) (Unit ⊕ Unit):=G116_0 t0 t3 .next .stop .fail
def R116_0 (t0:List AV):(Int)→Out (Int) (Unit ⊕ Unit):=fun s:Int=>F116_0 t0 s
def E116_0 (t0:List AV):(Int)→St:=fun s:Int=>⟨[(0,AV.sl [.int .i64] t0),(3,Ai s)],[]⟩
def K116_0 (t0:List AV) (k:Kont):(Unit ⊕ Unit)→Option AV:=sumE (fun _:Unit=>k (.exit 0) ⟨[(0,AV.sl [.int .i64] t0)],[]⟩) (fun _:Unit=>k .ret ⟨[(2,AV.bool false)],[]⟩)
def l116_0:LModel:=fun _ _ st k=>match st with
 | ⟨[(0,.sl g0 t0),(3,.int .i64 t3)],[]⟩=>bif ctsEq g0 ([.int .i64]) then ro (runW (R116_0 t0) (((t0.length:Int) - t3:Int).toNat+1) t3) none (K116_0 t0 k) else none
 | _=>none
noncomputable def c116:Cfg:=cfg Tryz.prog [(116,0,[0,3]),(116,999,[2]),(116,1000,[0]),(116,1001,[0,3])] [(52,m52)] [] [] [(116,0,l116_0)]
theorem s116_0 (t0:List AV) (ce:CallE) (k:Kont) (s:Int) (next:St→Option AV):stepA (codeA c116 ce [] 116 0 (sub [1,0,1,0,0] (body Tryz.f116))) (normA [] [0,3]) next ((E116_0 t0) s) k=G116_0 t0 s (fun s=>next ((E116_0 t0) s)) (K116_0 t0 k) none:=by kernel_rfl
theorem st116_0 (t0:List AV) (ce:CallE) (k:Kont) (s:Int) (next:St→Option AV):stepA (codeA c116 ce [] 116 0 (sub [1,0,1,0,0] (body Tryz.f116))) (normA [] [0,3]) next ((E116_0 t0) s) k=(R116_0 t0 s).el none (fun s=>next ((E116_0 t0) s)) (K116_0 t0 k):=(s116_0 t0 ce k s next).trans (by unfold R116_0;unfold F116_0 G116_0;simp only [el_cond,el_ro,el_sum,el_fail,el_next,el_stop] <;> rfl)
theorem ok116_0 {ce:CallE}:LoopOK c116 ce [] 116 0 (sub [1,0,1,0,0] (body Tryz.f116)):=by
 intro m hm st k r h
 obtain rfl:l116_0=m:=Option.some.inj hm
 unfold l116_0 at h
 split at h
 ·rename_i g0 t0 t3
  obtain ⟨hg,h⟩:=bif_some h
  have q0:=hg
  obtain rfl:=cE q0
  refine ⟨(((t0.length:Int) - t3:Int).toNat+1),?_⟩
  rw [← h]
  exact loop_run (E116_0 t0) (K116_0 t0 k) (st116_0 t0 ce k) _ t3
 ·cases h
def q116 (a0:List AV):Bool:=(ro (runW (R116_0 a0) (((a0.length:Int) - 0:Int).toNat+1) 0) false (sumE (fun _=>true) (fun _=>true)))
def v116_0 (a0:List AV):Bool:=(ro (runW (R116_0 a0) (((a0.length:Int) - 0:Int).toNat+1) 0) false (sumE (fun _=>decide ((a0.length:Int)≤64)) (fun _=>false)))
theorem e116 (a0:List AV):funA c116 0 116 [AV.sl [.int .i64] a0]=(ro (runW (R116_0 a0) (((a0.length:Int) - 0:Int).toNat+1) 0) none (sumE (fun _=>some (AV.bool (decide ((a0.length:Int)≤64)))) (fun _=>some (AV.bool false)))):=by kernel_rfl
def m116:TModel
 | [.sl g0 a0]=>bif ctsEq g0 ([.int .i64]) then some (q116 a0,AV.bool (v116_0 a0)) else none
 | _=>none
theorem k116:Known Tryz.prog 116:=⟨Tryz.f116,Tryz.func116,by kernel_rfl,by kernel_rfl⟩
theorem meets116:Meets Tryz.prog 116 m116:=by
 refine mt (lvl:=0) (cf:=c116) rfl mixed k116 Tryz.func116 (by kernel_rfl) (loops_cons ok116_0 noLoop) (allT_cons meets52 allT_nil) allM_nil noI fun xs r h=>?_
 unfold m116 at h
 split at h
 ·rename_i g0 a0
  obtain ⟨hg,h⟩:=bif_pair h
  have q0:=hg
  obtain rfl:=cE q0
  obtain ⟨h1,rfl⟩:=pair_inj h
  exact (e116 a0).trans ((brO (fun o:Option (Unit ⊕ Unit)=>some (AV.bool (ro o false (sumE (fun _=>decide ((a0.length:Int)≤64)) (fun _=>false))))) (brS (fun o:Unit ⊕ Unit=>some (AV.bool ((sumE (fun _=>decide ((a0.length:Int)≤64)) (fun _=>false)) o))) (fun _=>(fun _=>rfl)) (fun _=>(fun _=>rfl)))) h1)
 ·cases h
def G125_0_s0 {β:Type} (t0:List AV) (h0:List AV) (t4:Int) (N:(Int ⊕ (Int × (List AV)))→β) (K:(Unit ⊕ ((List AV)))→β) (d:β):β:=(bif decide (t4<(t0.length:Int)) then (bif (decide ((([AV.int .i64 t4]).length)*8≤140737488355328) && decide ((([AV.int .i64 t4]).length)≤140737488355328)) then N (.inr (IntKind.i64.wrap (t4+1),[AV.int .i64 t4]))
 else d)
 else K (.inl ()))
def F125_0_s0 (t0 h0:List AV) (t4:Int):Out (Int ⊕ (Int × (List AV))) (Unit ⊕ ((List AV))):=G125_0_s0 t0 h0 t4 .next .stop .fail
def G125_0_s1 {β:Type} (t0:List AV) (h0:List AV) (t4:Int) (h1:List AV) (N:(Int ⊕ (Int × (List AV)))→β) (K:(Unit ⊕ ((List AV)))→β) (d:β):β:=(bif decide (t4<(t0.length:Int)) then (bif (decide ((h1.length+([AV.int .i64 t4]).length)*8≤140737488355328) && decide ((h1.length+([AV.int .i64 t4]).length)≤140737488355328)) then N (.inr (IntKind.i64.wrap (t4+1),h1++([AV.int .i64 t4])))
 else d)
 else K (.inr h1))
def F125_0_s1 (t0 h0:List AV) (t4:Int) (h1:List AV):Out (Int ⊕ (Int × (List AV))) (Unit ⊕ ((List AV))):=G125_0_s1 t0 h0 t4 h1 .next .stop .fail
def R125_0 (t0 h0:List AV):(Int ⊕ (Int × (List AV)))→Out (Int ⊕ (Int × (List AV))) (Unit ⊕ ((List AV))):=sumE (fun s:Int=>F125_0_s0 t0 h0 s) (fun s:Int × (List AV)=>F125_0_s1 t0 h0 s.1 s.2)
def E125_0 (t0 h0:List AV):(Int ⊕ (Int × (List AV)))→St:=sumE (fun s:Int=>⟨[(0,AV.sl [.int .i64] t0),(2,AV.ptr [0,2] 0 0),(3,AV.ptr [0,3] 0 0),(4,Ai s)],[([0,0,3],⟨false,[.int .i64],h0⟩),([0,2],⟨true,[],[AV.agg [AV.snil,AV.snil,AV.snil]]⟩),([0,3],⟨true,[],[AV.agg [AV.own [0,0,3],AV.snil,AV.snil]]⟩)]⟩) (fun s:Int × (List AV)=>⟨[(0,AV.sl [.int .i64] t0),(2,AV.ptr [0,2] 0 0),(3,AV.ptr [0,3] 0 0),(4,Ai s.1)],[([0,0,3],⟨false,[.int .i64],h0⟩),([0,1,3],⟨false,[.int .i64],s.2⟩),([0,2],⟨true,[],[AV.agg [AV.snil,AV.snil,AV.snil]]⟩),([0,3],⟨true,[],[AV.agg [AV.own [0,0,3],AV.own [0,1,3],AV.snil]]⟩)]⟩)
def K125_0 (t0 h0:List AV) (k:Kont):(Unit ⊕ ((List AV)))→Option AV:=sumE (fun _:Unit=>k (.exit 0) ⟨[(2,AV.ptr [0,2] 0 0),(3,AV.ptr [0,3] 0 0)],[([0,0,3],⟨false,[.int .i64],h0⟩),([0,2],⟨true,[],[AV.agg [AV.snil,AV.snil,AV.snil]]⟩),([0,3],⟨true,[],[AV.agg [AV.own [0,0,3],AV.snil,AV.snil]]⟩)]⟩) (fun p:(List AV)=>k (.exit 0) ⟨[(2,AV.ptr [0,2] 0 0),(3,AV.ptr [0,3] 0 0)],[([0,0,3],⟨false,[.int .i64],h0⟩),([0,1,3],⟨false,[.int .i64],p⟩),([0,2],⟨true,[],[AV.agg [AV.snil,AV.snil,AV.snil]]⟩),([0,3],⟨true,[],[AV.agg [AV.own [0,0,3],AV.own [0,1,3],AV.snil]]⟩)]⟩)
def l125_0:LModel:=fun _ _ st k=>match st with
 | ⟨[(0,.sl g0 t0),(2,.ptr g1 g2 g3),(3,.ptr g4 g5 g6),(4,.int .i64 t4)],[(g7,⟨false,g8,h0⟩),(g9,⟨true,[],[.agg [.snil,.snil,.snil]]⟩),(g10,⟨true,[],[.agg [.own g11,.snil,.snil]]⟩)]⟩=>bif ctsEq g0 ([.int .i64]) && nmEq g1 ([0,2]) && Nat.beq g2 0 && Nat.beq g3 0 && nmEq g4 ([0,3]) && Nat.beq g5 0 && Nat.beq g6 0 && nmEq g7 ([0,0,3]) && ctsEq g8 ([.int .i64]) && nmEq g9 ([0,2]) && nmEq g10 ([0,3]) && nmEq g11 ([0,0,3]) then ro (runW (R125_0 t0 h0) (((t0.length:Int) - t4:Int).toNat+1) (.inl t4)) none (K125_0 t0 h0 k) else none
 | ⟨[(0,.sl g0 t0),(2,.ptr g1 g2 g3),(3,.ptr g4 g5 g6),(4,.int .i64 t4)],[(g7,⟨false,g8,h0⟩),(g9,⟨false,g10,h1⟩),(g11,⟨true,[],[.agg [.snil,.snil,.snil]]⟩),(g12,⟨true,[],[.agg [.own g13,.own g14,.snil]]⟩)]⟩=>bif ctsEq g0 ([.int .i64]) && nmEq g1 ([0,2]) && Nat.beq g2 0 && Nat.beq g3 0 && nmEq g4 ([0,3]) && Nat.beq g5 0 && Nat.beq g6 0 && nmEq g7 ([0,0,3]) && ctsEq g8 ([.int .i64]) && nmEq g9 ([0,1,3]) && ctsEq g10 ([.int .i64]) && nmEq g11 ([0,2]) && nmEq g12 ([0,3]) && nmEq g13 ([0,0,3]) && nmEq g14 ([0,1,3]) then ro (runW (R125_0 t0 h0) (((t0.length:Int) - t4:Int).toNat+1) (.inr (t4,h1))) none (K125_0 t0 h0 k) else none
 | _=>none
noncomputable def c125:Cfg:=cfg Tryz.prog [(125,0,[0,2,3,4]),(125,999,[2]),(125,1000,[2,3]),(125,1001,[0,2,3,4])] [(116,m116)] [] [] [(125,0,l125_0)]
theorem s125_0_s0 (t0 h0:List AV) (ce:CallE) (k:Kont) (s:Int) (next:St→Option AV):stepA (codeA c125 ce [] 125 0 (sub [1,1,1,0,1,0,0] (body Tryz.f125))) (normA [] [0,2,3,4]) next ((E125_0 t0 h0) (.inl s)) k=G125_0_s0 t0 h0 s (fun s=>next ((E125_0 t0 h0) s)) (K125_0 t0 h0 k) none:=by kernel_rfl
theorem s125_0_s1 (t0 h0:List AV) (ce:CallE) (k:Kont) (s:Int × (List AV)) (next:St→Option AV):stepA (codeA c125 ce [] 125 0 (sub [1,1,1,0,1,0,0] (body Tryz.f125))) (normA [] [0,2,3,4]) next ((E125_0 t0 h0) (.inr s)) k=G125_0_s1 t0 h0 s.1 s.2 (fun s=>next ((E125_0 t0 h0) s)) (K125_0 t0 h0 k) none:=by kernel_rfl
theorem st125_0 (t0 h0:List AV) (ce:CallE) (k:Kont) (s:Int ⊕ (Int × (List AV))) (next:St→Option AV):stepA (codeA c125 ce [] 125 0 (sub [1,1,1,0,1,0,0] (body Tryz.f125))) (normA [] [0,2,3,4]) next ((E125_0 t0 h0) s) k=(R125_0 t0 h0 s).el none (fun s=>next ((E125_0 t0 h0) s)) (K125_0 t0 h0 k):=(match s with | .inl s=>(s125_0_s0 t0 h0 ce k s next).trans (by unfold R125_0;unfold F125_0_s0 G125_0_s0;simp only [el_cond,el_ro,el_sum,el_fail,el_next,el_stop] <;> rfl) | .inr s=>(s125_0_s1 t0 h0 ce k s next).trans (by unfold R125_0;unfold F125_0_s1 G125_0_s1;simp only [el_cond,el_ro,el_sum,el_fail,el_next,el_stop] <;> rfl))
theorem ok125_0 {ce:CallE}:LoopOK c125 ce [] 125 0 (sub [1,1,1,0,1,0,0] (body Tryz.f125)):=by
 intro m hm st k r h
 obtain rfl:l125_0=m:=Option.some.inj hm
 unfold l125_0 at h
 split at h
 ·rename_i g0 t0 g1 g2 g3 g4 g5 g6 t4 g7 g8 h0 g9 g10 g11
  obtain ⟨hg,h⟩:=bif_some h
  simp only [Bool.and_eq_true] at hg
  obtain ⟨⟨⟨⟨⟨⟨⟨⟨⟨⟨⟨q0,q1⟩,q2⟩,q3⟩,q4⟩,q5⟩,q6⟩,q7⟩,q8⟩,q9⟩,q10⟩,q11⟩:=hg
  obtain rfl:=cE q0
  obtain rfl:=nE q1
  obtain rfl:=bE q2
  obtain rfl:=bE q3
  obtain rfl:=nE q4
  obtain rfl:=bE q5
  obtain rfl:=bE q6
  obtain rfl:=nE q7
  obtain rfl:=cE q8
  obtain rfl:=nE q9
  obtain rfl:=nE q10
  obtain rfl:=nE q11
  refine ⟨(((t0.length:Int) - t4:Int).toNat+1),?_⟩
  rw [← h]
  exact loop_run (E125_0 t0 h0) (K125_0 t0 h0 k) (st125_0 t0 h0 ce k) _ (.inl t4)
 ·rename_i g0 t0 g1 g2 g3 g4 g5 g6 t4 g7 g8 h0 g9 g10 h1 g11 g12 g13 g14
  obtain ⟨hg,h⟩:=bif_some h
  simp only [Bool.and_eq_true] at hg
  obtain ⟨⟨⟨⟨⟨⟨⟨⟨⟨⟨⟨⟨⟨⟨q0,q1⟩,q2⟩,q3⟩,q4⟩,q5⟩,q6⟩,q7⟩,q8⟩,q9⟩,q10⟩,q11⟩,q12⟩,q13⟩,q14⟩:=hg
  obtain rfl:=cE q0
  obtain rfl:=nE q1
  obtain rfl:=bE q2
  obtain rfl:=bE q3
  obtain rfl:=nE q4
  obtain rfl:=bE q5
  obtain rfl:=bE q6
  obtain rfl:=nE q7
  obtain rfl:=cE q8
  obtain rfl:=nE q9
  obtain rfl:=cE q10
  obtain rfl:=nE q11
  obtain rfl:=nE q12
  obtain rfl:=nE q13
  obtain rfl:=nE q14
  refine ⟨(((t0.length:Int) - t4:Int).toNat+1),?_⟩
  rw [← h]
  exact loop_run (E125_0 t0 h0) (K125_0 t0 h0 k) (st125_0 t0 h0 ce k) _ (.inr (t4,h1))
 ·cases h
def q125 (a0:List AV):Bool:=(q116 a0 && (bif !(v116_0 a0) then true else ((decide ((([]:List AV).length+a0.length)*8≤140737488355328) && decide ((([]:List AV).length+a0.length)≤140737488355328)) && (ro (runW (R125_0 a0 (([]:List AV)++a0)) (((a0.length:Int) - 0:Int).toNat+1) (.inl 0)) false (sumE (fun _=>true) (fun p7=>true))))))
def v125_0 (a0:List AV):List AV:=(bif !(v116_0 a0) then ([]:List AV) else ([]:List AV)++a0)
def v125_1 (a0:List AV):List AV:=(bif !(v116_0 a0) then ([]:List AV) else (ro (runW (R125_0 a0 (([]:List AV)++a0)) (((a0.length:Int) - 0:Int).toNat+1) (.inl 0)) [] (sumE (fun _=>([]:List AV)) (fun p7=>p7))))
def v125_2 (a0:List AV):List AV:=([]:List AV)
theorem e125 (a0:List AV):funA c125 0 125 [AV.sl [.int .i64] a0]=(bif q116 a0 then (bif !(v116_0 a0) then some (AV.agg [AV.fl [.int .i64] ([]:List AV),AV.fl [.int .i64] ([]:List AV),AV.fl [.int .i64,.int .i64] ([]:List AV)])
 else (bif (decide ((([]:List AV).length+a0.length)*8≤140737488355328) && decide ((([]:List AV).length+a0.length)≤140737488355328)) then (ro (runW (R125_0 a0 (([]:List AV)++a0)) (((a0.length:Int) - 0:Int).toNat+1) (.inl 0)) none (sumE (fun _=>some (AV.agg [AV.fl [.int .i64] (([]:List AV)++a0),AV.fl [.int .i64] ([]:List AV),AV.fl [.int .i64,.int .i64] ([]:List AV)])) (fun p7=>some (AV.agg [AV.fl [.int .i64] (([]:List AV)++a0),AV.fl [.int .i64] p7,AV.fl [.int .i64,.int .i64] ([]:List AV)]))))
 else none))
 else none):=by kernel_rfl
def m125:TModel
 | [.sl g0 a0]=>bif ctsEq g0 ([.int .i64]) then some (q125 a0,AV.agg [AV.fl [.int .i64] (v125_0 a0),AV.fl [.int .i64] (v125_1 a0),AV.fl [.int .i64,.int .i64] (v125_2 a0)]) else none
 | _=>none
theorem k125:Known Tryz.prog 125:=⟨Tryz.f125,Tryz.func125,by kernel_rfl,by kernel_rfl⟩
theorem meets125:Meets Tryz.prog 125 m125:=by
 refine mt (lvl:=0) (cf:=c125) rfl mixed k125 Tryz.func125 (by kernel_rfl) (loops_cons ok125_0 noLoop) (allT_cons meets116 allT_nil) allM_nil noI fun xs r h=>?_
 unfold m125 at h
 split at h
 ·rename_i g0 a0
  obtain ⟨hg,h⟩:=bif_pair h
  have q0:=hg
  obtain rfl:=cE q0
  obtain ⟨h1,rfl⟩:=pair_inj h
  exact (e125 a0).trans ((brL (br (fun b=>some (AV.agg [AV.fl [.int .i64] (bif b then ([]:List AV) else ([]:List AV)++a0),AV.fl [.int .i64] (bif b then ([]:List AV) else (ro (runW (R125_0 a0 (([]:List AV)++a0)) (((a0.length:Int) - 0:Int).toNat+1) (.inl 0)) [] (sumE (fun _=>([]:List AV)) (fun p7=>p7)))),AV.fl [.int .i64,.int .i64] ([]:List AV)])) (fun _=>rfl) (brL (brO (fun o:Option (Unit ⊕ ((List AV)))=>some (AV.agg [AV.fl [.int .i64] (([]:List AV)++a0),AV.fl [.int .i64] (ro o [] (sumE (fun _=>([]:List AV)) (fun p7=>p7))),AV.fl [.int .i64,.int .i64] ([]:List AV)])) (brS (fun o:Unit ⊕ ((List AV))=>some (AV.agg [AV.fl [.int .i64] (([]:List AV)++a0),AV.fl [.int .i64] ((sumE (fun _=>([]:List AV)) (fun p7=>p7)) o),AV.fl [.int .i64,.int .i64] ([]:List AV)])) (fun _=>(fun _=>rfl)) (fun p7=>(fun _=>rfl))))))) h1)
 ·cases h
noncomputable def c96:Cfg:=cfg Tryz.prog [(96,999,[4])] [] [(42,.g m42),(93,.g m93),(97,.g m97)] [] []
def T96 {β:Type} (k:(Int × (List AV) × Int × Int × (List AV) × (List AV) × (List AV))→β) (n:β) (ua:List AV) (ub:Int) (uc:Int) (b1:List AV) (b2:List AV) (b3:List AV):β:=by
 refine (?f0:Bool→(List AV)→Int→Int→β) (v97_0 4 ua ub uc) (v97_1 4 ua ub uc) (v97_2 4 ua ub uc) (v97_3 4 ua ub uc);intro x1 x2 x3 x4
 refine (?f1:Int→(List AV)→Int→Int→β) (v42_0 (b1.length:Int) x2 x3 x4) (v42_1 (b1.length:Int) x2 x3 x4) (v42_2 (b1.length:Int) x2 x3 x4) (v42_3 (b1.length:Int) x2 x3 x4);intro x5 x6 x7 x8
 exact (bif decide ((b1.length:Int) > 0) then (bif q97 4 ua ub uc then (bif !x1 then (bif q42 (b1.length:Int) x2 x3 x4 then (bif (decide (0≤x5) && decide (x5<(b1.length:Int))) then (bif q42 3 x6 x7 x8 then k (IntKind.i64.wrap (IntKind.i64.wrap (fI (b1.getD x5.toNat .undef) 0+(v42_0 3 x6 x7 x8)) - 1),(v42_1 3 x6 x7 x8),(v42_2 3 x6 x7 x8),(v42_3 3 x6 x7 x8),b1,b2,b3)
 else n)
 else n)
 else n)
 else (bif q93 x2 x3 x4 ([AV.int .i64 0,AV.int .i64 3,AV.int .i64 (-2),AV.int .i64 (-1000),AV.int .i64 1000,AV.int .i64 50]) then k ((v93_0 x2 x3 x4 ([AV.int .i64 0,AV.int .i64 3,AV.int .i64 (-2),AV.int .i64 (-1000),AV.int .i64 1000,AV.int .i64 50])),(v93_1 x2 x3 x4 ([AV.int .i64 0,AV.int .i64 3,AV.int .i64 (-2),AV.int .i64 (-1000),AV.int .i64 1000,AV.int .i64 50])),(v93_2 x2 x3 x4 ([AV.int .i64 0,AV.int .i64 3,AV.int .i64 (-2),AV.int .i64 (-1000),AV.int .i64 1000,AV.int .i64 50])),(v93_3 x2 x3 x4 ([AV.int .i64 0,AV.int .i64 3,AV.int .i64 (-2),AV.int .i64 (-1000),AV.int .i64 1000,AV.int .i64 50])),b1,b2,b3)
 else n))
 else n)
 else (bif q93 ua ub uc ([AV.int .i64 0,AV.int .i64 3,AV.int .i64 (-2),AV.int .i64 (-1000),AV.int .i64 1000,AV.int .i64 50]) then k ((v93_0 ua ub uc ([AV.int .i64 0,AV.int .i64 3,AV.int .i64 (-2),AV.int .i64 (-1000),AV.int .i64 1000,AV.int .i64 50])),(v93_1 ua ub uc ([AV.int .i64 0,AV.int .i64 3,AV.int .i64 (-2),AV.int .i64 (-1000),AV.int .i64 1000,AV.int .i64 50])),(v93_2 ua ub uc ([AV.int .i64 0,AV.int .i64 3,AV.int .i64 (-2),AV.int .i64 (-1000),AV.int .i64 1000,AV.int .i64 50])),(v93_3 ua ub uc ([AV.int .i64 0,AV.int .i64 3,AV.int .i64 (-2),AV.int .i64 (-1000),AV.int .i64 1000,AV.int .i64 50])),b1,b2,b3)
 else n))
abbrev W96 (ua:List AV) (ub:Int) (uc:Int) (b1:List AV) (b2:List AV) (b3:List AV):Option (Int × (List AV) × Int × Int × (List AV) × (List AV) × (List AV)):=T96 some none ua ub uc b1 b2 b3
theorem n96 {β:Type} (k:(Int × (List AV) × Int × Int × (List AV) × (List AV) × (List AV))→β) (n:β) (ua:List AV) (ub:Int) (uc:Int) (b1:List AV) (b2:List AV) (b3:List AV):T96 k n ua ub uc b1 b2 b3=oe k n (W96 ua ub uc b1 b2 b3):=by
 unfold W96 T96
 simp only [oe_cond,oe_ro,oe_sum,oe_some,oe_none]
def q96 (ua:List AV) (ub uc:Int) (b1 b2 b3:List AV):Bool:=(W96 ua ub uc b1 b2 b3).isSome
def v96_0 (ua:List AV) (ub uc:Int) (b1 b2 b3:List AV):Int:=oe (fun t=>t.1) 0 (W96 ua ub uc b1 b2 b3)
def v96_1 (ua:List AV) (ub uc:Int) (b1 b2 b3:List AV):List AV:=oe (fun t=>t.2.1) [] (W96 ua ub uc b1 b2 b3)
def v96_2 (ua:List AV) (ub uc:Int) (b1 b2 b3:List AV):Int:=oe (fun t=>t.2.2.1) 0 (W96 ua ub uc b1 b2 b3)
def v96_3 (ua:List AV) (ub uc:Int) (b1 b2 b3:List AV):Int:=oe (fun t=>t.2.2.2.1) 0 (W96 ua ub uc b1 b2 b3)
def v96_4 (ua:List AV) (ub uc:Int) (b1 b2 b3:List AV):List AV:=oe (fun t=>t.2.2.2.2.1) [] (W96 ua ub uc b1 b2 b3)
def v96_5 (ua:List AV) (ub uc:Int) (b1 b2 b3:List AV):List AV:=oe (fun t=>t.2.2.2.2.2.1) [] (W96 ua ub uc b1 b2 b3)
def v96_6 (ua:List AV) (ub uc:Int) (b1 b2 b3:List AV):List AV:=oe (fun t=>t.2.2.2.2.2.2) [] (W96 ua ub uc b1 b2 b3)
theorem e96 (ua:List AV) (ub uc:Int) (b1 b2 b3:List AV) (K:List AV→List (Option Blk)→Option AV):inlA c96 1 96 [AV.ptr [1] 0 0,AV.agg [AV.own [2],AV.own [3],AV.own [4]]] [0] (canH 1 [⟨true,[],[AV.agg [AV.sl [.int .u8] ua,Ai ub,Ai uc]]⟩,⟨false,[.int .i64],b1⟩,⟨false,[.int .i64],b2⟩,⟨false,[.int .i64,.int .i64],b3⟩]) (keepG Tryz.prog 4 [3] [] K)=T96 (fun t=>K [Ai t.1] [some ⟨true,[],[AV.agg [AV.sl [.int .u8] t.2.1,Ai t.2.2.1,Ai t.2.2.2.1]]⟩,some ⟨false,[.int .i64],t.2.2.2.2.1⟩,some ⟨false,[.int .i64],t.2.2.2.2.2.1⟩,some ⟨false,[.int .i64,.int .i64],t.2.2.2.2.2.2⟩]) none ua ub uc b1 b2 b3:=by kernel_rfl
theorem r96 (ua:List AV) (ub uc:Int) (b1 b2 b3:List AV) (K:List AV→List (Option Blk)→Option AV) (h:q96 ua ub uc b1 b2 b3=true):inlA c96 1 96 [AV.ptr [1] 0 0,AV.agg [AV.own [2],AV.own [3],AV.own [4]]] [0] (canH 1 [⟨true,[],[AV.agg [AV.sl [.int .u8] ua,AV.int .i64 ub,AV.int .i64 uc]]⟩,⟨false,[.int .i64],b1⟩,⟨false,[.int .i64],b2⟩,⟨false,[.int .i64,.int .i64],b3⟩]) (keepG Tryz.prog 4 [3] [] K)=K [AV.int .i64 (v96_0 ua ub uc b1 b2 b3)] [some ⟨true,[],[AV.agg [AV.sl [.int .u8] (v96_1 ua ub uc b1 b2 b3),AV.int .i64 (v96_2 ua ub uc b1 b2 b3),AV.int .i64 (v96_3 ua ub uc b1 b2 b3)]]⟩,some ⟨false,[.int .i64],(v96_4 ua ub uc b1 b2 b3)⟩,some ⟨false,[.int .i64],(v96_5 ua ub uc b1 b2 b3)⟩,some ⟨false,[.int .i64,.int .i64],(v96_6 ua ub uc b1 b2 b3)⟩]:=by
 refine ((e96 ua ub uc b1 b2 b3 K).trans (n96 _ _ ua ub uc b1 b2 b3)).trans ?_
 unfold q96 at h
 unfold v96_0 v96_1 v96_2 v96_3 v96_4 v96_5 v96_6
 generalize W96 ua ub uc b1 b2 b3=o at *
 cases o with
 | none=>cases h
 | some t=>rfl
def m96:GModel
 | [.ptr g0 g1 g2,.agg [.own g3,.own g4,.own g5]],[⟨true,[],[.agg [.sl g6 ua,.int .i64 ub,.int .i64 uc]]⟩,⟨false,g7,b1⟩,⟨false,g8,b2⟩,⟨false,g9,b3⟩]=>bif nmEq g0 ([1]) && Nat.beq g1 0 && Nat.beq g2 0 && nmEq g3 ([2]) && nmEq g4 ([3]) && nmEq g5 ([4]) && ctsEq g6 ([.int .u8]) && ctsEq g7 ([.int .i64]) && ctsEq g8 ([.int .i64]) && ctsEq g9 ([.int .i64,.int .i64]) then some (q96 ua ub uc b1 b2 b3,[AV.int .i64 (v96_0 ua ub uc b1 b2 b3)],[some ⟨true,[],[AV.agg [AV.sl [.int .u8] (v96_1 ua ub uc b1 b2 b3),AV.int .i64 (v96_2 ua ub uc b1 b2 b3),AV.int .i64 (v96_3 ua ub uc b1 b2 b3)]]⟩,some ⟨false,[.int .i64],(v96_4 ua ub uc b1 b2 b3)⟩,some ⟨false,[.int .i64],(v96_5 ua ub uc b1 b2 b3)⟩,some ⟨false,[.int .i64,.int .i64],(v96_6 ua ub uc b1 b2 b3)⟩]) else none
 | _,_=>none
theorem k96:Known Tryz.prog 96:=⟨Tryz.f96,Tryz.func96,by kernel_rfl,by kernel_rfl⟩
theorem meets96:MeetsG Tryz.prog 96 m96:=by
 refine mg (rt:=[3]) (gs:=[]) (lvl:=0) (cf:=c96) rfl mixed k96 Tryz.func96 (by kernel_rfl) noLoop allT_nil (allG_cons meets42 (allG_cons meets93 (allG_cons meets97 allM_nil))) noI fun xs bs r bs' h K=>?_
 unfold m96 at h
 split at h
 ·rename_i g0 g1 g2 g3 g4 g5 g6 ua ub uc g7 b1 g8 b2 g9 b3
  obtain ⟨hg,h⟩:=bif_pair h
  simp only [Bool.and_eq_true] at hg
  obtain ⟨⟨⟨⟨⟨⟨⟨⟨⟨q0,q1⟩,q2⟩,q3⟩,q4⟩,q5⟩,q6⟩,q7⟩,q8⟩,q9⟩:=hg
  obtain rfl:=nE q0
  obtain rfl:=bE q1
  obtain rfl:=bE q2
  obtain rfl:=nE q3
  obtain rfl:=nE q4
  obtain rfl:=nE q5
  obtain rfl:=cE q6
  obtain rfl:=cE q7
  obtain rfl:=cE q8
  obtain rfl:=cE q9
  obtain ⟨h1,rfl,rfl⟩:=trip_inj h
  exact r96 ua ub uc b1 b2 b3 K h1
 ·cases h
noncomputable def c139:Cfg:=cfg Tryz.prog [(139,999,[2])] [] [(42,.g m42),(93,.g m93)] [] []
def T139 {β:Type} (k:(Int × Int × (List AV) × Int × Int)→β) (n:β) (ua:List AV) (ub:Int) (uc:Int):β:=by
 refine (?f0:Int→(List AV)→Int→Int→β) (v93_0 ua ub uc ([AV.int .i64 3,AV.int .i64 10,AV.int .i64 30,AV.int .i64 1000])) (v93_1 ua ub uc ([AV.int .i64 3,AV.int .i64 10,AV.int .i64 30,AV.int .i64 1000])) (v93_2 ua ub uc ([AV.int .i64 3,AV.int .i64 10,AV.int .i64 30,AV.int .i64 1000])) (v93_3 ua ub uc ([AV.int .i64 3,AV.int .i64 10,AV.int .i64 30,AV.int .i64 1000]));intro x1 x2 x3 x4
 refine (?f1:Int→(List AV)→Int→Int→β) (v42_0 x1 x2 x3 x4) (v42_1 x1 x2 x3 x4) (v42_2 x1 x2 x3 x4) (v42_3 x1 x2 x3 x4);intro x5 x6 x7 x8
 exact (bif q93 ua ub uc ([AV.int .i64 3,AV.int .i64 10,AV.int .i64 30,AV.int .i64 1000]) then (bif q42 x1 x2 x3 x4 then (bif !decide (3=0) then (bif q42 x1 x6 x7 x8 then k (IntKind.i64.wrap (x5 - IntKind.i64.wrap (Int.tdiv x1 3)),(if IntKind.i64.wrap (IntKind.i64.wrap (x5 - IntKind.i64.wrap (Int.tdiv x1 3))+(v42_0 x1 x6 x7 x8))<1000 then IntKind.i64.wrap (IntKind.i64.wrap (x5 - IntKind.i64.wrap (Int.tdiv x1 3))+(v42_0 x1 x6 x7 x8)) else 1000),(v42_1 x1 x6 x7 x8),(v42_2 x1 x6 x7 x8),(v42_3 x1 x6 x7 x8))
 else n)
 else n)
 else n)
 else n)
abbrev W139 (ua:List AV) (ub:Int) (uc:Int):Option (Int × Int × (List AV) × Int × Int):=T139 some none ua ub uc
theorem n139 {β:Type} (k:(Int × Int × (List AV) × Int × Int)→β) (n:β) (ua:List AV) (ub:Int) (uc:Int):T139 k n ua ub uc=oe k n (W139 ua ub uc):=by
 unfold W139 T139
 simp only [oe_cond,oe_ro,oe_sum,oe_some,oe_none]
def q139 (ua:List AV) (ub uc:Int):Bool:=(W139 ua ub uc).isSome
def v139_0 (ua:List AV) (ub uc:Int):Int:=oe (fun t=>t.1) 0 (W139 ua ub uc)
def v139_1 (ua:List AV) (ub uc:Int):Int:=oe (fun t=>t.2.1) 0 (W139 ua ub uc)
def v139_2 (ua:List AV) (ub uc:Int):List AV:=oe (fun t=>t.2.2.1) [] (W139 ua ub uc)
def v139_3 (ua:List AV) (ub uc:Int):Int:=oe (fun t=>t.2.2.2.1) 0 (W139 ua ub uc)
def v139_4 (ua:List AV) (ub uc:Int):Int:=oe (fun t=>t.2.2.2.2) 0 (W139 ua ub uc)
theorem e139 (ua:List AV) (ub uc:Int) (K:List AV→List (Option Blk)→Option AV):inlA c139 1 139 [AV.ptr [1] 0 0] [0] (canH 1 [⟨true,[],[AV.agg [AV.sl [.int .u8] ua,Ai ub,Ai uc]]⟩]) (keepG Tryz.prog 1 [32] [] K)=T139 (fun t=>K [AV.agg [Ai t.1,Ai t.2.1]] [some ⟨true,[],[AV.agg [AV.sl [.int .u8] t.2.2.1,Ai t.2.2.2.1,Ai t.2.2.2.2]]⟩]) none ua ub uc:=by kernel_rfl
theorem r139 (ua:List AV) (ub uc:Int) (K:List AV→List (Option Blk)→Option AV) (h:q139 ua ub uc=true):inlA c139 1 139 [AV.ptr [1] 0 0] [0] (canH 1 [⟨true,[],[AV.agg [AV.sl [.int .u8] ua,AV.int .i64 ub,AV.int .i64 uc]]⟩]) (keepG Tryz.prog 1 [32] [] K)=K [AV.agg [AV.int .i64 (v139_0 ua ub uc),AV.int .i64 (v139_1 ua ub uc)]] [some ⟨true,[],[AV.agg [AV.sl [.int .u8] (v139_2 ua ub uc),AV.int .i64 (v139_3 ua ub uc),AV.int .i64 (v139_4 ua ub uc)]]⟩]:=by
 refine ((e139 ua ub uc K).trans (n139 _ _ ua ub uc)).trans ?_
 unfold q139 at h
 unfold v139_0 v139_1 v139_2 v139_3 v139_4
 generalize W139 ua ub uc=o at *
 cases o with
 | none=>cases h
 | some t=>rfl
def m139:GModel
 | [.ptr g0 g1 g2],[⟨true,[],[.agg [.sl g3 ua,.int .i64 ub,.int .i64 uc]]⟩]=>bif nmEq g0 ([1]) && Nat.beq g1 0 && Nat.beq g2 0 && ctsEq g3 ([.int .u8]) then some (q139 ua ub uc,[AV.agg [AV.int .i64 (v139_0 ua ub uc),AV.int .i64 (v139_1 ua ub uc)]],[some ⟨true,[],[AV.agg [AV.sl [.int .u8] (v139_2 ua ub uc),AV.int .i64 (v139_3 ua ub uc),AV.int .i64 (v139_4 ua ub uc)]]⟩]) else none
 | _,_=>none
theorem k139:Known Tryz.prog 139:=⟨Tryz.f139,Tryz.func139,by kernel_rfl,by kernel_rfl⟩
theorem meets139:MeetsG Tryz.prog 139 m139:=by
 refine mg (rt:=[32]) (gs:=[]) (lvl:=0) (cf:=c139) rfl mixed k139 Tryz.func139 (by kernel_rfl) noLoop allT_nil (allG_cons meets42 (allG_cons meets93 allM_nil)) noI fun xs bs r bs' h K=>?_
 unfold m139 at h
 split at h
 ·rename_i g0 g1 g2 g3 ua ub uc
  obtain ⟨hg,h⟩:=bif_pair h
  simp only [Bool.and_eq_true] at hg
  obtain ⟨⟨⟨q0,q1⟩,q2⟩,q3⟩:=hg
  obtain rfl:=nE q0
  obtain rfl:=bE q1
  obtain rfl:=bE q2
  obtain rfl:=cE q3
  obtain ⟨h1,rfl,rfl⟩:=trip_inj h
  exact r139 ua ub uc K h1
 ·cases h
noncomputable def c98:Cfg:=cfg Tryz.prog [(98,999,[2]),(98,1000,[2,3])] [] [(42,.g m42),(93,.g m93),(139,.g m139)] [] []
def T98 {β:Type} (k:(Int × Int × (List AV) × Int × Int)→β) (n:β) (ua:List AV) (ub:Int) (uc:Int):β:=by
 refine (?f0:Int→Int→(List AV)→Int→Int→β) (v139_0 ua ub uc) (v139_1 ua ub uc) (v139_2 ua ub uc) (v139_3 ua ub uc) (v139_4 ua ub uc);intro x1 x2 x3 x4 x5
 refine (?f1:Int→(List AV)→Int→Int→β) (v42_0 10 x3 x4 x5) (v42_1 10 x3 x4 x5) (v42_2 10 x3 x4 x5) (v42_3 10 x3 x4 x5);intro x6 x7 x8 x9
 refine (?f2:Int→(List AV)→Int→Int→β) (v93_0 x7 x8 x9 ([AV.int .i64 (-1001),AV.int .i64 (-1000),AV.int .i64 1000,AV.int .i64 1001])) (v93_1 x7 x8 x9 ([AV.int .i64 (-1001),AV.int .i64 (-1000),AV.int .i64 1000,AV.int .i64 1001])) (v93_2 x7 x8 x9 ([AV.int .i64 (-1001),AV.int .i64 (-1000),AV.int .i64 1000,AV.int .i64 1001])) (v93_3 x7 x8 x9 ([AV.int .i64 (-1001),AV.int .i64 (-1000),AV.int .i64 1000,AV.int .i64 1001]));intro x10 x11 x12 x13
 exact (bif q139 ua ub uc then (bif q42 10 x3 x4 x5 then (bif decide (x6=0) then (bif q93 x7 x8 x9 ([AV.int .i64 (-1001),AV.int .i64 (-1000),AV.int .i64 1000,AV.int .i64 1001]) then k (x10,x2,x11,x12,x13)
 else n)
 else (bif decide (x6=1) then (bif q93 x7 x8 x9 ([AV.int .i64 (-1001),AV.int .i64 (-1000),AV.int .i64 1000,AV.int .i64 1001]) then k (x1,x10,x11,x12,x13)
 else n)
 else k (x1,x2,x7,x8,x9)))
 else n)
 else n)
abbrev W98 (ua:List AV) (ub:Int) (uc:Int):Option (Int × Int × (List AV) × Int × Int):=T98 some none ua ub uc
theorem n98 {β:Type} (k:(Int × Int × (List AV) × Int × Int)→β) (n:β) (ua:List AV) (ub:Int) (uc:Int):T98 k n ua ub uc=oe k n (W98 ua ub uc):=by
 unfold W98 T98
 simp only [oe_cond,oe_ro,oe_sum,oe_some,oe_none]
def q98 (ua:List AV) (ub uc:Int):Bool:=(W98 ua ub uc).isSome
def v98_0 (ua:List AV) (ub uc:Int):Int:=oe (fun t=>t.1) 0 (W98 ua ub uc)
def v98_1 (ua:List AV) (ub uc:Int):Int:=oe (fun t=>t.2.1) 0 (W98 ua ub uc)
def v98_2 (ua:List AV) (ub uc:Int):List AV:=oe (fun t=>t.2.2.1) [] (W98 ua ub uc)
def v98_3 (ua:List AV) (ub uc:Int):Int:=oe (fun t=>t.2.2.2.1) 0 (W98 ua ub uc)
def v98_4 (ua:List AV) (ub uc:Int):Int:=oe (fun t=>t.2.2.2.2) 0 (W98 ua ub uc)
theorem e98 (ua:List AV) (ub uc:Int) (K:List AV→List (Option Blk)→Option AV):inlA c98 1 98 [AV.ptr [1] 0 0] [0] (canH 1 [⟨true,[],[AV.agg [AV.sl [.int .u8] ua,Ai ub,Ai uc]]⟩]) (keepG Tryz.prog 1 [32] [] K)=T98 (fun t=>K [AV.agg [Ai t.1,Ai t.2.1]] [some ⟨true,[],[AV.agg [AV.sl [.int .u8] t.2.2.1,Ai t.2.2.2.1,Ai t.2.2.2.2]]⟩]) none ua ub uc:=by kernel_rfl
theorem r98 (ua:List AV) (ub uc:Int) (K:List AV→List (Option Blk)→Option AV) (h:q98 ua ub uc=true):inlA c98 1 98 [AV.ptr [1] 0 0] [0] (canH 1 [⟨true,[],[AV.agg [AV.sl [.int .u8] ua,AV.int .i64 ub,AV.int .i64 uc]]⟩]) (keepG Tryz.prog 1 [32] [] K)=K [AV.agg [AV.int .i64 (v98_0 ua ub uc),AV.int .i64 (v98_1 ua ub uc)]] [some ⟨true,[],[AV.agg [AV.sl [.int .u8] (v98_2 ua ub uc),AV.int .i64 (v98_3 ua ub uc),AV.int .i64 (v98_4 ua ub uc)]]⟩]:=by
 refine ((e98 ua ub uc K).trans (n98 _ _ ua ub uc)).trans ?_
 unfold q98 at h
 unfold v98_0 v98_1 v98_2 v98_3 v98_4
 generalize W98 ua ub uc=o at *
 cases o with
 | none=>cases h
 | some t=>rfl
def m98:GModel
 | [.ptr g0 g1 g2],[⟨true,[],[.agg [.sl g3 ua,.int .i64 ub,.int .i64 uc]]⟩]=>bif nmEq g0 ([1]) && Nat.beq g1 0 && Nat.beq g2 0 && ctsEq g3 ([.int .u8]) then some (q98 ua ub uc,[AV.agg [AV.int .i64 (v98_0 ua ub uc),AV.int .i64 (v98_1 ua ub uc)]],[some ⟨true,[],[AV.agg [AV.sl [.int .u8] (v98_2 ua ub uc),AV.int .i64 (v98_3 ua ub uc),AV.int .i64 (v98_4 ua ub uc)]]⟩]) else none
 | _,_=>none
theorem k98:Known Tryz.prog 98:=⟨Tryz.f98,Tryz.func98,by kernel_rfl,by kernel_rfl⟩
theorem meets98:MeetsG Tryz.prog 98 m98:=by
 refine mg (rt:=[32]) (gs:=[]) (lvl:=0) (cf:=c98) rfl mixed k98 Tryz.func98 (by kernel_rfl) noLoop allT_nil (allG_cons meets42 (allG_cons meets93 (allG_cons meets139 allM_nil))) noI fun xs bs r bs' h K=>?_
 unfold m98 at h
 split at h
 ·rename_i g0 g1 g2 g3 ua ub uc
  obtain ⟨hg,h⟩:=bif_pair h
  simp only [Bool.and_eq_true] at hg
  obtain ⟨⟨⟨q0,q1⟩,q2⟩,q3⟩:=hg
  obtain rfl:=nE q0
  obtain rfl:=bE q1
  obtain rfl:=bE q2
  obtain rfl:=cE q3
  obtain ⟨h1,rfl,rfl⟩:=trip_inj h
  exact r98 ua ub uc K h1
 ·cases h
noncomputable def c43:Cfg:=cfg Tryz.prog [(43,999,[4])] [] [(96,.g m96),(97,.g m97),(98,.g m98)] [] []
def T43 {β:Type} (k:(Int × Int × (List AV) × Int × Int × (List AV) × (List AV) × (List AV))→β) (n:β) (ua:List AV) (ub:Int) (uc:Int) (b1:List AV) (b2:List AV) (b3:List AV):β:=by
 refine (?f0:Int→(List AV)→Int→Int→(List AV)→(List AV)→(List AV)→β) (v96_0 ua ub uc b1 b2 b3) (v96_1 ua ub uc b1 b2 b3) (v96_2 ua ub uc b1 b2 b3) (v96_3 ua ub uc b1 b2 b3) (v96_4 ua ub uc b1 b2 b3) (v96_5 ua ub uc b1 b2 b3) (v96_6 ua ub uc b1 b2 b3);intro x1 x2 x3 x4 x5 x6 x7
 refine (?f1:Int→(List AV)→Int→Int→(List AV)→(List AV)→(List AV)→β) (v96_0 x2 x3 x4 x5 x6 x7) (v96_1 x2 x3 x4 x5 x6 x7) (v96_2 x2 x3 x4 x5 x6 x7) (v96_3 x2 x3 x4 x5 x6 x7) (v96_4 x2 x3 x4 x5 x6 x7) (v96_5 x2 x3 x4 x5 x6 x7) (v96_6 x2 x3 x4 x5 x6 x7);intro x8 x9 x10 x11 x12 x13 x14
 refine (?f2:Bool→(List AV)→Int→Int→β) (v97_0 12 x9 x10 x11) (v97_1 12 x9 x10 x11) (v97_2 12 x9 x10 x11) (v97_3 12 x9 x10 x11);intro x15 x16 x17 x18
 exact (bif q96 ua ub uc b1 b2 b3 then (bif q96 x2 x3 x4 x5 x6 x7 then (bif q97 12 x9 x10 x11 then (bif x15 then (bif q98 x16 x17 x18 then k ((v98_0 x16 x17 x18),(v98_1 x16 x17 x18),(v98_2 x16 x17 x18),(v98_3 x16 x17 x18),(v98_4 x16 x17 x18),x12,x13,x14)
 else n)
 else k ((if x8<x1 then x8 else x1),(if x8 > x1 then x8 else x1),x16,x17,x18,x12,x13,x14))
 else n)
 else n)
 else n)
abbrev W43 (ua:List AV) (ub:Int) (uc:Int) (b1:List AV) (b2:List AV) (b3:List AV):Option (Int × Int × (List AV) × Int × Int × (List AV) × (List AV) × (List AV)):=T43 some none ua ub uc b1 b2 b3
theorem n43 {β:Type} (k:(Int × Int × (List AV) × Int × Int × (List AV) × (List AV) × (List AV))→β) (n:β) (ua:List AV) (ub:Int) (uc:Int) (b1:List AV) (b2:List AV) (b3:List AV):T43 k n ua ub uc b1 b2 b3=oe k n (W43 ua ub uc b1 b2 b3):=by
 unfold W43 T43
 simp only [oe_cond,oe_ro,oe_sum,oe_some,oe_none]
def q43 (ua:List AV) (ub uc:Int) (b1 b2 b3:List AV):Bool:=(W43 ua ub uc b1 b2 b3).isSome
def v43_0 (ua:List AV) (ub uc:Int) (b1 b2 b3:List AV):Int:=oe (fun t=>t.1) 0 (W43 ua ub uc b1 b2 b3)
def v43_1 (ua:List AV) (ub uc:Int) (b1 b2 b3:List AV):Int:=oe (fun t=>t.2.1) 0 (W43 ua ub uc b1 b2 b3)
def v43_2 (ua:List AV) (ub uc:Int) (b1 b2 b3:List AV):List AV:=oe (fun t=>t.2.2.1) [] (W43 ua ub uc b1 b2 b3)
def v43_3 (ua:List AV) (ub uc:Int) (b1 b2 b3:List AV):Int:=oe (fun t=>t.2.2.2.1) 0 (W43 ua ub uc b1 b2 b3)
def v43_4 (ua:List AV) (ub uc:Int) (b1 b2 b3:List AV):Int:=oe (fun t=>t.2.2.2.2.1) 0 (W43 ua ub uc b1 b2 b3)
def v43_5 (ua:List AV) (ub uc:Int) (b1 b2 b3:List AV):List AV:=oe (fun t=>t.2.2.2.2.2.1) [] (W43 ua ub uc b1 b2 b3)
def v43_6 (ua:List AV) (ub uc:Int) (b1 b2 b3:List AV):List AV:=oe (fun t=>t.2.2.2.2.2.2.1) [] (W43 ua ub uc b1 b2 b3)
def v43_7 (ua:List AV) (ub uc:Int) (b1 b2 b3:List AV):List AV:=oe (fun t=>t.2.2.2.2.2.2.2) [] (W43 ua ub uc b1 b2 b3)
theorem e43 (ua:List AV) (ub uc:Int) (b1 b2 b3:List AV) (K:List AV→List (Option Blk)→Option AV):inlA c43 1 43 [AV.ptr [1] 0 0,AV.agg [AV.own [2],AV.own [3],AV.own [4]]] [0] (canH 1 [⟨true,[],[AV.agg [AV.sl [.int .u8] ua,Ai ub,Ai uc]]⟩,⟨false,[.int .i64],b1⟩,⟨false,[.int .i64],b2⟩,⟨false,[.int .i64,.int .i64],b3⟩]) (keepG Tryz.prog 4 [32] [] K)=T43 (fun t=>K [AV.agg [Ai t.1,Ai t.2.1]] [some ⟨true,[],[AV.agg [AV.sl [.int .u8] t.2.2.1,Ai t.2.2.2.1,Ai t.2.2.2.2.1]]⟩,some ⟨false,[.int .i64],t.2.2.2.2.2.1⟩,some ⟨false,[.int .i64],t.2.2.2.2.2.2.1⟩,some ⟨false,[.int .i64,.int .i64],t.2.2.2.2.2.2.2⟩]) none ua ub uc b1 b2 b3:=by kernel_rfl
theorem r43 (ua:List AV) (ub uc:Int) (b1 b2 b3:List AV) (K:List AV→List (Option Blk)→Option AV) (h:q43 ua ub uc b1 b2 b3=true):inlA c43 1 43 [AV.ptr [1] 0 0,AV.agg [AV.own [2],AV.own [3],AV.own [4]]] [0] (canH 1 [⟨true,[],[AV.agg [AV.sl [.int .u8] ua,AV.int .i64 ub,AV.int .i64 uc]]⟩,⟨false,[.int .i64],b1⟩,⟨false,[.int .i64],b2⟩,⟨false,[.int .i64,.int .i64],b3⟩]) (keepG Tryz.prog 4 [32] [] K)=K [AV.agg [AV.int .i64 (v43_0 ua ub uc b1 b2 b3),AV.int .i64 (v43_1 ua ub uc b1 b2 b3)]] [some ⟨true,[],[AV.agg [AV.sl [.int .u8] (v43_2 ua ub uc b1 b2 b3),AV.int .i64 (v43_3 ua ub uc b1 b2 b3),AV.int .i64 (v43_4 ua ub uc b1 b2 b3)]]⟩,some ⟨false,[.int .i64],(v43_5 ua ub uc b1 b2 b3)⟩,some ⟨false,[.int .i64],(v43_6 ua ub uc b1 b2 b3)⟩,some ⟨false,[.int .i64,.int .i64],(v43_7 ua ub uc b1 b2 b3)⟩]:=by
 refine ((e43 ua ub uc b1 b2 b3 K).trans (n43 _ _ ua ub uc b1 b2 b3)).trans ?_
 unfold q43 at h
 unfold v43_0 v43_1 v43_2 v43_3 v43_4 v43_5 v43_6 v43_7
 generalize W43 ua ub uc b1 b2 b3=o at *
 cases o with
 | none=>cases h
 | some t=>rfl
def m43:GModel
 | [.ptr g0 g1 g2,.agg [.own g3,.own g4,.own g5]],[⟨true,[],[.agg [.sl g6 ua,.int .i64 ub,.int .i64 uc]]⟩,⟨false,g7,b1⟩,⟨false,g8,b2⟩,⟨false,g9,b3⟩]=>bif nmEq g0 ([1]) && Nat.beq g1 0 && Nat.beq g2 0 && nmEq g3 ([2]) && nmEq g4 ([3]) && nmEq g5 ([4]) && ctsEq g6 ([.int .u8]) && ctsEq g7 ([.int .i64]) && ctsEq g8 ([.int .i64]) && ctsEq g9 ([.int .i64,.int .i64]) then some (q43 ua ub uc b1 b2 b3,[AV.agg [AV.int .i64 (v43_0 ua ub uc b1 b2 b3),AV.int .i64 (v43_1 ua ub uc b1 b2 b3)]],[some ⟨true,[],[AV.agg [AV.sl [.int .u8] (v43_2 ua ub uc b1 b2 b3),AV.int .i64 (v43_3 ua ub uc b1 b2 b3),AV.int .i64 (v43_4 ua ub uc b1 b2 b3)]]⟩,some ⟨false,[.int .i64],(v43_5 ua ub uc b1 b2 b3)⟩,some ⟨false,[.int .i64],(v43_6 ua ub uc b1 b2 b3)⟩,some ⟨false,[.int .i64,.int .i64],(v43_7 ua ub uc b1 b2 b3)⟩]) else none
 | _,_=>none
theorem k43:Known Tryz.prog 43:=⟨Tryz.f43,Tryz.func43,by kernel_rfl,by kernel_rfl⟩
theorem meets43:MeetsG Tryz.prog 43 m43:=by
 refine mg (rt:=[32]) (gs:=[]) (lvl:=0) (cf:=c43) rfl mixed k43 Tryz.func43 (by kernel_rfl) noLoop allT_nil (allG_cons meets96 (allG_cons meets97 (allG_cons meets98 allM_nil))) noI fun xs bs r bs' h K=>?_
 unfold m43 at h
 split at h
 ·rename_i g0 g1 g2 g3 g4 g5 g6 ua ub uc g7 b1 g8 b2 g9 b3
  obtain ⟨hg,h⟩:=bif_pair h
  simp only [Bool.and_eq_true] at hg
  obtain ⟨⟨⟨⟨⟨⟨⟨⟨⟨q0,q1⟩,q2⟩,q3⟩,q4⟩,q5⟩,q6⟩,q7⟩,q8⟩,q9⟩:=hg
  obtain rfl:=nE q0
  obtain rfl:=bE q1
  obtain rfl:=bE q2
  obtain rfl:=nE q3
  obtain rfl:=nE q4
  obtain rfl:=nE q5
  obtain rfl:=cE q6
  obtain rfl:=cE q7
  obtain rfl:=cE q8
  obtain rfl:=cE q9
  obtain ⟨h1,rfl,rfl⟩:=trip_inj h
  exact r43 ua ub uc b1 b2 b3 K h1
 ·cases h
def G78_2 {β:Type} (h3_0:Int) (h3_1:Int) (h3_2:Int) (h4:List AV) (h5_0:Int) (h5_1:Int) (h5_2:Int) (t10:Int) (h0:List AV) (h1:List AV) (h2:List AV) (h7:List AV) (h8_0:List AV) (h8_1:Int) (h8_2:Int) (N:((Int × (List AV) × (List AV) × (List AV) × (List AV) × (List AV) × Int × Int))→β) (K:(((List AV) × (List AV) × (List AV) × (List AV) × (List AV) × Int × Int))→β) (d:β):β:=(bif decide (t10 > 0) then (bif q43 h8_0 h8_1 h8_2 h0 h1 h2 then (bif (decide ((h7.length+([AV.agg [AV.int .i64 (v43_0 h8_0 h8_1 h8_2 h0 h1 h2),AV.int .i64 (v43_1 h8_0 h8_1 h8_2 h0 h1 h2)]]).length)*16≤140737488355328) && decide ((h7.length+([AV.agg [AV.int .i64 (v43_0 h8_0 h8_1 h8_2 h0 h1 h2),AV.int .i64 (v43_1 h8_0 h8_1 h8_2 h0 h1 h2)]]).length)≤140737488355328)) then N (IntKind.i64.wrap (t10 - 1),(v43_5 h8_0 h8_1 h8_2 h0 h1 h2),(v43_6 h8_0 h8_1 h8_2 h0 h1 h2),(v43_7 h8_0 h8_1 h8_2 h0 h1 h2),h7++([AV.agg [AV.int .i64 (v43_0 h8_0 h8_1 h8_2 h0 h1 h2),AV.int .i64 (v43_1 h8_0 h8_1 h8_2 h0 h1 h2)]]),(v43_2 h8_0 h8_1 h8_2 h0 h1 h2),(v43_3 h8_0 h8_1 h8_2 h0 h1 h2),(v43_4 h8_0 h8_1 h8_2 h0 h1 h2))
 else d)
 else d)
 else K (h0,h1,h2,h7,h8_0,h8_1,h8_2))
def F78_2 (h3_0 h3_1 h3_2:Int) (h4:List AV) (h5_0 h5_1 h5_2 t10:Int) (h0 h1 h2 h7 h8_0:List AV) (h8_1 h8_2:Int):Out ((Int × (List AV) × (List AV) × (List AV) × (List AV) × (List AV) × Int × Int)) (((List AV) × (List AV) × (List AV) × (List AV) × (List AV) × Int × Int)):=G78_2 h3_0 h3_1 h3_2 h4 h5_0 h5_1 h5_2 t10 h0 h1 h2 h7 h8_0 h8_1 h8_2 .next .stop .fail
def R78_2 (h3_0 h3_1 h3_2:Int) (h4:List AV) (h5_0 h5_1 h5_2:Int):((Int × (List AV) × (List AV) × (List AV) × (List AV) × (List AV) × Int × Int))→Out ((Int × (List AV) × (List AV) × (List AV) × (List AV) × (List AV) × Int × Int)) (((List AV) × (List AV) × (List AV) × (List AV) × (List AV) × Int × Int)):=fun s:Int × (List AV) × (List AV) × (List AV) × (List AV) × (List AV) × Int × Int=>F78_2 h3_0 h3_1 h3_2 h4 h5_0 h5_1 h5_2 s.1 s.2.1 s.2.2.1 s.2.2.2.1 s.2.2.2.2.1 s.2.2.2.2.2.1 s.2.2.2.2.2.2.1 s.2.2.2.2.2.2.2
def E78_2 (h3_0 h3_1 h3_2:Int) (h4:List AV) (h5_0 h5_1 h5_2:Int):((Int × (List AV) × (List AV) × (List AV) × (List AV) × (List AV) × Int × Int))→St:=fun s:Int × (List AV) × (List AV) × (List AV) × (List AV) × (List AV) × Int × Int=>⟨[(0,AV.ptr [1] 0 0),(3,AV.ptr [0,3,0] 0 0),(5,AV.own [0,5,0]),(7,AV.ptr [0,7,0] 0 0),(8,AV.ptr [0,8,0] 0 0),(9,AV.own [0,9,0]),(10,Ai s.1)],[([0,0,8,0],⟨false,[.int .i64],s.2.1⟩),([0,1,8,0],⟨false,[.int .i64],s.2.2.1⟩),([0,2,8,0],⟨false,[.int .i64,.int .i64],s.2.2.2.1⟩),([0,3,0],⟨true,[],[AV.agg [Ai h3_0,Ai h3_1,Ai h3_2]]⟩),([0,5,0],⟨false,[.int .i64],h4⟩),([0,7,0],⟨true,[],[AV.agg [Ai h5_0,Ai h5_1,Ai h5_2]]⟩),([0,8,0],⟨true,[],[AV.agg [AV.own [0,0,8,0],AV.own [0,1,8,0],AV.own [0,2,8,0]]]⟩),([0,9,0],⟨false,[.int .i64,.int .i64],s.2.2.2.2.1⟩),([1],⟨true,[],[AV.agg [AV.sl [.int .u8] s.2.2.2.2.2.1,Ai s.2.2.2.2.2.2.1,Ai s.2.2.2.2.2.2.2]]⟩)]⟩
def K78_2 (h3_0 h3_1 h3_2:Int) (h4:List AV) (h5_0 h5_1 h5_2:Int) (k:Kont):(((List AV) × (List AV) × (List AV) × (List AV) × (List AV) × Int × Int))→Option AV:=fun p:(List AV) × (List AV) × (List AV) × (List AV) × (List AV) × Int × Int=>k (.exit 2) ⟨[(3,AV.ptr [0,3,0] 0 0),(5,AV.own [0,5,0]),(7,AV.ptr [0,7,0] 0 0),(9,AV.own [0,9,0])],[([0,0,8,0],⟨false,[.int .i64],p.1⟩),([0,1,8,0],⟨false,[.int .i64],p.2.1⟩),([0,2,8,0],⟨false,[.int .i64,.int .i64],p.2.2.1⟩),([0,3,0],⟨true,[],[AV.agg [Ai h3_0,Ai h3_1,Ai h3_2]]⟩),([0,5,0],⟨false,[.int .i64],h4⟩),([0,7,0],⟨true,[],[AV.agg [Ai h5_0,Ai h5_1,Ai h5_2]]⟩),([0,8,0],⟨true,[],[AV.agg [AV.own [0,0,8,0],AV.own [0,1,8,0],AV.own [0,2,8,0]]]⟩),([0,9,0],⟨false,[.int .i64,.int .i64],p.2.2.2.1⟩),([1],⟨true,[],[AV.agg [AV.sl [.int .u8] p.2.2.2.2.1,Ai p.2.2.2.2.2.1,Ai p.2.2.2.2.2.2]]⟩)]⟩
def l78_2:LModel:=fun _ _ st k=>match st with
 | ⟨[(0,.ptr g0 g1 g2),(3,.ptr g3 g4 g5),(5,.own g6),(7,.ptr g7 g8 g9),(8,.ptr g10 g11 g12),(9,.own g13),(10,.int .i64 t10)],[(g14,⟨false,g15,h0⟩),(g16,⟨false,g17,h1⟩),(g18,⟨false,g19,h2⟩),(g20,⟨true,[],[.agg [.int .i64 h3_0,.int .i64 h3_1,.int .i64 h3_2]]⟩),(g21,⟨false,g22,h4⟩),(g23,⟨true,[],[.agg [.int .i64 h5_0,.int .i64 h5_1,.int .i64 h5_2]]⟩),(g24,⟨true,[],[.agg [.own g25,.own g26,.own g27]]⟩),(g28,⟨false,g29,h7⟩),(g30,⟨true,[],[.agg [.sl g31 h8_0,.int .i64 h8_1,.int .i64 h8_2]]⟩)]⟩=>bif nmEq g0 ([1]) && Nat.beq g1 0 && Nat.beq g2 0 && nmEq g3 ([0,3,0]) && Nat.beq g4 0 && Nat.beq g5 0 && nmEq g6 ([0,5,0]) && nmEq g7 ([0,7,0]) && Nat.beq g8 0 && Nat.beq g9 0 && nmEq g10 ([0,8,0]) && Nat.beq g11 0 && Nat.beq g12 0 && nmEq g13 ([0,9,0]) && nmEq g14 ([0,0,8,0]) && ctsEq g15 ([.int .i64]) && nmEq g16 ([0,1,8,0]) && ctsEq g17 ([.int .i64]) && nmEq g18 ([0,2,8,0]) && ctsEq g19 ([.int .i64,.int .i64]) && nmEq g20 ([0,3,0]) && nmEq g21 ([0,5,0]) && ctsEq g22 ([.int .i64]) && nmEq g23 ([0,7,0]) && nmEq g24 ([0,8,0]) && nmEq g25 ([0,0,8,0]) && nmEq g26 ([0,1,8,0]) && nmEq g27 ([0,2,8,0]) && nmEq g28 ([0,9,0]) && ctsEq g29 ([.int .i64,.int .i64]) && nmEq g30 ([1]) && ctsEq g31 ([.int .u8]) then ro (runW (R78_2 h3_0 h3_1 h3_2 h4 h5_0 h5_1 h5_2) ((t10 - 0:Int).toNat+1) (t10,h0,h1,h2,h7,h8_0,h8_1,h8_2)) none (K78_2 h3_0 h3_1 h3_2 h4 h5_0 h5_1 h5_2 k) else none
 | _=>none
def G78_0 {β:Type} (h0_0:Int) (h0_1:Int) (h0_2:Int) (h2_0:List AV) (h2_1:Int) (h2_2:Int) (t6:Int) (h1:List AV) (N:((Int × (List AV)))→β) (K:(((List AV)))→β) (d:β):β:=(bif decide (t6<20) then (bif (decide ((h1.length+([AV.int .i64 (IntKind.i64.wrap (20 - t6))]).length)*8≤140737488355328) && decide ((h1.length+([AV.int .i64 (IntKind.i64.wrap (20 - t6))]).length)≤140737488355328)) then N (IntKind.i64.wrap (t6+1),h1++([AV.int .i64 (IntKind.i64.wrap (20 - t6))]))
 else d)
 else K h1)
def F78_0 (h0_0 h0_1 h0_2:Int) (h2_0:List AV) (h2_1 h2_2 t6:Int) (h1:List AV):Out ((Int × (List AV))) (((List AV))):=G78_0 h0_0 h0_1 h0_2 h2_0 h2_1 h2_2 t6 h1 .next .stop .fail
def R78_0 (h0_0 h0_1 h0_2:Int) (h2_0:List AV) (h2_1 h2_2:Int):((Int × (List AV)))→Out ((Int × (List AV))) (((List AV))):=fun s:Int × (List AV)=>F78_0 h0_0 h0_1 h0_2 h2_0 h2_1 h2_2 s.1 s.2
def E78_0 (h0_0 h0_1 h0_2:Int) (h2_0:List AV) (h2_1 h2_2:Int):((Int × (List AV)))→St:=fun s:Int × (List AV)=>⟨[(0,AV.ptr [1] 0 0),(3,AV.ptr [0,3,0] 0 0),(5,AV.own [0,5,0]),(6,Ai s.1)],[([0,3,0],⟨true,[],[AV.agg [Ai h0_0,Ai h0_1,Ai h0_2]]⟩),([0,5,0],⟨false,[.int .i64],s.2⟩),([1],⟨true,[],[AV.agg [AV.sl [.int .u8] h2_0,Ai h2_1,Ai h2_2]]⟩)]⟩
def K78_0 (h0_0 h0_1 h0_2:Int) (h2_0:List AV) (h2_1 h2_2:Int) (k:Kont):(((List AV)))→Option AV:=fun p:(List AV)=>k (.exit 0) ⟨[(0,AV.ptr [1] 0 0),(3,AV.ptr [0,3,0] 0 0),(5,AV.own [0,5,0])],[([0,3,0],⟨true,[],[AV.agg [Ai h0_0,Ai h0_1,Ai h0_2]]⟩),([0,5,0],⟨false,[.int .i64],p⟩),([1],⟨true,[],[AV.agg [AV.sl [.int .u8] h2_0,Ai h2_1,Ai h2_2]]⟩)]⟩
def l78_0:LModel:=fun _ _ st k=>match st with
 | ⟨[(0,.ptr g0 g1 g2),(3,.ptr g3 g4 g5),(5,.own g6),(6,.int .i64 t6)],[(g7,⟨true,[],[.agg [.int .i64 h0_0,.int .i64 h0_1,.int .i64 h0_2]]⟩),(g8,⟨false,g9,h1⟩),(g10,⟨true,[],[.agg [.sl g11 h2_0,.int .i64 h2_1,.int .i64 h2_2]]⟩)]⟩=>bif nmEq g0 ([1]) && Nat.beq g1 0 && Nat.beq g2 0 && nmEq g3 ([0,3,0]) && Nat.beq g4 0 && Nat.beq g5 0 && nmEq g6 ([0,5,0]) && nmEq g7 ([0,3,0]) && nmEq g8 ([0,5,0]) && ctsEq g9 ([.int .i64]) && nmEq g10 ([1]) && ctsEq g11 ([.int .u8]) then ro (runW (R78_0 h0_0 h0_1 h0_2 h2_0 h2_1 h2_2) ((20 - t6:Int).toNat+1) (t6,h1)) none (K78_0 h0_0 h0_1 h0_2 h2_0 h2_1 h2_2 k) else none
 | _=>none
noncomputable def c78:Cfg:=cfg Tryz.prog [(78,0,[0,3,5,6]),(78,2,[0,3,5,7,8,9,10]),(78,999,[2,3,4]),(78,1000,[0,3,5]),(78,1001,[0,3,5,6]),(78,1002,[3,5,7,9]),(78,1003,[0,3,5,7,8,9,10])] [(125,m125)] [(42,.g m42),(43,.g m43),(97,.g m97),(123,.g m123),(124,.g m124)] [] [(78,0,l78_0),(78,2,l78_2)]
theorem s78_2 (h3_0 h3_1 h3_2:Int) (h4:List AV) (h5_0 h5_1 h5_2:Int) (ce:CallE) (k:Kont) (s:Int × (List AV) × (List AV) × (List AV) × (List AV) × (List AV) × Int × Int) (next:St→Option AV):stepA (codeA c78 ce [0] 78 2 (sub [1,1,1,1,1,1,0,1,0,0] (body Tryz.f78))) (normA [0] [0,3,5,7,8,9,10]) next ((E78_2 h3_0 h3_1 h3_2 h4 h5_0 h5_1 h5_2) s) k=G78_2 h3_0 h3_1 h3_2 h4 h5_0 h5_1 h5_2 s.1 s.2.1 s.2.2.1 s.2.2.2.1 s.2.2.2.2.1 s.2.2.2.2.2.1 s.2.2.2.2.2.2.1 s.2.2.2.2.2.2.2 (fun s=>next ((E78_2 h3_0 h3_1 h3_2 h4 h5_0 h5_1 h5_2) s)) (K78_2 h3_0 h3_1 h3_2 h4 h5_0 h5_1 h5_2 k) none:=by kernel_rfl
theorem st78_2 (h3_0 h3_1 h3_2:Int) (h4:List AV) (h5_0 h5_1 h5_2:Int) (ce:CallE) (k:Kont) (s:(Int × (List AV) × (List AV) × (List AV) × (List AV) × (List AV) × Int × Int)) (next:St→Option AV):stepA (codeA c78 ce [0] 78 2 (sub [1,1,1,1,1,1,0,1,0,0] (body Tryz.f78))) (normA [0] [0,3,5,7,8,9,10]) next ((E78_2 h3_0 h3_1 h3_2 h4 h5_0 h5_1 h5_2) s) k=(R78_2 h3_0 h3_1 h3_2 h4 h5_0 h5_1 h5_2 s).el none (fun s=>next ((E78_2 h3_0 h3_1 h3_2 h4 h5_0 h5_1 h5_2) s)) (K78_2 h3_0 h3_1 h3_2 h4 h5_0 h5_1 h5_2 k):=(s78_2 h3_0 h3_1 h3_2 h4 h5_0 h5_1 h5_2 ce k s next).trans (by unfold R78_2;unfold F78_2 G78_2;simp only [el_cond,el_ro,el_sum,el_fail,el_next,el_stop] <;> rfl)
theorem ok78_2 {ce:CallE}:LoopOK c78 ce [0] 78 2 (sub [1,1,1,1,1,1,0,1,0,0] (body Tryz.f78)):=by
 intro m hm st k r h
 obtain rfl:l78_2=m:=Option.some.inj hm
 unfold l78_2 at h
 split at h
 ·rename_i g0 g1 g2 g3 g4 g5 g6 g7 g8 g9 g10 g11 g12 g13 t10 g14 g15 h0 g16 g17 h1 g18 g19 h2 g20 h3_0 h3_1 h3_2 g21 g22 h4 g23 h5_0 h5_1 h5_2 g24 g25 g26 g27 g28 g29 h7 g30 g31 h8_0 h8_1 h8_2
  obtain ⟨hg,h⟩:=bif_some h
  simp only [Bool.and_eq_true] at hg
  obtain ⟨⟨⟨⟨⟨⟨⟨⟨⟨⟨⟨⟨⟨⟨⟨⟨⟨⟨⟨⟨⟨⟨⟨⟨⟨⟨⟨⟨⟨⟨⟨q0,q1⟩,q2⟩,q3⟩,q4⟩,q5⟩,q6⟩,q7⟩,q8⟩,q9⟩,q10⟩,q11⟩,q12⟩,q13⟩,q14⟩,q15⟩,q16⟩,q17⟩,q18⟩,q19⟩,q20⟩,q21⟩,q22⟩,q23⟩,q24⟩,q25⟩,q26⟩,q27⟩,q28⟩,q29⟩,q30⟩,q31⟩:=hg
  obtain rfl:=nE q0
  obtain rfl:=bE q1
  obtain rfl:=bE q2
  obtain rfl:=nE q3
  obtain rfl:=bE q4
  obtain rfl:=bE q5
  obtain rfl:=nE q6
  obtain rfl:=nE q7
  obtain rfl:=bE q8
  obtain rfl:=bE q9
  obtain rfl:=nE q10
  obtain rfl:=bE q11
  obtain rfl:=bE q12
  obtain rfl:=nE q13
  obtain rfl:=nE q14
  obtain rfl:=cE q15
  obtain rfl:=nE q16
  obtain rfl:=cE q17
  obtain rfl:=nE q18
  obtain rfl:=cE q19
  obtain rfl:=nE q20
  obtain rfl:=nE q21
  obtain rfl:=cE q22
  obtain rfl:=nE q23
  obtain rfl:=nE q24
  obtain rfl:=nE q25
  obtain rfl:=nE q26
  obtain rfl:=nE q27
  obtain rfl:=nE q28
  obtain rfl:=cE q29
  obtain rfl:=nE q30
  obtain rfl:=cE q31
  refine ⟨((t10 - 0:Int).toNat+1),?_⟩
  rw [← h]
  exact loop_run (E78_2 h3_0 h3_1 h3_2 h4 h5_0 h5_1 h5_2) (K78_2 h3_0 h3_1 h3_2 h4 h5_0 h5_1 h5_2 k) (st78_2 h3_0 h3_1 h3_2 h4 h5_0 h5_1 h5_2 ce k) _ (t10,h0,h1,h2,h7,h8_0,h8_1,h8_2)
 ·cases h
theorem s78_0 (h0_0 h0_1 h0_2:Int) (h2_0:List AV) (h2_1 h2_2:Int) (ce:CallE) (k:Kont) (s:Int × (List AV)) (next:St→Option AV):stepA (codeA c78 ce [0] 78 0 (sub [1,1,0,1,0,1,1,0,0] (body Tryz.f78))) (normA [0] [0,3,5,6]) next ((E78_0 h0_0 h0_1 h0_2 h2_0 h2_1 h2_2) s) k=G78_0 h0_0 h0_1 h0_2 h2_0 h2_1 h2_2 s.1 s.2 (fun s=>next ((E78_0 h0_0 h0_1 h0_2 h2_0 h2_1 h2_2) s)) (K78_0 h0_0 h0_1 h0_2 h2_0 h2_1 h2_2 k) none:=by kernel_rfl
theorem st78_0 (h0_0 h0_1 h0_2:Int) (h2_0:List AV) (h2_1 h2_2:Int) (ce:CallE) (k:Kont) (s:(Int × (List AV))) (next:St→Option AV):stepA (codeA c78 ce [0] 78 0 (sub [1,1,0,1,0,1,1,0,0] (body Tryz.f78))) (normA [0] [0,3,5,6]) next ((E78_0 h0_0 h0_1 h0_2 h2_0 h2_1 h2_2) s) k=(R78_0 h0_0 h0_1 h0_2 h2_0 h2_1 h2_2 s).el none (fun s=>next ((E78_0 h0_0 h0_1 h0_2 h2_0 h2_1 h2_2) s)) (K78_0 h0_0 h0_1 h0_2 h2_0 h2_1 h2_2 k):=(s78_0 h0_0 h0_1 h0_2 h2_0 h2_1 h2_2 ce k s next).trans (by unfold R78_0;unfold F78_0 G78_0;simp only [el_cond,el_ro,el_sum,el_fail,el_next,el_stop] <;> rfl)
theorem ok78_0 {ce:CallE}:LoopOK c78 ce [0] 78 0 (sub [1,1,0,1,0,1,1,0,0] (body Tryz.f78)):=by
 intro m hm st k r h
 obtain rfl:l78_0=m:=Option.some.inj hm
 unfold l78_0 at h
 split at h
 ·rename_i g0 g1 g2 g3 g4 g5 g6 t6 g7 h0_0 h0_1 h0_2 g8 g9 h1 g10 g11 h2_0 h2_1 h2_2
  obtain ⟨hg,h⟩:=bif_some h
  simp only [Bool.and_eq_true] at hg
  obtain ⟨⟨⟨⟨⟨⟨⟨⟨⟨⟨⟨q0,q1⟩,q2⟩,q3⟩,q4⟩,q5⟩,q6⟩,q7⟩,q8⟩,q9⟩,q10⟩,q11⟩:=hg
  obtain rfl:=nE q0
  obtain rfl:=bE q1
  obtain rfl:=bE q2
  obtain rfl:=nE q3
  obtain rfl:=bE q4
  obtain rfl:=bE q5
  obtain rfl:=nE q6
  obtain rfl:=nE q7
  obtain rfl:=nE q8
  obtain rfl:=cE q9
  obtain rfl:=nE q10
  obtain rfl:=cE q11
  refine ⟨((20 - t6:Int).toNat+1),?_⟩
  rw [← h]
  exact loop_run (E78_0 h0_0 h0_1 h0_2 h2_0 h2_1 h2_2) (K78_0 h0_0 h0_1 h0_2 h2_0 h2_1 h2_2 k) (st78_0 h0_0 h0_1 h0_2 h2_0 h2_1 h2_2 ce k) _ (t6,h1)
 ·cases h
def T78 {β:Type} (k:((List AV) × Int × Int × Int × (List AV) × (List AV) × Int × Int)→β) (n:β) (ua:List AV) (ub:Int) (uc:Int):β:=by
 refine (?f0:(List AV)→(List AV)→Int→Int→β) (v123_0 14 ua ub uc) (v123_1 14 ua ub uc) (v123_2 14 ua ub uc) (v123_3 14 ua ub uc);intro x1 x2 x3 x4
 refine (?f1:Bool→(List AV)→Int→Int→β) (v97_0 4 x2 x3 x4) (v97_1 4 x2 x3 x4) (v97_2 4 x2 x3 x4) (v97_3 4 x2 x3 x4);intro x5 x6 x7 x8
 refine (?f2:Int→Int→Int→(List AV)→Int→Int→β) (v124_0 x6 x7 x8) (v124_1 x6 x7 x8) (v124_2 x6 x7 x8) (v124_3 x6 x7 x8) (v124_4 x6 x7 x8) (v124_5 x6 x7 x8);intro x9 x10 x11 x12 x13 x14
 exact (bif q123 14 ua ub uc then (bif q97 4 x2 x3 x4 then (bif x5 then (ro (runW (R78_0 0 0 0 x6 x7 x8) ((20 - 0:Int).toNat+1) (0,([]:List AV))) n (fun p3=>(bif q124 x6 x7 x8 then (bif q125 p3 then (bif q42 7 x12 x13 x14 then (ro (runW (R78_2 0 0 0 p3 x9 x10 x11) (((v42_0 7 x12 x13 x14) - 0:Int).toNat+1) ((v42_0 7 x12 x13 x14),(v125_0 p3),(v125_1 p3),(v125_2 p3),([]:List AV),(v42_1 7 x12 x13 x14),(v42_2 7 x12 x13 x14),(v42_3 7 x12 x13 x14))) n (fun p8=>k (p3,x9,x10,x11,p8.2.2.2.1,p8.2.2.2.2.1,p8.2.2.2.2.2.1,p8.2.2.2.2.2.2)))
 else n)
 else n)
 else n)))
 else (bif q124 x6 x7 x8 then (bif q125 x1 then (bif q42 7 x12 x13 x14 then (ro (runW (R78_2 0 0 0 x1 x9 x10 x11) (((v42_0 7 x12 x13 x14) - 0:Int).toNat+1) ((v42_0 7 x12 x13 x14),(v125_0 x1),(v125_1 x1),(v125_2 x1),([]:List AV),(v42_1 7 x12 x13 x14),(v42_2 7 x12 x13 x14),(v42_3 7 x12 x13 x14))) n (fun p9=>k (x1,x9,x10,x11,p9.2.2.2.1,p9.2.2.2.2.1,p9.2.2.2.2.2.1,p9.2.2.2.2.2.2)))
 else n)
 else n)
 else n))
 else n)
 else n)
abbrev W78 (ua:List AV) (ub:Int) (uc:Int):Option ((List AV) × Int × Int × Int × (List AV) × (List AV) × Int × Int):=T78 some none ua ub uc
theorem n78 {β:Type} (k:((List AV) × Int × Int × Int × (List AV) × (List AV) × Int × Int)→β) (n:β) (ua:List AV) (ub:Int) (uc:Int):T78 k n ua ub uc=oe k n (W78 ua ub uc):=by
 unfold W78 T78
 simp only [oe_cond,oe_ro,oe_sum,oe_some,oe_none]
def q78 (ua:List AV) (ub uc:Int):Bool:=(W78 ua ub uc).isSome
def v78_0 (ua:List AV) (ub uc:Int):List AV:=oe (fun t=>t.1) [] (W78 ua ub uc)
def v78_1 (ua:List AV) (ub uc:Int):Int:=oe (fun t=>t.2.1) 0 (W78 ua ub uc)
def v78_2 (ua:List AV) (ub uc:Int):Int:=oe (fun t=>t.2.2.1) 0 (W78 ua ub uc)
def v78_3 (ua:List AV) (ub uc:Int):Int:=oe (fun t=>t.2.2.2.1) 0 (W78 ua ub uc)
def v78_4 (ua:List AV) (ub uc:Int):List AV:=oe (fun t=>t.2.2.2.2.1) [] (W78 ua ub uc)
def v78_5 (ua:List AV) (ub uc:Int):List AV:=oe (fun t=>t.2.2.2.2.2.1) [] (W78 ua ub uc)
def v78_6 (ua:List AV) (ub uc:Int):Int:=oe (fun t=>t.2.2.2.2.2.2.1) 0 (W78 ua ub uc)
def v78_7 (ua:List AV) (ub uc:Int):Int:=oe (fun t=>t.2.2.2.2.2.2.2) 0 (W78 ua ub uc)
theorem e78 (ua:List AV) (ub uc:Int) (K:List AV→List (Option Blk)→Option AV):inlA c78 1 78 [AV.ptr [1] 0 0] [0] (canH 1 [⟨true,[],[AV.agg [AV.sl [.int .u8] ua,Ai ub,Ai uc]]⟩]) (keepG Tryz.prog 1 [25,106,59] [] K)=T78 (fun t=>K [AV.fl [.int .i64] t.1,AV.agg [Ai t.2.1,Ai t.2.2.1,Ai t.2.2.2.1],AV.fl [.int .i64,.int .i64] t.2.2.2.2.1] [some ⟨true,[],[AV.agg [AV.sl [.int .u8] t.2.2.2.2.2.1,Ai t.2.2.2.2.2.2.1,Ai t.2.2.2.2.2.2.2]]⟩]) none ua ub uc:=by kernel_rfl
theorem r78 (ua:List AV) (ub uc:Int) (K:List AV→List (Option Blk)→Option AV) (h:q78 ua ub uc=true):inlA c78 1 78 [AV.ptr [1] 0 0] [0] (canH 1 [⟨true,[],[AV.agg [AV.sl [.int .u8] ua,AV.int .i64 ub,AV.int .i64 uc]]⟩]) (keepG Tryz.prog 1 [25,106,59] [] K)=K [AV.fl [.int .i64] (v78_0 ua ub uc),AV.agg [AV.int .i64 (v78_1 ua ub uc),AV.int .i64 (v78_2 ua ub uc),AV.int .i64 (v78_3 ua ub uc)],AV.fl [.int .i64,.int .i64] (v78_4 ua ub uc)] [some ⟨true,[],[AV.agg [AV.sl [.int .u8] (v78_5 ua ub uc),AV.int .i64 (v78_6 ua ub uc),AV.int .i64 (v78_7 ua ub uc)]]⟩]:=by
 refine ((e78 ua ub uc K).trans (n78 _ _ ua ub uc)).trans ?_
 unfold q78 at h
 unfold v78_0 v78_1 v78_2 v78_3 v78_4 v78_5 v78_6 v78_7
 generalize W78 ua ub uc=o at *
 cases o with
 | none=>cases h
 | some t=>rfl
def m78:GModel
 | [.ptr g0 g1 g2],[⟨true,[],[.agg [.sl g3 ua,.int .i64 ub,.int .i64 uc]]⟩]=>bif nmEq g0 ([1]) && Nat.beq g1 0 && Nat.beq g2 0 && ctsEq g3 ([.int .u8]) then some (q78 ua ub uc,[AV.fl [.int .i64] (v78_0 ua ub uc),AV.agg [AV.int .i64 (v78_1 ua ub uc),AV.int .i64 (v78_2 ua ub uc),AV.int .i64 (v78_3 ua ub uc)],AV.fl [.int .i64,.int .i64] (v78_4 ua ub uc)],[some ⟨true,[],[AV.agg [AV.sl [.int .u8] (v78_5 ua ub uc),AV.int .i64 (v78_6 ua ub uc),AV.int .i64 (v78_7 ua ub uc)]]⟩]) else none
 | _,_=>none
theorem k78:Known Tryz.prog 78:=⟨Tryz.f78,Tryz.func78,by kernel_rfl,by kernel_rfl⟩
theorem meets78:MeetsG Tryz.prog 78 m78:=by
 refine mg (rt:=[25,106,59]) (gs:=[]) (lvl:=0) (cf:=c78) rfl mixed k78 Tryz.func78 (by kernel_rfl) (loops_cons ok78_0 (loops_cons ok78_2 noLoop)) (allT_cons meets125 allT_nil) (allG_cons meets42 (allG_cons meets43 (allG_cons meets97 (allG_cons meets123 (allG_cons meets124 allM_nil))))) noI fun xs bs r bs' h K=>?_
 unfold m78 at h
 split at h
 ·rename_i g0 g1 g2 g3 ua ub uc
  obtain ⟨hg,h⟩:=bif_pair h
  simp only [Bool.and_eq_true] at hg
  obtain ⟨⟨⟨q0,q1⟩,q2⟩,q3⟩:=hg
  obtain rfl:=nE q0
  obtain rfl:=bE q1
  obtain rfl:=bE q2
  obtain rfl:=cE q3
  obtain ⟨h1,rfl,rfl⟩:=trip_inj h
  exact r78 ua ub uc K h1
 ·cases h
def G27i40_0 {β:Type} (t0:List AV) (t3:Int) (t4:Int) (N:((Int × Int))→β) (K:(Int)→β) (d:β):β:=(bif decide (t4<(t0.length:Int)) then (bif decide (t4<4000) then (bif (decide (0≤t4) && decide (t4<(t0.length:Int))) then N (IntKind.i64.wrap ((BitVec.ofInt 64 (IntKind.i64.wrap (IntKind.i64.wrap (IntKind.i64.wrap (t3*131)+IntKind.i64.wrap (fI (t0.getD t4.toNat .undef) 0))+7)) &&& BitVec.ofInt 64 1073741823).toNat:Int),IntKind.i64.wrap (t4+1))
 else d)
 else K t3)
 else K t3)
def F27i40_0 (t0:List AV) (t3 t4:Int):Out ((Int × Int)) (Int):=G27i40_0 t0 t3 t4 .next .stop .fail
def R27i40_0 (t0:List AV):((Int × Int))→Out ((Int × Int)) (Int):=fun s:Int × Int=>F27i40_0 t0 s.1 s.2
def E27i40_0 (t0:List AV):((Int × Int))→St:=fun s:Int × Int=>⟨[(0,AV.sl [.int .u8] t0),(3,Ai s.1),(4,Ai s.2)],[]⟩
def K27i40_0 (t0:List AV) (k:Kont):(Int)→Option AV:=fun p:Int=>k (.exit 0) ⟨[(0,AV.sl [.int .u8] t0),(3,Ai p)],[]⟩
def l27i40_0:LModel:=fun _ π st k=>match st with
 | ⟨[(0,.sl g1 t0),(3,.int .i64 t3),(4,.int .i64 t4)],[]⟩=>bif nmEq π ([9]) && ctsEq g1 ([.int .u8]) then ro (runW (R27i40_0 t0) (((t0.length:Int) - t4:Int).toNat+1) (t3,t4)) none (K27i40_0 t0 k) else none
 | _=>none
noncomputable def c27:Cfg:=cfg Tryz.prog [(27,999,[2,3]),(40,0,[0,3,4]),(40,999,[2]),(40,1000,[0,3]),(40,1001,[0,3,4])] [] [(78,.g m78)] [40] [(40,0,l27i40_0)]
theorem s27i40_0 (t0:List AV) (ce:CallE) (k:Kont) (s:Int × Int) (next:St→Option AV):stepA (codeA c27 ce [9] 40 0 (sub [1,1,0,1,0,0] (body Tryz.f40))) (normA [9] [0,3,4]) next ((E27i40_0 t0) s) k=G27i40_0 t0 s.1 s.2 (fun s=>next ((E27i40_0 t0) s)) (K27i40_0 t0 k) none:=by kernel_rfl
theorem st27i40_0 (t0:List AV) (ce:CallE) (k:Kont) (s:(Int × Int)) (next:St→Option AV):stepA (codeA c27 ce [9] 40 0 (sub [1,1,0,1,0,0] (body Tryz.f40))) (normA [9] [0,3,4]) next ((E27i40_0 t0) s) k=(R27i40_0 t0 s).el none (fun s=>next ((E27i40_0 t0) s)) (K27i40_0 t0 k):=(s27i40_0 t0 ce k s next).trans (by unfold R27i40_0;unfold F27i40_0 G27i40_0;simp only [el_cond,el_ro,el_sum,el_fail,el_next,el_stop] <;> rfl)
theorem ok27i40_0 {ce:CallE} {π:Nm}:LoopOK c27 ce π 40 0 (sub [1,1,0,1,0,0] (body Tryz.f40)):=by
 intro m hm st k r h
 obtain rfl:l27i40_0=m:=Option.some.inj hm
 unfold l27i40_0 at h
 split at h
 ·rename_i g1 t0 t3 t4
  obtain ⟨hg,h⟩:=bif_some h
  simp only [Bool.and_eq_true] at hg
  obtain ⟨q0,q1⟩:=hg
  obtain rfl:=nE q0
  obtain rfl:=cE q1
  refine ⟨(((t0.length:Int) - t4:Int).toNat+1),?_⟩
  rw [← h]
  exact loop_run (E27i40_0 t0) (K27i40_0 t0 k) (st27i40_0 t0 ce k) _ (t3,t4)
 ·cases h
def T27 {β:Type} (k:((List AV) × (List AV))→β) (n:β) (a0:List AV):β:=(ro (runW (R27i40_0 a0) (((a0.length:Int) - 0:Int).toNat+1) (IntKind.i64.wrap (10101+(a0.length:Int)),0)) n (fun p1=>(bif q78 a0 0 p1 then k ((v78_0 a0 0 p1),(v78_4 a0 0 p1))
 else n)))
abbrev W27 (a0:List AV):Option ((List AV) × (List AV)):=T27 some none a0
theorem n27 {β:Type} (k:((List AV) × (List AV))→β) (n:β) (a0:List AV):T27 k n a0=oe k n (W27 a0):=by
 unfold W27 T27
 simp only [oe_cond,oe_ro,oe_sum,oe_some,oe_none]
def q27 (a0:List AV):Bool:=(W27 a0).isSome
def v27_0 (a0:List AV):List AV:=oe (fun t=>t.1) [] (W27 a0)
def v27_1 (a0:List AV):List AV:=oe (fun t=>t.2) [] (W27 a0)
theorem e27 (a0:List AV):funA c27 1 27 [AV.sl [.int .u8] a0]=T27 (fun t=>some (AV.tup [AV.fl [.int .i64] t.1,AV.fl [.int .i64,.int .i64] t.2])) none a0:=by kernel_rfl
theorem r27 (a0:List AV) (h:q27 a0=true):funA c27 1 27 [AV.sl [.int .u8] a0]=some (AV.tup [AV.fl [.int .i64] (v27_0 a0),AV.fl [.int .i64,.int .i64] (v27_1 a0)]):=by
 refine ((e27 a0).trans (n27 _ _ a0)).trans ?_
 unfold q27 at h
 unfold v27_0 v27_1
 generalize W27 a0=o at *
 cases o with
 | none=>cases h
 | some t=>rfl
def m27:TModel
 | [.sl g0 a0]=>bif ctsEq g0 ([.int .u8]) then some (q27 a0,AV.tup [AV.fl [.int .i64] (v27_0 a0),AV.fl [.int .i64,.int .i64] (v27_1 a0)]) else none
 | _=>none
theorem k27:Known Tryz.prog 27:=⟨Tryz.f27,Tryz.func27,by kernel_rfl,by kernel_rfl⟩
theorem i27_40:InlK Tryz.prog [(27,999,[2,3]),(40,0,[0,3,4]),(40,999,[2]),(40,1000,[0,3]),(40,1001,[0,3,4])] [] [(78,.g m78)] [40] [(40,0,l27i40_0)] 40:=⟨⟨Tryz.f40,Tryz.func40,by kernel_rfl,by kernel_rfl⟩,Tryz.f40,[(0,sub [1,1,0,1,0,0] (body Tryz.f40))],Tryz.func40,by kernel_rfl,fun ce π=>(loops_cons (ok27i40_0 (ce:=ce) (π:=π)) noLoop)⟩
theorem meets27:Meets Tryz.prog 27 m27:=by
 refine mt (lvl:=1) (cf:=c27) rfl mixed k27 Tryz.func27 (by kernel_rfl) noLoop allT_nil (allG_cons meets78 allM_nil) (allI_cons i27_40 noI) fun xs r h=>?_
 unfold m27 at h
 split at h
 ·rename_i g0 a0
  obtain ⟨hg,h⟩:=bif_pair h
  have q0:=hg
  obtain rfl:=cE q0
  obtain ⟨h1,rfl⟩:=pair_inj h
  exact r27 a0 h1
 ·cases h
noncomputable def c141:Cfg:=cfg Tryz.prog [(141,999,[4])] [] [] [] []
def v141_0 (a0:Int) (a1 a2:AV):Bool:=(bif decide (a0<fI a1 0) then true else decide (a0 > fI a2 0))
theorem e141 (a0:Int) (a1 a2:AV):funA c141 0 141 [Ai a0,AV.rptr [.int .i64] a1 0,AV.rptr [.int .i64] a2 0]=(bif decide (a0<fI a1 0) then some (AV.bool true)
 else some (AV.bool (decide (a0 > fI a2 0)))):=by kernel_rfl
def m141:TModel
 | [.int .i64 a0,.rptr g0 a1 g1,.rptr g2 a2 g3]=>bif ctsEq g0 ([.int .i64]) && Nat.beq g1 0 && ctsEq g2 ([.int .i64]) && Nat.beq g3 0 then some (true,AV.bool (v141_0 a0 a1 a2)) else none
 | _=>none
theorem k141:Known Tryz.prog 141:=⟨Tryz.f141,Tryz.func141,by kernel_rfl,by kernel_rfl⟩
theorem meets141:Meets Tryz.prog 141 m141:=by
 refine mt (lvl:=0) (cf:=c141) rfl mixed k141 Tryz.func141 (by kernel_rfl) noLoop allT_nil allM_nil noI fun xs r h=>?_
 unfold m141 at h
 split at h
 ·rename_i a0 g0 a1 g1 g2 a2 g3
  obtain ⟨hg,h⟩:=bif_pair h
  simp only [Bool.and_eq_true] at hg
  obtain ⟨⟨⟨q0,q1⟩,q2⟩,q3⟩:=hg
  obtain rfl:=cE q0
  obtain rfl:=bE q1
  obtain rfl:=cE q2
  obtain rfl:=bE q3
  obtain ⟨h1,rfl⟩:=pair_inj h
  exact (e141 a0 a1 a2).trans (of_tt (brT (fun b=>some (AV.bool (bif b then true else decide (a0 > fI a2 0)))) (fun _=>rfl) (fun _=>rfl)))
 ·cases h
def G162_0 {β:Type} (t0:List AV) (t1_0:AV) (t1_1:AV) (t7:Int) (t8:Int) (N:(Int)→β) (K:(Unit ⊕ Int)→β) (d:β):β:=(bif decide (t8<t7) then (bif (decide (0≤t8) && decide (t8<(t0.length:Int))) then (bif (v141_0 (fI (t0.getD t8.toNat .undef) 0) t1_0 t1_1) then K (.inr t8)
 else N (IntKind.i64.wrap (t8+1)))
 else d)
 else K (.inl ()))
def F162_0 (t0:List AV) (t1_0 t1_1:AV) (t7 t8:Int):Out (Int) (Unit ⊕ Int):=G162_0 t0 t1_0 t1_1 t7 t8 .next .stop .fail
def R162_0 (t0:List AV) (t1_0 t1_1:AV) (t7:Int):(Int)→Out (Int) (Unit ⊕ Int):=fun s:Int=>F162_0 t0 t1_0 t1_1 t7 s
def E162_0 (t0:List AV) (t1_0 t1_1:AV) (t7:Int):(Int)→St:=fun s:Int=>⟨[(0,AV.sl [.int .i64] t0),(1,AV.fn 141 [AV.rptr [.int .i64] t1_0 0,AV.rptr [.int .i64] t1_1 0]),(7,Ai t7),(8,Ai s)],[]⟩
def K162_0 (t0:List AV) (t1_0 t1_1:AV) (t7:Int) (k:Kont):(Unit ⊕ Int)→Option AV:=sumE (fun _:Unit=>k (.exit 0) ⟨[],[]⟩) (fun p:Int=>k .ret ⟨[(4,Ai p)],[]⟩)
def l162_0:LModel:=fun _ _ st k=>match st with
 | ⟨[(0,.sl g0 t0),(1,.fn g1 [.rptr g2 t1_0 g3,.rptr g4 t1_1 g5]),(7,.int .i64 t7),(8,.int .i64 t8)],[]⟩=>bif ctsEq g0 ([.int .i64]) && Nat.beq g1 141 && ctsEq g2 ([.int .i64]) && Nat.beq g3 0 && ctsEq g4 ([.int .i64]) && Nat.beq g5 0 then ro (runW (R162_0 t0 t1_0 t1_1 t7) ((t7 - t8:Int).toNat+1) t8) none (K162_0 t0 t1_0 t1_1 t7 k) else none
 | _=>none
noncomputable def c162:Cfg:=cfg Tryz.prog [(162,0,[0,1,7,8]),(162,999,[4]),(162,1000,[]),(162,1001,[0,1,7,8])] [(141,m141)] [] [] [(162,0,l162_0)]
theorem s162_0 (t0:List AV) (t1_0 t1_1:AV) (t7:Int) (ce:CallE) (k:Kont) (s:Int) (next:St→Option AV):stepA (codeA c162 ce [] 162 0 (sub [1,0,1,0,0] (body Tryz.f162))) (normA [] [0,1,7,8]) next ((E162_0 t0 t1_0 t1_1 t7) s) k=G162_0 t0 t1_0 t1_1 t7 s (fun s=>next ((E162_0 t0 t1_0 t1_1 t7) s)) (K162_0 t0 t1_0 t1_1 t7 k) none:=by kernel_rfl
theorem st162_0 (t0:List AV) (t1_0 t1_1:AV) (t7:Int) (ce:CallE) (k:Kont) (s:Int) (next:St→Option AV):stepA (codeA c162 ce [] 162 0 (sub [1,0,1,0,0] (body Tryz.f162))) (normA [] [0,1,7,8]) next ((E162_0 t0 t1_0 t1_1 t7) s) k=(R162_0 t0 t1_0 t1_1 t7 s).el none (fun s=>next ((E162_0 t0 t1_0 t1_1 t7) s)) (K162_0 t0 t1_0 t1_1 t7 k):=(s162_0 t0 t1_0 t1_1 t7 ce k s next).trans (by unfold R162_0;unfold F162_0 G162_0;simp only [el_cond,el_ro,el_sum,el_fail,el_next,el_stop] <;> rfl)
theorem ok162_0 {ce:CallE}:LoopOK c162 ce [] 162 0 (sub [1,0,1,0,0] (body Tryz.f162)):=by
 intro m hm st k r h
 obtain rfl:l162_0=m:=Option.some.inj hm
 unfold l162_0 at h
 split at h
 ·rename_i g0 t0 g1 g2 t1_0 g3 g4 t1_1 g5 t7 t8
  obtain ⟨hg,h⟩:=bif_some h
  simp only [Bool.and_eq_true] at hg
  obtain ⟨⟨⟨⟨⟨q0,q1⟩,q2⟩,q3⟩,q4⟩,q5⟩:=hg
  obtain rfl:=cE q0
  obtain rfl:=bE q1
  obtain rfl:=cE q2
  obtain rfl:=bE q3
  obtain rfl:=cE q4
  obtain rfl:=bE q5
  refine ⟨((t7 - t8:Int).toNat+1),?_⟩
  rw [← h]
  exact loop_run (E162_0 t0 t1_0 t1_1 t7) (K162_0 t0 t1_0 t1_1 t7 k) (st162_0 t0 t1_0 t1_1 t7 ce k) _ t8
 ·cases h
def q162 (a0:List AV) (ya yb:AV):Bool:=(ro (runW (R162_0 a0 ya yb (a0.length:Int)) (((a0.length:Int) - 0:Int).toNat+1) 0) false (sumE (fun _=>true) (fun p11=>true)))
def v162_0 (a0:List AV) (ya yb:AV):Int:=(ro (runW (R162_0 a0 ya yb (a0.length:Int)) (((a0.length:Int) - 0:Int).toNat+1) 0) 0 (sumE (fun _=>(-1)) (fun p11=>p11)))
theorem e162 (a0:List AV) (ya yb:AV):funA c162 0 162 [AV.sl [.int .i64] a0,AV.fn 141 [AV.rptr [.int .i64] ya 0,AV.rptr [.int .i64] yb 0]]=(ro (runW (R162_0 a0 ya yb (a0.length:Int)) (((a0.length:Int) - 0:Int).toNat+1) 0) none (sumE (fun _=>some (Ai (-1))) (fun p11=>some (Ai p11)))):=by kernel_rfl
def m162:TModel
 | [.sl g0 a0,.fn g1 [.rptr g2 ya g3,.rptr g4 yb g5]]=>bif ctsEq g0 ([.int .i64]) && Nat.beq g1 141 && ctsEq g2 ([.int .i64]) && Nat.beq g3 0 && ctsEq g4 ([.int .i64]) && Nat.beq g5 0 then some (q162 a0 ya yb,AV.int .i64 (v162_0 a0 ya yb)) else none
 | _=>none
theorem k162:Known Tryz.prog 162:=⟨Tryz.f162,Tryz.func162,by kernel_rfl,by kernel_rfl⟩
theorem meets162:Meets Tryz.prog 162 m162:=by
 refine mt (lvl:=0) (cf:=c162) rfl mixed k162 Tryz.func162 (by kernel_rfl) (loops_cons ok162_0 noLoop) (allT_cons meets141 allT_nil) allM_nil noI fun xs r h=>?_
 unfold m162 at h
 split at h
 ·rename_i g0 a0 g1 g2 ya g3 g4 yb g5
  obtain ⟨hg,h⟩:=bif_pair h
  simp only [Bool.and_eq_true] at hg
  obtain ⟨⟨⟨⟨⟨q0,q1⟩,q2⟩,q3⟩,q4⟩,q5⟩:=hg
  obtain rfl:=cE q0
  obtain rfl:=bE q1
  obtain rfl:=cE q2
  obtain rfl:=bE q3
  obtain rfl:=cE q4
  obtain rfl:=bE q5
  obtain ⟨h1,rfl⟩:=pair_inj h
  exact (e162 a0 ya yb).trans ((brO (fun o:Option (Unit ⊕ Int)=>some (Ai (ro o 0 (sumE (fun _=>(-1)) (fun p11=>p11))))) (brS (fun o:Unit ⊕ Int=>some (Ai ((sumE (fun _=>(-1)) (fun p11=>p11)) o))) (fun _=>(fun _=>rfl)) (fun p11=>(fun _=>rfl)))) h1)
 ·cases h
noncomputable def c140:Cfg:=cfg Tryz.prog [(140,999,[4])] [(162,m162)] [] [] []
def q140 (a0:List AV) (ya yb:AV):Bool:=q162 a0 ya yb
def v140_0 (a0:List AV) (ya yb:AV):Bool:=decide ((v162_0 a0 ya yb) ≥ 0)
theorem e140 (a0:List AV) (ya yb:AV):funA c140 0 140 [AV.sl [.int .i64] a0,AV.fn 141 [AV.rptr [.int .i64] ya 0,AV.rptr [.int .i64] yb 0]]=(bif q162 a0 ya yb then some (AV.bool (decide ((v162_0 a0 ya yb) ≥ 0)))
 else none):=by kernel_rfl
def m140:TModel
 | [.sl g0 a0,.fn g1 [.rptr g2 ya g3,.rptr g4 yb g5]]=>bif ctsEq g0 ([.int .i64]) && Nat.beq g1 141 && ctsEq g2 ([.int .i64]) && Nat.beq g3 0 && ctsEq g4 ([.int .i64]) && Nat.beq g5 0 then some (q140 a0 ya yb,AV.bool (v140_0 a0 ya yb)) else none
 | _=>none
theorem k140:Known Tryz.prog 140:=⟨Tryz.f140,Tryz.func140,by kernel_rfl,by kernel_rfl⟩
theorem meets140:Meets Tryz.prog 140 m140:=by
 refine mt (lvl:=0) (cf:=c140) rfl mixed k140 Tryz.func140 (by kernel_rfl) noLoop (allT_cons meets162 allT_nil) allM_nil noI fun xs r h=>?_
 unfold m140 at h
 split at h
 ·rename_i g0 a0 g1 g2 ya g3 g4 yb g5
  obtain ⟨hg,h⟩:=bif_pair h
  simp only [Bool.and_eq_true] at hg
  obtain ⟨⟨⟨⟨⟨q0,q1⟩,q2⟩,q3⟩,q4⟩,q5⟩:=hg
  obtain rfl:=cE q0
  obtain rfl:=bE q1
  obtain rfl:=cE q2
  obtain rfl:=bE q3
  obtain rfl:=cE q4
  obtain rfl:=bE q5
  obtain ⟨h1,rfl⟩:=pair_inj h
  exact (e140 a0 ya yb).trans ((brL1 (fun _=>rfl)) h1)
 ·cases h
noncomputable def c106:Cfg:=cfg Tryz.prog [(106,999,[6])] [(140,m140)] [] [] []
def q106 (a0:List AV) (a1 a2:Int):Bool:=q140 a0 (AV.int .i64 a1) (AV.int .i64 a2)
def v106_0 (a0:List AV) (a1 a2:Int):Bool := !(v140_0 a0 (AV.int .i64 a1) (AV.int .i64 a2))
theorem e106 (a0:List AV) (a1 a2:Int):funA c106 0 106 [AV.sl [.int .i64] a0,Ai a1,Ai a2]=(bif q140 a0 (Ai a1) (Ai a2) then some (AV.bool (!(v140_0 a0 (Ai a1) (Ai a2))))
 else none):=by kernel_rfl
def m106:TModel
 | [.sl g0 a0,.int .i64 a1,.int .i64 a2]=>bif ctsEq g0 ([.int .i64]) then some (q106 a0 a1 a2,AV.bool (v106_0 a0 a1 a2)) else none
 | _=>none
theorem k106:Known Tryz.prog 106:=⟨Tryz.f106,Tryz.func106,by kernel_rfl,by kernel_rfl⟩
theorem meets106:Meets Tryz.prog 106 m106:=by
 refine mt (lvl:=0) (cf:=c106) rfl mixed k106 Tryz.func106 (by kernel_rfl) noLoop (allT_cons meets140 allT_nil) allM_nil noI fun xs r h=>?_
 unfold m106 at h
 split at h
 ·rename_i g0 a0 a1 a2
  obtain ⟨hg,h⟩:=bif_pair h
  have q0:=hg
  obtain rfl:=cE q0
  obtain ⟨h1,rfl⟩:=pair_inj h
  exact (e106 a0 a1 a2).trans ((brL1 (fun _=>rfl)) h1)
 ·cases h
noncomputable def c79:Cfg:=cfg Tryz.prog [(79,999,[2])] [(106,m106)] [] [] []
def q79 (a0:List AV):Bool:=(bif decide ((a0.length:Int)≤64) then q106 a0 (-999) 999 else true)
def v79_0 (a0:List AV):Bool:=(bif decide ((a0.length:Int)≤64) then (v106_0 a0 (-999) 999) else false)
theorem e79 (a0:List AV):funA c79 0 79 [AV.sl [.int .i64] a0]=(bif decide ((a0.length:Int)≤64) then (bif q106 a0 (-999) 999 then some (AV.bool (v106_0 a0 (-999) 999))
 else none)
 else some (AV.bool false)):=by kernel_rfl
def m79:TModel
 | [.sl g0 a0]=>bif ctsEq g0 ([.int .i64]) then some (q79 a0,AV.bool (v79_0 a0)) else none
 | _=>none
theorem k79:Known Tryz.prog 79:=⟨Tryz.f79,Tryz.func79,by kernel_rfl,by kernel_rfl⟩
theorem meets79:Meets Tryz.prog 79 m79:=by
 refine mt (lvl:=0) (cf:=c79) rfl mixed k79 Tryz.func79 (by kernel_rfl) noLoop (allT_cons meets106 allT_nil) allM_nil noI fun xs r h=>?_
 unfold m79 at h
 split at h
 ·rename_i g0 a0
  obtain ⟨hg,h⟩:=bif_pair h
  have q0:=hg
  obtain rfl:=cE q0
  obtain ⟨h1,rfl⟩:=pair_inj h
  exact (e79 a0).trans ((br (fun b=>some (AV.bool (bif b then (v106_0 a0 (-999) 999) else false))) (brL1 (fun _=>rfl)) (fun _=>rfl)) h1)
 ·cases h
noncomputable def c45:Cfg:=cfg Tryz.prog [(45,999,[2])] [] [] [] []
def q45 (xa xb:Int):Bool:=true
def v45_0 (xa xb:Int):Bool:=(bif decide ((-1000)≤xa) then (bif decide (xa≤xb) then decide (xb≤1000) else false) else false)
theorem e45 (xa xb:Int):funA c45 0 45 [AV.agg [Ai xa,Ai xb]]=(bif decide ((-1000)≤xa) then (bif decide (xa≤xb) then some (AV.bool (decide (xb≤1000)))
 else some (AV.bool false))
 else some (AV.bool false)):=by kernel_rfl
def m45:TModel
 | [.agg [.int .i64 xa,.int .i64 xb]]=>some (true,AV.bool (v45_0 xa xb))
 | _=>none
theorem k45:Known Tryz.prog 45:=⟨Tryz.f45,Tryz.func45,by kernel_rfl,by kernel_rfl⟩
theorem meets45:Meets Tryz.prog 45 m45:=by
 refine mt (lvl:=0) (cf:=c45) rfl mixed k45 Tryz.func45 (by kernel_rfl) noLoop allT_nil allM_nil noI fun xs r h=>?_
 unfold m45 at h
 split at h
 ·rename_i xa xb
  obtain ⟨h1,rfl⟩:=pair_inj h
  exact (e45 xa xb).trans (of_tt (brT (fun b=>some (AV.bool (bif b then (bif decide (xa≤xb) then decide (xb≤1000) else false) else false))) (brT (fun b=>some (AV.bool (bif b then decide (xb≤1000) else false))) (fun _=>rfl) (fun _=>rfl)) (fun _=>rfl)))
 ·cases h
noncomputable def c127:Cfg:=cfg Tryz.prog [(127,999,[2])] [(45,m45)] [] [] []
def v127_0 (xa xb:Int):Bool := !(v45_0 xa xb)
theorem e127 (xa xb:Int):funA c127 0 127 [AV.agg [Ai xa,Ai xb]]=some (AV.bool (!(v45_0 xa xb))):=by kernel_rfl
def m127:TModel
 | [.agg [.int .i64 xa,.int .i64 xb]]=>some (true,AV.bool (v127_0 xa xb))
 | _=>none
theorem k127:Known Tryz.prog 127:=⟨Tryz.f127,Tryz.func127,by kernel_rfl,by kernel_rfl⟩
theorem meets127:Meets Tryz.prog 127 m127:=by
 refine mt (lvl:=0) (cf:=c127) rfl mixed k127 Tryz.func127 (by kernel_rfl) noLoop (allT_cons meets45 allT_nil) allM_nil noI fun xs r h=>?_
 unfold m127 at h
 split at h
 ·rename_i xa xb
  obtain ⟨h1,rfl⟩:=pair_inj h
  exact (e127 xa xb).trans (of_tt (fun _=>rfl))
 ·cases h
def G155_0 {β:Type} (t0:List AV) (t7:Int) (t8:Int) (N:(Int)→β) (K:(Unit ⊕ Int)→β) (d:β):β:=(bif decide (t8<t7) then (bif (decide (0≤t8) && decide (t8<(t0.length:Int))) then (bif (v127_0 (fI (t0.getD t8.toNat .undef) 0) (fI (t0.getD t8.toNat .undef) 1)) then K (.inr t8)
 else N (IntKind.i64.wrap (t8+1)))
 else d)
 else K (.inl ()))
def F155_0 (t0:List AV) (t7 t8:Int):Out (Int) (Unit ⊕ Int):=G155_0 t0 t7 t8 .next .stop .fail
def R155_0 (t0:List AV) (t7:Int):(Int)→Out (Int) (Unit ⊕ Int):=fun s:Int=>F155_0 t0 t7 s
def E155_0 (t0:List AV) (t7:Int):(Int)→St:=fun s:Int=>⟨[(0,AV.sl [.int .i64,.int .i64] t0),(1,AV.fn 127 []),(7,Ai t7),(8,Ai s)],[]⟩
def K155_0 (t0:List AV) (t7:Int) (k:Kont):(Unit ⊕ Int)→Option AV:=sumE (fun _:Unit=>k (.exit 0) ⟨[],[]⟩) (fun p:Int=>k .ret ⟨[(4,Ai p)],[]⟩)
def l155_0:LModel:=fun _ _ st k=>match st with
 | ⟨[(0,.sl g0 t0),(1,.fn g1 []),(7,.int .i64 t7),(8,.int .i64 t8)],[]⟩=>bif ctsEq g0 ([.int .i64,.int .i64]) && Nat.beq g1 127 then ro (runW (R155_0 t0 t7) ((t7 - t8:Int).toNat+1) t8) none (K155_0 t0 t7 k) else none
 | _=>none
noncomputable def c155:Cfg:=cfg Tryz.prog [(155,0,[0,1,7,8]),(155,999,[4]),(155,1000,[]),(155,1001,[0,1,7,8])] [(127,m127)] [] [] [(155,0,l155_0)]
theorem s155_0 (t0:List AV) (t7:Int) (ce:CallE) (k:Kont) (s:Int) (next:St→Option AV):stepA (codeA c155 ce [] 155 0 (sub [1,0,1,0,0] (body Tryz.f155))) (normA [] [0,1,7,8]) next ((E155_0 t0 t7) s) k=G155_0 t0 t7 s (fun s=>next ((E155_0 t0 t7) s)) (K155_0 t0 t7 k) none:=by kernel_rfl
theorem st155_0 (t0:List AV) (t7:Int) (ce:CallE) (k:Kont) (s:Int) (next:St→Option AV):stepA (codeA c155 ce [] 155 0 (sub [1,0,1,0,0] (body Tryz.f155))) (normA [] [0,1,7,8]) next ((E155_0 t0 t7) s) k=(R155_0 t0 t7 s).el none (fun s=>next ((E155_0 t0 t7) s)) (K155_0 t0 t7 k):=(s155_0 t0 t7 ce k s next).trans (by unfold R155_0;unfold F155_0 G155_0;simp only [el_cond,el_ro,el_sum,el_fail,el_next,el_stop] <;> rfl)
theorem ok155_0 {ce:CallE}:LoopOK c155 ce [] 155 0 (sub [1,0,1,0,0] (body Tryz.f155)):=by
 intro m hm st k r h
 obtain rfl:l155_0=m:=Option.some.inj hm
 unfold l155_0 at h
 split at h
 ·rename_i g0 t0 g1 t7 t8
  obtain ⟨hg,h⟩:=bif_some h
  simp only [Bool.and_eq_true] at hg
  obtain ⟨q0,q1⟩:=hg
  obtain rfl:=cE q0
  obtain rfl:=bE q1
  refine ⟨((t7 - t8:Int).toNat+1),?_⟩
  rw [← h]
  exact loop_run (E155_0 t0 t7) (K155_0 t0 t7 k) (st155_0 t0 t7 ce k) _ t8
 ·cases h
def q155 (a0:List AV):Bool:=(ro (runW (R155_0 a0 (a0.length:Int)) (((a0.length:Int) - 0:Int).toNat+1) 0) false (sumE (fun _=>true) (fun p13=>true)))
def v155_0 (a0:List AV):Int:=(ro (runW (R155_0 a0 (a0.length:Int)) (((a0.length:Int) - 0:Int).toNat+1) 0) 0 (sumE (fun _=>(-1)) (fun p13=>p13)))
theorem e155 (a0:List AV):funA c155 0 155 [AV.sl [.int .i64,.int .i64] a0,AV.fn 127 []]=(ro (runW (R155_0 a0 (a0.length:Int)) (((a0.length:Int) - 0:Int).toNat+1) 0) none (sumE (fun _=>some (Ai (-1))) (fun p13=>some (Ai p13)))):=by kernel_rfl
def m155:TModel
 | [.sl g0 a0,.fn g1 []]=>bif ctsEq g0 ([.int .i64,.int .i64]) && Nat.beq g1 127 then some (q155 a0,AV.int .i64 (v155_0 a0)) else none
 | _=>none
theorem k155:Known Tryz.prog 155:=⟨Tryz.f155,Tryz.func155,by kernel_rfl,by kernel_rfl⟩
theorem meets155:Meets Tryz.prog 155 m155:=by
 refine mt (lvl:=0) (cf:=c155) rfl mixed k155 Tryz.func155 (by kernel_rfl) (loops_cons ok155_0 noLoop) (allT_cons meets127 allT_nil) allM_nil noI fun xs r h=>?_
 unfold m155 at h
 split at h
 ·rename_i g0 a0 g1
  obtain ⟨hg,h⟩:=bif_pair h
  simp only [Bool.and_eq_true] at hg
  obtain ⟨q0,q1⟩:=hg
  obtain rfl:=cE q0
  obtain rfl:=bE q1
  obtain ⟨h1,rfl⟩:=pair_inj h
  exact (e155 a0).trans ((brO (fun o:Option (Unit ⊕ Int)=>some (Ai (ro o 0 (sumE (fun _=>(-1)) (fun p13=>p13))))) (brS (fun o:Unit ⊕ Int=>some (Ai ((sumE (fun _=>(-1)) (fun p13=>p13)) o))) (fun _=>(fun _=>rfl)) (fun p13=>(fun _=>rfl)))) h1)
 ·cases h
noncomputable def c126:Cfg:=cfg Tryz.prog [(126,999,[4])] [(155,m155)] [] [] []
def q126 (a0:List AV):Bool:=q155 a0
def v126_0 (a0:List AV):Bool:=decide ((v155_0 a0) ≥ 0)
theorem e126 (a0:List AV):funA c126 0 126 [AV.sl [.int .i64,.int .i64] a0,AV.fn 127 []]=(bif q155 a0 then some (AV.bool (decide ((v155_0 a0) ≥ 0)))
 else none):=by kernel_rfl
def m126:TModel
 | [.sl g0 a0,.fn g1 []]=>bif ctsEq g0 ([.int .i64,.int .i64]) && Nat.beq g1 127 then some (q126 a0,AV.bool (v126_0 a0)) else none
 | _=>none
theorem k126:Known Tryz.prog 126:=⟨Tryz.f126,Tryz.func126,by kernel_rfl,by kernel_rfl⟩
theorem meets126:Meets Tryz.prog 126 m126:=by
 refine mt (lvl:=0) (cf:=c126) rfl mixed k126 Tryz.func126 (by kernel_rfl) noLoop (allT_cons meets155 allT_nil) allM_nil noI fun xs r h=>?_
 unfold m126 at h
 split at h
 ·rename_i g0 a0 g1
  obtain ⟨hg,h⟩:=bif_pair h
  simp only [Bool.and_eq_true] at hg
  obtain ⟨q0,q1⟩:=hg
  obtain rfl:=cE q0
  obtain rfl:=bE q1
  obtain ⟨h1,rfl⟩:=pair_inj h
  exact (e126 a0).trans ((brL1 (fun _=>rfl)) h1)
 ·cases h
noncomputable def c80:Cfg:=cfg Tryz.prog [(80,999,[2])] [(126,m126)] [] [] []
def q80 (a0:List AV):Bool:=(bif decide ((a0.length:Int)≤30) then q126 a0 else true)
def v80_0 (a0:List AV):Bool:=(bif decide ((a0.length:Int)≤30) then !(v126_0 a0) else false)
theorem e80 (a0:List AV):funA c80 0 80 [AV.sl [.int .i64,.int .i64] a0]=(bif decide ((a0.length:Int)≤30) then (bif q126 a0 then some (AV.bool (!(v126_0 a0)))
 else none)
 else some (AV.bool false)):=by kernel_rfl
def m80:TModel
 | [.sl g0 a0]=>bif ctsEq g0 ([.int .i64,.int .i64]) then some (q80 a0,AV.bool (v80_0 a0)) else none
 | _=>none
theorem k80:Known Tryz.prog 80:=⟨Tryz.f80,Tryz.func80,by kernel_rfl,by kernel_rfl⟩
theorem meets80:Meets Tryz.prog 80 m80:=by
 refine mt (lvl:=0) (cf:=c80) rfl mixed k80 Tryz.func80 (by kernel_rfl) noLoop (allT_cons meets126 allT_nil) allM_nil noI fun xs r h=>?_
 unfold m80 at h
 split at h
 ·rename_i g0 a0
  obtain ⟨hg,h⟩:=bif_pair h
  have q0:=hg
  obtain rfl:=cE q0
  obtain ⟨h1,rfl⟩:=pair_inj h
  exact (e80 a0).trans ((br (fun b=>some (AV.bool (bif b then !(v126_0 a0) else false))) (brL1 (fun _=>rfl)) (fun _=>rfl)) h1)
 ·cases h
noncomputable def c86:Cfg:=cfg Tryz.prog [(86,999,[4])] [(45,m45)] [] [] []
def v86_0 (xa xb a1:Int):Bool:=(bif (v45_0 xa xb) then (bif decide (xa≤a1) then decide (a1<xb) else false) else false)
theorem e86 (xa xb a1:Int):funA c86 0 86 [AV.agg [Ai xa,Ai xb],Ai a1]=(bif (v45_0 xa xb) then (bif decide (xa≤a1) then some (AV.bool (decide (a1<xb)))
 else some (AV.bool false))
 else some (AV.bool false)):=by kernel_rfl
def m86:TModel
 | [.agg [.int .i64 xa,.int .i64 xb],.int .i64 a1]=>some (true,AV.bool (v86_0 xa xb a1))
 | _=>none
theorem k86:Known Tryz.prog 86:=⟨Tryz.f86,Tryz.func86,by kernel_rfl,by kernel_rfl⟩
theorem meets86:Meets Tryz.prog 86 m86:=by
 refine mt (lvl:=0) (cf:=c86) rfl mixed k86 Tryz.func86 (by kernel_rfl) noLoop (allT_cons meets45 allT_nil) allM_nil noI fun xs r h=>?_
 unfold m86 at h
 split at h
 ·rename_i xa xb a1
  obtain ⟨h1,rfl⟩:=pair_inj h
  exact (e86 xa xb a1).trans (of_tt (brT (fun b=>some (AV.bool (bif b then (bif decide (xa≤a1) then decide (a1<xb) else false) else false))) (brT (fun b=>some (AV.bool (bif b then decide (a1<xb) else false))) (fun _=>rfl) (fun _=>rfl)) (fun _=>rfl)))
 ·cases h
def G35_0 {β:Type} (t1:Int) (t12:List AV) (t13:Int) (t14:Int) (h0:List AV) (N:((Int × (List AV)))→β) (K:(((List AV)))→β) (d:β):β:=(bif decide (t14<t13) then (bif (decide (0≤t14) && decide (t14<(t12.length:Int))) then (bif (v86_0 (fI (t12.getD t14.toNat .undef) 0) (fI (t12.getD t14.toNat .undef) 1) t1) then (bif (decide ((h0.length+([AV.int .i64 t14]).length)*8≤140737488355328) && decide ((h0.length+([AV.int .i64 t14]).length)≤140737488355328)) then N (IntKind.i64.wrap (t14+1),h0++([AV.int .i64 t14]))
 else d)
 else N (IntKind.i64.wrap (t14+1),h0))
 else d)
 else K h0)
def F35_0 (t1:Int) (t12:List AV) (t13 t14:Int) (h0:List AV):Out ((Int × (List AV))) (((List AV))):=G35_0 t1 t12 t13 t14 h0 .next .stop .fail
def R35_0 (t1:Int) (t12:List AV) (t13:Int):((Int × (List AV)))→Out ((Int × (List AV))) (((List AV))):=fun s:Int × (List AV)=>F35_0 t1 t12 t13 s.1 s.2
def E35_0 (t1:Int) (t12:List AV) (t13:Int):((Int × (List AV)))→St:=fun s:Int × (List AV)=>⟨[(1,Ai t1),(5,AV.own [0,5]),(12,AV.sl [.int .i64,.int .i64] t12),(13,Ai t13),(14,Ai s.1)],[([0,5],⟨false,[.int .i64],s.2⟩)]⟩
def K35_0 (t1:Int) (t12:List AV) (t13:Int) (k:Kont):(((List AV)))→Option AV:=fun p:(List AV)=>k (.exit 0) ⟨[(5,AV.own [0,5])],[([0,5],⟨false,[.int .i64],p⟩)]⟩
def l35_0:LModel:=fun _ _ st k=>match st with
 | ⟨[(1,.int .i64 t1),(5,.own g0),(12,.sl g1 t12),(13,.int .i64 t13),(14,.int .i64 t14)],[(g2,⟨false,g3,h0⟩)]⟩=>bif nmEq g0 ([0,5]) && ctsEq g1 ([.int .i64,.int .i64]) && nmEq g2 ([0,5]) && ctsEq g3 ([.int .i64]) then ro (runW (R35_0 t1 t12 t13) ((t13 - t14:Int).toNat+1) (t14,h0)) none (K35_0 t1 t12 t13 k) else none
 | _=>none
noncomputable def c35:Cfg:=cfg Tryz.prog [(35,0,[1,5,12,13,14]),(35,999,[4]),(35,1000,[5]),(35,1001,[1,5,12,13,14])] [(80,m80),(86,m86)] [] [] [(35,0,l35_0)]
theorem s35_0 (t1:Int) (t12:List AV) (t13:Int) (ce:CallE) (k:Kont) (s:Int × (List AV)) (next:St→Option AV):stepA (codeA c35 ce [] 35 0 (sub [1,1,1,0,1,0,0] (body Tryz.f35))) (normA [] [1,5,12,13,14]) next ((E35_0 t1 t12 t13) s) k=G35_0 t1 t12 t13 s.1 s.2 (fun s=>next ((E35_0 t1 t12 t13) s)) (K35_0 t1 t12 t13 k) none:=by kernel_rfl
theorem st35_0 (t1:Int) (t12:List AV) (t13:Int) (ce:CallE) (k:Kont) (s:(Int × (List AV))) (next:St→Option AV):stepA (codeA c35 ce [] 35 0 (sub [1,1,1,0,1,0,0] (body Tryz.f35))) (normA [] [1,5,12,13,14]) next ((E35_0 t1 t12 t13) s) k=(R35_0 t1 t12 t13 s).el none (fun s=>next ((E35_0 t1 t12 t13) s)) (K35_0 t1 t12 t13 k):=(s35_0 t1 t12 t13 ce k s next).trans (by unfold R35_0;unfold F35_0 G35_0;simp only [el_cond,el_ro,el_sum,el_fail,el_next,el_stop] <;> rfl)
theorem ok35_0 {ce:CallE}:LoopOK c35 ce [] 35 0 (sub [1,1,1,0,1,0,0] (body Tryz.f35)):=by
 intro m hm st k r h
 obtain rfl:l35_0=m:=Option.some.inj hm
 unfold l35_0 at h
 split at h
 ·rename_i t1 g0 g1 t12 t13 t14 g2 g3 h0
  obtain ⟨hg,h⟩:=bif_some h
  simp only [Bool.and_eq_true] at hg
  obtain ⟨⟨⟨q0,q1⟩,q2⟩,q3⟩:=hg
  obtain rfl:=nE q0
  obtain rfl:=cE q1
  obtain rfl:=nE q2
  obtain rfl:=cE q3
  refine ⟨((t13 - t14:Int).toNat+1),?_⟩
  rw [← h]
  exact loop_run (E35_0 t1 t12 t13) (K35_0 t1 t12 t13 k) (st35_0 t1 t12 t13 ce k) _ (t14,h0)
 ·cases h
def q35 (a0:List AV) (a1:Int):Bool:=(q80 a0 && (bif !(v80_0 a0) then true else (ro (runW (R35_0 a1 a0 (a0.length:Int)) (((a0.length:Int) - 0:Int).toNat+1) (0,([]:List AV))) false (fun p14=>true))))
def v35_0 (a0:List AV) (a1:Int):List AV:=(bif !(v80_0 a0) then ([]:List AV) else (ro (runW (R35_0 a1 a0 (a0.length:Int)) (((a0.length:Int) - 0:Int).toNat+1) (0,([]:List AV))) [] (fun p14=>p14)))
theorem e35 (a0:List AV) (a1:Int):funA c35 0 35 [AV.sl [.int .i64,.int .i64] a0,Ai a1]=(bif q80 a0 then (bif !(v80_0 a0) then some (AV.fl [.int .i64] ([]:List AV))
 else (ro (runW (R35_0 a1 a0 (a0.length:Int)) (((a0.length:Int) - 0:Int).toNat+1) (0,([]:List AV))) none (fun p14=>some (AV.fl [.int .i64] p14))))
 else none):=by kernel_rfl
def m35:TModel
 | [.sl g0 a0,.int .i64 a1]=>bif ctsEq g0 ([.int .i64,.int .i64]) then some (q35 a0 a1,AV.fl [.int .i64] (v35_0 a0 a1)) else none
 | _=>none
theorem k35:Known Tryz.prog 35:=⟨Tryz.f35,Tryz.func35,by kernel_rfl,by kernel_rfl⟩
theorem meets35:Meets Tryz.prog 35 m35:=by
 refine mt (lvl:=0) (cf:=c35) rfl mixed k35 Tryz.func35 (by kernel_rfl) (loops_cons ok35_0 noLoop) (allT_cons meets80 (allT_cons meets86 allT_nil)) allM_nil noI fun xs r h=>?_
 unfold m35 at h
 split at h
 ·rename_i g0 a0 a1
  obtain ⟨hg,h⟩:=bif_pair h
  have q0:=hg
  obtain rfl:=cE q0
  obtain ⟨h1,rfl⟩:=pair_inj h
  exact (e35 a0 a1).trans ((brL (br (fun b=>some (AV.fl [.int .i64] (bif b then ([]:List AV) else (ro (runW (R35_0 a1 a0 (a0.length:Int)) (((a0.length:Int) - 0:Int).toNat+1) (0,([]:List AV))) [] (fun p14=>p14))))) (fun _=>rfl) (brO (fun o:Option (((List AV)))=>some (AV.fl [.int .i64] (ro o [] (fun p14=>p14)))) (fun p14=>(fun _=>rfl))))) h1)
 ·cases h
def G28_0 {β:Type} (t1:List AV) (t17:List AV) (t18:Int) (t19:Int) (h0:List AV) (N:((Int × (List AV)))→β) (K:(((List AV)))→β) (d:β):β:=(bif decide (t19<t18) then (bif (decide (0≤t19) && decide (t19<(t17.length:Int))) then (bif q35 t1 (fI (t17.getD t19.toNat .undef) 0) then (bif (decide ((h0.length+([AV.int .i64 ((v35_0 t1 (fI (t17.getD t19.toNat .undef) 0)).length:Int)]).length)*8≤140737488355328) && decide ((h0.length+([AV.int .i64 ((v35_0 t1 (fI (t17.getD t19.toNat .undef) 0)).length:Int)]).length)≤140737488355328)) then N (IntKind.i64.wrap (t19+1),h0++([AV.int .i64 ((v35_0 t1 (fI (t17.getD t19.toNat .undef) 0)).length:Int)]))
 else d)
 else d)
 else d)
 else K h0)
def F28_0 (t1 t17:List AV) (t18 t19:Int) (h0:List AV):Out ((Int × (List AV))) (((List AV))):=G28_0 t1 t17 t18 t19 h0 .next .stop .fail
def R28_0 (t1 t17:List AV) (t18:Int):((Int × (List AV)))→Out ((Int × (List AV))) (((List AV))):=fun s:Int × (List AV)=>F28_0 t1 t17 t18 s.1 s.2
def E28_0 (t1 t17:List AV) (t18:Int):((Int × (List AV)))→St:=fun s:Int × (List AV)=>⟨[(1,AV.sl [.int .i64,.int .i64] t1),(5,AV.own [0,5]),(17,AV.sl [.int .i64] t17),(18,Ai t18),(19,Ai s.1)],[([0,5],⟨false,[.int .i64],s.2⟩)]⟩
def K28_0 (t1 t17:List AV) (t18:Int) (k:Kont):(((List AV)))→Option AV:=fun p:(List AV)=>k (.exit 0) ⟨[(5,AV.own [0,5])],[([0,5],⟨false,[.int .i64],p⟩)]⟩
def l28_0:LModel:=fun _ _ st k=>match st with
 | ⟨[(1,.sl g0 t1),(5,.own g1),(17,.sl g2 t17),(18,.int .i64 t18),(19,.int .i64 t19)],[(g3,⟨false,g4,h0⟩)]⟩=>bif ctsEq g0 ([.int .i64,.int .i64]) && nmEq g1 ([0,5]) && ctsEq g2 ([.int .i64]) && nmEq g3 ([0,5]) && ctsEq g4 ([.int .i64]) then ro (runW (R28_0 t1 t17 t18) ((t18 - t19:Int).toNat+1) (t19,h0)) none (K28_0 t1 t17 t18 k) else none
 | _=>none
noncomputable def c28:Cfg:=cfg Tryz.prog [(28,0,[1,5,17,18,19]),(28,999,[4]),(28,1000,[5]),(28,1001,[1,5,17,18,19])] [(35,m35),(79,m79),(80,m80)] [] [] [(28,0,l28_0)]
theorem s28_0 (t1 t17:List AV) (t18:Int) (ce:CallE) (k:Kont) (s:Int × (List AV)) (next:St→Option AV):stepA (codeA c28 ce [] 28 0 (sub [1,1,1,0,1,0,0] (body Tryz.f28))) (normA [] [1,5,17,18,19]) next ((E28_0 t1 t17 t18) s) k=G28_0 t1 t17 t18 s.1 s.2 (fun s=>next ((E28_0 t1 t17 t18) s)) (K28_0 t1 t17 t18 k) none:=by kernel_rfl
theorem st28_0 (t1 t17:List AV) (t18:Int) (ce:CallE) (k:Kont) (s:(Int × (List AV))) (next:St→Option AV):stepA (codeA c28 ce [] 28 0 (sub [1,1,1,0,1,0,0] (body Tryz.f28))) (normA [] [1,5,17,18,19]) next ((E28_0 t1 t17 t18) s) k=(R28_0 t1 t17 t18 s).el none (fun s=>next ((E28_0 t1 t17 t18) s)) (K28_0 t1 t17 t18 k):=(s28_0 t1 t17 t18 ce k s next).trans (by unfold R28_0;unfold F28_0 G28_0;simp only [el_cond,el_ro,el_sum,el_fail,el_next,el_stop] <;> rfl)
theorem ok28_0 {ce:CallE}:LoopOK c28 ce [] 28 0 (sub [1,1,1,0,1,0,0] (body Tryz.f28)):=by
 intro m hm st k r h
 obtain rfl:l28_0=m:=Option.some.inj hm
 unfold l28_0 at h
 split at h
 ·rename_i g0 t1 g1 g2 t17 t18 t19 g3 g4 h0
  obtain ⟨hg,h⟩:=bif_some h
  simp only [Bool.and_eq_true] at hg
  obtain ⟨⟨⟨⟨q0,q1⟩,q2⟩,q3⟩,q4⟩:=hg
  obtain rfl:=cE q0
  obtain rfl:=nE q1
  obtain rfl:=cE q2
  obtain rfl:=nE q3
  obtain rfl:=cE q4
  refine ⟨((t18 - t19:Int).toNat+1),?_⟩
  rw [← h]
  exact loop_run (E28_0 t1 t17 t18) (K28_0 t1 t17 t18 k) (st28_0 t1 t17 t18 ce k) _ (t19,h0)
 ·cases h
def q28 (a0 a1:List AV):Bool:=(q79 a0 && (bif !(v79_0 a0) then true else (q80 a1 && (bif !(v80_0 a1) then true else (ro (runW (R28_0 a1 a0 (a0.length:Int)) (((a0.length:Int) - 0:Int).toNat+1) (0,([]:List AV))) false (fun p15=>true))))))
def v28_0 (a0 a1:List AV):List AV:=(bif !(v79_0 a0) then ([]:List AV) else (bif !(v80_0 a1) then ([]:List AV) else (ro (runW (R28_0 a1 a0 (a0.length:Int)) (((a0.length:Int) - 0:Int).toNat+1) (0,([]:List AV))) [] (fun p15=>p15))))
theorem e28 (a0 a1:List AV):funA c28 0 28 [AV.sl [.int .i64] a0,AV.sl [.int .i64,.int .i64] a1]=(bif q79 a0 then (bif !(v79_0 a0) then some (AV.fl [.int .i64] ([]:List AV))
 else (bif q80 a1 then (bif !(v80_0 a1) then some (AV.fl [.int .i64] ([]:List AV))
 else (ro (runW (R28_0 a1 a0 (a0.length:Int)) (((a0.length:Int) - 0:Int).toNat+1) (0,([]:List AV))) none (fun p15=>some (AV.fl [.int .i64] p15))))
 else none))
 else none):=by kernel_rfl
def m28:TModel
 | [.sl g0 a0,.sl g1 a1]=>bif ctsEq g0 ([.int .i64]) && ctsEq g1 ([.int .i64,.int .i64]) then some (q28 a0 a1,AV.fl [.int .i64] (v28_0 a0 a1)) else none
 | _=>none
theorem k28:Known Tryz.prog 28:=⟨Tryz.f28,Tryz.func28,by kernel_rfl,by kernel_rfl⟩
theorem meets28:Meets Tryz.prog 28 m28:=by
 refine mt (lvl:=0) (cf:=c28) rfl mixed k28 Tryz.func28 (by kernel_rfl) (loops_cons ok28_0 noLoop) (allT_cons meets35 (allT_cons meets79 (allT_cons meets80 allT_nil))) allM_nil noI fun xs r h=>?_
 unfold m28 at h
 split at h
 ·rename_i g0 a0 g1 a1
  obtain ⟨hg,h⟩:=bif_pair h
  simp only [Bool.and_eq_true] at hg
  obtain ⟨q0,q1⟩:=hg
  obtain rfl:=cE q0
  obtain rfl:=cE q1
  obtain ⟨h1,rfl⟩:=pair_inj h
  exact (e28 a0 a1).trans ((brL (br (fun b=>some (AV.fl [.int .i64] (bif b then ([]:List AV) else (bif !(v80_0 a1) then ([]:List AV) else (ro (runW (R28_0 a1 a0 (a0.length:Int)) (((a0.length:Int) - 0:Int).toNat+1) (0,([]:List AV))) [] (fun p15=>p15)))))) (fun _=>rfl) (brL (br (fun b=>some (AV.fl [.int .i64] (bif b then ([]:List AV) else (ro (runW (R28_0 a1 a0 (a0.length:Int)) (((a0.length:Int) - 0:Int).toNat+1) (0,([]:List AV))) [] (fun p15=>p15))))) (fun _=>rfl) (brO (fun o:Option (((List AV)))=>some (AV.fl [.int .i64] (ro o [] (fun p15=>p15)))) (fun p15=>(fun _=>rfl))))))) h1)
 ·cases h
def G81_0 {β:Type} (t0:List AV) (t3:Int) (t4:Int) (N:((Int × Int))→β) (K:(Int)→β) (d:β):β:=(bif decide (t4<(t0.length:Int)) then (bif (decide (0≤t4) && decide (t4<(t0.length:Int))) then N ((if fI (t0.getD t4.toNat .undef) 0 > t3 then fI (t0.getD t4.toNat .undef) 0 else t3),IntKind.i64.wrap (t4+1))
 else d)
 else K t3)
def F81_0 (t0:List AV) (t3 t4:Int):Out ((Int × Int)) (Int):=G81_0 t0 t3 t4 .next .stop .fail
def R81_0 (t0:List AV):((Int × Int))→Out ((Int × Int)) (Int):=fun s:Int × Int=>F81_0 t0 s.1 s.2
def E81_0 (t0:List AV):((Int × Int))→St:=fun s:Int × Int=>⟨[(0,AV.sl [.int .i64] t0),(3,Ai s.1),(4,Ai s.2)],[]⟩
def K81_0 (t0:List AV) (k:Kont):(Int)→Option AV:=fun p:Int=>k (.exit 0) ⟨[(3,Ai p)],[]⟩
def l81_0:LModel:=fun _ _ st k=>match st with
 | ⟨[(0,.sl g0 t0),(3,.int .i64 t3),(4,.int .i64 t4)],[]⟩=>bif ctsEq g0 ([.int .i64]) then ro (runW (R81_0 t0) (((t0.length:Int) - t4:Int).toNat+1) (t3,t4)) none (K81_0 t0 k) else none
 | _=>none
noncomputable def c81:Cfg:=cfg Tryz.prog [(81,0,[0,3,4]),(81,999,[2]),(81,1000,[3]),(81,1001,[0,3,4])] [] [] [] [(81,0,l81_0)]
theorem s81_0 (t0:List AV) (ce:CallE) (k:Kont) (s:Int × Int) (next:St→Option AV):stepA (codeA c81 ce [] 81 0 (sub [1,1,1,0,1,0,0] (body Tryz.f81))) (normA [] [0,3,4]) next ((E81_0 t0) s) k=G81_0 t0 s.1 s.2 (fun s=>next ((E81_0 t0) s)) (K81_0 t0 k) none:=by kernel_rfl
theorem st81_0 (t0:List AV) (ce:CallE) (k:Kont) (s:(Int × Int)) (next:St→Option AV):stepA (codeA c81 ce [] 81 0 (sub [1,1,1,0,1,0,0] (body Tryz.f81))) (normA [] [0,3,4]) next ((E81_0 t0) s) k=(R81_0 t0 s).el none (fun s=>next ((E81_0 t0) s)) (K81_0 t0 k):=(s81_0 t0 ce k s next).trans (by unfold R81_0;unfold F81_0 G81_0;simp only [el_cond,el_ro,el_sum,el_fail,el_next,el_stop] <;> rfl)
theorem ok81_0 {ce:CallE}:LoopOK c81 ce [] 81 0 (sub [1,1,1,0,1,0,0] (body Tryz.f81)):=by
 intro m hm st k r h
 obtain rfl:l81_0=m:=Option.some.inj hm
 unfold l81_0 at h
 split at h
 ·rename_i g0 t0 t3 t4
  obtain ⟨hg,h⟩:=bif_some h
  have q0:=hg
  obtain rfl:=cE q0
  refine ⟨(((t0.length:Int) - t4:Int).toNat+1),?_⟩
  rw [← h]
  exact loop_run (E81_0 t0) (K81_0 t0 k) (st81_0 t0 ce k) _ (t3,t4)
 ·cases h
def q81 (a0:List AV):Bool:=(!(decide ((a0.length:Int)<1)) && ((decide (0≤0) && decide (0<(a0.length:Int))) && (ro (runW (R81_0 a0) (((a0.length:Int) - 1:Int).toNat+1) (fI (a0.getD (0:Int).toNat .undef) 0,1)) false (fun p16=>true))))
def v81_0 (a0:List AV):Int:=(ro (runW (R81_0 a0) (((a0.length:Int) - 1:Int).toNat+1) (fI (a0.getD (0:Int).toNat .undef) 0,1)) 0 (fun p16=>p16))
theorem e81 (a0:List AV):funA c81 0 81 [AV.sl [.int .i64] a0]=(bif decide ((a0.length:Int)<1) then none
 else (bif (decide (0≤0) && decide (0<(a0.length:Int))) then (ro (runW (R81_0 a0) (((a0.length:Int) - 1:Int).toNat+1) (fI (a0.getD (0:Int).toNat .undef) 0,1)) none (fun p16=>some (Ai p16)))
 else none)):=by kernel_rfl
def m81:TModel
 | [.sl g0 a0]=>bif ctsEq g0 ([.int .i64]) then some (q81 a0,AV.int .i64 (v81_0 a0)) else none
 | _=>none
theorem k81:Known Tryz.prog 81:=⟨Tryz.f81,Tryz.func81,by kernel_rfl,by kernel_rfl⟩
theorem meets81:Meets Tryz.prog 81 m81:=by
 refine mt (lvl:=0) (cf:=c81) rfl mixed k81 Tryz.func81 (by kernel_rfl) (loops_cons ok81_0 noLoop) allT_nil allM_nil noI fun xs r h=>?_
 unfold m81 at h
 split at h
 ·rename_i g0 a0
  obtain ⟨hg,h⟩:=bif_pair h
  have q0:=hg
  obtain rfl:=cE q0
  obtain ⟨h1,rfl⟩:=pair_inj h
  exact (e81 a0).trans ((brR (brL (brO (fun o:Option (Int)=>some (Ai (ro o 0 (fun p16=>p16)))) (fun p16=>(fun _=>rfl))))) h1)
 ·cases h
noncomputable def c108:Cfg:=cfg Tryz.prog [(108,999,[2])] [] [] [] []
def q108 (a0:List AV):Bool:=decide (a0.length*8≤140737488355328) && decide (a0.length≤140737488355328)
def v108_0 (a0:List AV):List AV:=a0
theorem e108 (a0:List AV):funA c108 0 108 [AV.sl [.int .i64] a0]=(bif decide (0<a0.length) then (bif (decide ((([]:List AV).length+a0.length)*8≤140737488355328) && decide ((([]:List AV).length+a0.length)≤140737488355328)) then some (AV.fl [.int .i64] (([]:List AV)++a0))
 else none)
 else none):=by kernel_rfl
theorem e108n (b:Bool):funA c108 0 108 [AV.sle b [.int .i64]]=some (AV.fl [.int .i64] []):=by cases b <;> kernel_rfl
def m108:TModel
 | [.sl g0 a0]=>bif ctsEq g0 [.int .i64] then some (q108 a0,AV.fl [.int .i64] (v108_0 a0)) else none
 | _=>none
theorem k108:Known Tryz.prog 108:=⟨Tryz.f108,Tryz.func108,by kernel_rfl,by kernel_rfl⟩
theorem meets108:Meets Tryz.prog 108 m108:=by
 refine meet_nil (f:=Tryz.f108) (l:=[]) (hs:=[(108,999,[2])]) (ts:=[]) (ws:=[]) (is:=[]) (ls:=[]) (lvl:=0) (tys:=[.int .i64]) mixed k108 Tryz.func108 (by kernel_rfl) noLoop allT_nil allM_nil noI (fun xs r h=>?_) (fun b r h=>?_) (fun ys r h0 h=>?_)
 ·unfold m108 at h
  split at h
  ·rename_i g0 a0
   obtain ⟨hg,h⟩:=bif_pair h
   obtain rfl:=ctsEq_eq _ _ hg
   exact ⟨a0,rfl⟩
  ·cases h
 ·obtain ⟨hg,h⟩:=bif_pair (g:=ctsEq [.int .i64] [.int .i64]) h
  obtain ⟨_,rfl⟩:=pair_inj h
  exact e108n b
 ·obtain ⟨hg,h⟩:=bif_pair (g:=ctsEq [.int .i64] [.int .i64]) h
  obtain ⟨hq,rfl⟩:=pair_inj h
  refine (e108 ys).trans ?_
  unfold q108 at hq
  have e:([]:List AV).length+ys.length=ys.length:=by simp
  rw [e,hq,decide_eq_true h0]
  rfl
def q128 (b0:List AV):Bool:=decide (b0.length*8≤140737488355328)
def v128_0 (b0:List AV):List AV:=sortL b0
def m128:WModel:=sortM
theorem k128:Known Tryz.prog 128:=⟨Tryz.f128,Tryz.func128,by kernel_rfl,by kernel_rfl⟩
theorem meets128:MeetsM Tryz.prog 128 m128:=sort_meets ⟨k128,fun blk off cap zs w h1 h2 h3=>Any.slices_Sort_int lays189 blk off cap zs w h1 h2 h3,fun p cap w=>Any.slices_Sort_int_none lays189 p cap w⟩
noncomputable def c82:Cfg:=cfg Tryz.prog [(82,999,[2])] [(108,m108)] [(128,.w m128)] [] []
def q82 (a0:List AV):Bool:=(q108 a0 && q128 (v108_0 a0))
def v82_0 (a0:List AV):List AV:=(v128_0 (v108_0 a0))
theorem e82 (a0:List AV):funA c82 0 82 [AV.sl [.int .i64] a0]=(bif q108 a0 then (bif q128 (v108_0 a0) then some (AV.fl [.int .i64] (v128_0 (v108_0 a0)))
 else none)
 else none):=by kernel_rfl
def m82:TModel
 | [.sl g0 a0]=>bif ctsEq g0 ([.int .i64]) then some (q82 a0,AV.fl [.int .i64] (v82_0 a0)) else none
 | _=>none
theorem k82:Known Tryz.prog 82:=⟨Tryz.f82,Tryz.func82,by kernel_rfl,by kernel_rfl⟩
theorem meets82:Meets Tryz.prog 82 m82:=by
 refine mt (lvl:=0) (cf:=c82) rfl mixed k82 Tryz.func82 (by kernel_rfl) noLoop (allT_cons meets108 allT_nil) (allM_cons meets128 allM_nil) noI fun xs r h=>?_
 unfold m82 at h
 split at h
 ·rename_i g0 a0
  obtain ⟨hg,h⟩:=bif_pair h
  have q0:=hg
  obtain rfl:=cE q0
  obtain ⟨h1,rfl⟩:=pair_inj h
  exact (e82 a0).trans ((brL (brL1 (fun _=>rfl))) h1)
 ·cases h
def G83_0 {β:Type} (t0:List AV) (t1:Int) (t7:Int) (t8:Int) (N:(Int)→β) (K:(Unit ⊕ Int)→β) (d:β):β:=(bif decide (t8<t7) then (bif (decide (0≤t8) && decide (t8<(t0.length:Int))) then (bif decide (t1=fI (t0.getD t8.toNat .undef) 0) then K (.inr t8)
 else N (IntKind.i64.wrap (t8+1)))
 else d)
 else K (.inl ()))
def F83_0 (t0:List AV) (t1 t7 t8:Int):Out (Int) (Unit ⊕ Int):=G83_0 t0 t1 t7 t8 .next .stop .fail
def R83_0 (t0:List AV) (t1 t7:Int):(Int)→Out (Int) (Unit ⊕ Int):=fun s:Int=>F83_0 t0 t1 t7 s
def E83_0 (t0:List AV) (t1 t7:Int):(Int)→St:=fun s:Int=>⟨[(0,AV.sl [.int .i64] t0),(1,Ai t1),(7,Ai t7),(8,Ai s)],[]⟩
def K83_0 (t0:List AV) (t1 t7:Int) (k:Kont):(Unit ⊕ Int)→Option AV:=sumE (fun _:Unit=>k (.exit 0) ⟨[],[]⟩) (fun p:Int=>k .ret ⟨[(4,Ai p)],[]⟩)
def l83_0:LModel:=fun _ _ st k=>match st with
 | ⟨[(0,.sl g0 t0),(1,.int .i64 t1),(7,.int .i64 t7),(8,.int .i64 t8)],[]⟩=>bif ctsEq g0 ([.int .i64]) then ro (runW (R83_0 t0 t1 t7) ((t7 - t8:Int).toNat+1) t8) none (K83_0 t0 t1 t7 k) else none
 | _=>none
noncomputable def c83:Cfg:=cfg Tryz.prog [(83,0,[0,1,7,8]),(83,999,[4]),(83,1000,[]),(83,1001,[0,1,7,8])] [] [] [] [(83,0,l83_0)]
theorem s83_0 (t0:List AV) (t1 t7:Int) (ce:CallE) (k:Kont) (s:Int) (next:St→Option AV):stepA (codeA c83 ce [] 83 0 (sub [1,0,1,0,0] (body Tryz.f83))) (normA [] [0,1,7,8]) next ((E83_0 t0 t1 t7) s) k=G83_0 t0 t1 t7 s (fun s=>next ((E83_0 t0 t1 t7) s)) (K83_0 t0 t1 t7 k) none:=by kernel_rfl
theorem st83_0 (t0:List AV) (t1 t7:Int) (ce:CallE) (k:Kont) (s:Int) (next:St→Option AV):stepA (codeA c83 ce [] 83 0 (sub [1,0,1,0,0] (body Tryz.f83))) (normA [] [0,1,7,8]) next ((E83_0 t0 t1 t7) s) k=(R83_0 t0 t1 t7 s).el none (fun s=>next ((E83_0 t0 t1 t7) s)) (K83_0 t0 t1 t7 k):=(s83_0 t0 t1 t7 ce k s next).trans (by unfold R83_0;unfold F83_0 G83_0;simp only [el_cond,el_ro,el_sum,el_fail,el_next,el_stop] <;> rfl)
theorem ok83_0 {ce:CallE}:LoopOK c83 ce [] 83 0 (sub [1,0,1,0,0] (body Tryz.f83)):=by
 intro m hm st k r h
 obtain rfl:l83_0=m:=Option.some.inj hm
 unfold l83_0 at h
 split at h
 ·rename_i g0 t0 t1 t7 t8
  obtain ⟨hg,h⟩:=bif_some h
  have q0:=hg
  obtain rfl:=cE q0
  refine ⟨((t7 - t8:Int).toNat+1),?_⟩
  rw [← h]
  exact loop_run (E83_0 t0 t1 t7) (K83_0 t0 t1 t7 k) (st83_0 t0 t1 t7 ce k) _ t8
 ·cases h
def q83 (a0:List AV) (a1:Int):Bool:=(ro (runW (R83_0 a0 a1 (a0.length:Int)) (((a0.length:Int) - 0:Int).toNat+1) 0) false (sumE (fun _=>true) (fun p19=>true)))
def v83_0 (a0:List AV) (a1:Int):Int:=(ro (runW (R83_0 a0 a1 (a0.length:Int)) (((a0.length:Int) - 0:Int).toNat+1) 0) 0 (sumE (fun _=>(-1)) (fun p19=>p19)))
theorem e83 (a0:List AV) (a1:Int):funA c83 0 83 [AV.sl [.int .i64] a0,Ai a1]=(ro (runW (R83_0 a0 a1 (a0.length:Int)) (((a0.length:Int) - 0:Int).toNat+1) 0) none (sumE (fun _=>some (Ai (-1))) (fun p19=>some (Ai p19)))):=by kernel_rfl
def m83:TModel
 | [.sl g0 a0,.int .i64 a1]=>bif ctsEq g0 ([.int .i64]) then some (q83 a0 a1,AV.int .i64 (v83_0 a0 a1)) else none
 | _=>none
theorem k83:Known Tryz.prog 83:=⟨Tryz.f83,Tryz.func83,by kernel_rfl,by kernel_rfl⟩
theorem meets83:Meets Tryz.prog 83 m83:=by
 refine mt (lvl:=0) (cf:=c83) rfl mixed k83 Tryz.func83 (by kernel_rfl) (loops_cons ok83_0 noLoop) allT_nil allM_nil noI fun xs r h=>?_
 unfold m83 at h
 split at h
 ·rename_i g0 a0 a1
  obtain ⟨hg,h⟩:=bif_pair h
  have q0:=hg
  obtain rfl:=cE q0
  obtain ⟨h1,rfl⟩:=pair_inj h
  exact (e83 a0 a1).trans ((brO (fun o:Option (Unit ⊕ Int)=>some (Ai (ro o 0 (sumE (fun _=>(-1)) (fun p19=>p19))))) (brS (fun o:Unit ⊕ Int=>some (Ai ((sumE (fun _=>(-1)) (fun p19=>p19)) o))) (fun _=>(fun _=>rfl)) (fun p19=>(fun _=>rfl)))) h1)
 ·cases h
def G29_2 {β:Type} (t0:List AV) (t7:Int) (t8:Int) (t43:Int) (h0_0:Int) (h0_1:Int) (h1:List AV) (h2:List AV) (t11:Int) (t44:Int) (N:((Int × Int))→β) (K:(Int)→β) (d:β):β:=(bif decide (t44<t43) then (bif (decide (0≤t44) && decide (t44<(h2.length:Int))) then (bif decide (fI (h2.getD t44.toNat .undef) 0<t8) then N (t11,IntKind.i64.wrap (t44+1))
 else (bif q83 t0 (fI (h2.getD t44.toNat .undef) 0) then (bif (decide (0≤(v83_0 t0 (fI (h2.getD t44.toNat .undef) 0))) && decide ((v83_0 t0 (fI (h2.getD t44.toNat .undef) 0))<(h1.length:Int))) then (bif !decide (fI (h1.getD (v83_0 t0 (fI (h2.getD t44.toNat .undef) 0)).toNat .undef) 0=t7) then K t11
 else N (fI (h2.getD t44.toNat .undef) 0,IntKind.i64.wrap (t44+1)))
 else d)
 else d))
 else d)
 else K t11)
def F29_2 (t0:List AV) (t7 t8 t43 h0_0 h0_1:Int) (h1 h2:List AV) (t11 t44:Int):Out ((Int × Int)) (Int):=G29_2 t0 t7 t8 t43 h0_0 h0_1 h1 h2 t11 t44 .next .stop .fail
def R29_2 (t0:List AV) (t7 t8 t43 h0_0 h0_1:Int) (h1 h2:List AV):((Int × Int))→Out ((Int × Int)) (Int):=fun s:Int × Int=>F29_2 t0 t7 t8 t43 h0_0 h0_1 h1 h2 s.1 s.2
def E29_2 (t0:List AV) (t7 t8 t43 h0_0 h0_1:Int) (h1 h2:List AV):((Int × Int))→St:=fun s:Int × Int=>⟨[(0,AV.sl [.int .i64] t0),(4,AV.ptr [0,4] 0 0),(6,AV.own [0,6]),(7,Ai t7),(8,Ai t8),(11,Ai s.1),(42,AV.own [0,42]),(43,Ai t43),(44,Ai s.2)],[([0,4],⟨true,[],[AV.agg [Ai h0_0,Ai h0_1]]⟩),([0,6],⟨false,[.int .i64],h1⟩),([0,42],⟨false,[.int .i64],h2⟩)]⟩
def K29_2 (t0:List AV) (t7 t8 t43 h0_0 h0_1:Int) (h1 h2:List AV) (k:Kont):(Int)→Option AV:=fun p:Int=>k (.exit 2) ⟨[(4,AV.ptr [0,4] 0 0),(7,Ai t7),(8,Ai t8),(11,Ai p)],[([0,4],⟨true,[],[AV.agg [Ai h0_0,Ai h0_1]]⟩),([0,6],⟨false,[.int .i64],h1⟩),([0,42],⟨false,[.int .i64],h2⟩)]⟩
def l29_2:LModel:=fun _ _ st k=>match st with
 | ⟨[(0,.sl g0 t0),(4,.ptr g1 g2 g3),(6,.own g4),(7,.int .i64 t7),(8,.int .i64 t8),(11,.int .i64 t11),(42,.own g5),(43,.int .i64 t43),(44,.int .i64 t44)],[(g6,⟨true,[],[.agg [.int .i64 h0_0,.int .i64 h0_1]]⟩),(g7,⟨false,g8,h1⟩),(g9,⟨false,g10,h2⟩)]⟩=>bif ctsEq g0 ([.int .i64]) && nmEq g1 ([0,4]) && Nat.beq g2 0 && Nat.beq g3 0 && nmEq g4 ([0,6]) && nmEq g5 ([0,42]) && nmEq g6 ([0,4]) && nmEq g7 ([0,6]) && ctsEq g8 ([.int .i64]) && nmEq g9 ([0,42]) && ctsEq g10 ([.int .i64]) then ro (runW (R29_2 t0 t7 t8 t43 h0_0 h0_1 h1 h2) ((t43 - t44:Int).toNat+1) (t11,t44)) none (K29_2 t0 t7 t8 t43 h0_0 h0_1 h1 h2 k) else none
 | _=>none
def G29_0 {β:Type} (t0:List AV) (t7:Int) (t23:List AV) (t24:Int) (h0_0:Int) (h0_1:Int) (h1:List AV) (t8:Int) (t25:Int) (N:((Int × Int))→β) (K:(Int)→β) (d:β):β:=(bif decide (t25<t24) then (bif (decide (0≤t25) && decide (t25<(t23.length:Int))) then (bif (decide (0≤t25) && decide (t25<(h1.length:Int))) then (bif decide (fI (h1.getD t25.toNat .undef) 0=t7) then N ((if fI (t23.getD t25.toNat .undef) 0<t8 then fI (t23.getD t25.toNat .undef) 0 else t8),IntKind.i64.wrap (t25+1))
 else N (t8,IntKind.i64.wrap (t25+1)))
 else d)
 else d)
 else K t8)
def F29_0 (t0:List AV) (t7:Int) (t23:List AV) (t24 h0_0 h0_1:Int) (h1:List AV) (t8 t25:Int):Out ((Int × Int)) (Int):=G29_0 t0 t7 t23 t24 h0_0 h0_1 h1 t8 t25 .next .stop .fail
def R29_0 (t0:List AV) (t7:Int) (t23:List AV) (t24 h0_0 h0_1:Int) (h1:List AV):((Int × Int))→Out ((Int × Int)) (Int):=fun s:Int × Int=>F29_0 t0 t7 t23 t24 h0_0 h0_1 h1 s.1 s.2
def E29_0 (t0:List AV) (t7:Int) (t23:List AV) (t24 h0_0 h0_1:Int) (h1:List AV):((Int × Int))→St:=fun s:Int × Int=>⟨[(0,AV.sl [.int .i64] t0),(4,AV.ptr [0,4] 0 0),(6,AV.own [0,6]),(7,Ai t7),(8,Ai s.1),(23,AV.sl [.int .i64] t23),(24,Ai t24),(25,Ai s.2)],[([0,4],⟨true,[],[AV.agg [Ai h0_0,Ai h0_1]]⟩),([0,6],⟨false,[.int .i64],h1⟩)]⟩
def K29_0 (t0:List AV) (t7:Int) (t23:List AV) (t24 h0_0 h0_1:Int) (h1:List AV) (k:Kont):(Int)→Option AV:=fun p:Int=>k (.exit 0) ⟨[(0,AV.sl [.int .i64] t0),(4,AV.ptr [0,4] 0 0),(6,AV.own [0,6]),(7,Ai t7),(8,Ai p)],[([0,4],⟨true,[],[AV.agg [Ai h0_0,Ai h0_1]]⟩),([0,6],⟨false,[.int .i64],h1⟩)]⟩
def l29_0:LModel:=fun _ _ st k=>match st with
 | ⟨[(0,.sl g0 t0),(4,.ptr g1 g2 g3),(6,.own g4),(7,.int .i64 t7),(8,.int .i64 t8),(23,.sl g5 t23),(24,.int .i64 t24),(25,.int .i64 t25)],[(g6,⟨true,[],[.agg [.int .i64 h0_0,.int .i64 h0_1]]⟩),(g7,⟨false,g8,h1⟩)]⟩=>bif ctsEq g0 ([.int .i64]) && nmEq g1 ([0,4]) && Nat.beq g2 0 && Nat.beq g3 0 && nmEq g4 ([0,6]) && ctsEq g5 ([.int .i64]) && nmEq g6 ([0,4]) && nmEq g7 ([0,6]) && ctsEq g8 ([.int .i64]) then ro (runW (R29_0 t0 t7 t23 t24 h0_0 h0_1 h1) ((t24 - t25:Int).toNat+1) (t8,t25)) none (K29_0 t0 t7 t23 t24 h0_0 h0_1 h1 k) else none
 | _=>none
noncomputable def c29:Cfg:=cfg Tryz.prog [(29,0,[0,4,6,7,8,23,24,25]),(29,2,[0,4,6,7,8,11,42,43,44]),(29,999,[4,5]),(29,1000,[0,4,6,7,8]),(29,1001,[0,4,6,7,8,23,24,25]),(29,1002,[4,7,8,11]),(29,1003,[0,4,6,7,8,11,42,43,44])] [(28,m28),(81,m81),(82,m82),(83,m83)] [] [] [(29,0,l29_0),(29,2,l29_2)]
theorem s29_2 (t0:List AV) (t7 t8 t43 h0_0 h0_1:Int) (h1 h2:List AV) (ce:CallE) (k:Kont) (s:Int × Int) (next:St→Option AV):stepA (codeA c29 ce [] 29 2 (sub [1,1,1,1,1,1,1,0,1,0,0] (body Tryz.f29))) (normA [] [0,4,6,7,8,11,42,43,44]) next ((E29_2 t0 t7 t8 t43 h0_0 h0_1 h1 h2) s) k=G29_2 t0 t7 t8 t43 h0_0 h0_1 h1 h2 s.1 s.2 (fun s=>next ((E29_2 t0 t7 t8 t43 h0_0 h0_1 h1 h2) s)) (K29_2 t0 t7 t8 t43 h0_0 h0_1 h1 h2 k) none:=by kernel_rfl
theorem st29_2 (t0:List AV) (t7 t8 t43 h0_0 h0_1:Int) (h1 h2:List AV) (ce:CallE) (k:Kont) (s:(Int × Int)) (next:St→Option AV):stepA (codeA c29 ce [] 29 2 (sub [1,1,1,1,1,1,1,0,1,0,0] (body Tryz.f29))) (normA [] [0,4,6,7,8,11,42,43,44]) next ((E29_2 t0 t7 t8 t43 h0_0 h0_1 h1 h2) s) k=(R29_2 t0 t7 t8 t43 h0_0 h0_1 h1 h2 s).el none (fun s=>next ((E29_2 t0 t7 t8 t43 h0_0 h0_1 h1 h2) s)) (K29_2 t0 t7 t8 t43 h0_0 h0_1 h1 h2 k):=(s29_2 t0 t7 t8 t43 h0_0 h0_1 h1 h2 ce k s next).trans (by unfold R29_2;unfold F29_2 G29_2;simp only [el_cond,el_ro,el_sum,el_fail,el_next,el_stop] <;> rfl)
theorem ok29_2 {ce:CallE}:LoopOK c29 ce [] 29 2 (sub [1,1,1,1,1,1,1,0,1,0,0] (body Tryz.f29)):=by
 intro m hm st k r h
 obtain rfl:l29_2=m:=Option.some.inj hm
 unfold l29_2 at h
 split at h
 ·rename_i g0 t0 g1 g2 g3 g4 t7 t8 t11 g5 t43 t44 g6 h0_0 h0_1 g7 g8 h1 g9 g10 h2
  obtain ⟨hg,h⟩:=bif_some h
  simp only [Bool.and_eq_true] at hg
  obtain ⟨⟨⟨⟨⟨⟨⟨⟨⟨⟨q0,q1⟩,q2⟩,q3⟩,q4⟩,q5⟩,q6⟩,q7⟩,q8⟩,q9⟩,q10⟩:=hg
  obtain rfl:=cE q0
  obtain rfl:=nE q1
  obtain rfl:=bE q2
  obtain rfl:=bE q3
  obtain rfl:=nE q4
  obtain rfl:=nE q5
  obtain rfl:=nE q6
  obtain rfl:=nE q7
  obtain rfl:=cE q8
  obtain rfl:=nE q9
  obtain rfl:=cE q10
  refine ⟨((t43 - t44:Int).toNat+1),?_⟩
  rw [← h]
  exact loop_run (E29_2 t0 t7 t8 t43 h0_0 h0_1 h1 h2) (K29_2 t0 t7 t8 t43 h0_0 h0_1 h1 h2 k) (st29_2 t0 t7 t8 t43 h0_0 h0_1 h1 h2 ce k) _ (t11,t44)
 ·cases h
theorem s29_0 (t0:List AV) (t7:Int) (t23:List AV) (t24 h0_0 h0_1:Int) (h1:List AV) (ce:CallE) (k:Kont) (s:Int × Int) (next:St→Option AV):stepA (codeA c29 ce [] 29 0 (sub [1,1,1,1,1,0,1,0,0] (body Tryz.f29))) (normA [] [0,4,6,7,8,23,24,25]) next ((E29_0 t0 t7 t23 t24 h0_0 h0_1 h1) s) k=G29_0 t0 t7 t23 t24 h0_0 h0_1 h1 s.1 s.2 (fun s=>next ((E29_0 t0 t7 t23 t24 h0_0 h0_1 h1) s)) (K29_0 t0 t7 t23 t24 h0_0 h0_1 h1 k) none:=by kernel_rfl
theorem st29_0 (t0:List AV) (t7:Int) (t23:List AV) (t24 h0_0 h0_1:Int) (h1:List AV) (ce:CallE) (k:Kont) (s:(Int × Int)) (next:St→Option AV):stepA (codeA c29 ce [] 29 0 (sub [1,1,1,1,1,0,1,0,0] (body Tryz.f29))) (normA [] [0,4,6,7,8,23,24,25]) next ((E29_0 t0 t7 t23 t24 h0_0 h0_1 h1) s) k=(R29_0 t0 t7 t23 t24 h0_0 h0_1 h1 s).el none (fun s=>next ((E29_0 t0 t7 t23 t24 h0_0 h0_1 h1) s)) (K29_0 t0 t7 t23 t24 h0_0 h0_1 h1 k):=(s29_0 t0 t7 t23 t24 h0_0 h0_1 h1 ce k s next).trans (by unfold R29_0;unfold F29_0 G29_0;simp only [el_cond,el_ro,el_sum,el_fail,el_next,el_stop] <;> rfl)
theorem ok29_0 {ce:CallE}:LoopOK c29 ce [] 29 0 (sub [1,1,1,1,1,0,1,0,0] (body Tryz.f29)):=by
 intro m hm st k r h
 obtain rfl:l29_0=m:=Option.some.inj hm
 unfold l29_0 at h
 split at h
 ·rename_i g0 t0 g1 g2 g3 g4 t7 t8 g5 t23 t24 t25 g6 h0_0 h0_1 g7 g8 h1
  obtain ⟨hg,h⟩:=bif_some h
  simp only [Bool.and_eq_true] at hg
  obtain ⟨⟨⟨⟨⟨⟨⟨⟨q0,q1⟩,q2⟩,q3⟩,q4⟩,q5⟩,q6⟩,q7⟩,q8⟩:=hg
  obtain rfl:=cE q0
  obtain rfl:=nE q1
  obtain rfl:=bE q2
  obtain rfl:=bE q3
  obtain rfl:=nE q4
  obtain rfl:=cE q5
  obtain rfl:=nE q6
  obtain rfl:=nE q7
  obtain rfl:=cE q8
  refine ⟨((t24 - t25:Int).toNat+1),?_⟩
  rw [← h]
  exact loop_run (E29_0 t0 t7 t23 t24 h0_0 h0_1 h1) (K29_0 t0 t7 t23 t24 h0_0 h0_1 h1 k) (st29_0 t0 t7 t23 t24 h0_0 h0_1 h1 ce k) _ (t8,t25)
 ·cases h
def q29 (a0 a1:List AV):Bool:=(q28 a0 a1 && (bif decide (((v28_0 a0 a1).length:Int)=0) then true else (q81 (v28_0 a0 a1) && (ro (runW (R29_0 a0 (v81_0 (v28_0 a0 a1)) a0 (a0.length:Int) 0 0 (v28_0 a0 a1)) (((a0.length:Int) - 0:Int).toNat+1) (1000,0)) false (fun p17=>(q82 a0 && (ro (runW (R29_2 a0 (v81_0 (v28_0 a0 a1)) p17 ((v82_0 a0).length:Int) 0 0 (v28_0 a0 a1) (v82_0 a0)) ((((v82_0 a0).length:Int) - 0:Int).toNat+1) (p17,0)) false (fun p20=>true))))))))
def v29_0 (a0 a1:List AV):Int:=(bif decide (((v28_0 a0 a1).length:Int)=0) then 0 else (ro (runW (R29_0 a0 (v81_0 (v28_0 a0 a1)) a0 (a0.length:Int) 0 0 (v28_0 a0 a1)) (((a0.length:Int) - 0:Int).toNat+1) (1000,0)) 0 (fun p17=>p17)))
def v29_1 (a0 a1:List AV):Int:=(bif decide (((v28_0 a0 a1).length:Int)=0) then 0 else (ro (runW (R29_0 a0 (v81_0 (v28_0 a0 a1)) a0 (a0.length:Int) 0 0 (v28_0 a0 a1)) (((a0.length:Int) - 0:Int).toNat+1) (1000,0)) 0 (fun p17=>(ro (runW (R29_2 a0 (v81_0 (v28_0 a0 a1)) p17 ((v82_0 a0).length:Int) 0 0 (v28_0 a0 a1) (v82_0 a0)) ((((v82_0 a0).length:Int) - 0:Int).toNat+1) (p17,0)) 0 (fun p20=>IntKind.i64.wrap (p20+1))))))
def v29_2 (a0 a1:List AV):Int:=(bif decide (((v28_0 a0 a1).length:Int)=0) then 0 else (v81_0 (v28_0 a0 a1)))
theorem e29 (a0 a1:List AV):funA c29 0 29 [AV.sl [.int .i64] a0,AV.sl [.int .i64,.int .i64] a1]=(bif q28 a0 a1 then (bif decide (((v28_0 a0 a1).length:Int)=0) then some (AV.tup [AV.agg [Ai 0,Ai 0],Ai 0])
 else (bif q81 (v28_0 a0 a1) then (ro (runW (R29_0 a0 (v81_0 (v28_0 a0 a1)) a0 (a0.length:Int) 0 0 (v28_0 a0 a1)) (((a0.length:Int) - 0:Int).toNat+1) (1000,0)) none (fun p17=>(bif q82 a0 then (ro (runW (R29_2 a0 (v81_0 (v28_0 a0 a1)) p17 ((v82_0 a0).length:Int) 0 0 (v28_0 a0 a1) (v82_0 a0)) ((((v82_0 a0).length:Int) - 0:Int).toNat+1) (p17,0)) none (fun p20=>some (AV.tup [AV.agg [Ai p17,Ai (IntKind.i64.wrap (p20+1))],Ai (v81_0 (v28_0 a0 a1))])))
 else none)))
 else none))
 else none):=by kernel_rfl
def m29:TModel
 | [.sl g0 a0,.sl g1 a1]=>bif ctsEq g0 ([.int .i64]) && ctsEq g1 ([.int .i64,.int .i64]) then some (q29 a0 a1,AV.tup [AV.agg [AV.int .i64 (v29_0 a0 a1),AV.int .i64 (v29_1 a0 a1)],AV.int .i64 (v29_2 a0 a1)]) else none
 | _=>none
theorem k29:Known Tryz.prog 29:=⟨Tryz.f29,Tryz.func29,by kernel_rfl,by kernel_rfl⟩
theorem meets29:Meets Tryz.prog 29 m29:=by
 refine mt (lvl:=0) (cf:=c29) rfl mixed k29 Tryz.func29 (by kernel_rfl) (loops_cons ok29_0 (loops_cons ok29_2 noLoop)) (allT_cons meets28 (allT_cons meets81 (allT_cons meets82 (allT_cons meets83 allT_nil)))) allM_nil noI fun xs r h=>?_
 unfold m29 at h
 split at h
 ·rename_i g0 a0 g1 a1
  obtain ⟨hg,h⟩:=bif_pair h
  simp only [Bool.and_eq_true] at hg
  obtain ⟨q0,q1⟩:=hg
  obtain rfl:=cE q0
  obtain rfl:=cE q1
  obtain ⟨h1,rfl⟩:=pair_inj h
  exact (e29 a0 a1).trans ((brL (br (fun b=>some (AV.tup [AV.agg [Ai (bif b then 0 else (ro (runW (R29_0 a0 (v81_0 (v28_0 a0 a1)) a0 (a0.length:Int) 0 0 (v28_0 a0 a1)) (((a0.length:Int) - 0:Int).toNat+1) (1000,0)) 0 (fun p17=>p17))),Ai (bif b then 0 else (ro (runW (R29_0 a0 (v81_0 (v28_0 a0 a1)) a0 (a0.length:Int) 0 0 (v28_0 a0 a1)) (((a0.length:Int) - 0:Int).toNat+1) (1000,0)) 0 (fun p17=>(ro (runW (R29_2 a0 (v81_0 (v28_0 a0 a1)) p17 ((v82_0 a0).length:Int) 0 0 (v28_0 a0 a1) (v82_0 a0)) ((((v82_0 a0).length:Int) - 0:Int).toNat+1) (p17,0)) 0 (fun p20=>IntKind.i64.wrap (p20+1))))))],Ai (bif b then 0 else (v81_0 (v28_0 a0 a1)))])) (fun _=>rfl) (brL (brO (fun o:Option (Int)=>some (AV.tup [AV.agg [Ai (ro o 0 (fun p17=>p17)),Ai (ro o 0 (fun p17=>(ro (runW (R29_2 a0 (v81_0 (v28_0 a0 a1)) p17 ((v82_0 a0).length:Int) 0 0 (v28_0 a0 a1) (v82_0 a0)) ((((v82_0 a0).length:Int) - 0:Int).toNat+1) (p17,0)) 0 (fun p20=>IntKind.i64.wrap (p20+1)))))],Ai (v81_0 (v28_0 a0 a1))])) (fun p17=>(brL (brO (fun o:Option (Int)=>some (AV.tup [AV.agg [Ai p17,Ai (ro o 0 (fun p20=>IntKind.i64.wrap (p20+1)))],Ai (v81_0 (v28_0 a0 a1))])) (fun p20=>(fun _=>rfl))))))))) h1)
 ·cases h
noncomputable def c122:Cfg:=cfg Tryz.prog [(122,999,[])] [] [] [] []
def q122 (a1 a2:Int) (b0:List AV):Bool:=((decide (0≤a1) && decide (a1<(b0.length:Int))) && ((decide (0≤a2) && decide (a2<(b0.length:Int))) && ((decide (0≤a1) && decide (a1<(b0.length:Int))) && (decide (0≤a2) && decide (a2<((b0.set a1.toNat (AV.agg [AV.int .i64 (fI (b0.getD a2.toNat .undef) 0)])).length:Int))))))
def v122_0 (a1 a2:Int) (b0:List AV):List AV:=(b0.set a1.toNat (AV.agg [AV.int .i64 (fI (b0.getD a2.toNat .undef) 0)])).set a2.toNat (AV.agg [AV.int .i64 (fI (b0.getD a1.toNat .undef) 0)])
theorem e122 (a1 a2:Int) (b0:List AV) (K:AV→List Blk→Option AV):inlA c122 1 122 [AV.own [1],Ai a1,Ai a2] [0] (canH 1 [⟨false,[.int .i64],b0⟩]) (keepB 1 K)=(bif (decide (0≤a1) && decide (a1<(b0.length:Int))) then (bif (decide (0≤a2) && decide (a2<(b0.length:Int))) then (bif (decide (0≤a1) && decide (a1<(b0.length:Int))) then (bif (decide (0≤a2) && decide (a2<((b0.set a1.toNat (AV.agg [Ai (fI (b0.getD a2.toNat .undef) 0)])).length:Int))) then K (AV.tup []) [⟨false,[.int .i64],(b0.set a1.toNat (AV.agg [Ai (fI (b0.getD a2.toNat .undef) 0)])).set a2.toNat (AV.agg [Ai (fI (b0.getD a1.toNat .undef) 0)])⟩]
 else none)
 else none)
 else none)
 else none):=by kernel_rfl
theorem r122 (a1 a2:Int) (b0:List AV) (K:AV→List Blk→Option AV) (h:q122 a1 a2 b0=true):inlA c122 1 122 [AV.own [1],AV.int .i64 a1,AV.int .i64 a2] [0] (canH 1 [⟨false,[.int .i64],b0⟩]) (keepB 1 K)=K (AV.tup []) [⟨false,[.int .i64],(v122_0 a1 a2 b0)⟩]:=(e122 a1 a2 b0 K).trans ((brL (brL (brL (brL1 (fun _=>rfl))))) h)
def m122:WModel
 | [.own g0,.int .i64 a1,.int .i64 a2],[⟨false,g1,b0⟩]=>bif nmEq g0 ([1]) && ctsEq g1 ([.int .i64]) then some (q122 a1 a2 b0,AV.tup [],[⟨false,[.int .i64],(v122_0 a1 a2 b0)⟩]) else none
 | _,_=>none
theorem k122:Known Tryz.prog 122:=⟨Tryz.f122,Tryz.func122,by kernel_rfl,by kernel_rfl⟩
theorem meets122:MeetsM Tryz.prog 122 m122:=by
 refine mw (lvl:=0) (cf:=c122) rfl mixed k122 Tryz.func122 (by kernel_rfl) noLoop allT_nil allM_nil noI fun xs bs r bs' h K=>?_
 unfold m122 at h
 split at h
 ·rename_i g0 a1 a2 g1 b0
  obtain ⟨hg,h⟩:=bif_pair h
  simp only [Bool.and_eq_true] at hg
  obtain ⟨q0,q1⟩:=hg
  obtain rfl:=nE q0
  obtain rfl:=cE q1
  obtain ⟨h1,rfl,rfl⟩:=trip_inj h
  exact r122 a1 a2 b0 K h1
 ·cases h
def G77_2 {β:Type} (t4:Int) (t5:Int) (h0:List AV) (N:((Int × (List AV)))→β) (K:(((List AV)))→β) (d:β):β:=(bif decide (t5 > 0) then (bif (decide (0≤IntKind.i64.wrap (t5 - 1)) && decide (IntKind.i64.wrap (t5 - 1)<(h0.length:Int))) then (bif (decide (0≤t5) && decide (t5<(h0.length:Int))) then (bif decide (fI (h0.getD (IntKind.i64.wrap (t5 - 1)).toNat .undef) 0 > fI (h0.getD t5.toNat .undef) 0) then (bif q122 (IntKind.i64.wrap (t5 - 1)) t5 h0 then N (IntKind.i64.wrap (t5 - 1),(v122_0 (IntKind.i64.wrap (t5 - 1)) t5 h0))
 else d)
 else K h0)
 else d)
 else d)
 else K h0)
def F77_2 (t4 t5:Int) (h0:List AV):Out ((Int × (List AV))) (((List AV))):=G77_2 t4 t5 h0 .next .stop .fail
def R77_2 (t4:Int):((Int × (List AV)))→Out ((Int × (List AV))) (((List AV))):=fun s:Int × (List AV)=>F77_2 t4 s.1 s.2
def E77_2 (t4:Int):((Int × (List AV)))→St:=fun s:Int × (List AV)=>⟨[(3,AV.own [0,3]),(4,Ai t4),(5,Ai s.1)],[([0,3],⟨false,[.int .i64],s.2⟩)]⟩
def K77_2 (t4:Int) (k:Kont):(((List AV)))→Option AV:=fun p:(List AV)=>k (.exit 2) ⟨[(3,AV.own [0,3]),(4,Ai t4)],[([0,3],⟨false,[.int .i64],p⟩)]⟩
def l77_2:LModel:=fun _ _ st k=>match st with
 | ⟨[(3,.own g0),(4,.int .i64 t4),(5,.int .i64 t5)],[(g1,⟨false,g2,h0⟩)]⟩=>bif nmEq g0 ([0,3]) && nmEq g1 ([0,3]) && ctsEq g2 ([.int .i64]) then ro (runW (R77_2 t4) ((t5 - 0:Int).toNat+1) (t5,h0)) none (K77_2 t4 k) else none
 | _=>none
def G77_0 {β:Type} (t4:Int) (h0:List AV) (N:((Int × (List AV)))→β) (K:(((List AV)))→β) (d:β):β:=(bif decide (t4<(h0.length:Int)) then (ro (runW (R77_2 t4) ((t4 - 0:Int).toNat+1) (t4,h0)) d (fun p21=>N (IntKind.i64.wrap (t4+1),p21)))
 else K h0)
def F77_0 (t4:Int) (h0:List AV):Out ((Int × (List AV))) (((List AV))):=G77_0 t4 h0 .next .stop .fail
def R77_0:((Int × (List AV)))→Out ((Int × (List AV))) (((List AV))):=fun s:Int × (List AV)=>F77_0 s.1 s.2
def E77_0:((Int × (List AV)))→St:=fun s:Int × (List AV)=>⟨[(3,AV.own [0,3]),(4,Ai s.1)],[([0,3],⟨false,[.int .i64],s.2⟩)]⟩
def K77_0 (k:Kont):(((List AV)))→Option AV:=fun p:(List AV)=>k (.exit 0) ⟨[(3,AV.own [0,3])],[([0,3],⟨false,[.int .i64],p⟩)]⟩
def l77_0:LModel:=fun _ _ st k=>match st with
 | ⟨[(3,.own g0),(4,.int .i64 t4)],[(g1,⟨false,g2,h0⟩)]⟩=>bif nmEq g0 ([0,3]) && nmEq g1 ([0,3]) && ctsEq g2 ([.int .i64]) then ro (runW (R77_0) (((h0.length:Int) - t4:Int).toNat+1) (t4,h0)) none (K77_0 k) else none
 | _=>none
noncomputable def c77:Cfg:=cfg Tryz.prog [(77,0,[3,4]),(77,2,[3,4,5]),(77,999,[2]),(77,1000,[3]),(77,1001,[3,4]),(77,1002,[3,4]),(77,1003,[3,4,5])] [] [(122,.w m122)] [] [(77,0,l77_0),(77,2,l77_2)]
theorem s77_2 (t4:Int) (ce:CallE) (k:Kont) (s:Int × (List AV)) (next:St→Option AV):stepA (codeA c77 ce [] 77 2 (sub [1,1,0,1,0,0,1,0,0,1,0,0] (body Tryz.f77))) (normA [] [3,4,5]) next ((E77_2 t4) s) k=G77_2 t4 s.1 s.2 (fun s=>next ((E77_2 t4) s)) (K77_2 t4 k) none:=by kernel_rfl
theorem st77_2 (t4:Int) (ce:CallE) (k:Kont) (s:(Int × (List AV))) (next:St→Option AV):stepA (codeA c77 ce [] 77 2 (sub [1,1,0,1,0,0,1,0,0,1,0,0] (body Tryz.f77))) (normA [] [3,4,5]) next ((E77_2 t4) s) k=(R77_2 t4 s).el none (fun s=>next ((E77_2 t4) s)) (K77_2 t4 k):=(s77_2 t4 ce k s next).trans (by unfold R77_2;unfold F77_2 G77_2;simp only [el_cond,el_ro,el_sum,el_fail,el_next,el_stop] <;> rfl)
theorem ok77_2 {ce:CallE}:LoopOK c77 ce [] 77 2 (sub [1,1,0,1,0,0,1,0,0,1,0,0] (body Tryz.f77)):=by
 intro m hm st k r h
 obtain rfl:l77_2=m:=Option.some.inj hm
 unfold l77_2 at h
 split at h
 ·rename_i g0 t4 t5 g1 g2 h0
  obtain ⟨hg,h⟩:=bif_some h
  simp only [Bool.and_eq_true] at hg
  obtain ⟨⟨q0,q1⟩,q2⟩:=hg
  obtain rfl:=nE q0
  obtain rfl:=nE q1
  obtain rfl:=cE q2
  refine ⟨((t5 - 0:Int).toNat+1),?_⟩
  rw [← h]
  exact loop_run (E77_2 t4) (K77_2 t4 k) (st77_2 t4 ce k) _ (t5,h0)
 ·cases h
theorem s77_0 (ce:CallE) (k:Kont) (s:Int × (List AV)) (next:St→Option AV):stepA (codeA c77 ce [] 77 0 (sub [1,1,0,1,0,0] (body Tryz.f77))) (normA [] [3,4]) next (E77_0 s) k=G77_0 s.1 s.2 (fun s=>next (E77_0 s)) (K77_0 k) none:=by kernel_rfl
theorem st77_0 (ce:CallE) (k:Kont) (s:(Int × (List AV))) (next:St→Option AV):stepA (codeA c77 ce [] 77 0 (sub [1,1,0,1,0,0] (body Tryz.f77))) (normA [] [3,4]) next (E77_0 s) k=(R77_0 s).el none (fun s=>next (E77_0 s)) (K77_0 k):=(s77_0 ce k s next).trans (by unfold R77_0;unfold F77_0 G77_0;simp only [el_cond,el_ro,el_sum,el_fail,el_next,el_stop] <;> rfl)
theorem ok77_0 {ce:CallE}:LoopOK c77 ce [] 77 0 (sub [1,1,0,1,0,0] (body Tryz.f77)):=by
 intro m hm st k r h
 obtain rfl:l77_0=m:=Option.some.inj hm
 unfold l77_0 at h
 split at h
 ·rename_i g0 t4 g1 g2 h0
  obtain ⟨hg,h⟩:=bif_some h
  simp only [Bool.and_eq_true] at hg
  obtain ⟨⟨q0,q1⟩,q2⟩:=hg
  obtain rfl:=nE q0
  obtain rfl:=nE q1
  obtain rfl:=cE q2
  refine ⟨(((h0.length:Int) - t4:Int).toNat+1),?_⟩
  rw [← h]
  exact loop_run E77_0 (K77_0 k) (st77_0 ce k) _ (t4,h0)
 ·cases h
def q77 (a0:List AV):Bool:=((decide ((([]:List AV).length+a0.length)*8≤140737488355328) && decide ((([]:List AV).length+a0.length)≤140737488355328)) && (ro (runW (R77_0) ((((([]:List AV)++a0).length:Int) - 1:Int).toNat+1) (1,([]:List AV)++a0)) false (fun p22=>true)))
def v77_0 (a0:List AV):List AV:=(ro (runW (R77_0) ((((([]:List AV)++a0).length:Int) - 1:Int).toNat+1) (1,([]:List AV)++a0)) [] (fun p22=>p22))
theorem e77 (a0:List AV):funA c77 0 77 [AV.sl [.int .i64] a0]=(bif (decide ((([]:List AV).length+a0.length)*8≤140737488355328) && decide ((([]:List AV).length+a0.length)≤140737488355328)) then (ro (runW (R77_0) ((((([]:List AV)++a0).length:Int) - 1:Int).toNat+1) (1,([]:List AV)++a0)) none (fun p22=>some (AV.fl [.int .i64] p22)))
 else none):=by kernel_rfl
def m77:TModel
 | [.sl g0 a0]=>bif ctsEq g0 ([.int .i64]) then some (q77 a0,AV.fl [.int .i64] (v77_0 a0)) else none
 | _=>none
theorem k77:Known Tryz.prog 77:=⟨Tryz.f77,Tryz.func77,by kernel_rfl,by kernel_rfl⟩
theorem meets77:Meets Tryz.prog 77 m77:=by
 refine mt (lvl:=0) (cf:=c77) rfl mixed k77 Tryz.func77 (by kernel_rfl) (loops_cons ok77_0 (loops_cons ok77_2 noLoop)) allT_nil (allM_cons meets122 allM_nil) noI fun xs r h=>?_
 unfold m77 at h
 split at h
 ·rename_i g0 a0
  obtain ⟨hg,h⟩:=bif_pair h
  have q0:=hg
  obtain rfl:=cE q0
  obtain ⟨h1,rfl⟩:=pair_inj h
  exact (e77 a0).trans ((brL (brO (fun o:Option (((List AV)))=>some (AV.fl [.int .i64] (ro o [] (fun p22=>p22)))) (fun p22=>(fun _=>rfl)))) h1)
 ·cases h
noncomputable def c51:Cfg:=cfg Tryz.prog [(51,999,[2])] [(52,m52)] [] [] []
def q51 (xa xb:Int):Bool:=true
def v51_0 (xa xb:Int):Bool:=(bif (v52_0 xa (-1000) 1000) then (v52_0 xb xa 1000) else false)
theorem e51 (xa xb:Int):funA c51 0 51 [AV.agg [Ai xa,Ai xb]]=(bif (v52_0 xa (-1000) 1000) then some (AV.bool (v52_0 xb xa 1000))
 else some (AV.bool false)):=by kernel_rfl
def m51:TModel
 | [.agg [.int .i64 xa,.int .i64 xb]]=>some (true,AV.bool (v51_0 xa xb))
 | _=>none
theorem k51:Known Tryz.prog 51:=⟨Tryz.f51,Tryz.func51,by kernel_rfl,by kernel_rfl⟩
theorem meets51:Meets Tryz.prog 51 m51:=by
 refine mt (lvl:=0) (cf:=c51) rfl mixed k51 Tryz.func51 (by kernel_rfl) noLoop (allT_cons meets52 allT_nil) allM_nil noI fun xs r h=>?_
 unfold m51 at h
 split at h
 ·rename_i xa xb
  obtain ⟨h1,rfl⟩:=pair_inj h
  exact (e51 xa xb).trans (of_tt (brT (fun b=>some (AV.bool (bif b then (v52_0 xb xa 1000) else false))) (fun _=>rfl) (fun _=>rfl)))
 ·cases h
def G129_0 {β:Type} (t0:List AV) (t3:Int) (N:(Int)→β) (K:(Unit ⊕ Unit)→β) (d:β):β:=(bif decide (t3<(t0.length:Int)) then (bif (decide (0≤t3) && decide (t3<(t0.length:Int))) then (bif !(v51_0 (fI (t0.getD t3.toNat .undef) 0) (fI (t0.getD t3.toNat .undef) 1)) then K (.inr ())
 else N (IntKind.i64.wrap (t3+1)))
 else d)
 else K (.inl ()))
def F129_0 (t0:List AV) (t3:Int):Out (Int) (Unit ⊕ Unit):=G129_0 t0 t3 .next .stop .fail
def R129_0 (t0:List AV):(Int)→Out (Int) (Unit ⊕ Unit):=fun s:Int=>F129_0 t0 s
def E129_0 (t0:List AV):(Int)→St:=fun s:Int=>⟨[(0,AV.sl [.int .i64,.int .i64] t0),(3,Ai s)],[]⟩
def K129_0 (t0:List AV) (k:Kont):(Unit ⊕ Unit)→Option AV:=sumE (fun _:Unit=>k (.exit 0) ⟨[(0,AV.sl [.int .i64,.int .i64] t0)],[]⟩) (fun _:Unit=>k .ret ⟨[(2,AV.bool false)],[]⟩)
def l129_0:LModel:=fun _ _ st k=>match st with
 | ⟨[(0,.sl g0 t0),(3,.int .i64 t3)],[]⟩=>bif ctsEq g0 ([.int .i64,.int .i64]) then ro (runW (R129_0 t0) (((t0.length:Int) - t3:Int).toNat+1) t3) none (K129_0 t0 k) else none
 | _=>none
noncomputable def c129:Cfg:=cfg Tryz.prog [(129,0,[0,3]),(129,999,[2]),(129,1000,[0]),(129,1001,[0,3])] [(51,m51)] [] [] [(129,0,l129_0)]
theorem s129_0 (t0:List AV) (ce:CallE) (k:Kont) (s:Int) (next:St→Option AV):stepA (codeA c129 ce [] 129 0 (sub [1,0,1,0,0] (body Tryz.f129))) (normA [] [0,3]) next ((E129_0 t0) s) k=G129_0 t0 s (fun s=>next ((E129_0 t0) s)) (K129_0 t0 k) none:=by kernel_rfl
theorem st129_0 (t0:List AV) (ce:CallE) (k:Kont) (s:Int) (next:St→Option AV):stepA (codeA c129 ce [] 129 0 (sub [1,0,1,0,0] (body Tryz.f129))) (normA [] [0,3]) next ((E129_0 t0) s) k=(R129_0 t0 s).el none (fun s=>next ((E129_0 t0) s)) (K129_0 t0 k):=(s129_0 t0 ce k s next).trans (by unfold R129_0;unfold F129_0 G129_0;simp only [el_cond,el_ro,el_sum,el_fail,el_next,el_stop] <;> rfl)
theorem ok129_0 {ce:CallE}:LoopOK c129 ce [] 129 0 (sub [1,0,1,0,0] (body Tryz.f129)):=by
 intro m hm st k r h
 obtain rfl:l129_0=m:=Option.some.inj hm
 unfold l129_0 at h
 split at h
 ·rename_i g0 t0 t3
  obtain ⟨hg,h⟩:=bif_some h
  have q0:=hg
  obtain rfl:=cE q0
  refine ⟨(((t0.length:Int) - t3:Int).toNat+1),?_⟩
  rw [← h]
  exact loop_run (E129_0 t0) (K129_0 t0 k) (st129_0 t0 ce k) _ t3
 ·cases h
def q129 (a0:List AV):Bool:=(ro (runW (R129_0 a0) (((a0.length:Int) - 0:Int).toNat+1) 0) false (sumE (fun _=>true) (fun _=>true)))
def v129_0 (a0:List AV):Bool:=(ro (runW (R129_0 a0) (((a0.length:Int) - 0:Int).toNat+1) 0) false (sumE (fun _=>decide ((a0.length:Int)≤30)) (fun _=>false)))
theorem e129 (a0:List AV):funA c129 0 129 [AV.sl [.int .i64,.int .i64] a0]=(ro (runW (R129_0 a0) (((a0.length:Int) - 0:Int).toNat+1) 0) none (sumE (fun _=>some (AV.bool (decide ((a0.length:Int)≤30)))) (fun _=>some (AV.bool false)))):=by kernel_rfl
def m129:TModel
 | [.sl g0 a0]=>bif ctsEq g0 ([.int .i64,.int .i64]) then some (q129 a0,AV.bool (v129_0 a0)) else none
 | _=>none
theorem k129:Known Tryz.prog 129:=⟨Tryz.f129,Tryz.func129,by kernel_rfl,by kernel_rfl⟩
theorem meets129:Meets Tryz.prog 129 m129:=by
 refine mt (lvl:=0) (cf:=c129) rfl mixed k129 Tryz.func129 (by kernel_rfl) (loops_cons ok129_0 noLoop) (allT_cons meets51 allT_nil) allM_nil noI fun xs r h=>?_
 unfold m129 at h
 split at h
 ·rename_i g0 a0
  obtain ⟨hg,h⟩:=bif_pair h
  have q0:=hg
  obtain rfl:=cE q0
  obtain ⟨h1,rfl⟩:=pair_inj h
  exact (e129 a0).trans ((brO (fun o:Option (Unit ⊕ Unit)=>some (AV.bool (ro o false (sumE (fun _=>decide ((a0.length:Int)≤30)) (fun _=>false))))) (brS (fun o:Unit ⊕ Unit=>some (AV.bool ((sumE (fun _=>decide ((a0.length:Int)≤30)) (fun _=>false)) o))) (fun _=>(fun _=>rfl)) (fun _=>(fun _=>rfl)))) h1)
 ·cases h
noncomputable def c84:Cfg:=cfg Tryz.prog [(84,999,[4])] [(116,m116),(129,m129)] [] [] []
def q84 (a0 a1:List AV):Bool:=(q116 a0 && (bif (v116_0 a0) then q129 a1 else true))
def v84_0 (a0 a1:List AV):Bool:=(bif (v116_0 a0) then (v129_0 a1) else false)
theorem e84 (a0 a1:List AV):funA c84 0 84 [AV.sl [.int .i64] a0,AV.sl [.int .i64,.int .i64] a1]=(bif q116 a0 then (bif (v116_0 a0) then (bif q129 a1 then some (AV.bool (v129_0 a1))
 else none)
 else some (AV.bool false))
 else none):=by kernel_rfl
def m84:TModel
 | [.sl g0 a0,.sl g1 a1]=>bif ctsEq g0 ([.int .i64]) && ctsEq g1 ([.int .i64,.int .i64]) then some (q84 a0 a1,AV.bool (v84_0 a0 a1)) else none
 | _=>none
theorem k84:Known Tryz.prog 84:=⟨Tryz.f84,Tryz.func84,by kernel_rfl,by kernel_rfl⟩
theorem meets84:Meets Tryz.prog 84 m84:=by
 refine mt (lvl:=0) (cf:=c84) rfl mixed k84 Tryz.func84 (by kernel_rfl) noLoop (allT_cons meets116 (allT_cons meets129 allT_nil)) allM_nil noI fun xs r h=>?_
 unfold m84 at h
 split at h
 ·rename_i g0 a0 g1 a1
  obtain ⟨hg,h⟩:=bif_pair h
  simp only [Bool.and_eq_true] at hg
  obtain ⟨q0,q1⟩:=hg
  obtain rfl:=cE q0
  obtain rfl:=cE q1
  obtain ⟨h1,rfl⟩:=pair_inj h
  exact (e84 a0 a1).trans ((brL (br (fun b=>some (AV.bool (bif b then (v129_0 a1) else false))) (brL1 (fun _=>rfl)) (fun _=>rfl))) h1)
 ·cases h
noncomputable def c34:Cfg:=cfg Tryz.prog [(34,999,[4])] [(51,m51),(52,m52)] [] [] []
def q34 (xa xb a1:Int):Bool:=true
def v34_0 (xa xb a1:Int):Bool:=(bif (v51_0 xa xb) then (v52_0 a1 xa (IntKind.i64.wrap (xb - 1))) else false)
theorem e34 (xa xb a1:Int):funA c34 0 34 [AV.agg [Ai xa,Ai xb],Ai a1]=(bif (v51_0 xa xb) then some (AV.bool (v52_0 a1 xa (IntKind.i64.wrap (xb - 1))))
 else some (AV.bool false)):=by kernel_rfl
def m34:TModel
 | [.agg [.int .i64 xa,.int .i64 xb],.int .i64 a1]=>some (true,AV.bool (v34_0 xa xb a1))
 | _=>none
theorem k34:Known Tryz.prog 34:=⟨Tryz.f34,Tryz.func34,by kernel_rfl,by kernel_rfl⟩
theorem meets34:Meets Tryz.prog 34 m34:=by
 refine mt (lvl:=0) (cf:=c34) rfl mixed k34 Tryz.func34 (by kernel_rfl) noLoop (allT_cons meets51 (allT_cons meets52 allT_nil)) allM_nil noI fun xs r h=>?_
 unfold m34 at h
 split at h
 ·rename_i xa xb a1
  obtain ⟨h1,rfl⟩:=pair_inj h
  exact (e34 xa xb a1).trans (of_tt (brT (fun b=>some (AV.bool (bif b then (v52_0 a1 xa (IntKind.i64.wrap (xb - 1))) else false))) (fun _=>rfl) (fun _=>rfl)))
 ·cases h
def G85_0 {β:Type} (t0:List AV) (t1:Int) (t6:Int) (h0:List AV) (N:((Int × (List AV)))→β) (K:(((List AV)))→β) (d:β):β:=(bif decide (t6<(t0.length:Int)) then (bif q129 t0 then (bif (v129_0 t0) then (bif (decide (0≤t6) && decide (t6<(t0.length:Int))) then (bif (v34_0 (fI (t0.getD t6.toNat .undef) 0) (fI (t0.getD t6.toNat .undef) 1) t1) then (bif (decide ((h0.length+([AV.int .i64 t6]).length)*8≤140737488355328) && decide ((h0.length+([AV.int .i64 t6]).length)≤140737488355328)) then N (IntKind.i64.wrap (t6+1),h0++([AV.int .i64 t6]))
 else d)
 else N (IntKind.i64.wrap (t6+1),h0))
 else d)
 else K h0)
 else d)
 else K h0)
def F85_0 (t0:List AV) (t1 t6:Int) (h0:List AV):Out ((Int × (List AV))) (((List AV))):=G85_0 t0 t1 t6 h0 .next .stop .fail
def R85_0 (t0:List AV) (t1:Int):((Int × (List AV)))→Out ((Int × (List AV))) (((List AV))):=fun s:Int × (List AV)=>F85_0 t0 t1 s.1 s.2
def E85_0 (t0:List AV) (t1:Int):((Int × (List AV)))→St:=fun s:Int × (List AV)=>⟨[(0,AV.sl [.int .i64,.int .i64] t0),(1,Ai t1),(5,AV.own [0,5]),(6,Ai s.1)],[([0,5],⟨false,[.int .i64],s.2⟩)]⟩
def K85_0 (t0:List AV) (t1:Int) (k:Kont):(((List AV)))→Option AV:=fun p:(List AV)=>k (.exit 0) ⟨[(5,AV.own [0,5])],[([0,5],⟨false,[.int .i64],p⟩)]⟩
def l85_0:LModel:=fun _ _ st k=>match st with
 | ⟨[(0,.sl g0 t0),(1,.int .i64 t1),(5,.own g1),(6,.int .i64 t6)],[(g2,⟨false,g3,h0⟩)]⟩=>bif ctsEq g0 ([.int .i64,.int .i64]) && nmEq g1 ([0,5]) && nmEq g2 ([0,5]) && ctsEq g3 ([.int .i64]) then ro (runW (R85_0 t0 t1) (((t0.length:Int) - t6:Int).toNat+1) (t6,h0)) none (K85_0 t0 t1 k) else none
 | _=>none
noncomputable def c85:Cfg:=cfg Tryz.prog [(85,0,[0,1,5,6]),(85,999,[4]),(85,1000,[5]),(85,1001,[0,1,5,6])] [(34,m34),(129,m129)] [] [] [(85,0,l85_0)]
theorem s85_0 (t0:List AV) (t1:Int) (ce:CallE) (k:Kont) (s:Int × (List AV)) (next:St→Option AV):stepA (codeA c85 ce [] 85 0 (sub [1,1,0,1,0,0] (body Tryz.f85))) (normA [] [0,1,5,6]) next ((E85_0 t0 t1) s) k=G85_0 t0 t1 s.1 s.2 (fun s=>next ((E85_0 t0 t1) s)) (K85_0 t0 t1 k) none:=by kernel_rfl
theorem st85_0 (t0:List AV) (t1:Int) (ce:CallE) (k:Kont) (s:(Int × (List AV))) (next:St→Option AV):stepA (codeA c85 ce [] 85 0 (sub [1,1,0,1,0,0] (body Tryz.f85))) (normA [] [0,1,5,6]) next ((E85_0 t0 t1) s) k=(R85_0 t0 t1 s).el none (fun s=>next ((E85_0 t0 t1) s)) (K85_0 t0 t1 k):=(s85_0 t0 t1 ce k s next).trans (by unfold R85_0;unfold F85_0 G85_0;simp only [el_cond,el_ro,el_sum,el_fail,el_next,el_stop] <;> rfl)
theorem ok85_0 {ce:CallE}:LoopOK c85 ce [] 85 0 (sub [1,1,0,1,0,0] (body Tryz.f85)):=by
 intro m hm st k r h
 obtain rfl:l85_0=m:=Option.some.inj hm
 unfold l85_0 at h
 split at h
 ·rename_i g0 t0 t1 g1 t6 g2 g3 h0
  obtain ⟨hg,h⟩:=bif_some h
  simp only [Bool.and_eq_true] at hg
  obtain ⟨⟨⟨q0,q1⟩,q2⟩,q3⟩:=hg
  obtain rfl:=cE q0
  obtain rfl:=nE q1
  obtain rfl:=nE q2
  obtain rfl:=cE q3
  refine ⟨(((t0.length:Int) - t6:Int).toNat+1),?_⟩
  rw [← h]
  exact loop_run (E85_0 t0 t1) (K85_0 t0 t1 k) (st85_0 t0 t1 ce k) _ (t6,h0)
 ·cases h
def q85 (a0:List AV) (a1:Int):Bool:=(ro (runW (R85_0 a0 a1) (((a0.length:Int) - 0:Int).toNat+1) (0,([]:List AV))) false (fun p25=>true))
def v85_0 (a0:List AV) (a1:Int):List AV:=(ro (runW (R85_0 a0 a1) (((a0.length:Int) - 0:Int).toNat+1) (0,([]:List AV))) [] (fun p25=>p25))
theorem e85 (a0:List AV) (a1:Int):funA c85 0 85 [AV.sl [.int .i64,.int .i64] a0,Ai a1]=(ro (runW (R85_0 a0 a1) (((a0.length:Int) - 0:Int).toNat+1) (0,([]:List AV))) none (fun p25=>some (AV.fl [.int .i64] p25))):=by kernel_rfl
def m85:TModel
 | [.sl g0 a0,.int .i64 a1]=>bif ctsEq g0 ([.int .i64,.int .i64]) then some (q85 a0 a1,AV.fl [.int .i64] (v85_0 a0 a1)) else none
 | _=>none
theorem k85:Known Tryz.prog 85:=⟨Tryz.f85,Tryz.func85,by kernel_rfl,by kernel_rfl⟩
theorem meets85:Meets Tryz.prog 85 m85:=by
 refine mt (lvl:=0) (cf:=c85) rfl mixed k85 Tryz.func85 (by kernel_rfl) (loops_cons ok85_0 noLoop) (allT_cons meets34 (allT_cons meets129 allT_nil)) allM_nil noI fun xs r h=>?_
 unfold m85 at h
 split at h
 ·rename_i g0 a0 a1
  obtain ⟨hg,h⟩:=bif_pair h
  have q0:=hg
  obtain rfl:=cE q0
  obtain ⟨h1,rfl⟩:=pair_inj h
  exact (e85 a0 a1).trans ((brO (fun o:Option (((List AV)))=>some (AV.fl [.int .i64] (ro o [] (fun p25=>p25)))) (fun p25=>(fun _=>rfl))) h1)
 ·cases h
def G30_2 {β:Type} (t1:List AV) (t7:Int) (t8:Int) (h0_0:Int) (h0_1:Int) (h1:List AV) (t11:Int) (N:(Int)→β) (K:((Int × (List AV)) ⊕ Int)→β) (d:β):β:=(bif decide (IntKind.i64.wrap (t11+1)<(h1.length:Int)) then (bif (decide (0≤IntKind.i64.wrap (t11+1)) && decide (IntKind.i64.wrap (t11+1)<(h1.length:Int))) then (bif q85 t1 (fI (h1.getD (IntKind.i64.wrap (t11+1)).toNat .undef) 0) then (bif decide (((v85_0 t1 (fI (h1.getD (IntKind.i64.wrap (t11+1)).toNat .undef) 0)).length:Int)=t8) then N (IntKind.i64.wrap (t11+1))
 else K (.inl (t11,(v85_0 t1 (fI (h1.getD (IntKind.i64.wrap (t11+1)).toNat .undef) 0)))))
 else d)
 else d)
 else K (.inr t11))
def F30_2 (t1:List AV) (t7 t8 h0_0 h0_1:Int) (h1:List AV) (t11:Int):Out (Int) ((Int × (List AV)) ⊕ Int):=G30_2 t1 t7 t8 h0_0 h0_1 h1 t11 .next .stop .fail
def R30_2 (t1:List AV) (t7 t8 h0_0 h0_1:Int) (h1:List AV):(Int)→Out (Int) ((Int × (List AV)) ⊕ Int):=fun s:Int=>F30_2 t1 t7 t8 h0_0 h0_1 h1 s
def E30_2 (t1:List AV) (t7 t8 h0_0 h0_1:Int) (h1:List AV):(Int)→St:=fun s:Int=>⟨[(1,AV.sl [.int .i64,.int .i64] t1),(4,AV.ptr [0,4] 0 0),(6,AV.own [0,6]),(7,Ai t7),(8,Ai t8),(11,Ai s)],[([0,4],⟨true,[],[AV.agg [Ai h0_0,Ai h0_1]]⟩),([0,6],⟨false,[.int .i64],h1⟩)]⟩
def K30_2 (t1:List AV) (t7 t8 h0_0 h0_1:Int) (h1:List AV) (k:Kont):((Int × (List AV)) ⊕ Int)→Option AV:=sumE (fun p:Int × (List AV)=>k (.exit 2) ⟨[(4,AV.ptr [0,4] 0 0),(6,AV.own [0,6]),(7,Ai t7),(8,Ai t8),(11,Ai p.1)],[([0,4],⟨true,[],[AV.agg [Ai h0_0,Ai h0_1]]⟩),([0,6],⟨false,[.int .i64],h1⟩),([1,55],⟨false,[.int .i64],p.2⟩)]⟩) (fun p:Int=>k (.exit 2) ⟨[(4,AV.ptr [0,4] 0 0),(6,AV.own [0,6]),(7,Ai t7),(8,Ai t8),(11,Ai p)],[([0,4],⟨true,[],[AV.agg [Ai h0_0,Ai h0_1]]⟩),([0,6],⟨false,[.int .i64],h1⟩)]⟩)
def l30_2:LModel:=fun _ _ st k=>match st with
 | ⟨[(1,.sl g0 t1),(4,.ptr g1 g2 g3),(6,.own g4),(7,.int .i64 t7),(8,.int .i64 t8),(11,.int .i64 t11)],[(g5,⟨true,[],[.agg [.int .i64 h0_0,.int .i64 h0_1]]⟩),(g6,⟨false,g7,h1⟩)]⟩=>bif ctsEq g0 ([.int .i64,.int .i64]) && nmEq g1 ([0,4]) && Nat.beq g2 0 && Nat.beq g3 0 && nmEq g4 ([0,6]) && nmEq g5 ([0,4]) && nmEq g6 ([0,6]) && ctsEq g7 ([.int .i64]) then ro (runW (R30_2 t1 t7 t8 h0_0 h0_1 h1) (((h1.length:Int) - (IntKind.i64.wrap (t11+1)):Int).toNat+1) t11) none (K30_2 t1 t7 t8 h0_0 h0_1 h1 k) else none
 | _=>none
def G30_0 {β:Type} (t1:List AV) (h0_0:Int) (h0_1:Int) (h1:List AV) (t7:Int) (t8:Int) (t9:Int) (N:((Int × Int × Int))→β) (K:((Int × Int))→β) (d:β):β:=(bif decide (t9<(h1.length:Int)) then (bif (decide (0≤t9) && decide (t9<(h1.length:Int))) then (bif q85 t1 (fI (h1.getD t9.toNat .undef) 0) then (bif decide (((v85_0 t1 (fI (h1.getD t9.toNat .undef) 0)).length:Int) > t8) then N (t9,((v85_0 t1 (fI (h1.getD t9.toNat .undef) 0)).length:Int),IntKind.i64.wrap (t9+1))
 else N (t7,t8,IntKind.i64.wrap (t9+1)))
 else d)
 else d)
 else K (t7,t8))
def F30_0 (t1:List AV) (h0_0 h0_1:Int) (h1:List AV) (t7 t8 t9:Int):Out ((Int × Int × Int)) ((Int × Int)):=G30_0 t1 h0_0 h0_1 h1 t7 t8 t9 .next .stop .fail
def R30_0 (t1:List AV) (h0_0 h0_1:Int) (h1:List AV):((Int × Int × Int))→Out ((Int × Int × Int)) ((Int × Int)):=fun s:Int × Int × Int=>F30_0 t1 h0_0 h0_1 h1 s.1 s.2.1 s.2.2
def E30_0 (t1:List AV) (h0_0 h0_1:Int) (h1:List AV):((Int × Int × Int))→St:=fun s:Int × Int × Int=>⟨[(1,AV.sl [.int .i64,.int .i64] t1),(4,AV.ptr [0,4] 0 0),(6,AV.own [0,6]),(7,Ai s.1),(8,Ai s.2.1),(9,Ai s.2.2)],[([0,4],⟨true,[],[AV.agg [Ai h0_0,Ai h0_1]]⟩),([0,6],⟨false,[.int .i64],h1⟩)]⟩
def K30_0 (t1:List AV) (h0_0 h0_1:Int) (h1:List AV) (k:Kont):((Int × Int))→Option AV:=fun p:Int × Int=>k (.exit 0) ⟨[(1,AV.sl [.int .i64,.int .i64] t1),(4,AV.ptr [0,4] 0 0),(6,AV.own [0,6]),(7,Ai p.1),(8,Ai p.2)],[([0,4],⟨true,[],[AV.agg [Ai h0_0,Ai h0_1]]⟩),([0,6],⟨false,[.int .i64],h1⟩)]⟩
def l30_0:LModel:=fun _ _ st k=>match st with
 | ⟨[(1,.sl g0 t1),(4,.ptr g1 g2 g3),(6,.own g4),(7,.int .i64 t7),(8,.int .i64 t8),(9,.int .i64 t9)],[(g5,⟨true,[],[.agg [.int .i64 h0_0,.int .i64 h0_1]]⟩),(g6,⟨false,g7,h1⟩)]⟩=>bif ctsEq g0 ([.int .i64,.int .i64]) && nmEq g1 ([0,4]) && Nat.beq g2 0 && Nat.beq g3 0 && nmEq g4 ([0,6]) && nmEq g5 ([0,4]) && nmEq g6 ([0,6]) && ctsEq g7 ([.int .i64]) then ro (runW (R30_0 t1 h0_0 h0_1 h1) (((h1.length:Int) - t9:Int).toNat+1) (t7,t8,t9)) none (K30_0 t1 h0_0 h0_1 h1 k) else none
 | _=>none
noncomputable def c30:Cfg:=cfg Tryz.prog [(30,0,[1,4,6,7,8,9]),(30,2,[1,4,6,7,8,11]),(30,999,[4,5]),(30,1000,[1,4,6,7,8]),(30,1001,[1,4,6,7,8,9]),(30,1002,[4,6,7,8,11]),(30,1003,[1,4,6,7,8,11])] [(77,m77),(84,m84),(85,m85)] [] [] [(30,0,l30_0),(30,2,l30_2)]
theorem s30_2 (t1:List AV) (t7 t8 h0_0 h0_1:Int) (h1:List AV) (ce:CallE) (k:Kont) (s:Int) (next:St→Option AV):stepA (codeA c30 ce [] 30 2 (sub [1,1,1,1,1,1,1,0,0,0] (body Tryz.f30))) (normA [] [1,4,6,7,8,11]) next ((E30_2 t1 t7 t8 h0_0 h0_1 h1) s) k=G30_2 t1 t7 t8 h0_0 h0_1 h1 s (fun s=>next ((E30_2 t1 t7 t8 h0_0 h0_1 h1) s)) (K30_2 t1 t7 t8 h0_0 h0_1 h1 k) none:=by kernel_rfl
theorem st30_2 (t1:List AV) (t7 t8 h0_0 h0_1:Int) (h1:List AV) (ce:CallE) (k:Kont) (s:Int) (next:St→Option AV):stepA (codeA c30 ce [] 30 2 (sub [1,1,1,1,1,1,1,0,0,0] (body Tryz.f30))) (normA [] [1,4,6,7,8,11]) next ((E30_2 t1 t7 t8 h0_0 h0_1 h1) s) k=(R30_2 t1 t7 t8 h0_0 h0_1 h1 s).el none (fun s=>next ((E30_2 t1 t7 t8 h0_0 h0_1 h1) s)) (K30_2 t1 t7 t8 h0_0 h0_1 h1 k):=(s30_2 t1 t7 t8 h0_0 h0_1 h1 ce k s next).trans (by unfold R30_2;unfold F30_2 G30_2;simp only [el_cond,el_ro,el_sum,el_fail,el_next,el_stop] <;> rfl)
theorem ok30_2 {ce:CallE}:LoopOK c30 ce [] 30 2 (sub [1,1,1,1,1,1,1,0,0,0] (body Tryz.f30)):=by
 intro m hm st k r h
 obtain rfl:l30_2=m:=Option.some.inj hm
 unfold l30_2 at h
 split at h
 ·rename_i g0 t1 g1 g2 g3 g4 t7 t8 t11 g5 h0_0 h0_1 g6 g7 h1
  obtain ⟨hg,h⟩:=bif_some h
  simp only [Bool.and_eq_true] at hg
  obtain ⟨⟨⟨⟨⟨⟨⟨q0,q1⟩,q2⟩,q3⟩,q4⟩,q5⟩,q6⟩,q7⟩:=hg
  obtain rfl:=cE q0
  obtain rfl:=nE q1
  obtain rfl:=bE q2
  obtain rfl:=bE q3
  obtain rfl:=nE q4
  obtain rfl:=nE q5
  obtain rfl:=nE q6
  obtain rfl:=cE q7
  refine ⟨(((h1.length:Int) - (IntKind.i64.wrap (t11+1)):Int).toNat+1),?_⟩
  rw [← h]
  exact loop_run (E30_2 t1 t7 t8 h0_0 h0_1 h1) (K30_2 t1 t7 t8 h0_0 h0_1 h1 k) (st30_2 t1 t7 t8 h0_0 h0_1 h1 ce k) _ t11
 ·cases h
theorem s30_0 (t1:List AV) (h0_0 h0_1:Int) (h1:List AV) (ce:CallE) (k:Kont) (s:Int × Int × Int) (next:St→Option AV):stepA (codeA c30 ce [] 30 0 (sub [1,1,1,1,1,0,1,0,0] (body Tryz.f30))) (normA [] [1,4,6,7,8,9]) next ((E30_0 t1 h0_0 h0_1 h1) s) k=G30_0 t1 h0_0 h0_1 h1 s.1 s.2.1 s.2.2 (fun s=>next ((E30_0 t1 h0_0 h0_1 h1) s)) (K30_0 t1 h0_0 h0_1 h1 k) none:=by kernel_rfl
theorem st30_0 (t1:List AV) (h0_0 h0_1:Int) (h1:List AV) (ce:CallE) (k:Kont) (s:(Int × Int × Int)) (next:St→Option AV):stepA (codeA c30 ce [] 30 0 (sub [1,1,1,1,1,0,1,0,0] (body Tryz.f30))) (normA [] [1,4,6,7,8,9]) next ((E30_0 t1 h0_0 h0_1 h1) s) k=(R30_0 t1 h0_0 h0_1 h1 s).el none (fun s=>next ((E30_0 t1 h0_0 h0_1 h1) s)) (K30_0 t1 h0_0 h0_1 h1 k):=(s30_0 t1 h0_0 h0_1 h1 ce k s next).trans (by unfold R30_0;unfold F30_0 G30_0;simp only [el_cond,el_ro,el_sum,el_fail,el_next,el_stop] <;> rfl)
theorem ok30_0 {ce:CallE}:LoopOK c30 ce [] 30 0 (sub [1,1,1,1,1,0,1,0,0] (body Tryz.f30)):=by
 intro m hm st k r h
 obtain rfl:l30_0=m:=Option.some.inj hm
 unfold l30_0 at h
 split at h
 ·rename_i g0 t1 g1 g2 g3 g4 t7 t8 t9 g5 h0_0 h0_1 g6 g7 h1
  obtain ⟨hg,h⟩:=bif_some h
  simp only [Bool.and_eq_true] at hg
  obtain ⟨⟨⟨⟨⟨⟨⟨q0,q1⟩,q2⟩,q3⟩,q4⟩,q5⟩,q6⟩,q7⟩:=hg
  obtain rfl:=cE q0
  obtain rfl:=nE q1
  obtain rfl:=bE q2
  obtain rfl:=bE q3
  obtain rfl:=nE q4
  obtain rfl:=nE q5
  obtain rfl:=nE q6
  obtain rfl:=cE q7
  refine ⟨(((h1.length:Int) - t9:Int).toNat+1),?_⟩
  rw [← h]
  exact loop_run (E30_0 t1 h0_0 h0_1 h1) (K30_0 t1 h0_0 h0_1 h1 k) (st30_0 t1 h0_0 h0_1 h1 ce k) _ (t7,t8,t9)
 ·cases h
def q30 (a0 a1:List AV):Bool:=(q77 a0 && (q84 a0 a1 && (bif !(v84_0 a0 a1) then true else (bif decide ((a0.length:Int)=0) then true else (ro (runW (R30_0 a1 0 0 (v77_0 a0)) ((((v77_0 a0).length:Int) - 0:Int).toNat+1) (0,(-1),0)) false (fun p26=>(ro (runW (R30_2 a1 p26.1 p26.2 0 0 (v77_0 a0)) ((((v77_0 a0).length:Int) - (IntKind.i64.wrap (p26.1+1)):Int).toNat+1) p26.1) false (sumE (fun p27=>((decide (0≤p26.1) && decide (p26.1<((v77_0 a0).length:Int))) && (decide (0≤p27.1) && decide (p27.1<((v77_0 a0).length:Int))))) (fun p28=>((decide (0≤p26.1) && decide (p26.1<((v77_0 a0).length:Int))) && (decide (0≤p28) && decide (p28<((v77_0 a0).length:Int)))))))))))))
def v30_0 (a0 a1:List AV):Int:=(bif !(v84_0 a0 a1) then 0 else (bif decide ((a0.length:Int)=0) then 0 else (ro (runW (R30_0 a1 0 0 (v77_0 a0)) ((((v77_0 a0).length:Int) - 0:Int).toNat+1) (0,(-1),0)) 0 (fun p26=>fI ((v77_0 a0).getD p26.1.toNat .undef) 0))))
def v30_1 (a0 a1:List AV):Int:=(bif !(v84_0 a0 a1) then 0 else (bif decide ((a0.length:Int)=0) then 0 else (ro (runW (R30_0 a1 0 0 (v77_0 a0)) ((((v77_0 a0).length:Int) - 0:Int).toNat+1) (0,(-1),0)) 0 (fun p26=>(ro (runW (R30_2 a1 p26.1 p26.2 0 0 (v77_0 a0)) ((((v77_0 a0).length:Int) - (IntKind.i64.wrap (p26.1+1)):Int).toNat+1) p26.1) 0 (sumE (fun p27=>IntKind.i64.wrap (fI ((v77_0 a0).getD p27.1.toNat .undef) 0+1)) (fun p28=>IntKind.i64.wrap (fI ((v77_0 a0).getD p28.toNat .undef) 0+1))))))))
def v30_2 (a0 a1:List AV):Int:=(bif !(v84_0 a0 a1) then 0 else (bif decide ((a0.length:Int)=0) then 0 else (ro (runW (R30_0 a1 0 0 (v77_0 a0)) ((((v77_0 a0).length:Int) - 0:Int).toNat+1) (0,(-1),0)) 0 (fun p26=>p26.2))))
theorem e30 (a0 a1:List AV):funA c30 0 30 [AV.sl [.int .i64] a0,AV.sl [.int .i64,.int .i64] a1]=(bif q77 a0 then (bif q84 a0 a1 then (bif !(v84_0 a0 a1) then some (AV.tup [AV.agg [Ai 0,Ai 0],Ai 0])
 else (bif decide ((a0.length:Int)=0) then some (AV.tup [AV.agg [Ai 0,Ai 0],Ai 0])
 else (ro (runW (R30_0 a1 0 0 (v77_0 a0)) ((((v77_0 a0).length:Int) - 0:Int).toNat+1) (0,(-1),0)) none (fun p26=>(ro (runW (R30_2 a1 p26.1 p26.2 0 0 (v77_0 a0)) ((((v77_0 a0).length:Int) - (IntKind.i64.wrap (p26.1+1)):Int).toNat+1) p26.1) none (sumE (fun p27=>(bif (decide (0≤p26.1) && decide (p26.1<((v77_0 a0).length:Int))) then (bif (decide (0≤p27.1) && decide (p27.1<((v77_0 a0).length:Int))) then some (AV.tup [AV.agg [Ai (fI ((v77_0 a0).getD p26.1.toNat .undef) 0),Ai (IntKind.i64.wrap (fI ((v77_0 a0).getD p27.1.toNat .undef) 0+1))],Ai p26.2])
 else none)
 else none)) (fun p28=>(bif (decide (0≤p26.1) && decide (p26.1<((v77_0 a0).length:Int))) then (bif (decide (0≤p28) && decide (p28<((v77_0 a0).length:Int))) then some (AV.tup [AV.agg [Ai (fI ((v77_0 a0).getD p26.1.toNat .undef) 0),Ai (IntKind.i64.wrap (fI ((v77_0 a0).getD p28.toNat .undef) 0+1))],Ai p26.2])
 else none)
 else none))))))))
 else none)
 else none):=by kernel_rfl
theorem r30 (a0 a1:List AV) (h:q30 a0 a1=true):funA c30 0 30 [AV.sl [.int .i64] a0,AV.sl [.int .i64,.int .i64] a1]=some (AV.tup [AV.agg [AV.int .i64 (v30_0 a0 a1),AV.int .i64 (v30_1 a0 a1)],AV.int .i64 (v30_2 a0 a1)]):=by
 refine (e30 a0 a1).trans ?_
 unfold q30 at h
 unfold v30_0 v30_1 v30_2
 refine ifG (fun hc=>?_) (fun hc=>?_) <;> first|rw [hc] at h ⊢|rw [hc] at h|rw [hc]|skip
 ·refine ifG (fun hc=>?_) (fun hc=>?_) <;> first|rw [hc] at h ⊢|rw [hc] at h|rw [hc]|skip
  ·refine ifG (fun hc=>?_) (fun hc=>?_) <;> first|rw [hc] at h ⊢|rw [hc] at h|rw [hc]|skip
   ·rfl
   ·refine ifG (fun hc=>?_) (fun hc=>?_) <;> first|rw [hc] at h ⊢|rw [hc] at h|rw [hc]|skip
    ·rfl
    ·refine roG (fun hc=>?_) (fun r hc=>?_) <;> first|rw [hc] at h ⊢|rw [hc] at h|rw [hc]|skip
     ·exact Bool.noConfusion h
     ·try simp only [ro] at h ⊢
      refine roG (fun hc=>?_) (fun r hc=>?_) <;> first|rw [hc] at h ⊢|rw [hc] at h|rw [hc]|skip
      ·exact Bool.noConfusion h
      ·try simp only [ro] at h ⊢
       cases r with
       | inl p27 =>
        try simp only [sumE] at h ⊢
        refine ifG (fun hc=>?_) (fun hc=>?_) <;> first|rw [hc] at h ⊢|rw [hc] at h|rw [hc]|skip
        ·refine ifG (fun hc=>?_) (fun hc=>?_) <;> first|rw [hc] at h ⊢|rw [hc] at h|rw [hc]|skip
         ·rfl
         ·first|exact Bool.noConfusion h|exact Bool.noConfusion hc
        ·first|exact Bool.noConfusion h|exact Bool.noConfusion hc
       | inr p28 =>
        try simp only [sumE] at h ⊢
        refine ifG (fun hc=>?_) (fun hc=>?_) <;> first|rw [hc] at h ⊢|rw [hc] at h|rw [hc]|skip
        ·refine ifG (fun hc=>?_) (fun hc=>?_) <;> first|rw [hc] at h ⊢|rw [hc] at h|rw [hc]|skip
         ·rfl
         ·first|exact Bool.noConfusion h|exact Bool.noConfusion hc
        ·first|exact Bool.noConfusion h|exact Bool.noConfusion hc
  ·first|exact Bool.noConfusion h|exact Bool.noConfusion hc
 ·first|exact Bool.noConfusion h|exact Bool.noConfusion hc
def m30:TModel
 | [.sl g0 a0,.sl g1 a1]=>bif ctsEq g0 ([.int .i64]) && ctsEq g1 ([.int .i64,.int .i64]) then some (q30 a0 a1,AV.tup [AV.agg [AV.int .i64 (v30_0 a0 a1),AV.int .i64 (v30_1 a0 a1)],AV.int .i64 (v30_2 a0 a1)]) else none
 | _=>none
theorem k30:Known Tryz.prog 30:=⟨Tryz.f30,Tryz.func30,by kernel_rfl,by kernel_rfl⟩
theorem meets30:Meets Tryz.prog 30 m30:=by
 refine mt (lvl:=0) (cf:=c30) rfl mixed k30 Tryz.func30 (by kernel_rfl) (loops_cons ok30_0 (loops_cons ok30_2 noLoop)) (allT_cons meets77 (allT_cons meets84 (allT_cons meets85 allT_nil))) allM_nil noI fun xs r h=>?_
 unfold m30 at h
 split at h
 ·rename_i g0 a0 g1 a1
  obtain ⟨hg,h⟩:=bif_pair h
  simp only [Bool.and_eq_true] at hg
  obtain ⟨q0,q1⟩:=hg
  obtain rfl:=cE q0
  obtain rfl:=cE q1
  obtain ⟨h1,rfl⟩:=pair_inj h
  exact r30 a0 a1 h1
 ·cases h
def G31_0 {β:Type} (t0:List AV) (t1:List AV) (t6:Int) (h0:List AV) (N:((Int × (List AV)))→β) (K:(((List AV)))→β) (d:β):β:=(bif decide (t6<(t0.length:Int)) then (bif q84 t0 t1 then (bif (v84_0 t0 t1) then (bif (decide (0≤t6) && decide (t6<(t0.length:Int))) then (bif q85 t1 (fI (t0.getD t6.toNat .undef) 0) then (bif (decide ((h0.length+([AV.int .i64 ((v85_0 t1 (fI (t0.getD t6.toNat .undef) 0)).length:Int)]).length)*8≤140737488355328) && decide ((h0.length+([AV.int .i64 ((v85_0 t1 (fI (t0.getD t6.toNat .undef) 0)).length:Int)]).length)≤140737488355328)) then N (IntKind.i64.wrap (t6+1),h0++([AV.int .i64 ((v85_0 t1 (fI (t0.getD t6.toNat .undef) 0)).length:Int)]))
 else d)
 else d)
 else d)
 else K h0)
 else d)
 else K h0)
def F31_0 (t0 t1:List AV) (t6:Int) (h0:List AV):Out ((Int × (List AV))) (((List AV))):=G31_0 t0 t1 t6 h0 .next .stop .fail
def R31_0 (t0 t1:List AV):((Int × (List AV)))→Out ((Int × (List AV))) (((List AV))):=fun s:Int × (List AV)=>F31_0 t0 t1 s.1 s.2
def E31_0 (t0 t1:List AV):((Int × (List AV)))→St:=fun s:Int × (List AV)=>⟨[(0,AV.sl [.int .i64] t0),(1,AV.sl [.int .i64,.int .i64] t1),(5,AV.own [0,5]),(6,Ai s.1)],[([0,5],⟨false,[.int .i64],s.2⟩)]⟩
def K31_0 (t0 t1:List AV) (k:Kont):(((List AV)))→Option AV:=fun p:(List AV)=>k (.exit 0) ⟨[(5,AV.own [0,5])],[([0,5],⟨false,[.int .i64],p⟩)]⟩
def l31_0:LModel:=fun _ _ st k=>match st with
 | ⟨[(0,.sl g0 t0),(1,.sl g1 t1),(5,.own g2),(6,.int .i64 t6)],[(g3,⟨false,g4,h0⟩)]⟩=>bif ctsEq g0 ([.int .i64]) && ctsEq g1 ([.int .i64,.int .i64]) && nmEq g2 ([0,5]) && nmEq g3 ([0,5]) && ctsEq g4 ([.int .i64]) then ro (runW (R31_0 t0 t1) (((t0.length:Int) - t6:Int).toNat+1) (t6,h0)) none (K31_0 t0 t1 k) else none
 | _=>none
noncomputable def c31:Cfg:=cfg Tryz.prog [(31,0,[0,1,5,6]),(31,999,[4]),(31,1000,[5]),(31,1001,[0,1,5,6])] [(84,m84),(85,m85)] [] [] [(31,0,l31_0)]
theorem s31_0 (t0 t1:List AV) (ce:CallE) (k:Kont) (s:Int × (List AV)) (next:St→Option AV):stepA (codeA c31 ce [] 31 0 (sub [1,1,0,1,0,0] (body Tryz.f31))) (normA [] [0,1,5,6]) next ((E31_0 t0 t1) s) k=G31_0 t0 t1 s.1 s.2 (fun s=>next ((E31_0 t0 t1) s)) (K31_0 t0 t1 k) none:=by kernel_rfl
theorem st31_0 (t0 t1:List AV) (ce:CallE) (k:Kont) (s:(Int × (List AV))) (next:St→Option AV):stepA (codeA c31 ce [] 31 0 (sub [1,1,0,1,0,0] (body Tryz.f31))) (normA [] [0,1,5,6]) next ((E31_0 t0 t1) s) k=(R31_0 t0 t1 s).el none (fun s=>next ((E31_0 t0 t1) s)) (K31_0 t0 t1 k):=(s31_0 t0 t1 ce k s next).trans (by unfold R31_0;unfold F31_0 G31_0;simp only [el_cond,el_ro,el_sum,el_fail,el_next,el_stop] <;> rfl)
theorem ok31_0 {ce:CallE}:LoopOK c31 ce [] 31 0 (sub [1,1,0,1,0,0] (body Tryz.f31)):=by
 intro m hm st k r h
 obtain rfl:l31_0=m:=Option.some.inj hm
 unfold l31_0 at h
 split at h
 ·rename_i g0 t0 g1 t1 g2 t6 g3 g4 h0
  obtain ⟨hg,h⟩:=bif_some h
  simp only [Bool.and_eq_true] at hg
  obtain ⟨⟨⟨⟨q0,q1⟩,q2⟩,q3⟩,q4⟩:=hg
  obtain rfl:=cE q0
  obtain rfl:=cE q1
  obtain rfl:=nE q2
  obtain rfl:=nE q3
  obtain rfl:=cE q4
  refine ⟨(((t0.length:Int) - t6:Int).toNat+1),?_⟩
  rw [← h]
  exact loop_run (E31_0 t0 t1) (K31_0 t0 t1 k) (st31_0 t0 t1 ce k) _ (t6,h0)
 ·cases h
def q31 (a0 a1:List AV):Bool:=(ro (runW (R31_0 a0 a1) (((a0.length:Int) - 0:Int).toNat+1) (0,([]:List AV))) false (fun p29=>true))
def v31_0 (a0 a1:List AV):List AV:=(ro (runW (R31_0 a0 a1) (((a0.length:Int) - 0:Int).toNat+1) (0,([]:List AV))) [] (fun p29=>p29))
theorem e31 (a0 a1:List AV):funA c31 0 31 [AV.sl [.int .i64] a0,AV.sl [.int .i64,.int .i64] a1]=(ro (runW (R31_0 a0 a1) (((a0.length:Int) - 0:Int).toNat+1) (0,([]:List AV))) none (fun p29=>some (AV.fl [.int .i64] p29))):=by kernel_rfl
def m31:TModel
 | [.sl g0 a0,.sl g1 a1]=>bif ctsEq g0 ([.int .i64]) && ctsEq g1 ([.int .i64,.int .i64]) then some (q31 a0 a1,AV.fl [.int .i64] (v31_0 a0 a1)) else none
 | _=>none
theorem k31:Known Tryz.prog 31:=⟨Tryz.f31,Tryz.func31,by kernel_rfl,by kernel_rfl⟩
theorem meets31:Meets Tryz.prog 31 m31:=by
 refine mt (lvl:=0) (cf:=c31) rfl mixed k31 Tryz.func31 (by kernel_rfl) (loops_cons ok31_0 noLoop) (allT_cons meets84 (allT_cons meets85 allT_nil)) allM_nil noI fun xs r h=>?_
 unfold m31 at h
 split at h
 ·rename_i g0 a0 g1 a1
  obtain ⟨hg,h⟩:=bif_pair h
  simp only [Bool.and_eq_true] at hg
  obtain ⟨q0,q1⟩:=hg
  obtain rfl:=cE q0
  obtain rfl:=cE q1
  obtain ⟨h1,rfl⟩:=pair_inj h
  exact (e31 a0 a1).trans ((brO (fun o:Option (((List AV)))=>some (AV.fl [.int .i64] (ro o [] (fun p29=>p29)))) (fun p29=>(fun _=>rfl))) h1)
 ·cases h
def G11_0 {β:Type} (t0:List AV) (t1:List AV) (t5:Int) (N:(Int)→β) (K:(Unit ⊕ Unit)→β) (d:β):β:=(bif decide (t5<(t0.length:Int)) then (bif (decide (0≤t5) && decide (t5<(t0.length:Int))) then (bif (decide (0≤t5) && decide (t5<(t1.length:Int))) then (bif !decide (fI (t0.getD t5.toNat .undef) 0=fI (t1.getD t5.toNat .undef) 0) then K (.inr ())
 else N (IntKind.i64.wrap (t5+1)))
 else d)
 else d)
 else K (.inl ()))
def F11_0 (t0 t1:List AV) (t5:Int):Out (Int) (Unit ⊕ Unit):=G11_0 t0 t1 t5 .next .stop .fail
def R11_0 (t0 t1:List AV):(Int)→Out (Int) (Unit ⊕ Unit):=fun s:Int=>F11_0 t0 t1 s
def E11_0 (t0 t1:List AV):(Int)→St:=fun s:Int=>⟨[(0,AV.sl [.int .i64] t0),(1,AV.sl [.int .i64] t1),(5,Ai s)],[]⟩
def K11_0 (t0 t1:List AV) (k:Kont):(Unit ⊕ Unit)→Option AV:=sumE (fun _:Unit=>k (.exit 0) ⟨[],[]⟩) (fun _:Unit=>k .ret ⟨[(4,AV.bool false)],[]⟩)
def l11_0:LModel:=fun _ _ st k=>match st with
 | ⟨[(0,.sl g0 t0),(1,.sl g1 t1),(5,.int .i64 t5)],[]⟩=>bif ctsEq g0 ([.int .i64]) && ctsEq g1 ([.int .i64]) then ro (runW (R11_0 t0 t1) (((t0.length:Int) - t5:Int).toNat+1) t5) none (K11_0 t0 t1 k) else none
 | _=>none
noncomputable def c11:Cfg:=cfg Tryz.prog [(11,0,[0,1,5]),(11,999,[4]),(11,1000,[]),(11,1001,[0,1,5])] [] [] [] [(11,0,l11_0)]
theorem s11_0 (t0 t1:List AV) (ce:CallE) (k:Kont) (s:Int) (next:St→Option AV):stepA (codeA c11 ce [] 11 0 (sub [1,1,0,1,0,0] (body Tryz.f11))) (normA [] [0,1,5]) next ((E11_0 t0 t1) s) k=G11_0 t0 t1 s (fun s=>next ((E11_0 t0 t1) s)) (K11_0 t0 t1 k) none:=by kernel_rfl
theorem st11_0 (t0 t1:List AV) (ce:CallE) (k:Kont) (s:Int) (next:St→Option AV):stepA (codeA c11 ce [] 11 0 (sub [1,1,0,1,0,0] (body Tryz.f11))) (normA [] [0,1,5]) next ((E11_0 t0 t1) s) k=(R11_0 t0 t1 s).el none (fun s=>next ((E11_0 t0 t1) s)) (K11_0 t0 t1 k):=(s11_0 t0 t1 ce k s next).trans (by unfold R11_0;unfold F11_0 G11_0;simp only [el_cond,el_ro,el_sum,el_fail,el_next,el_stop] <;> rfl)
theorem ok11_0 {ce:CallE}:LoopOK c11 ce [] 11 0 (sub [1,1,0,1,0,0] (body Tryz.f11)):=by
 intro m hm st k r h
 obtain rfl:l11_0=m:=Option.some.inj hm
 unfold l11_0 at h
 split at h
 ·rename_i g0 t0 g1 t1 t5
  obtain ⟨hg,h⟩:=bif_some h
  simp only [Bool.and_eq_true] at hg
  obtain ⟨q0,q1⟩:=hg
  obtain rfl:=cE q0
  obtain rfl:=cE q1
  refine ⟨(((t0.length:Int) - t5:Int).toNat+1),?_⟩
  rw [← h]
  exact loop_run (E11_0 t0 t1) (K11_0 t0 t1 k) (st11_0 t0 t1 ce k) _ t5
 ·cases h
def q11 (a0 a1:List AV):Bool:=(bif !decide ((a0.length:Int)=(a1.length:Int)) then true else (ro (runW (R11_0 a0 a1) (((a0.length:Int) - 0:Int).toNat+1) 0) false (sumE (fun _=>true) (fun _=>true))))
def v11_0 (a0 a1:List AV):Bool:=(bif !decide ((a0.length:Int)=(a1.length:Int)) then false else (ro (runW (R11_0 a0 a1) (((a0.length:Int) - 0:Int).toNat+1) 0) false (sumE (fun _=>true) (fun _=>false))))
theorem e11 (a0 a1:List AV):funA c11 0 11 [AV.sl [.int .i64] a0,AV.sl [.int .i64] a1]=(bif !decide ((a0.length:Int)=(a1.length:Int)) then some (AV.bool false)
 else (ro (runW (R11_0 a0 a1) (((a0.length:Int) - 0:Int).toNat+1) 0) none (sumE (fun _=>some (AV.bool true)) (fun _=>some (AV.bool false))))):=by kernel_rfl
def m11:TModel
 | [.sl g0 a0,.sl g1 a1]=>bif ctsEq g0 ([.int .i64]) && ctsEq g1 ([.int .i64]) then some (q11 a0 a1,AV.bool (v11_0 a0 a1)) else none
 | _=>none
theorem k11:Known Tryz.prog 11:=⟨Tryz.f11,Tryz.func11,by kernel_rfl,by kernel_rfl⟩
theorem meets11:Meets Tryz.prog 11 m11:=by
 refine mt (lvl:=0) (cf:=c11) rfl mixed k11 Tryz.func11 (by kernel_rfl) (loops_cons ok11_0 noLoop) allT_nil allM_nil noI fun xs r h=>?_
 unfold m11 at h
 split at h
 ·rename_i g0 a0 g1 a1
  obtain ⟨hg,h⟩:=bif_pair h
  simp only [Bool.and_eq_true] at hg
  obtain ⟨q0,q1⟩:=hg
  obtain rfl:=cE q0
  obtain rfl:=cE q1
  obtain ⟨h1,rfl⟩:=pair_inj h
  exact (e11 a0 a1).trans ((br (fun b=>some (AV.bool (bif b then false else (ro (runW (R11_0 a0 a1) (((a0.length:Int) - 0:Int).toNat+1) 0) false (sumE (fun _=>true) (fun _=>false)))))) (fun _=>rfl) (brO (fun o:Option (Unit ⊕ Unit)=>some (AV.bool (ro o false (sumE (fun _=>true) (fun _=>false))))) (brS (fun o:Unit ⊕ Unit=>some (AV.bool ((sumE (fun _=>true) (fun _=>false)) o))) (fun _=>(fun _=>rfl)) (fun _=>(fun _=>rfl))))) h1)
 ·cases h
end
end Go.Proofs.YtbmfgibbjchijaaGreat
