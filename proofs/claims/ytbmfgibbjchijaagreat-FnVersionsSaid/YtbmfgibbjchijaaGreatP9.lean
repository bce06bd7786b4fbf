import Derived.Test.YtbmfgibbjchijaaGreatP6
import Derived.Test.YtbmfgibbjchijaaGreatP7
import Derived.Test.YtbmfgibbjchijaaGreatP8
import Derived.Test.YtbmfgibbjchijaaGreatP5
import Derived.Test.YtbmfgibbjchijaaGreatProg
import Derived.KernelRfl
namespace Go.Proofs.YtbmfgibbjchijaaGreat
open Go Go.Proofs.VE
set_option linter.unusedVariables false
set_option linter.unusedSimpArgs false
set_option maxRecDepth 100000
set_option maxHeartbeats 4000000
theorem mixed:Tryz.prog.follows .mixedOrders=true:=by kernel_rfl
noncomputable section
noncomputable def c6:Cfg:=cfg Tryz.prog [(6,999,[2])] [] [] [] []
def q6 (a0:List AV):Bool:=true
def v6_0 (a0:List AV):Bool:=decide ((a0.length:Int) > 1048576)
theorem e6 (a0:List AV):funA c6 0 6 [AV.sl [.int .u8] a0]=some (AV.bool (decide ((a0.length:Int) > 1048576))):=by kernel_rfl
def m6:TModel
 | [.sl g0 a0]=>bif ctsEq g0 ([.int .u8]) then some (true,AV.bool (v6_0 a0)) else none
 | _=>none
theorem k6:Known Tryz.prog 6:=⟨Tryz.f6,Tryz.func6,by kernel_rfl,by kernel_rfl⟩
theorem meets6:Meets Tryz.prog 6 m6:=by
 refine mt (lvl:=0) (cf:=c6) rfl mixed k6 Tryz.func6 (by kernel_rfl) noLoop allT_nil allM_nil noI fun xs r h=>?_
 unfold m6 at h
 split at h
 ·rename_i g0 a0
  obtain ⟨hg,h⟩:=bif_pair h
  have q0:=hg
  obtain rfl:=cE q0
  obtain ⟨h1,rfl⟩:=pair_inj h
  exact (e6 a0).trans (of_tt (fun _=>rfl))
 ·cases h
noncomputable def c95:Cfg:=cfg Tryz.prog [(95,999,[2])] [] [] [] []
def q95 (ua:List AV) (ub uc:Int):Bool:=(bif decide (ub<(ua.length:Int)) then (decide (0≤ub) && decide (ub<(ua.length:Int))) else true)
def v95_0 (ua:List AV) (ub uc:Int):Int:=VE.hid (fun (ua:List AV) (ub:Int) (uc:Int)=>(bif decide (ub<(ua.length:Int)) then IntKind.i64.wrap ((BitVec.ofInt 64 (IntKind.i64.wrap (IntKind.i64.wrap ((BitVec.ofInt 64 (IntKind.i64.wrap ((BitVec.ofInt 64 (Int.fdiv (IntKind.i64.wrap (IntKind.i64.wrap (uc*6364136223846793005)+1442695040888963407)) (2 ^ 33)) ^^^ BitVec.ofInt 64 (Int.fdiv (IntKind.i64.wrap (IntKind.i64.wrap (uc*6364136223846793005)+1442695040888963407)) (2 ^ 45))).toNat:Int)) &&& BitVec.ofInt 64 255).toNat:Int)+IntKind.i64.wrap (fI (ua.getD ub.toNat .undef) 0))) &&& BitVec.ofInt 64 255).toNat:Int) else IntKind.i64.wrap ((BitVec.ofInt 64 (IntKind.i64.wrap ((BitVec.ofInt 64 (Int.fdiv (IntKind.i64.wrap (IntKind.i64.wrap (uc*6364136223846793005)+1442695040888963407)) (2 ^ 33)) ^^^ BitVec.ofInt 64 (Int.fdiv (IntKind.i64.wrap (IntKind.i64.wrap (uc*6364136223846793005)+1442695040888963407)) (2 ^ 45))).toNat:Int)) &&& BitVec.ofInt 64 255).toNat:Int))) ua ub uc
def v95_1 (ua:List AV) (ub uc:Int):List AV:=ua
def v95_2 (ua:List AV) (ub uc:Int):Int:=VE.hid (fun (ua:List AV) (ub:Int) (uc:Int)=>(bif decide (ub<(ua.length:Int)) then IntKind.i64.wrap (ub+1) else ub)) ua ub uc
def v95_3 (ua:List AV) (ub uc:Int):Int:=VE.hid (fun (ua:List AV) (ub:Int) (uc:Int)=>IntKind.i64.wrap (IntKind.i64.wrap (uc*6364136223846793005)+1442695040888963407)) ua ub uc
theorem e95 (ua:List AV) (ub uc:Int) (K:List AV→List (Option Blk)→Option AV):inlA c95 1 95 [AV.ptr [1] 0 0] [0] (canH 1 [⟨true,[],[AV.agg [AV.sl [.int .u8] ua,Ai ub,Ai uc]]⟩]) (keepG Tryz.prog 1 [3] [] K)=(bif decide (ub<(ua.length:Int)) then (bif (decide (0≤ub) && decide (ub<(ua.length:Int))) then K [Ai (IntKind.i64.wrap ((BitVec.ofInt 64 (IntKind.i64.wrap (IntKind.i64.wrap ((BitVec.ofInt 64 (IntKind.i64.wrap ((BitVec.ofInt 64 (Int.fdiv (IntKind.i64.wrap (IntKind.i64.wrap (uc*6364136223846793005)+1442695040888963407)) (2 ^ 33)) ^^^ BitVec.ofInt 64 (Int.fdiv (IntKind.i64.wrap (IntKind.i64.wrap (uc*6364136223846793005)+1442695040888963407)) (2 ^ 45))).toNat:Int)) &&& BitVec.ofInt 64 255).toNat:Int)+IntKind.i64.wrap (fI (ua.getD ub.toNat .undef) 0))) &&& BitVec.ofInt 64 255).toNat:Int))] [some ⟨true,[],[AV.agg [AV.sl [.int .u8] ua,Ai (IntKind.i64.wrap (ub+1)),Ai (IntKind.i64.wrap (IntKind.i64.wrap (uc*6364136223846793005)+1442695040888963407))]]⟩]
 else none)
 else K [Ai (IntKind.i64.wrap ((BitVec.ofInt 64 (IntKind.i64.wrap ((BitVec.ofInt 64 (Int.fdiv (IntKind.i64.wrap (IntKind.i64.wrap (uc*6364136223846793005)+1442695040888963407)) (2 ^ 33)) ^^^ BitVec.ofInt 64 (Int.fdiv (IntKind.i64.wrap (IntKind.i64.wrap (uc*6364136223846793005)+1442695040888963407)) (2 ^ 45))).toNat:Int)) &&& BitVec.ofInt 64 255).toNat:Int))] [some ⟨true,[],[AV.agg [AV.sl [.int .u8] ua,Ai ub,Ai (IntKind.i64.wrap (IntKind.i64.wrap (uc*6364136223846793005)+1442695040888963407))]]⟩]):=by kernel_rfl
theorem r95 (ua:List AV) (ub uc:Int) (K:List AV→List (Option Blk)→Option AV) (h:q95 ua ub uc=true):inlA c95 1 95 [AV.ptr [1] 0 0] [0] (canH 1 [⟨true,[],[AV.agg [AV.sl [.int .u8] ua,AV.int .i64 ub,AV.int .i64 uc]]⟩]) (keepG Tryz.prog 1 [3] [] K)=K [AV.int .i64 (v95_0 ua ub uc)] [some ⟨true,[],[AV.agg [AV.sl [.int .u8] (v95_1 ua ub uc),AV.int .i64 (v95_2 ua ub uc),AV.int .i64 (v95_3 ua ub uc)]]⟩]:=by
 unfold v95_0 v95_2 v95_3
 simp only [VE.hid_eq]
 exact (e95 ua ub uc K).trans ((br (fun b=>K [AV.int .i64 (bif b then IntKind.i64.wrap ((BitVec.ofInt 64 (IntKind.i64.wrap (IntKind.i64.wrap ((BitVec.ofInt 64 (IntKind.i64.wrap ((BitVec.ofInt 64 (Int.fdiv (IntKind.i64.wrap (IntKind.i64.wrap (uc*6364136223846793005)+1442695040888963407)) (2 ^ 33)) ^^^ BitVec.ofInt 64 (Int.fdiv (IntKind.i64.wrap (IntKind.i64.wrap (uc*6364136223846793005)+1442695040888963407)) (2 ^ 45))).toNat:Int)) &&& BitVec.ofInt 64 255).toNat:Int)+IntKind.i64.wrap (fI (ua.getD ub.toNat .undef) 0))) &&& BitVec.ofInt 64 255).toNat:Int) else IntKind.i64.wrap ((BitVec.ofInt 64 (IntKind.i64.wrap ((BitVec.ofInt 64 (Int.fdiv (IntKind.i64.wrap (IntKind.i64.wrap (uc*6364136223846793005)+1442695040888963407)) (2 ^ 33)) ^^^ BitVec.ofInt 64 (Int.fdiv (IntKind.i64.wrap (IntKind.i64.wrap (uc*6364136223846793005)+1442695040888963407)) (2 ^ 45))).toNat:Int)) &&& BitVec.ofInt 64 255).toNat:Int))] [some ⟨true,[],[AV.agg [AV.sl [.int .u8] ua,AV.int .i64 (bif b then IntKind.i64.wrap (ub+1) else ub),AV.int .i64 (IntKind.i64.wrap (IntKind.i64.wrap (uc*6364136223846793005)+1442695040888963407))]]⟩]) (brL1 (fun _=>rfl)) (fun _=>rfl)) h)
def m95:GModel
 | [.ptr g0 g1 g2],[⟨true,[],[.agg [.sl g3 ua,.int .i64 ub,.int .i64 uc]]⟩]=>bif nmEq g0 ([1]) && Nat.beq g1 0 && Nat.beq g2 0 && ctsEq g3 ([.int .u8]) then some (q95 ua ub uc,[AV.int .i64 (v95_0 ua ub uc)],[some ⟨true,[],[AV.agg [AV.sl [.int .u8] (v95_1 ua ub uc),AV.int .i64 (v95_2 ua ub uc),AV.int .i64 (v95_3 ua ub uc)]]⟩]) else none
 | _,_=>none
theorem k95:Known Tryz.prog 95:=⟨Tryz.f95,Tryz.func95,by kernel_rfl,by kernel_rfl⟩
theorem meets95:MeetsG Tryz.prog 95 m95:=by
 refine mg (rt:=[3]) (gs:=[]) (lvl:=0) (cf:=c95) rfl mixed k95 Tryz.func95 (by kernel_rfl) noLoop allT_nil allM_nil noI fun xs bs r bs' h K=>?_
 unfold m95 at h
 split at h
 ·rename_i g0 g1 g2 g3 ua ub uc
  obtain ⟨hg,h⟩:=bif_pair h
  simp only [Bool.and_eq_true] at hg
  obtain ⟨⟨⟨q0,q1⟩,q2⟩,q3⟩:=hg
  obtain rfl:=nE q0
  obtain rfl:=bE q1
  obtain rfl:=bE q2
  obtain rfl:=cE q3
  obtain ⟨h1,rfl,rfl⟩:=trip_inj h
  exact r95 ua ub uc K h1
 ·cases h
noncomputable def c42:Cfg:=cfg Tryz.prog [(42,999,[4])] [] [(95,.g m95)] [] []
def q42 (a1:Int) (ua:List AV) (ub uc:Int):Bool:=(bif decide (a1≤0) then true else (bif decide (a1≤256) then (q95 ua ub uc && !decide (a1=0)) else (q95 ua ub uc && (q95 (v95_1 ua ub uc) (v95_2 ua ub uc) (v95_3 ua ub uc) && (q95 (v95_1 (v95_1 ua ub uc) (v95_2 ua ub uc) (v95_3 ua ub uc)) (v95_2 (v95_1 ua ub uc) (v95_2 ua ub uc) (v95_3 ua ub uc)) (v95_3 (v95_1 ua ub uc) (v95_2 ua ub uc) (v95_3 ua ub uc)) && (q95 (v95_1 (v95_1 (v95_1 ua ub uc) (v95_2 ua ub uc) (v95_3 ua ub uc)) (v95_2 (v95_1 ua ub uc) (v95_2 ua ub uc) (v95_3 ua ub uc)) (v95_3 (v95_1 ua ub uc) (v95_2 ua ub uc) (v95_3 ua ub uc))) (v95_2 (v95_1 (v95_1 ua ub uc) (v95_2 ua ub uc) (v95_3 ua ub uc)) (v95_2 (v95_1 ua ub uc) (v95_2 ua ub uc) (v95_3 ua ub uc)) (v95_3 (v95_1 ua ub uc) (v95_2 ua ub uc) (v95_3 ua ub uc))) (v95_3 (v95_1 (v95_1 ua ub uc) (v95_2 ua ub uc) (v95_3 ua ub uc)) (v95_2 (v95_1 ua ub uc) (v95_2 ua ub uc) (v95_3 ua ub uc)) (v95_3 (v95_1 ua ub uc) (v95_2 ua ub uc) (v95_3 ua ub uc))) && !decide (a1=0)))))))
def v42_0 (a1:Int) (ua:List AV) (ub uc:Int):Int:=VE.hid (fun (a1:Int) (ua:List AV) (ub:Int) (uc:Int)=>(bif decide (a1≤0) then 0 else (bif decide (a1≤256) then Int.tmod (v95_0 ua ub uc) a1 else Int.tmod (IntKind.i64.wrap (IntKind.i64.wrap (IntKind.i64.wrap (IntKind.i64.wrap ((v95_0 ua ub uc)*16777216)+IntKind.i64.wrap ((v95_0 (v95_1 ua ub uc) (v95_2 ua ub uc) (v95_3 ua ub uc))*65536))+IntKind.i64.wrap ((v95_0 (v95_1 (v95_1 ua ub uc) (v95_2 ua ub uc) (v95_3 ua ub uc)) (v95_2 (v95_1 ua ub uc) (v95_2 ua ub uc) (v95_3 ua ub uc)) (v95_3 (v95_1 ua ub uc) (v95_2 ua ub uc) (v95_3 ua ub uc)))*256))+(v95_0 (v95_1 (v95_1 (v95_1 ua ub uc) (v95_2 ua ub uc) (v95_3 ua ub uc)) (v95_2 (v95_1 ua ub uc) (v95_2 ua ub uc) (v95_3 ua ub uc)) (v95_3 (v95_1 ua ub uc) (v95_2 ua ub uc) (v95_3 ua ub uc))) (v95_2 (v95_1 (v95_1 ua ub uc) (v95_2 ua ub uc) (v95_3 ua ub uc)) (v95_2 (v95_1 ua ub uc) (v95_2 ua ub uc) (v95_3 ua ub uc)) (v95_3 (v95_1 ua ub uc) (v95_2 ua ub uc) (v95_3 ua ub uc))) (v95_3 (v95_1 (v95_1 ua ub uc) (v95_2 ua ub uc) (v95_3 ua ub uc)) (v95_2 (v95_1 ua ub uc) (v95_2 ua ub uc) (v95_3 ua ub uc)) (v95_3 (v95_1 ua ub uc) (v95_2 ua ub uc) (v95_3 ua ub uc)))))) a1))) a1 ua ub uc
def v42_1 (a1:Int) (ua:List AV) (ub uc:Int):List AV:=VE.hid (fun (a1:Int) (ua:List AV) (ub:Int) (uc:Int)=>(bif decide (a1≤0) then ua else (bif decide (a1≤256) then (v95_1 ua ub uc) else (v95_1 (v95_1 (v95_1 (v95_1 ua ub uc) (v95_2 ua ub uc) (v95_3 ua ub uc)) (v95_2 (v95_1 ua ub uc) (v95_2 ua ub uc) (v95_3 ua ub uc)) (v95_3 (v95_1 ua ub uc) (v95_2 ua ub uc) (v95_3 ua ub uc))) (v95_2 (v95_1 (v95_1 ua ub uc) (v95_2 ua ub uc) (v95_3 ua ub uc)) (v95_2 (v95_1 ua ub uc) (v95_2 ua ub uc) (v95_3 ua ub uc)) (v95_3 (v95_1 ua ub uc) (v95_2 ua ub uc) (v95_3 ua ub uc))) (v95_3 (v95_1 (v95_1 ua ub uc) (v95_2 ua ub uc) (v95_3 ua ub uc)) (v95_2 (v95_1 ua ub uc) (v95_2 ua ub uc) (v95_3 ua ub uc)) (v95_3 (v95_1 ua ub uc) (v95_2 ua ub uc) (v95_3 ua ub uc))))))) a1 ua ub uc
def v42_2 (a1:Int) (ua:List AV) (ub uc:Int):Int:=VE.hid (fun (a1:Int) (ua:List AV) (ub:Int) (uc:Int)=>(bif decide (a1≤0) then ub else (bif decide (a1≤256) then (v95_2 ua ub uc) else (v95_2 (v95_1 (v95_1 (v95_1 ua ub uc) (v95_2 ua ub uc) (v95_3 ua ub uc)) (v95_2 (v95_1 ua ub uc) (v95_2 ua ub uc) (v95_3 ua ub uc)) (v95_3 (v95_1 ua ub uc) (v95_2 ua ub uc) (v95_3 ua ub uc))) (v95_2 (v95_1 (v95_1 ua ub uc) (v95_2 ua ub uc) (v95_3 ua ub uc)) (v95_2 (v95_1 ua ub uc) (v95_2 ua ub uc) (v95_3 ua ub uc)) (v95_3 (v95_1 ua ub uc) (v95_2 ua ub uc) (v95_3 ua ub uc))) (v95_3 (v95_1 (v95_1 ua ub uc) (v95_2 ua ub uc) (v95_3 ua ub uc)) (v95_2 (v95_1 ua ub uc) (v95_2 ua ub uc) (v95_3 ua ub uc)) (v95_3 (v95_1 ua ub uc) (v95_2 ua ub uc) (v95_3 ua ub uc))))))) a1 ua ub uc
def v42_3 (a1:Int) (ua:List AV) (ub uc:Int):Int:=VE.hid (fun (a1:Int) (ua:List AV) (ub:Int) (uc:Int)=>(bif decide (a1≤0) then uc else (bif decide (a1≤256) then (v95_3 ua ub uc) else (v95_3 (v95_1 (v95_1 (v95_1 ua ub uc) (v95_2 ua ub uc) (v95_3 ua ub uc)) (v95_2 (v95_1 ua ub uc) (v95_2 ua ub uc) (v95_3 ua ub uc)) (v95_3 (v95_1 ua ub uc) (v95_2 ua ub uc) (v95_3 ua ub uc))) (v95_2 (v95_1 (v95_1 ua ub uc) (v95_2 ua ub uc) (v95_3 ua ub uc)) (v95_2 (v95_1 ua ub uc) (v95_2 ua ub uc) (v95_3 ua ub uc)) (v95_3 (v95_1 ua ub uc) (v95_2 ua ub uc) (v95_3 ua ub uc))) (v95_3 (v95_1 (v95_1 ua ub uc) (v95_2 ua ub uc) (v95_3 ua ub uc)) (v95_2 (v95_1 ua ub uc) (v95_2 ua ub uc) (v95_3 ua ub uc)) (v95_3 (v95_1 ua ub uc) (v95_2 ua ub uc) (v95_3 ua ub uc))))))) a1 ua ub uc
theorem e42 (a1:Int) (ua:List AV) (ub uc:Int) (K:List AV→List (Option Blk)→Option AV):inlA c42 1 42 [AV.ptr [1] 0 0,Ai a1] [0] (canH 1 [⟨true,[],[AV.agg [AV.sl [.int .u8] ua,Ai ub,Ai uc]]⟩]) (keepG Tryz.prog 1 [3] [] K)=((fun (x1:Int) (x2:List AV) (x3:Int) (x4:Int)=>((fun (x5:Int) (x6:List AV) (x7:Int) (x8:Int)=>((fun (x9:Int) (x10:List AV) (x11:Int) (x12:Int)=>(bif decide (a1≤0) then K [Ai 0] [some ⟨true,[],[AV.agg [AV.sl [.int .u8] ua,Ai ub,Ai uc]]⟩]
 else (bif decide (a1≤256) then (bif q95 ua ub uc then (bif !decide (a1=0) then K [Ai (Int.tmod x1 a1)] [some ⟨true,[],[AV.agg [AV.sl [.int .u8] x2,Ai x3,Ai x4]]⟩]
 else none)
 else none)
 else (bif q95 ua ub uc then (bif q95 x2 x3 x4 then (bif q95 x6 x7 x8 then (bif q95 x10 x11 x12 then (bif !decide (a1=0) then K [Ai (Int.tmod (IntKind.i64.wrap (IntKind.i64.wrap (IntKind.i64.wrap (IntKind.i64.wrap (x1*16777216)+IntKind.i64.wrap (x5*65536))+IntKind.i64.wrap (x9*256))+(v95_0 x10 x11 x12))) a1)] [some ⟨true,[],[AV.agg [AV.sl [.int .u8] (v95_1 x10 x11 x12),Ai (v95_2 x10 x11 x12),Ai (v95_3 x10 x11 x12)]]⟩]
 else none)
 else none)
 else none)
 else none)
 else none)))) (v95_0 x6 x7 x8) (v95_1 x6 x7 x8) (v95_2 x6 x7 x8) (v95_3 x6 x7 x8))) (v95_0 x2 x3 x4) (v95_1 x2 x3 x4) (v95_2 x2 x3 x4) (v95_3 x2 x3 x4))) (v95_0 ua ub uc) (v95_1 ua ub uc) (v95_2 ua ub uc) (v95_3 ua ub uc)):=by kernel_rfl
theorem r42 (a1:Int) (ua:List AV) (ub uc:Int) (K:List AV→List (Option Blk)→Option AV) (h:q42 a1 ua ub uc=true):inlA c42 1 42 [AV.ptr [1] 0 0,AV.int .i64 a1] [0] (canH 1 [⟨true,[],[AV.agg [AV.sl [.int .u8] ua,AV.int .i64 ub,AV.int .i64 uc]]⟩]) (keepG Tryz.prog 1 [3] [] K)=K [AV.int .i64 (v42_0 a1 ua ub uc)] [some ⟨true,[],[AV.agg [AV.sl [.int .u8] (v42_1 a1 ua ub uc),AV.int .i64 (v42_2 a1 ua ub uc),AV.int .i64 (v42_3 a1 ua ub uc)]]⟩]:=by
 unfold v42_0 v42_1 v42_2 v42_3
 simp only [VE.hid_eq]
 exact (e42 a1 ua ub uc K).trans ((br (fun b=>K [AV.int .i64 (bif b then 0 else (bif decide (a1≤256) then Int.tmod (v95_0 ua ub uc) a1 else Int.tmod (IntKind.i64.wrap (IntKind.i64.wrap (IntKind.i64.wrap (IntKind.i64.wrap ((v95_0 ua ub uc)*16777216)+IntKind.i64.wrap ((v95_0 (v95_1 ua ub uc) (v95_2 ua ub uc) (v95_3 ua ub uc))*65536))+IntKind.i64.wrap ((v95_0 (v95_1 (v95_1 ua ub uc) (v95_2 ua ub uc) (v95_3 ua ub uc)) (v95_2 (v95_1 ua ub uc) (v95_2 ua ub uc) (v95_3 ua ub uc)) (v95_3 (v95_1 ua ub uc) (v95_2 ua ub uc) (v95_3 ua ub uc)))*256))+(v95_0 (v95_1 (v95_1 (v95_1 ua ub uc) (v95_2 ua ub uc) (v95_3 ua ub uc)) (v95_2 (v95_1 ua ub uc) (v95_2 ua ub uc) (v95_3 ua ub uc)) (v95_3 (v95_1 ua ub uc) (v95_2 ua ub uc) (v95_3 ua ub uc))) (v95_2 (v95_1 (v95_1 ua ub uc) (v95_2 ua ub uc) (v95_3 ua ub uc)) (v95_2 (v95_1 ua ub uc) (v95_2 ua ub uc) (v95_3 ua ub uc)) (v95_3 (v95_1 ua ub uc) (v95_2 ua ub uc) (v95_3 ua ub uc))) (v95_3 (v95_1 (v95_1 ua ub uc) (v95_2 ua ub uc) (v95_3 ua ub uc)) (v95_2 (v95_1 ua ub uc) (v95_2 ua ub uc) (v95_3 ua ub uc)) (v95_3 (v95_1 ua ub uc) (v95_2 ua ub uc) (v95_3 ua ub uc)))))) a1))] [some ⟨true,[],[AV.agg [AV.sl [.int .u8] (bif b then ua else (bif decide (a1≤256) then (v95_1 ua ub uc) else (v95_1 (v95_1 (v95_1 (v95_1 ua ub uc) (v95_2 ua ub uc) (v95_3 ua ub uc)) (v95_2 (v95_1 ua ub uc) (v95_2 ua ub uc) (v95_3 ua ub uc)) (v95_3 (v95_1 ua ub uc) (v95_2 ua ub uc) (v95_3 ua ub uc))) (v95_2 (v95_1 (v95_1 ua ub uc) (v95_2 ua ub uc) (v95_3 ua ub uc)) (v95_2 (v95_1 ua ub uc) (v95_2 ua ub uc) (v95_3 ua ub uc)) (v95_3 (v95_1 ua ub uc) (v95_2 ua ub uc) (v95_3 ua ub uc))) (v95_3 (v95_1 (v95_1 ua ub uc) (v95_2 ua ub uc) (v95_3 ua ub uc)) (v95_2 (v95_1 ua ub uc) (v95_2 ua ub uc) (v95_3 ua ub uc)) (v95_3 (v95_1 ua ub uc) (v95_2 ua ub uc) (v95_3 ua ub uc)))))),AV.int .i64 (bif b then ub else (bif decide (a1≤256) then (v95_2 ua ub uc) else (v95_2 (v95_1 (v95_1 (v95_1 ua ub uc) (v95_2 ua ub uc) (v95_3 ua ub uc)) (v95_2 (v95_1 ua ub uc) (v95_2 ua ub uc) (v95_3 ua ub uc)) (v95_3 (v95_1 ua ub uc) (v95_2 ua ub uc) (v95_3 ua ub uc))) (v95_2 (v95_1 (v95_1 ua ub uc) (v95_2 ua ub uc) (v95_3 ua ub uc)) (v95_2 (v95_1 ua ub uc) (v95_2 ua ub uc) (v95_3 ua ub uc)) (v95_3 (v95_1 ua ub uc) (v95_2 ua ub uc) (v95_3 ua ub uc))) (v95_3 (v95_1 (v95_1 ua ub uc) (v95_2 ua ub uc) (v95_3 ua ub uc)) (v95_2 (v95_1 ua ub uc) (v95_2 ua ub uc) (v95_3 ua ub uc)) (v95_3 (v95_1 ua ub uc) (v95_2 ua ub uc) (v95_3 ua ub uc)))))),AV.int .i64 (bif b then uc else (bif decide (a1≤256) then (v95_3 ua ub uc) else (v95_3 (v95_1 (v95_1 (v95_1 ua ub uc) (v95_2 ua ub uc) (v95_3 ua ub uc)) (v95_2 (v95_1 ua ub uc) (v95_2 ua ub uc) (v95_3 ua ub uc)) (v95_3 (v95_1 ua ub uc) (v95_2 ua ub uc) (v95_3 ua ub uc))) (v95_2 (v95_1 (v95_1 ua ub uc) (v95_2 ua ub uc) (v95_3 ua ub uc)) (v95_2 (v95_1 ua ub uc) (v95_2 ua ub uc) (v95_3 ua ub uc)) (v95_3 (v95_1 ua ub uc) (v95_2 ua ub uc) (v95_3 ua ub uc))) (v95_3 (v95_1 (v95_1 ua ub uc) (v95_2 ua ub uc) (v95_3 ua ub uc)) (v95_2 (v95_1 ua ub uc) (v95_2 ua ub uc) (v95_3 ua ub uc)) (v95_3 (v95_1 ua ub uc) (v95_2 ua ub uc) (v95_3 ua ub uc))))))]]⟩]) (fun _=>rfl) (br (fun b=>K [AV.int .i64 (bif b then Int.tmod (v95_0 ua ub uc) a1 else Int.tmod (IntKind.i64.wrap (IntKind.i64.wrap (IntKind.i64.wrap (IntKind.i64.wrap ((v95_0 ua ub uc)*16777216)+IntKind.i64.wrap ((v95_0 (v95_1 ua ub uc) (v95_2 ua ub uc) (v95_3 ua ub uc))*65536))+IntKind.i64.wrap ((v95_0 (v95_1 (v95_1 ua ub uc) (v95_2 ua ub uc) (v95_3 ua ub uc)) (v95_2 (v95_1 ua ub uc) (v95_2 ua ub uc) (v95_3 ua ub uc)) (v95_3 (v95_1 ua ub uc) (v95_2 ua ub uc) (v95_3 ua ub uc)))*256))+(v95_0 (v95_1 (v95_1 (v95_1 ua ub uc) (v95_2 ua ub uc) (v95_3 ua ub uc)) (v95_2 (v95_1 ua ub uc) (v95_2 ua ub uc) (v95_3 ua ub uc)) (v95_3 (v95_1 ua ub uc) (v95_2 ua ub uc) (v95_3 ua ub uc))) (v95_2 (v95_1 (v95_1 ua ub uc) (v95_2 ua ub uc) (v95_3 ua ub uc)) (v95_2 (v95_1 ua ub uc) (v95_2 ua ub uc) (v95_3 ua ub uc)) (v95_3 (v95_1 ua ub uc) (v95_2 ua ub uc) (v95_3 ua ub uc))) (v95_3 (v95_1 (v95_1 ua ub uc) (v95_2 ua ub uc) (v95_3 ua ub uc)) (v95_2 (v95_1 ua ub uc) (v95_2 ua ub uc) (v95_3 ua ub uc)) (v95_3 (v95_1 ua ub uc) (v95_2 ua ub uc) (v95_3 ua ub uc)))))) a1)] [some ⟨true,[],[AV.agg [AV.sl [.int .u8] (bif b then (v95_1 ua ub uc) else (v95_1 (v95_1 (v95_1 (v95_1 ua ub uc) (v95_2 ua ub uc) (v95_3 ua ub uc)) (v95_2 (v95_1 ua ub uc) (v95_2 ua ub uc) (v95_3 ua ub uc)) (v95_3 (v95_1 ua ub uc) (v95_2 ua ub uc) (v95_3 ua ub uc))) (v95_2 (v95_1 (v95_1 ua ub uc) (v95_2 ua ub uc) (v95_3 ua ub uc)) (v95_2 (v95_1 ua ub uc) (v95_2 ua ub uc) (v95_3 ua ub uc)) (v95_3 (v95_1 ua ub uc) (v95_2 ua ub uc) (v95_3 ua ub uc))) (v95_3 (v95_1 (v95_1 ua ub uc) (v95_2 ua ub uc) (v95_3 ua ub uc)) (v95_2 (v95_1 ua ub uc) (v95_2 ua ub uc) (v95_3 ua ub uc)) (v95_3 (v95_1 ua ub uc) (v95_2 ua ub uc) (v95_3 ua ub uc))))),AV.int .i64 (bif b then (v95_2 ua ub uc) else (v95_2 (v95_1 (v95_1 (v95_1 ua ub uc) (v95_2 ua ub uc) (v95_3 ua ub uc)) (v95_2 (v95_1 ua ub uc) (v95_2 ua ub uc) (v95_3 ua ub uc)) (v95_3 (v95_1 ua ub uc) (v95_2 ua ub uc) (v95_3 ua ub uc))) (v95_2 (v95_1 (v95_1 ua ub uc) (v95_2 ua ub uc) (v95_3 ua ub uc)) (v95_2 (v95_1 ua ub uc) (v95_2 ua ub uc) (v95_3 ua ub uc)) (v95_3 (v95_1 ua ub uc) (v95_2 ua ub uc) (v95_3 ua ub uc))) (v95_3 (v95_1 (v95_1 ua ub uc) (v95_2 ua ub uc) (v95_3 ua ub uc)) (v95_2 (v95_1 ua ub uc) (v95_2 ua ub uc) (v95_3 ua ub uc)) (v95_3 (v95_1 ua ub uc) (v95_2 ua ub uc) (v95_3 ua ub uc))))),AV.int .i64 (bif b then (v95_3 ua ub uc) else (v95_3 (v95_1 (v95_1 (v95_1 ua ub uc) (v95_2 ua ub uc) (v95_3 ua ub uc)) (v95_2 (v95_1 ua ub uc) (v95_2 ua ub uc) (v95_3 ua ub uc)) (v95_3 (v95_1 ua ub uc) (v95_2 ua ub uc) (v95_3 ua ub uc))) (v95_2 (v95_1 (v95_1 ua ub uc) (v95_2 ua ub uc) (v95_3 ua ub uc)) (v95_2 (v95_1 ua ub uc) (v95_2 ua ub uc) (v95_3 ua ub uc)) (v95_3 (v95_1 ua ub uc) (v95_2 ua ub uc) (v95_3 ua ub uc))) (v95_3 (v95_1 (v95_1 ua ub uc) (v95_2 ua ub uc) (v95_3 ua ub uc)) (v95_2 (v95_1 ua ub uc) (v95_2 ua ub uc) (v95_3 ua ub uc)) (v95_3 (v95_1 ua ub uc) (v95_2 ua ub uc) (v95_3 ua ub uc)))))]]⟩]) (brL (brL1 (fun _=>rfl))) (brL (brL (brL (brL (brL1 (fun _=>rfl)))))))) h)
def m42:GModel
 | [.ptr g0 g1 g2,.int .i64 a1],[⟨true,[],[.agg [.sl g3 ua,.int .i64 ub,.int .i64 uc]]⟩]=>bif nmEq g0 ([1]) && Nat.beq g1 0 && Nat.beq g2 0 && ctsEq g3 ([.int .u8]) then some (q42 a1 ua ub uc,[AV.int .i64 (v42_0 a1 ua ub uc)],[some ⟨true,[],[AV.agg [AV.sl [.int .u8] (v42_1 a1 ua ub uc),AV.int .i64 (v42_2 a1 ua ub uc),AV.int .i64 (v42_3 a1 ua ub uc)]]⟩]) else none
 | _,_=>none
theorem k42:Known Tryz.prog 42:=⟨Tryz.f42,Tryz.func42,by kernel_rfl,by kernel_rfl⟩
theorem meets42:MeetsG Tryz.prog 42 m42:=by
 refine mg (rt:=[3]) (gs:=[]) (lvl:=0) (cf:=c42) rfl mixed k42 Tryz.func42 (by kernel_rfl) noLoop allT_nil (allG_cons meets95 allM_nil) noI fun xs bs r bs' h K=>?_
 unfold m42 at h
 split at h
 ·rename_i g0 g1 g2 a1 g3 ua ub uc
  obtain ⟨hg,h⟩:=bif_pair h
  simp only [Bool.and_eq_true] at hg
  obtain ⟨⟨⟨q0,q1⟩,q2⟩,q3⟩:=hg
  obtain rfl:=nE q0
  obtain rfl:=bE q1
  obtain rfl:=bE q2
  obtain rfl:=cE q3
  obtain ⟨h1,rfl,rfl⟩:=trip_inj h
  exact r42 a1 ua ub uc K h1
 ·cases h
noncomputable def c93:Cfg:=cfg Tryz.prog [(93,999,[4])] [] [(42,.g m42)] [] []
def T93 {β:Type} (k:(Int × (List AV) × Int × Int × (List AV))→β) (n:β) (ua:List AV) (ub:Int) (uc:Int) (b1:List AV):β:=(bif q42 (b1.length:Int) ua ub uc then (bif (decide (0≤(v42_0 (b1.length:Int) ua ub uc)) && decide ((v42_0 (b1.length:Int) ua ub uc)<(b1.length:Int))) then k (fI (b1.getD (v42_0 (b1.length:Int) ua ub uc).toNat .undef) 0,(v42_1 (b1.length:Int) ua ub uc),(v42_2 (b1.length:Int) ua ub uc),(v42_3 (b1.length:Int) ua ub uc),b1)
 else n)
 else n)
abbrev W93 (ua:List AV) (ub:Int) (uc:Int) (b1:List AV):Option (Int × (List AV) × Int × Int × (List AV)):=T93 some none ua ub uc b1
theorem n93 {β:Type} (k:(Int × (List AV) × Int × Int × (List AV))→β) (n:β) (ua:List AV) (ub:Int) (uc:Int) (b1:List AV):T93 k n ua ub uc b1=oe k n (W93 ua ub uc b1):=by
 unfold W93 T93
 simp only [oe_cond,oe_ro,oe_sum,oe_some,oe_none]
def q93 (ua:List AV) (ub uc:Int) (b1:List AV):Bool:=(W93 ua ub uc b1).isSome
def v93_0 (ua:List AV) (ub uc:Int) (b1:List AV):Int:=oe (fun t=>t.1) 0 (W93 ua ub uc b1)
def v93_1 (ua:List AV) (ub uc:Int) (b1:List AV):List AV:=oe (fun t=>t.2.1) [] (W93 ua ub uc b1)
def v93_2 (ua:List AV) (ub uc:Int) (b1:List AV):Int:=oe (fun t=>t.2.2.1) 0 (W93 ua ub uc b1)
def v93_3 (ua:List AV) (ub uc:Int) (b1:List AV):Int:=oe (fun t=>t.2.2.2.1) 0 (W93 ua ub uc b1)
def v93_4 (ua:List AV) (ub uc:Int) (b1:List AV):List AV:=oe (fun t=>t.2.2.2.2) [] (W93 ua ub uc b1)
theorem e93 (ua:List AV) (ub uc:Int) (b1:List AV) (K:List AV→List (Option Blk)→Option AV):inlA c93 1 93 [AV.ptr [1] 0 0,AV.own [2]] [0] (canH 1 [⟨true,[],[AV.agg [AV.sl [.int .u8] ua,Ai ub,Ai uc]]⟩,⟨false,[.int .i64],b1⟩]) (keepG Tryz.prog 2 [3] [] K)=T93 (fun t=>K [Ai t.1] [some ⟨true,[],[AV.agg [AV.sl [.int .u8] t.2.1,Ai t.2.2.1,Ai t.2.2.2.1]]⟩,some ⟨false,[.int .i64],t.2.2.2.2⟩]) none ua ub uc b1:=by kernel_rfl
theorem r93 (ua:List AV) (ub uc:Int) (b1:List AV) (K:List AV→List (Option Blk)→Option AV) (h:q93 ua ub uc b1=true):inlA c93 1 93 [AV.ptr [1] 0 0,AV.own [2]] [0] (canH 1 [⟨true,[],[AV.agg [AV.sl [.int .u8] ua,AV.int .i64 ub,AV.int .i64 uc]]⟩,⟨false,[.int .i64],b1⟩]) (keepG Tryz.prog 2 [3] [] K)=K [AV.int .i64 (v93_0 ua ub uc b1)] [some ⟨true,[],[AV.agg [AV.sl [.int .u8] (v93_1 ua ub uc b1),AV.int .i64 (v93_2 ua ub uc b1),AV.int .i64 (v93_3 ua ub uc b1)]]⟩,some ⟨false,[.int .i64],(v93_4 ua ub uc b1)⟩]:=by
 refine ((e93 ua ub uc b1 K).trans (n93 _ _ ua ub uc b1)).trans ?_
 unfold q93 at h
 unfold v93_0 v93_1 v93_2 v93_3 v93_4
 generalize W93 ua ub uc b1=o at *
 cases o with
 | none=>cases h
 | some t=>rfl
def m93:GModel
 | [.ptr g0 g1 g2,.own g3],[⟨true,[],[.agg [.sl g4 ua,.int .i64 ub,.int .i64 uc]]⟩,⟨false,g5,b1⟩]=>bif nmEq g0 ([1]) && Nat.beq g1 0 && Nat.beq g2 0 && nmEq g3 ([2]) && ctsEq g4 ([.int .u8]) && ctsEq g5 ([.int .i64]) then some (q93 ua ub uc b1,[AV.int .i64 (v93_0 ua ub uc b1)],[some ⟨true,[],[AV.agg [AV.sl [.int .u8] (v93_1 ua ub uc b1),AV.int .i64 (v93_2 ua ub uc b1),AV.int .i64 (v93_3 ua ub uc b1)]]⟩,some ⟨false,[.int .i64],(v93_4 ua ub uc b1)⟩]) else none
 | _,_=>none
theorem k93:Known Tryz.prog 93:=⟨Tryz.f93,Tryz.func93,by kernel_rfl,by kernel_rfl⟩
theorem meets93:MeetsG Tryz.prog 93 m93:=by
 refine mg (rt:=[3]) (gs:=[]) (lvl:=0) (cf:=c93) rfl mixed k93 Tryz.func93 (by kernel_rfl) noLoop allT_nil (allG_cons meets42 allM_nil) noI fun xs bs r bs' h K=>?_
 unfold m93 at h
 split at h
 ·rename_i g0 g1 g2 g3 g4 ua ub uc g5 b1
  obtain ⟨hg,h⟩:=bif_pair h
  simp only [Bool.and_eq_true] at hg
  obtain ⟨⟨⟨⟨⟨q0,q1⟩,q2⟩,q3⟩,q4⟩,q5⟩:=hg
  obtain rfl:=nE q0
  obtain rfl:=bE q1
  obtain rfl:=bE q2
  obtain rfl:=nE q3
  obtain rfl:=cE q4
  obtain rfl:=cE q5
  obtain ⟨h1,rfl,rfl⟩:=trip_inj h
  exact r93 ua ub uc b1 K h1
 ·cases h
def G123_0 {β:Type} (t6:Int) (t7:Int) (h0:List AV) (h1_0:List AV) (h1_1:Int) (h1_2:Int) (N:((Int × (List AV) × (List AV) × Int × Int))→β) (K:(((List AV) × (List AV) × Int × Int))→β) (d:β):β:=(bif decide (t7 > 0) then (bif q42 t6 h1_0 h1_1 h1_2 then (bif !decide (3=0) then (bif (decide ((h0.length+([AV.int .i64 (IntKind.i64.wrap ((v42_0 t6 h1_0 h1_1 h1_2) - IntKind.i64.wrap (Int.tdiv t6 3)))]).length)*8≤140737488355328) && decide ((h0.length+([AV.int .i64 (IntKind.i64.wrap ((v42_0 t6 h1_0 h1_1 h1_2) - IntKind.i64.wrap (Int.tdiv t6 3)))]).length)≤140737488355328)) then N (IntKind.i64.wrap (t7 - 1),h0++([AV.int .i64 (IntKind.i64.wrap ((v42_0 t6 h1_0 h1_1 h1_2) - IntKind.i64.wrap (Int.tdiv t6 3)))]),(v42_1 t6 h1_0 h1_1 h1_2),(v42_2 t6 h1_0 h1_1 h1_2),(v42_3 t6 h1_0 h1_1 h1_2))
 else d)
 else d)
 else d)
 else K (h0,h1_0,h1_1,h1_2))
def F123_0 (t6 t7:Int) (h0 h1_0:List AV) (h1_1 h1_2:Int):Out ((Int × (List AV) × (List AV) × Int × Int)) (((List AV) × (List AV) × Int × Int)):=G123_0 t6 t7 h0 h1_0 h1_1 h1_2 .next .stop .fail
def R123_0 (t6:Int):((Int × (List AV) × (List AV) × Int × Int))→Out ((Int × (List AV) × (List AV) × Int × Int)) (((List AV) × (List AV) × Int × Int)):=fun s:Int × (List AV) × (List AV) × Int × Int=>F123_0 t6 s.1 s.2.1 s.2.2.1 s.2.2.2.1 s.2.2.2.2
def E123_0 (t6:Int):((Int × (List AV) × (List AV) × Int × Int))→St:=fun s:Int × (List AV) × (List AV) × Int × Int=>⟨[(0,AV.ptr [1] 0 0),(5,AV.own [0,5,0]),(6,Ai t6),(7,Ai s.1)],[([0,5,0],⟨false,[.int .i64],s.2.1⟩),([1],⟨true,[],[AV.agg [AV.sl [.int .u8] s.2.2.1,Ai s.2.2.2.1,Ai s.2.2.2.2]]⟩)]⟩
def K123_0 (t6:Int) (k:Kont):(((List AV) × (List AV) × Int × Int))→Option AV:=fun p:(List AV) × (List AV) × Int × Int=>k (.exit 0) ⟨[(5,AV.own [0,5,0])],[([0,5,0],⟨false,[.int .i64],p.1⟩),([1],⟨true,[],[AV.agg [AV.sl [.int .u8] p.2.1,Ai p.2.2.1,Ai p.2.2.2]]⟩)]⟩
def l123_0:LModel:=fun _ _ st k=>match st with
 | ⟨[(0,.ptr g0 g1 g2),(5,.own g3),(6,.int .i64 t6),(7,.int .i64 t7)],[(g4,⟨false,g5,h0⟩),(g6,⟨true,[],[.agg [.sl g7 h1_0,.int .i64 h1_1,.int .i64 h1_2]]⟩)]⟩=>bif nmEq g0 ([1]) && Nat.beq g1 0 && Nat.beq g2 0 && nmEq g3 ([0,5,0]) && nmEq g4 ([0,5,0]) && ctsEq g5 ([.int .i64]) && nmEq g6 ([1]) && ctsEq g7 ([.int .u8]) then ro (runW (R123_0 t6) ((t7 - 0:Int).toNat+1) (t7,h0,h1_0,h1_1,h1_2)) none (K123_0 t6 k) else none
 | _=>none
noncomputable def c123:Cfg:=cfg Tryz.prog [(123,0,[0,5,6,7]),(123,999,[4]),(123,1000,[5]),(123,1001,[0,5,6,7])] [] [(42,.g m42),(93,.g m93)] [] [(123,0,l123_0)]
theorem s123_0 (t6:Int) (ce:CallE) (k:Kont) (s:Int × (List AV) × (List AV) × Int × Int) (next:St→Option AV):stepA (codeA c123 ce [0] 123 0 (sub [1,1,1,0,1,0,0] (body Tryz.f123))) (normA [0] [0,5,6,7]) next ((E123_0 t6) s) k=G123_0 t6 s.1 s.2.1 s.2.2.1 s.2.2.2.1 s.2.2.2.2 (fun s=>next ((E123_0 t6) s)) (K123_0 t6 k) none:=by kernel_rfl
theorem st123_0 (t6:Int) (ce:CallE) (k:Kont) (s:(Int × (List AV) × (List AV) × Int × Int)) (next:St→Option AV):stepA (codeA c123 ce [0] 123 0 (sub [1,1,1,0,1,0,0] (body Tryz.f123))) (normA [0] [0,5,6,7]) next ((E123_0 t6) s) k=(R123_0 t6 s).el none (fun s=>next ((E123_0 t6) s)) (K123_0 t6 k):=(s123_0 t6 ce k s next).trans (by unfold R123_0;unfold F123_0 G123_0;simp only [el_cond,el_ro,el_sum,el_fail,el_next,el_stop] <;> rfl)
theorem ok123_0 {ce:CallE}:LoopOK c123 ce [0] 123 0 (sub [1,1,1,0,1,0,0] (body Tryz.f123)):=by
 intro m hm st k r h
 obtain rfl:l123_0=m:=Option.some.inj hm
 unfold l123_0 at h
 split at h
 ·rename_i g0 g1 g2 g3 t6 t7 g4 g5 h0 g6 g7 h1_0 h1_1 h1_2
  obtain ⟨hg,h⟩:=bif_some h
  simp only [Bool.and_eq_true] at hg
  obtain ⟨⟨⟨⟨⟨⟨⟨q0,q1⟩,q2⟩,q3⟩,q4⟩,q5⟩,q6⟩,q7⟩:=hg
  obtain rfl:=nE q0
  obtain rfl:=bE q1
  obtain rfl:=bE q2
  obtain rfl:=nE q3
  obtain rfl:=nE q4
  obtain rfl:=cE q5
  obtain rfl:=nE q6
  obtain rfl:=cE q7
  refine ⟨((t7 - 0:Int).toNat+1),?_⟩
  rw [← h]
  exact loop_run (E123_0 t6) (K123_0 t6 k) (st123_0 t6 ce k) _ (t7,h0,h1_0,h1_1,h1_2)
 ·cases h
def T123 {β:Type} (k:((List AV) × (List AV) × Int × Int)→β) (n:β) (a1:Int) (ua:List AV) (ub:Int) (uc:Int):β:=by
 refine (?f0:Int→(List AV)→Int→Int→β) (v93_0 ua ub uc ([AV.int .i64 3,AV.int .i64 10,AV.int .i64 30,AV.int .i64 1000])) (v93_1 ua ub uc ([AV.int .i64 3,AV.int .i64 10,AV.int .i64 30,AV.int .i64 1000])) (v93_2 ua ub uc ([AV.int .i64 3,AV.int .i64 10,AV.int .i64 30,AV.int .i64 1000])) (v93_3 ua ub uc ([AV.int .i64 3,AV.int .i64 10,AV.int .i64 30,AV.int .i64 1000]));intro x1 x2 x3 x4
 exact (bif q93 ua ub uc ([AV.int .i64 3,AV.int .i64 10,AV.int .i64 30,AV.int .i64 1000]) then (bif q42 (IntKind.i64.wrap (a1+1)) x2 x3 x4 then (ro (runW (R123_0 x1) (((v42_0 (IntKind.i64.wrap (a1+1)) x2 x3 x4) - 0:Int).toNat+1) ((v42_0 (IntKind.i64.wrap (a1+1)) x2 x3 x4),([]:List AV),(v42_1 (IntKind.i64.wrap (a1+1)) x2 x3 x4),(v42_2 (IntKind.i64.wrap (a1+1)) x2 x3 x4),(v42_3 (IntKind.i64.wrap (a1+1)) x2 x3 x4))) n (fun p2=>k (p2.1,p2.2.1,p2.2.2.1,p2.2.2.2)))
 else n)
 else n)
abbrev W123 (a1:Int) (ua:List AV) (ub:Int) (uc:Int):Option ((List AV) × (List AV) × Int × Int):=T123 some none a1 ua ub uc
theorem n123 {β:Type} (k:((List AV) × (List AV) × Int × Int)→β) (n:β) (a1:Int) (ua:List AV) (ub:Int) (uc:Int):T123 k n a1 ua ub uc=oe k n (W123 a1 ua ub uc):=by
 unfold W123 T123
 simp only [oe_cond,oe_ro,oe_sum,oe_some,oe_none]
def q123 (a1:Int) (ua:List AV) (ub uc:Int):Bool:=(W123 a1 ua ub uc).isSome
def v123_0 (a1:Int) (ua:List AV) (ub uc:Int):List AV:=oe (fun t=>t.1) [] (W123 a1 ua ub uc)
def v123_1 (a1:Int) (ua:List AV) (ub uc:Int):List AV:=oe (fun t=>t.2.1) [] (W123 a1 ua ub uc)
def v123_2 (a1:Int) (ua:List AV) (ub uc:Int):Int:=oe (fun t=>t.2.2.1) 0 (W123 a1 ua ub uc)
def v123_3 (a1:Int) (ua:List AV) (ub uc:Int):Int:=oe (fun t=>t.2.2.2) 0 (W123 a1 ua ub uc)
theorem e123 (a1:Int) (ua:List AV) (ub uc:Int) (K:List AV→List (Option Blk)→Option AV):inlA c123 1 123 [AV.ptr [1] 0 0,Ai a1] [0] (canH 1 [⟨true,[],[AV.agg [AV.sl [.int .u8] ua,Ai ub,Ai uc]]⟩]) (keepG Tryz.prog 1 [25] [] K)=T123 (fun t=>K [AV.fl [.int .i64] t.1] [some ⟨true,[],[AV.agg [AV.sl [.int .u8] t.2.1,Ai t.2.2.1,Ai t.2.2.2]]⟩]) none a1 ua ub uc:=by kernel_rfl
theorem r123 (a1:Int) (ua:List AV) (ub uc:Int) (K:List AV→List (Option Blk)→Option AV) (h:q123 a1 ua ub uc=true):inlA c123 1 123 [AV.ptr [1] 0 0,AV.int .i64 a1] [0] (canH 1 [⟨true,[],[AV.agg [AV.sl [.int .u8] ua,AV.int .i64 ub,AV.int .i64 uc]]⟩]) (keepG Tryz.prog 1 [25] [] K)=K [AV.fl [.int .i64] (v123_0 a1 ua ub uc)] [some ⟨true,[],[AV.agg [AV.sl [.int .u8] (v123_1 a1 ua ub uc),AV.int .i64 (v123_2 a1 ua ub uc),AV.int .i64 (v123_3 a1 ua ub uc)]]⟩]:=by
 refine ((e123 a1 ua ub uc K).trans (n123 _ _ a1 ua ub uc)).trans ?_
 unfold q123 at h
 unfold v123_0 v123_1 v123_2 v123_3
 generalize W123 a1 ua ub uc=o at *
 cases o with
 | none=>cases h
 | some t=>rfl
def m123:GModel
 | [.ptr g0 g1 g2,.int .i64 a1],[⟨true,[],[.agg [.sl g3 ua,.int .i64 ub,.int .i64 uc]]⟩]=>bif nmEq g0 ([1]) && Nat.beq g1 0 && Nat.beq g2 0 && ctsEq g3 ([.int .u8]) then some (q123 a1 ua ub uc,[AV.fl [.int .i64] (v123_0 a1 ua ub uc)],[some ⟨true,[],[AV.agg [AV.sl [.int .u8] (v123_1 a1 ua ub uc),AV.int .i64 (v123_2 a1 ua ub uc),AV.int .i64 (v123_3 a1 ua ub uc)]]⟩]) else none
 | _,_=>none
theorem k123:Known Tryz.prog 123:=⟨Tryz.f123,Tryz.func123,by kernel_rfl,by kernel_rfl⟩
theorem meets123:MeetsG Tryz.prog 123 m123:=by
 refine mg (rt:=[25]) (gs:=[]) (lvl:=0) (cf:=c123) rfl mixed k123 Tryz.func123 (by kernel_rfl) (loops_cons ok123_0 noLoop) allT_nil (allG_cons meets42 (allG_cons meets93 allM_nil)) noI fun xs bs r bs' h K=>?_
 unfold m123 at h
 split at h
 ·rename_i g0 g1 g2 a1 g3 ua ub uc
  obtain ⟨hg,h⟩:=bif_pair h
  simp only [Bool.and_eq_true] at hg
  obtain ⟨⟨⟨q0,q1⟩,q2⟩,q3⟩:=hg
  obtain rfl:=nE q0
  obtain rfl:=bE q1
  obtain rfl:=bE q2
  obtain rfl:=cE q3
  obtain ⟨h1,rfl,rfl⟩:=trip_inj h
  exact r123 a1 ua ub uc K h1
 ·cases h
noncomputable def c52:Cfg:=cfg Tryz.prog [(52,999,[6])] [] [] [] []
def v52_0 (a0 a1 a2:Int):Bool:=(bif decide (a0 ≥ a1) then decide (a0≤a2) else false)
theorem e52 (a0 a1 a2:Int):funA c52 0 52 [Ai a0,Ai a1,Ai a2]=(bif decide (a0 ≥ a1) then some (AV.bool (decide (a0≤a2)))
 else some (AV.bool false)):=by kernel_rfl
def m52:TModel
 | [.int .i64 a0,.int .i64 a1,.int .i64 a2]=>some (true,AV.bool (v52_0 a0 a1 a2))
 | _=>none
theorem k52:Known Tryz.prog 52:=⟨Tryz.f52,Tryz.func52,by kernel_rfl,by kernel_rfl⟩
theorem meets52:Meets Tryz.prog 52 m52:=by
 refine mt (lvl:=0) (cf:=c52) rfl mixed k52 Tryz.func52 (by kernel_rfl) noLoop allT_nil allM_nil noI fun xs r h=>?_
 unfold m52 at h
 split at h
 ·rename_i a0 a1 a2
  obtain ⟨h1,rfl⟩:=pair_inj h
  exact (e52 a0 a1 a2).trans (of_tt (brT (fun b=>some (AV.bool (bif b then decide (a0≤a2) else false))) (fun _=>rfl) (fun _=>rfl)))
 ·cases h
def G116_0 {β:Type} (t0:List AV) (t3:Int) (N:(Int)→β) (K:(Unit ⊕ Unit)→β) (d:β):β:=(bif decide (t3<(t0.length:Int)) then (bif (decide (0≤t3) && decide (t3<(t0.length:Int))) then (bif !(v52_0 (fI (t0.getD t3.toNat .undef) 0) (-999) 999) then K (.inr ())
 else N (IntKind.i64.wrap (t3+1)))
 else d)
 else K (.inl ()))
def F116_0 (t0:List AV) (t3:Int):Out (Int) (Unit ⊕ Unit):=G116_0 t0 t3 .next .stop .fail
def R116_0 (t0:List AV):(Int)→Out (Int) (Unit ⊕ Unit):=fun s:Int=>F116_0 t0 s
def E116_0 (t0:List AV):(Int)→St:=fun s:Int=>⟨[(0,AV.sl [.int .i64] t0),(3,Ai s)],[]⟩
def K116_0 (t0:List AV) (k:Kont):(Unit ⊕ Unit)→Option AV:=sumE (fun _:Unit=>k (.exit 0) ⟨[(0,AV.sl [.int .i64] t0)],[]⟩) (fun _:Unit=>k .ret ⟨[(2,AV.bool false)],[]⟩)
def l116_0:LModel:=fun _ _ st k=>match st with
 | ⟨[(0,.sl g0 t0),(3,.int .i64 t3)],[]⟩=>bif ctsEq g0 ([.int .i64]) then ro (runW (R116_0 t0) (((t0.length:Int) - t3:Int).toNat+1) t3) none (K116_0 t0 k) else none
 | _=>none
noncomputable def c116:Cfg:=cfg Tryz.prog [(116,0,[0,3]),(116,999,[2]),(116,1000,[0]),(116,1001,[0,3])] [(52,m52)] [] [] [(116,0,l116_0)]
theorem s116_0 (t0:List AV) (ce:CallE) (k:Kont) (s:Int) (next:St→Option AV):stepA (codeA c116 ce [] 116 0 (sub [1,0,1,0,0] (body Tryz.f116))) (normA [] [0,3]) next ((E116_0 t0) s) k=G116_0 t0 s (fun s=>next ((E116_0 t0) s)) (K116_0 t0 k) none:=by kernel_rfl
theorem st116_0 (t0:List AV) (ce:CallE) (k:Kont) (s:Int) (next:St→Option AV):stepA (codeA c116 ce [] 116 0 (sub [1,0,1,0,0] (body Tryz.f116))) (normA [] [0,3]) next ((E116_0 t0) s) k=(R116_0 t0 s).el none (fun s=>next ((E116_0 t0) s)) (K116_0 t0 k):=(s116_0 t0 ce k s next).trans (by unfold R116_0;unfold F116_0 G116_0;simp only [el_cond,el_ro,el_sum,el_fail,el_next,el_stop] <;> rfl)
theorem ok116_0 {ce:CallE}:LoopOK c116 ce [] 116 0 (sub [1,0,1,0,0] (body Tryz.f116)):=by
 intro m hm st k r h
 obtain rfl:l116_0=m:=Option.some.inj hm
 unfold l116_0 at h
 split at h
 ·rename_i g0 t0 t3
  obtain ⟨hg,h⟩:=bif_some h
  have q0:=hg
  obtain rfl:=cE q0
  refine ⟨(((t0.length:Int) - t3:Int).toNat+1),?_⟩
  rw [← h]
  exact loop_run (E116_0 t0) (K116_0 t0 k) (st116_0 t0 ce k) _ t3
 ·cases h
def q116 (a0:List AV):Bool:=(ro (runW (R116_0 a0) (((a0.length:Int) - 0:Int).toNat+1) 0) false (sumE (fun _=>true) (fun _=>true)))
def v116_0 (a0:List AV):Bool:=(ro (runW (R116_0 a0) (((a0.length:Int) - 0:Int).toNat+1) 0) false (sumE (fun _=>decide ((a0.length:Int)≤64)) (fun _=>false)))
theorem e116 (a0:List AV):funA c116 0 116 [AV.sl [.int .i64] a0]=(ro (runW (R116_0 a0) (((a0.length:Int) - 0:Int).toNat+1) 0) none (sumE (fun _=>some (AV.bool (decide ((a0.length:Int)≤64)))) (fun _=>some (AV.bool false)))):=by kernel_rfl
def m116:TModel
 | [.sl g0 a0]=>bif ctsEq g0 ([.int .i64]) then some (q116 a0,AV.bool (v116_0 a0)) else none
 | _=>none
theorem k116:Known Tryz.prog 116:=⟨Tryz.f116,Tryz.func116,by kernel_rfl,by kernel_rfl⟩
theorem meets116:Meets Tryz.prog 116 m116:=by
 refine mt (lvl:=0) (cf:=c116) rfl mixed k116 Tryz.func116 (by kernel_rfl) (loops_cons ok116_0 noLoop) (allT_cons meets52 allT_nil) allM_nil noI fun xs r h=>?_
 unfold m116 at h
 split at h
 ·rename_i g0 a0
  obtain ⟨hg,h⟩:=bif_pair h
  have q0:=hg
  obtain rfl:=cE q0
  obtain ⟨h1,rfl⟩:=pair_inj h
  exact (e116 a0).trans ((brO (fun o:Option (Unit ⊕ Unit)=>some (AV.bool (ro o false (sumE (fun _=>decide ((a0.length:Int)≤64)) (fun _=>false))))) (brS (fun o:Unit ⊕ Unit=>some (AV.bool ((sumE (fun _=>decide ((a0.length:Int)≤64)) (fun _=>false)) o))) (fun _=>(fun _=>rfl)) (fun _=>(fun _=>rfl)))) h1)
 ·cases h
def G125_0_s0 {β:Type} (t0:List AV) (h0:List AV) (t4:Int) (N:(Int ⊕ (Int × (List AV)))→β) (K:(Unit ⊕ ((List AV)))→β) (d:β):β:=(bif decide (t4<(t0.length:Int)) then (bif (decide ((([AV.int .i64 t4]).length)*8≤140737488355328) && decide ((([AV.int .i64 t4]).length)≤140737488355328)) then N (.inr (IntKind.i64.wrap (t4+1),[AV.int .i64 t4]))
 else d)
 else K (.inl ()))
def F125_0_s0 (t0 h0:List AV) (t4:Int):Out (Int ⊕ (Int × (List AV))) (Unit ⊕ ((List AV))):=G125_0_s0 t0 h0 t4 .next .stop .fail
def G125_0_s1 {β:Type} (t0:List AV) (h0:List AV) (t4:Int) (h1:List AV) (N:(Int ⊕ (Int × (List AV)))→β) (K:(Unit ⊕ ((List AV)))→β) (d:β):β:=(bif decide (t4<(t0.length:Int)) then (bif (decide ((h1.length+([AV.int .i64 t4]).length)*8≤140737488355328) && decide ((h1.length+([AV.int .i64 t4]).length)≤140737488355328)) then N (.inr (IntKind.i64.wrap (t4+1),h1++([AV.int .i64 t4])))
 else d)
 else K (.inr h1))
def F125_0_s1 (t0 h0:List AV) (t4:Int) (h1:List AV):Out (Int ⊕ (Int × (List AV))) (Unit ⊕ ((List AV))):=G125_0_s1 t0 h0 t4 h1 .next .stop .fail
def R125_0 (t0 h0:List AV):(Int ⊕ (Int × (List AV)))→Out (Int ⊕ (Int × (List AV))) (Unit ⊕ ((List AV))):=sumE (fun s:Int=>F125_0_s0 t0 h0 s) (fun s:Int × (List AV)=>F125_0_s1 t0 h0 s.1 s.2)
def E125_0 (t0 h0:List AV):(Int ⊕ (Int × (List AV)))→St:=sumE (fun s:Int=>⟨[(0,AV.sl [.int .i64] t0),(2,AV.ptr [0,2] 0 0),(3,AV.ptr [0,3] 0 0),(4,Ai s)],[([0,0,3],⟨false,[.int .i64],h0⟩),([0,2],⟨true,[],[AV.agg [AV.snil,AV.snil,AV.snil]]⟩),([0,3],⟨true,[],[AV.agg [AV.own [0,0,3],AV.snil,AV.snil]]⟩)]⟩) (fun s:Int × (List AV)=>⟨[(0,AV.sl [.int .i64] t0),(2,AV.ptr [0,2] 0 0),(3,AV.ptr [0,3] 0 0),(4,Ai s.1)],[([0,0,3],⟨false,[.int .i64],h0⟩),([0,1,3],⟨false,[.int .i64],s.2⟩),([0,2],⟨true,[],[AV.agg [AV.snil,AV.snil,AV.snil]]⟩),([0,3],⟨true,[],[AV.agg [AV.own [0,0,3],AV.own [0,1,3],AV.snil]]⟩)]⟩)
def K125_0 (t0 h0:List AV) (k:Kont):(Unit ⊕ ((List AV)))→Option AV:=sumE (fun _:Unit=>k (.exit 0) ⟨[(2,AV.ptr [0,2] 0 0),(3,AV.ptr [0,3] 0 0)],[([0,0,3],⟨false,[.int .i64],h0⟩),([0,2],⟨true,[],[AV.agg [AV.snil,AV.snil,AV.snil]]⟩),([0,3],⟨true,[],[AV.agg [AV.own [0,0,3],AV.snil,AV.snil]]⟩)]⟩) (fun p:(List AV)=>k (.exit 0) ⟨[(2,AV.ptr [0,2] 0 0),(3,AV.ptr [0,3] 0 0)],[([0,0,3],⟨false,[.int .i64],h0⟩),([0,1,3],⟨false,[.int .i64],p⟩),([0,2],⟨true,[],[AV.agg [AV.snil,AV.snil,AV.snil]]⟩),([0,3],⟨true,[],[AV.agg [AV.own [0,0,3],AV.own [0,1,3],AV.snil]]⟩)]⟩)
def l125_0:LModel:=fun _ _ st k=>match st with
 | ⟨[(0,.sl g0 t0),(2,.ptr g1 g2 g3),(3,.ptr g4 g5 g6),(4,.int .i64 t4)],[(g7,⟨false,g8,h0⟩),(g9,⟨true,[],[.agg [.snil,.snil,.snil]]⟩),(g10,⟨true,[],[.agg [.own g11,.snil,.snil]]⟩)]⟩=>bif ctsEq g0 ([.int .i64]) && nmEq g1 ([0,2]) && Nat.beq g2 0 && Nat.beq g3 0 && nmEq g4 ([0,3]) && Nat.beq g5 0 && Nat.beq g6 0 && nmEq g7 ([0,0,3]) && ctsEq g8 ([.int .i64]) && nmEq g9 ([0,2]) && nmEq g10 ([0,3]) && nmEq g11 ([0,0,3]) then ro (runW (R125_0 t0 h0) (((t0.length:Int) - t4:Int).toNat+1) (.inl t4)) none (K125_0 t0 h0 k) else none
 | ⟨[(0,.sl g0 t0),(2,.ptr g1 g2 g3),(3,.ptr g4 g5 g6),(4,.int .i64 t4)],[(g7,⟨false,g8,h0⟩),(g9,⟨false,g10,h1⟩),(g11,⟨true,[],[.agg [.snil,.snil,.snil]]⟩),(g12,⟨true,[],[.agg [.own g13,.own g14,.snil]]⟩)]⟩=>bif ctsEq g0 ([.int .i64]) && nmEq g1 ([0,2]) && Nat.beq g2 0 && Nat.beq g3 0 && nmEq g4 ([0,3]) && Nat.beq g5 0 && Nat.beq g6 0 && nmEq g7 ([0,0,3]) && ctsEq g8 ([.int .i64]) && nmEq g9 ([0,1,3]) && ctsEq g10 ([.int .i64]) && nmEq g11 ([0,2]) && nmEq g12 ([0,3]) && nmEq g13 ([0,0,3]) && nmEq g14 ([0,1,3]) then ro (runW (R125_0 t0 h0) (((t0.length:Int) - t4:Int).toNat+1) (.inr (t4,h1))) none (K125_0 t0 h0 k) else none
 | _=>none
noncomputable def c125:Cfg:=cfg Tryz.prog [(125,0,[0,2,3,4]),(125,999,[2]),(125,1000,[2,3]),(125,1001,[0,2,3,4])] [(116,m116)] [] [] [(125,0,l125_0)]
theorem s125_0_s0 (t0 h0:List AV) (ce:CallE) (k:Kont) (s:Int) (next:St→Option AV):stepA (codeA c125 ce [] 125 0 (sub [1,1,1,0,1,0,0] (body Tryz.f125))) (normA [] [0,2,3,4]) next ((E125_0 t0 h0) (.inl s)) k=G125_0_s0 t0 h0 s (fun s=>next ((E125_0 t0 h0) s)) (K125_0 t0 h0 k) none:=by kernel_rfl
theorem s125_0_s1 (t0 h0:List AV) (ce:CallE) (k:Kont) (s:Int × (List AV)) (next:St→Option AV):stepA (codeA c125 ce [] 125 0 (sub [1,1,1,0,1,0,0] (body Tryz.f125))) (normA [] [0,2,3,4]) next ((E125_0 t0 h0) (.inr s)) k=G125_0_s1 t0 h0 s.1 s.2 (fun s=>next ((E125_0 t0 h0) s)) (K125_0 t0 h0 k) none:=by kernel_rfl
theorem st125_0 (t0 h0:List AV) (ce:CallE) (k:Kont) (s:Int ⊕ (Int × (List AV))) (next:St→Option AV):stepA (codeA c125 ce [] 125 0 (sub [1,1,1,0,1,0,0] (body Tryz.f125))) (normA [] [0,2,3,4]) next ((E125_0 t0 h0) s) k=(R125_0 t0 h0 s).el none (fun s=>next ((E125_0 t0 h0) s)) (K125_0 t0 h0 k):=(match s with | .inl s=>(s125_0_s0 t0 h0 ce k s next).trans (by unfold R125_0;unfold F125_0_s0 G125_0_s0;simp only [el_cond,el_ro,el_sum,el_fail,el_next,el_stop] <;> rfl) | .inr s=>(s125_0_s1 t0 h0 ce k s next).trans (by unfold R125_0;unfold F125_0_s1 G125_0_s1;simp only [el_cond,el_ro,el_sum,el_fail,el_next,el_stop] <;> rfl))
theorem ok125_0 {ce:CallE}:LoopOK c125 ce [] 125 0 (sub [1,1,1,0,1,0,0] (body Tryz.f125)):=by
 intro m hm st k r h
 obtain rfl:l125_0=m:=Option.some.inj hm
 unfold l125_0 at h
 split at h
 ·rename_i g0 t0 g1 g2 g3 g4 g5 g6 t4 g7 g8 h0 g9 g10 g11
  obtain ⟨hg,h⟩:=bif_some h
  simp only [Bool.and_eq_true] at hg
  obtain ⟨⟨⟨⟨⟨⟨⟨⟨⟨⟨⟨q0,q1⟩,q2⟩,q3⟩,q4⟩,q5⟩,q6⟩,q7⟩,q8⟩,q9⟩,q10⟩,q11⟩:=hg
  obtain rfl:=cE q0
  obtain rfl:=nE q1
  obtain rfl:=bE q2
  obtain rfl:=bE q3
  obtain rfl:=nE q4
  obtain rfl:=bE q5
  obtain rfl:=bE q6
  obtain rfl:=nE q7
  obtain rfl:=cE q8
  obtain rfl:=nE q9
  obtain rfl:=nE q10
  obtain rfl:=nE q11
  refine ⟨(((t0.length:Int) - t4:Int).toNat+1),?_⟩
  rw [← h]
  exact loop_run (E125_0 t0 h0) (K125_0 t0 h0 k) (st125_0 t0 h0 ce k) _ (.inl t4)
 ·rename_i g0 t0 g1 g2 g3 g4 g5 g6 t4 g7 g8 h0 g9 g10 h1 g11 g12 g13 g14
  obtain ⟨hg,h⟩:=bif_some h
  simp only [Bool.and_eq_true] at hg
  obtain ⟨⟨⟨⟨⟨⟨⟨⟨⟨⟨⟨⟨⟨⟨q0,q1⟩,q2⟩,q3⟩,q4⟩,q5⟩,q6⟩,q7⟩,q8⟩,q9⟩,q10⟩,q11⟩,q12⟩,q13⟩,q14⟩:=hg
  obtain rfl:=cE q0
  obtain rfl:=nE q1
  obtain rfl:=bE q2
  obtain rfl:=bE q3
  obtain rfl:=nE q4
  obtain rfl:=bE q5
  obtain rfl:=bE q6
  obtain rfl:=nE q7
  obtain rfl:=cE q8
  obtain rfl:=nE q9
  obtain rfl:=cE q10
  obtain rfl:=nE q11
  obtain rfl:=nE q12
  obtain rfl:=nE q13
  obtain rfl:=nE q14
  refine ⟨(((t0.length:Int) - t4:Int).toNat+1),?_⟩
  rw [← h]
  exact loop_run (E125_0 t0 h0) (K125_0 t0 h0 k) (st125_0 t0 h0 ce k) _ (.inr (t4,h1))
 ·cases h
def q125 (a0:List AV):Bool:=(q116 a0 && (bif !(v116_0 a0) then true else ((decide ((([]:List AV).length+a0.length)*8≤140737488355328) && decide ((([]:List AV).length+a0.length)≤140737488355328)) && (ro (runW (R125_0 a0 (([]:List AV)++a0)) (((a0.length:Int) - 0:Int).toNat+1) (.inl 0)) false (sumE (fun _=>true) (fun p6=>true))))))
def v125_0 (a0:List AV):List AV:=(bif !(v116_0 a0) then ([]:List AV) else ([]:List AV)++a0)
def v125_1 (a0:List AV):List AV:=(bif !(v116_0 a0) then ([]:List AV) else (ro (runW (R125_0 a0 (([]:List AV)++a0)) (((a0.length:Int) - 0:Int).toNat+1) (.inl 0)) [] (sumE (fun _=>([]:List AV)) (fun p6=>p6))))
def v125_2 (a0:List AV):List AV:=([]:List AV)
theorem e125 (a0:List AV):funA c125 0 125 [AV.sl [.int .i64] a0]=(bif q116 a0 then (bif !(v116_0 a0) then some (AV.agg [AV.fl [.int .i64] ([]:List AV),AV.fl [.int .i64] ([]:List AV),AV.fl [.int .i64,.int .i64] ([]:List AV)])
 else (bif (decide ((([]:List AV).length+a0.length)*8≤140737488355328) && decide ((([]:List AV).length+a0.length)≤140737488355328)) then (ro (runW (R125_0 a0 (([]:List AV)++a0)) (((a0.length:Int) - 0:Int).toNat+1) (.inl 0)) none (sumE (fun _=>some (AV.agg [AV.fl [.int .i64] (([]:List AV)++a0),AV.fl [.int .i64] ([]:List AV),AV.fl [.int .i64,.int .i64] ([]:List AV)])) (fun p6=>some (AV.agg [AV.fl [.int .i64] (([]:List AV)++a0),AV.fl [.int .i64] p6,AV.fl [.int .i64,.int .i64] ([]:List AV)]))))
 else none))
 else none):=by kernel_rfl
def m125:TModel
 | [.sl g0 a0]=>bif ctsEq g0 ([.int .i64]) then some (q125 a0,AV.agg [AV.fl [.int .i64] (v125_0 a0),AV.fl [.int .i64] (v125_1 a0),AV.fl [.int .i64,.int .i64] (v125_2 a0)]) else none
 | _=>none
theorem k125:Known Tryz.prog 125:=⟨Tryz.f125,Tryz.func125,by kernel_rfl,by kernel_rfl⟩
theorem meets125:Meets Tryz.prog 125 m125:=by
 refine mt (lvl:=0) (cf:=c125) rfl mixed k125 Tryz.func125 (by kernel_rfl) (loops_cons ok125_0 noLoop) (allT_cons meets116 allT_nil) allM_nil noI fun xs r h=>?_
 unfold m125 at h
 split at h
 ·rename_i g0 a0
  obtain ⟨hg,h⟩:=bif_pair h
  have q0:=hg
  obtain rfl:=cE q0
  obtain ⟨h1,rfl⟩:=pair_inj h
  exact (e125 a0).trans ((brL (br (fun b=>some (AV.agg [AV.fl [.int .i64] (bif b then ([]:List AV) else ([]:List AV)++a0),AV.fl [.int .i64] (bif b then ([]:List AV) else (ro (runW (R125_0 a0 (([]:List AV)++a0)) (((a0.length:Int) - 0:Int).toNat+1) (.inl 0)) [] (sumE (fun _=>([]:List AV)) (fun p6=>p6)))),AV.fl [.int .i64,.int .i64] ([]:List AV)])) (fun _=>rfl) (brL (brO (fun o:Option (Unit ⊕ ((List AV)))=>some (AV.agg [AV.fl [.int .i64] (([]:List AV)++a0),AV.fl [.int .i64] (ro o [] (sumE (fun _=>([]:List AV)) (fun p6=>p6))),AV.fl [.int .i64,.int .i64] ([]:List AV)])) (brS (fun o:Unit ⊕ ((List AV))=>some (AV.agg [AV.fl [.int .i64] (([]:List AV)++a0),AV.fl [.int .i64] ((sumE (fun _=>([]:List AV)) (fun p6=>p6)) o),AV.fl [.int .i64,.int .i64] ([]:List AV)])) (fun _=>(fun _=>rfl)) (fun p6=>(fun _=>rfl))))))) h1)
 ·cases h
def G135_0_s0 {β:Type} (t0:List AV) (t4:Int) (h0:Int) (h1:List AV) (h2:Int) (h3:List AV) (h4:List AV) (N:((Int × Int × (List AV) × Int × (List AV) × (List AV)) ⊕ (Int × (List AV) × Int × (List AV) × Int × (List AV) × (List AV)))→β) (K:((Int × (List AV) × Int × (List AV) × (List AV)) ⊕ ((List AV) × Int × (List AV) × Int × (List AV) × (List AV)))→β) (d:β):β:=(bif decide (t4<(t0.length:Int)) then (bif (decide (0≤t4) && decide (t4<(t0.length:Int))) then (bif (decide ((([AV.agg [AV.int .i64 (fI (t0.getD t4.toNat .undef) 0),AV.int .i64 t4,AV.int .i64 0,AV.int .i64 (-1)]]).length)*32≤140737488355328) && decide ((([AV.agg [AV.int .i64 (fI (t0.getD t4.toNat .undef) 0),AV.int .i64 t4,AV.int .i64 0,AV.int .i64 (-1)]]).length)≤140737488355328)) then N (.inr (IntKind.i64.wrap (t4+1),[AV.agg [AV.int .i64 (fI (t0.getD t4.toNat .undef) 0),AV.int .i64 t4,AV.int .i64 0,AV.int .i64 (-1)]],h0,h1,h2,h3,h4))
 else d)
 else d)
 else K (.inl (h0,h1,h2,h3,h4)))
def F135_0_s0 (t0:List AV) (t4 h0:Int) (h1:List AV) (h2:Int) (h3 h4:List AV):Out ((Int × Int × (List AV) × Int × (List AV) × (List AV)) ⊕ (Int × (List AV) × Int × (List AV) × Int × (List AV) × (List AV))) ((Int × (List AV) × Int × (List AV) × (List AV)) ⊕ ((List AV) × Int × (List AV) × Int × (List AV) × (List AV))):=G135_0_s0 t0 t4 h0 h1 h2 h3 h4 .next .stop .fail
def G135_0_s1 {β:Type} (t0:List AV) (t4:Int) (h0:List AV) (h1:Int) (h2:List AV) (h3:Int) (h4:List AV) (h5:List AV) (N:((Int × Int × (List AV) × Int × (List AV) × (List AV)) ⊕ (Int × (List AV) × Int × (List AV) × Int × (List AV) × (List AV)))→β) (K:((Int × (List AV) × Int × (List AV) × (List AV)) ⊕ ((List AV) × Int × (List AV) × Int × (List AV) × (List AV)))→β) (d:β):β:=(bif decide (t4<(t0.length:Int)) then (bif (decide (0≤t4) && decide (t4<(t0.length:Int))) then (bif (decide ((h0.length+([AV.agg [AV.int .i64 (fI (t0.getD t4.toNat .undef) 0),AV.int .i64 t4,AV.int .i64 0,AV.int .i64 (-1)]]).length)*32≤140737488355328) && decide ((h0.length+([AV.agg [AV.int .i64 (fI (t0.getD t4.toNat .undef) 0),AV.int .i64 t4,AV.int .i64 0,AV.int .i64 (-1)]]).length)≤140737488355328)) then N (.inr (IntKind.i64.wrap (t4+1),h0++([AV.agg [AV.int .i64 (fI (t0.getD t4.toNat .undef) 0),AV.int .i64 t4,AV.int .i64 0,AV.int .i64 (-1)]]),h1,h2,h3,h4,h5))
 else d)
 else d)
 else K (.inr (h0,h1,h2,h3,h4,h5)))
def F135_0_s1 (t0:List AV) (t4:Int) (h0:List AV) (h1:Int) (h2:List AV) (h3:Int) (h4 h5:List AV):Out ((Int × Int × (List AV) × Int × (List AV) × (List AV)) ⊕ (Int × (List AV) × Int × (List AV) × Int × (List AV) × (List AV))) ((Int × (List AV) × Int × (List AV) × (List AV)) ⊕ ((List AV) × Int × (List AV) × Int × (List AV) × (List AV))):=G135_0_s1 t0 t4 h0 h1 h2 h3 h4 h5 .next .stop .fail
def R135_0 (t0:List AV):((Int × Int × (List AV) × Int × (List AV) × (List AV)) ⊕ (Int × (List AV) × Int × (List AV) × Int × (List AV) × (List AV)))→Out ((Int × Int × (List AV) × Int × (List AV) × (List AV)) ⊕ (Int × (List AV) × Int × (List AV) × Int × (List AV) × (List AV))) ((Int × (List AV) × Int × (List AV) × (List AV)) ⊕ ((List AV) × Int × (List AV) × Int × (List AV) × (List AV))):=sumE (fun s:Int × Int × (List AV) × Int × (List AV) × (List AV)=>F135_0_s0 t0 s.1 s.2.1 s.2.2.1 s.2.2.2.1 s.2.2.2.2.1 s.2.2.2.2.2) (fun s:Int × (List AV) × Int × (List AV) × Int × (List AV) × (List AV)=>F135_0_s1 t0 s.1 s.2.1 s.2.2.1 s.2.2.2.1 s.2.2.2.2.1 s.2.2.2.2.2.1 s.2.2.2.2.2.2)
def E135_0 (t0:List AV):((Int × Int × (List AV) × Int × (List AV) × (List AV)) ⊕ (Int × (List AV) × Int × (List AV) × Int × (List AV) × (List AV)))→St:=sumE (fun s:Int × Int × (List AV) × Int × (List AV) × (List AV)=>⟨[(0,AV.sl [.int .i64] t0),(2,AV.ptr [0,2] 0 0),(3,AV.ptr [0,3] 0 0),(4,Ai s.1)],[([0,2],⟨true,[],[AV.agg [AV.snil,Ai s.2.1,AV.snil,AV.snil,AV.snil]]⟩),([0,2,3],⟨false,[.int .i64],s.2.2.1⟩),([0,3],⟨true,[],[AV.agg [AV.snil,Ai s.2.2.2.1,AV.own [0,2,3],AV.own [0,3,3],AV.own [0,4,3]]]⟩),([0,3,3],⟨false,[.int .i64],s.2.2.2.2.1⟩),([0,4,3],⟨false,[.int .i64,.int .i64],s.2.2.2.2.2⟩)]⟩) (fun s:Int × (List AV) × Int × (List AV) × Int × (List AV) × (List AV)=>⟨[(0,AV.sl [.int .i64] t0),(2,AV.ptr [0,2] 0 0),(3,AV.ptr [0,3] 0 0),(4,Ai s.1)],[([0,0,3],⟨false,[.int .i64,.int .i64,.int .i64,.int .i64],s.2.1⟩),([0,2],⟨true,[],[AV.agg [AV.snil,Ai s.2.2.1,AV.snil,AV.snil,AV.snil]]⟩),([0,2,3],⟨false,[.int .i64],s.2.2.2.1⟩),([0,3],⟨true,[],[AV.agg [AV.own [0,0,3],Ai s.2.2.2.2.1,AV.own [0,2,3],AV.own [0,3,3],AV.own [0,4,3]]]⟩),([0,3,3],⟨false,[.int .i64],s.2.2.2.2.2.1⟩),([0,4,3],⟨false,[.int .i64,.int .i64],s.2.2.2.2.2.2⟩)]⟩)
def K135_0 (t0:List AV) (k:Kont):((Int × (List AV) × Int × (List AV) × (List AV)) ⊕ ((List AV) × Int × (List AV) × Int × (List AV) × (List AV)))→Option AV:=sumE (fun p:Int × (List AV) × Int × (List AV) × (List AV)=>k (.exit 0) ⟨[(2,AV.ptr [0,2] 0 0),(3,AV.ptr [0,3] 0 0)],[([0,2],⟨true,[],[AV.agg [AV.snil,Ai p.1,AV.snil,AV.snil,AV.snil]]⟩),([0,2,3],⟨false,[.int .i64],p.2.1⟩),([0,3],⟨true,[],[AV.agg [AV.snil,Ai p.2.2.1,AV.own [0,2,3],AV.own [0,3,3],AV.own [0,4,3]]]⟩),([0,3,3],⟨false,[.int .i64],p.2.2.2.1⟩),([0,4,3],⟨false,[.int .i64,.int .i64],p.2.2.2.2⟩)]⟩) (fun p:(List AV) × Int × (List AV) × Int × (List AV) × (List AV)=>k (.exit 0) ⟨[(2,AV.ptr [0,2] 0 0),(3,AV.ptr [0,3] 0 0)],[([0,0,3],⟨false,[.int .i64,.int .i64,.int .i64,.int .i64],p.1⟩),([0,2],⟨true,[],[AV.agg [AV.snil,Ai p.2.1,AV.snil,AV.snil,AV.snil]]⟩),([0,2,3],⟨false,[.int .i64],p.2.2.1⟩),([0,3],⟨true,[],[AV.agg [AV.own [0,0,3],Ai p.2.2.2.1,AV.own [0,2,3],AV.own [0,3,3],AV.own [0,4,3]]]⟩),([0,3,3],⟨false,[.int .i64],p.2.2.2.2.1⟩),([0,4,3],⟨false,[.int .i64,.int .i64],p.2.2.2.2.2⟩)]⟩)
def l135_0:LModel:=fun _ _ st k=>match st with
 | ⟨[(0,.sl g0 t0),(2,.ptr g1 g2 g3),(3,.ptr g4 g5 g6),(4,.int .i64 t4)],[(g7,⟨true,[],[.agg [.snil,.int .i64 h0,.snil,.snil,.snil]]⟩),(g8,⟨false,g9,h1⟩),(g10,⟨true,[],[.agg [.snil,.int .i64 h2,.own g11,.own g12,.own g13]]⟩),(g14,⟨false,g15,h3⟩),(g16,⟨false,g17,h4⟩)]⟩=>bif ctsEq g0 ([.int .i64]) && nmEq g1 ([0,2]) && Nat.beq g2 0 && Nat.beq g3 0 && nmEq g4 ([0,3]) && Nat.beq g5 0 && Nat.beq g6 0 && nmEq g7 ([0,2]) && nmEq g8 ([0,2,3]) && ctsEq g9 ([.int .i64]) && nmEq g10 ([0,3]) && nmEq g11 ([0,2,3]) && nmEq g12 ([0,3,3]) && nmEq g13 ([0,4,3]) && nmEq g14 ([0,3,3]) && ctsEq g15 ([.int .i64]) && nmEq g16 ([0,4,3]) && ctsEq g17 ([.int .i64,.int .i64]) then ro (runW (R135_0 t0) (((t0.length:Int) - t4:Int).toNat+1) (.inl (t4,h0,h1,h2,h3,h4))) none (K135_0 t0 k) else none
 | ⟨[(0,.sl g0 t0),(2,.ptr g1 g2 g3),(3,.ptr g4 g5 g6),(4,.int .i64 t4)],[(g7,⟨false,g8,h0⟩),(g9,⟨true,[],[.agg [.snil,.int .i64 h1,.snil,.snil,.snil]]⟩),(g10,⟨false,g11,h2⟩),(g12,⟨true,[],[.agg [.own g13,.int .i64 h3,.own g14,.own g15,.own g16]]⟩),(g17,⟨false,g18,h4⟩),(g19,⟨false,g20,h5⟩)]⟩=>bif ctsEq g0 ([.int .i64]) && nmEq g1 ([0,2]) && Nat.beq g2 0 && Nat.beq g3 0 && nmEq g4 ([0,3]) && Nat.beq g5 0 && Nat.beq g6 0 && nmEq g7 ([0,0,3]) && ctsEq g8 ([.int .i64,.int .i64,.int .i64,.int .i64]) && nmEq g9 ([0,2]) && nmEq g10 ([0,2,3]) && ctsEq g11 ([.int .i64]) && nmEq g12 ([0,3]) && nmEq g13 ([0,0,3]) && nmEq g14 ([0,2,3]) && nmEq g15 ([0,3,3]) && nmEq g16 ([0,4,3]) && nmEq g17 ([0,3,3]) && ctsEq g18 ([.int .i64]) && nmEq g19 ([0,4,3]) && ctsEq g20 ([.int .i64,.int .i64]) then ro (runW (R135_0 t0) (((t0.length:Int) - t4:Int).toNat+1) (.inr (t4,h0,h1,h2,h3,h4,h5))) none (K135_0 t0 k) else none
 | _=>none
noncomputable def c135:Cfg:=cfg Tryz.prog [(135,0,[0,2,3,4]),(135,999,[2]),(135,1000,[2,3]),(135,1001,[0,2,3,4])] [(116,m116),(125,m125)] [] [] [(135,0,l135_0)]
theorem s135_0_s0 (t0:List AV) (ce:CallE) (k:Kont) (s:Int × Int × (List AV) × Int × (List AV) × (List AV)) (next:St→Option AV):stepA (codeA c135 ce [] 135 0 (sub [1,1,1,0,1,0,0] (body Tryz.f135))) (normA [] [0,2,3,4]) next ((E135_0 t0) (.inl s)) k=G135_0_s0 t0 s.1 s.2.1 s.2.2.1 s.2.2.2.1 s.2.2.2.2.1 s.2.2.2.2.2 (fun s=>next ((E135_0 t0) s)) (K135_0 t0 k) none:=by kernel_rfl
theorem s135_0_s1 (t0:List AV) (ce:CallE) (k:Kont) (s:Int × (List AV) × Int × (List AV) × Int × (List AV) × (List AV)) (next:St→Option AV):stepA (codeA c135 ce [] 135 0 (sub [1,1,1,0,1,0,0] (body Tryz.f135))) (normA [] [0,2,3,4]) next ((E135_0 t0) (.inr s)) k=G135_0_s1 t0 s.1 s.2.1 s.2.2.1 s.2.2.2.1 s.2.2.2.2.1 s.2.2.2.2.2.1 s.2.2.2.2.2.2 (fun s=>next ((E135_0 t0) s)) (K135_0 t0 k) none:=by kernel_rfl
theorem st135_0 (t0:List AV) (ce:CallE) (k:Kont) (s:(Int × Int × (List AV) × Int × (List AV) × (List AV)) ⊕ (Int × (List AV) × Int × (List AV) × Int × (List AV) × (List AV))) (next:St→Option AV):stepA (codeA c135 ce [] 135 0 (sub [1,1,1,0,1,0,0] (body Tryz.f135))) (normA [] [0,2,3,4]) next ((E135_0 t0) s) k=(R135_0 t0 s).el none (fun s=>next ((E135_0 t0) s)) (K135_0 t0 k):=(match s with | .inl s=>(s135_0_s0 t0 ce k s next).trans (by unfold R135_0;unfold F135_0_s0 G135_0_s0;simp only [el_cond,el_ro,el_sum,el_fail,el_next,el_stop] <;> rfl) | .inr s=>(s135_0_s1 t0 ce k s next).trans (by unfold R135_0;unfold F135_0_s1 G135_0_s1;simp only [el_cond,el_ro,el_sum,el_fail,el_next,el_stop] <;> rfl))
theorem ok135_0 {ce:CallE}:LoopOK c135 ce [] 135 0 (sub [1,1,1,0,1,0,0] (body Tryz.f135)):=by
 intro m hm st k r h
 obtain rfl:l135_0=m:=Option.some.inj hm
 unfold l135_0 at h
 split at h
 ·rename_i g0 t0 g1 g2 g3 g4 g5 g6 t4 g7 h0 g8 g9 h1 g10 h2 g11 g12 g13 g14 g15 h3 g16 g17 h4
  obtain ⟨hg,h⟩:=bif_some h
  simp only [Bool.and_eq_true] at hg
  obtain ⟨⟨⟨⟨⟨⟨⟨⟨⟨⟨⟨⟨⟨⟨⟨⟨⟨q0,q1⟩,q2⟩,q3⟩,q4⟩,q5⟩,q6⟩,q7⟩,q8⟩,q9⟩,q10⟩,q11⟩,q12⟩,q13⟩,q14⟩,q15⟩,q16⟩,q17⟩:=hg
  obtain rfl:=cE q0
  obtain rfl:=nE q1
  obtain rfl:=bE q2
  obtain rfl:=bE q3
  obtain rfl:=nE q4
  obtain rfl:=bE q5
  obtain rfl:=bE q6
  obtain rfl:=nE q7
  obtain rfl:=nE q8
  obtain rfl:=cE q9
  obtain rfl:=nE q10
  obtain rfl:=nE q11
  obtain rfl:=nE q12
  obtain rfl:=nE q13
  obtain rfl:=nE q14
  obtain rfl:=cE q15
  obtain rfl:=nE q16
  obtain rfl:=cE q17
  refine ⟨(((t0.length:Int) - t4:Int).toNat+1),?_⟩
  rw [← h]
  exact loop_run (E135_0 t0) (K135_0 t0 k) (st135_0 t0 ce k) _ (.inl (t4,h0,h1,h2,h3,h4))
 ·rename_i g0 t0 g1 g2 g3 g4 g5 g6 t4 g7 g8 h0 g9 h1 g10 g11 h2 g12 g13 h3 g14 g15 g16 g17 g18 h4 g19 g20 h5
  obtain ⟨hg,h⟩:=bif_some h
  simp only [Bool.and_eq_true] at hg
  obtain ⟨⟨⟨⟨⟨⟨⟨⟨⟨⟨⟨⟨⟨⟨⟨⟨⟨⟨⟨⟨q0,q1⟩,q2⟩,q3⟩,q4⟩,q5⟩,q6⟩,q7⟩,q8⟩,q9⟩,q10⟩,q11⟩,q12⟩,q13⟩,q14⟩,q15⟩,q16⟩,q17⟩,q18⟩,q19⟩,q20⟩:=hg
  obtain rfl:=cE q0
  obtain rfl:=nE q1
  obtain rfl:=bE q2
  obtain rfl:=bE q3
  obtain rfl:=nE q4
  obtain rfl:=bE q5
  obtain rfl:=bE q6
  obtain rfl:=nE q7
  obtain rfl:=cE q8
  obtain rfl:=nE q9
  obtain rfl:=nE q10
  obtain rfl:=cE q11
  obtain rfl:=nE q12
  obtain rfl:=nE q13
  obtain rfl:=nE q14
  obtain rfl:=nE q15
  obtain rfl:=nE q16
  obtain rfl:=nE q17
  obtain rfl:=cE q18
  obtain rfl:=nE q19
  obtain rfl:=cE q20
  refine ⟨(((t0.length:Int) - t4:Int).toNat+1),?_⟩
  rw [← h]
  exact loop_run (E135_0 t0) (K135_0 t0 k) (st135_0 t0 ce k) _ (.inr (t4,h0,h1,h2,h3,h4,h5))
 ·cases h
def q135 (a0:List AV):Bool:=(q116 a0 && (bif !(v116_0 a0) then true else (q125 a0 && (ro (runW (R135_0 a0) (((a0.length:Int) - 0:Int).toNat+1) (.inl (0,0,(v125_0 a0),0,(v125_1 a0),(v125_2 a0)))) false (sumE (fun p7=>true) (fun p8=>true))))))
def v135_0 (a0:List AV):List AV:=(bif !(v116_0 a0) then ([]:List AV) else (ro (runW (R135_0 a0) (((a0.length:Int) - 0:Int).toNat+1) (.inl (0,0,(v125_0 a0),0,(v125_1 a0),(v125_2 a0)))) [] (sumE (fun p7=>([]:List AV)) (fun p8=>p8.1))))
def v135_1 (a0:List AV):Int:=(bif !(v116_0 a0) then 0 else (ro (runW (R135_0 a0) (((a0.length:Int) - 0:Int).toNat+1) (.inl (0,0,(v125_0 a0),0,(v125_1 a0),(v125_2 a0)))) 0 (sumE (fun p7=>p7.2.2.1) (fun p8=>p8.2.2.2.1))))
def v135_2 (a0:List AV):List AV:=(bif !(v116_0 a0) then ([]:List AV) else (ro (runW (R135_0 a0) (((a0.length:Int) - 0:Int).toNat+1) (.inl (0,0,(v125_0 a0),0,(v125_1 a0),(v125_2 a0)))) [] (sumE (fun p7=>p7.2.1) (fun p8=>p8.2.2.1))))
def v135_3 (a0:List AV):List AV:=(bif !(v116_0 a0) then ([]:List AV) else (ro (runW (R135_0 a0) (((a0.length:Int) - 0:Int).toNat+1) (.inl (0,0,(v125_0 a0),0,(v125_1 a0),(v125_2 a0)))) [] (sumE (fun p7=>p7.2.2.2.1) (fun p8=>p8.2.2.2.2.1))))
def v135_4 (a0:List AV):List AV:=(bif !(v116_0 a0) then ([]:List AV) else (ro (runW (R135_0 a0) (((a0.length:Int) - 0:Int).toNat+1) (.inl (0,0,(v125_0 a0),0,(v125_1 a0),(v125_2 a0)))) [] (sumE (fun p7=>p7.2.2.2.2) (fun p8=>p8.2.2.2.2.2))))
theorem e135 (a0:List AV):funA c135 0 135 [AV.sl [.int .i64] a0]=(bif q116 a0 then (bif !(v116_0 a0) then some (AV.agg [AV.fl [.int .i64,.int .i64,.int .i64,.int .i64] ([]:List AV),Ai 0,AV.fl [.int .i64] ([]:List AV),AV.fl [.int .i64] ([]:List AV),AV.fl [.int .i64,.int .i64] ([]:List AV)])
 else (bif q125 a0 then (ro (runW (R135_0 a0) (((a0.length:Int) - 0:Int).toNat+1) (.inl (0,0,(v125_0 a0),0,(v125_1 a0),(v125_2 a0)))) none (sumE (fun p7=>some (AV.agg [AV.fl [.int .i64,.int .i64,.int .i64,.int .i64] ([]:List AV),Ai p7.2.2.1,AV.fl [.int .i64] p7.2.1,AV.fl [.int .i64] p7.2.2.2.1,AV.fl [.int .i64,.int .i64] p7.2.2.2.2])) (fun p8=>some (AV.agg [AV.fl [.int .i64,.int .i64,.int .i64,.int .i64] p8.1,Ai p8.2.2.2.1,AV.fl [.int .i64] p8.2.2.1,AV.fl [.int .i64] p8.2.2.2.2.1,AV.fl [.int .i64,.int .i64] p8.2.2.2.2.2]))))
 else none))
 else none):=by kernel_rfl
theorem r135 (a0:List AV) (h:q135 a0=true):funA c135 0 135 [AV.sl [.int .i64] a0]=some (AV.agg [AV.fl [.int .i64,.int .i64,.int .i64,.int .i64] (v135_0 a0),AV.int .i64 (v135_1 a0),AV.fl [.int .i64] (v135_2 a0),AV.fl [.int .i64] (v135_3 a0),AV.fl [.int .i64,.int .i64] (v135_4 a0)]):=by
 refine (e135 a0).trans ?_
 unfold q135 at h
 unfold v135_0 v135_1 v135_2 v135_3 v135_4
 refine ifG (fun hc=>?_) (fun hc=>?_) <;> first|rw [hc] at h ⊢|rw [hc] at h|rw [hc]|skip
 ·refine ifG (fun hc=>?_) (fun hc=>?_) <;> first|rw [hc] at h ⊢|rw [hc] at h|rw [hc]|skip
  ·rfl
  ·refine ifG (fun hc=>?_) (fun hc=>?_) <;> first|rw [hc] at h ⊢|rw [hc] at h|rw [hc]|skip
   ·refine roG (fun hc=>?_) (fun r hc=>?_) <;> first|rw [hc] at h ⊢|rw [hc] at h|rw [hc]|skip
    ·exact Bool.noConfusion h
    ·try simp only [ro] at h ⊢
     cases r with
     | inl p7 =>
      try simp only [sumE] at h ⊢
      rfl
     | inr p8 =>
      try simp only [sumE] at h ⊢
      rfl
   ·first|exact Bool.noConfusion h|exact Bool.noConfusion hc
 ·first|exact Bool.noConfusion h|exact Bool.noConfusion hc
def m135:TModel
 | [.sl g0 a0]=>bif ctsEq g0 ([.int .i64]) then some (q135 a0,AV.agg [AV.fl [.int .i64,.int .i64,.int .i64,.int .i64] (v135_0 a0),AV.int .i64 (v135_1 a0),AV.fl [.int .i64] (v135_2 a0),AV.fl [.int .i64] (v135_3 a0),AV.fl [.int .i64,.int .i64] (v135_4 a0)]) else none
 | _=>none
theorem k135:Known Tryz.prog 135:=⟨Tryz.f135,Tryz.func135,by kernel_rfl,by kernel_rfl⟩
theorem meets135:Meets Tryz.prog 135 m135:=by
 refine mt (lvl:=0) (cf:=c135) rfl mixed k135 Tryz.func135 (by kernel_rfl) (loops_cons ok135_0 noLoop) (allT_cons meets116 (allT_cons meets125 allT_nil)) allM_nil noI fun xs r h=>?_
 unfold m135 at h
 split at h
 ·rename_i g0 a0
  obtain ⟨hg,h⟩:=bif_pair h
  have q0:=hg
  obtain rfl:=cE q0
  obtain ⟨h1,rfl⟩:=pair_inj h
  exact r135 a0 h1
 ·cases h
noncomputable def c97:Cfg:=cfg Tryz.prog [(97,999,[4])] [] [(42,.g m42)] [] []
def T97 {β:Type} (k:(Bool × (List AV) × Int × Int)→β) (n:β) (a1:Int) (ua:List AV) (ub:Int) (uc:Int):β:=(bif q42 a1 ua ub uc then k (decide ((v42_0 a1 ua ub uc)=0),(v42_1 a1 ua ub uc),(v42_2 a1 ua ub uc),(v42_3 a1 ua ub uc))
 else n)
abbrev W97 (a1:Int) (ua:List AV) (ub:Int) (uc:Int):Option (Bool × (List AV) × Int × Int):=T97 some none a1 ua ub uc
theorem n97 {β:Type} (k:(Bool × (List AV) × Int × Int)→β) (n:β) (a1:Int) (ua:List AV) (ub:Int) (uc:Int):T97 k n a1 ua ub uc=oe k n (W97 a1 ua ub uc):=by
 unfold W97 T97
 simp only [oe_cond,oe_ro,oe_sum,oe_some,oe_none]
def q97 (a1:Int) (ua:List AV) (ub uc:Int):Bool:=(W97 a1 ua ub uc).isSome
def v97_0 (a1:Int) (ua:List AV) (ub uc:Int):Bool:=oe (fun t=>t.1) false (W97 a1 ua ub uc)
def v97_1 (a1:Int) (ua:List AV) (ub uc:Int):List AV:=oe (fun t=>t.2.1) [] (W97 a1 ua ub uc)
def v97_2 (a1:Int) (ua:List AV) (ub uc:Int):Int:=oe (fun t=>t.2.2.1) 0 (W97 a1 ua ub uc)
def v97_3 (a1:Int) (ua:List AV) (ub uc:Int):Int:=oe (fun t=>t.2.2.2) 0 (W97 a1 ua ub uc)
theorem e97 (a1:Int) (ua:List AV) (ub uc:Int) (K:List AV→List (Option Blk)→Option AV):inlA c97 1 97 [AV.ptr [1] 0 0,Ai a1] [0] (canH 1 [⟨true,[],[AV.agg [AV.sl [.int .u8] ua,Ai ub,Ai uc]]⟩]) (keepG Tryz.prog 1 [4] [] K)=T97 (fun t=>K [AV.bool t.1] [some ⟨true,[],[AV.agg [AV.sl [.int .u8] t.2.1,Ai t.2.2.1,Ai t.2.2.2]]⟩]) none a1 ua ub uc:=by kernel_rfl
theorem r97 (a1:Int) (ua:List AV) (ub uc:Int) (K:List AV→List (Option Blk)→Option AV) (h:q97 a1 ua ub uc=true):inlA c97 1 97 [AV.ptr [1] 0 0,AV.int .i64 a1] [0] (canH 1 [⟨true,[],[AV.agg [AV.sl [.int .u8] ua,AV.int .i64 ub,AV.int .i64 uc]]⟩]) (keepG Tryz.prog 1 [4] [] K)=K [AV.bool (v97_0 a1 ua ub uc)] [some ⟨true,[],[AV.agg [AV.sl [.int .u8] (v97_1 a1 ua ub uc),AV.int .i64 (v97_2 a1 ua ub uc),AV.int .i64 (v97_3 a1 ua ub uc)]]⟩]:=by
 refine ((e97 a1 ua ub uc K).trans (n97 _ _ a1 ua ub uc)).trans ?_
 unfold q97 at h
 unfold v97_0 v97_1 v97_2 v97_3
 generalize W97 a1 ua ub uc=o at *
 cases o with
 | none=>cases h
 | some t=>rfl
def m97:GModel
 | [.ptr g0 g1 g2,.int .i64 a1],[⟨true,[],[.agg [.sl g3 ua,.int .i64 ub,.int .i64 uc]]⟩]=>bif nmEq g0 ([1]) && Nat.beq g1 0 && Nat.beq g2 0 && ctsEq g3 ([.int .u8]) then some (q97 a1 ua ub uc,[AV.bool (v97_0 a1 ua ub uc)],[some ⟨true,[],[AV.agg [AV.sl [.int .u8] (v97_1 a1 ua ub uc),AV.int .i64 (v97_2 a1 ua ub uc),AV.int .i64 (v97_3 a1 ua ub uc)]]⟩]) else none
 | _,_=>none
theorem k97:Known Tryz.prog 97:=⟨Tryz.f97,Tryz.func97,by kernel_rfl,by kernel_rfl⟩
theorem meets97:MeetsG Tryz.prog 97 m97:=by
 refine mg (rt:=[4]) (gs:=[]) (lvl:=0) (cf:=c97) rfl mixed k97 Tryz.func97 (by kernel_rfl) noLoop allT_nil (allG_cons meets42 allM_nil) noI fun xs bs r bs' h K=>?_
 unfold m97 at h
 split at h
 ·rename_i g0 g1 g2 a1 g3 ua ub uc
  obtain ⟨hg,h⟩:=bif_pair h
  simp only [Bool.and_eq_true] at hg
  obtain ⟨⟨⟨q0,q1⟩,q2⟩,q3⟩:=hg
  obtain rfl:=nE q0
  obtain rfl:=bE q1
  obtain rfl:=bE q2
  obtain rfl:=cE q3
  obtain ⟨h1,rfl,rfl⟩:=trip_inj h
  exact r97 a1 ua ub uc K h1
 ·cases h
noncomputable def c96:Cfg:=cfg Tryz.prog [(96,999,[4])] [] [(42,.g m42),(93,.g m93),(97,.g m97)] [] []
def T96 {β:Type} (k:(Int × (List AV) × Int × Int × (List AV) × (List AV) × (List AV))→β) (n:β) (ua:List AV) (ub:Int) (uc:Int) (b1:List AV) (b2:List AV) (b3:List AV):β:=by
 refine (?f0:Bool→(List AV)→Int→Int→β) (v97_0 4 ua ub uc) (v97_1 4 ua ub uc) (v97_2 4 ua ub uc) (v97_3 4 ua ub uc);intro x1 x2 x3 x4
 refine (?f1:Int→(List AV)→Int→Int→β) (v42_0 (b1.length:Int) x2 x3 x4) (v42_1 (b1.length:Int) x2 x3 x4) (v42_2 (b1.length:Int) x2 x3 x4) (v42_3 (b1.length:Int) x2 x3 x4);intro x5 x6 x7 x8
 exact (bif decide ((b1.length:Int) > 0) then (bif q97 4 ua ub uc then (bif !x1 then (bif q42 (b1.length:Int) x2 x3 x4 then (bif (decide (0≤x5) && decide (x5<(b1.length:Int))) then (bif q42 3 x6 x7 x8 then k (IntKind.i64.wrap (IntKind.i64.wrap (fI (b1.getD x5.toNat .undef) 0+(v42_0 3 x6 x7 x8)) - 1),(v42_1 3 x6 x7 x8),(v42_2 3 x6 x7 x8),(v42_3 3 x6 x7 x8),b1,b2,b3)
 else n)
 else n)
 else n)
 else (bif q93 x2 x3 x4 ([AV.int .i64 0,AV.int .i64 3,AV.int .i64 (-2),AV.int .i64 (-1000),AV.int .i64 1000,AV.int .i64 50]) then k ((v93_0 x2 x3 x4 ([AV.int .i64 0,AV.int .i64 3,AV.int .i64 (-2),AV.int .i64 (-1000),AV.int .i64 1000,AV.int .i64 50])),(v93_1 x2 x3 x4 ([AV.int .i64 0,AV.int .i64 3,AV.int .i64 (-2),AV.int .i64 (-1000),AV.int .i64 1000,AV.int .i64 50])),(v93_2 x2 x3 x4 ([AV.int .i64 0,AV.int .i64 3,AV.int .i64 (-2),AV.int .i64 (-1000),AV.int .i64 1000,AV.int .i64 50])),(v93_3 x2 x3 x4 ([AV.int .i64 0,AV.int .i64 3,AV.int .i64 (-2),AV.int .i64 (-1000),AV.int .i64 1000,AV.int .i64 50])),b1,b2,b3)
 else n))
 else n)
 else (bif q93 ua ub uc ([AV.int .i64 0,AV.int .i64 3,AV.int .i64 (-2),AV.int .i64 (-1000),AV.int .i64 1000,AV.int .i64 50]) then k ((v93_0 ua ub uc ([AV.int .i64 0,AV.int .i64 3,AV.int .i64 (-2),AV.int .i64 (-1000),AV.int .i64 1000,AV.int .i64 50])),(v93_1 ua ub uc ([AV.int .i64 0,AV.int .i64 3,AV.int .i64 (-2),AV.int .i64 (-1000),AV.int .i64 1000,AV.int .i64 50])),(v93_2 ua ub uc ([AV.int .i64 0,AV.int .i64 3,AV.int .i64 (-2),AV.int .i64 (-1000),AV.int .i64 1000,AV.int .i64 50])),(v93_3 ua ub uc ([AV.int .i64 0,AV.int .i64 3,AV.int .i64 (-2),AV.int .i64 (-1000),AV.int .i64 1000,AV.int .i64 50])),b1,b2,b3)
 else n))
abbrev W96 (ua:List AV) (ub:Int) (uc:Int) (b1:List AV) (b2:List AV) (b3:List AV):Option (Int × (List AV) × Int × Int × (List AV) × (List AV) × (List AV)):=T96 some none ua ub uc b1 b2 b3
theorem n96 {β:Type} (k:(Int × (List AV) × Int × Int × (List AV) × (List AV) × (List AV))→β) (n:β) (ua:List AV) (ub:Int) (uc:Int) (b1:List AV) (b2:List AV) (b3:List AV):T96 k n ua ub uc b1 b2 b3=oe k n (W96 ua ub uc b1 b2 b3):=by
 unfold W96 T96
 simp only [oe_cond,oe_ro,oe_sum,oe_some,oe_none]
def q96 (ua:List AV) (ub uc:Int) (b1 b2 b3:List AV):Bool:=(W96 ua ub uc b1 b2 b3).isSome
def v96_0 (ua:List AV) (ub uc:Int) (b1 b2 b3:List AV):Int:=oe (fun t=>t.1) 0 (W96 ua ub uc b1 b2 b3)
def v96_1 (ua:List AV) (ub uc:Int) (b1 b2 b3:List AV):List AV:=oe (fun t=>t.2.1) [] (W96 ua ub uc b1 b2 b3)
def v96_2 (ua:List AV) (ub uc:Int) (b1 b2 b3:List AV):Int:=oe (fun t=>t.2.2.1) 0 (W96 ua ub uc b1 b2 b3)
def v96_3 (ua:List AV) (ub uc:Int) (b1 b2 b3:List AV):Int:=oe (fun t=>t.2.2.2.1) 0 (W96 ua ub uc b1 b2 b3)
def v96_4 (ua:List AV) (ub uc:Int) (b1 b2 b3:List AV):List AV:=oe (fun t=>t.2.2.2.2.1) [] (W96 ua ub uc b1 b2 b3)
def v96_5 (ua:List AV) (ub uc:Int) (b1 b2 b3:List AV):List AV:=oe (fun t=>t.2.2.2.2.2.1) [] (W96 ua ub uc b1 b2 b3)
def v96_6 (ua:List AV) (ub uc:Int) (b1 b2 b3:List AV):List AV:=oe (fun t=>t.2.2.2.2.2.2) [] (W96 ua ub uc b1 b2 b3)
theorem e96 (ua:List AV) (ub uc:Int) (b1 b2 b3:List AV) (K:List AV→List (Option Blk)→Option AV):inlA c96 1 96 [AV.ptr [1] 0 0,AV.agg [AV.own [2],AV.own [3],AV.own [4]]] [0] (canH 1 [⟨true,[],[AV.agg [AV.sl [.int .u8] ua,Ai ub,Ai uc]]⟩,⟨false,[.int .i64],b1⟩,⟨false,[.int .i64],b2⟩,⟨false,[.int .i64,.int .i64],b3⟩]) (keepG Tryz.prog 4 [3] [] K)=T96 (fun t=>K [Ai t.1] [some ⟨true,[],[AV.agg [AV.sl [.int .u8] t.2.1,Ai t.2.2.1,Ai t.2.2.2.1]]⟩,some ⟨false,[.int .i64],t.2.2.2.2.1⟩,some ⟨false,[.int .i64],t.2.2.2.2.2.1⟩,some ⟨false,[.int .i64,.int .i64],t.2.2.2.2.2.2⟩]) none ua ub uc b1 b2 b3:=by kernel_rfl
theorem r96 (ua:List AV) (ub uc:Int) (b1 b2 b3:List AV) (K:List AV→List (Option Blk)→Option AV) (h:q96 ua ub uc b1 b2 b3=true):inlA c96 1 96 [AV.ptr [1] 0 0,AV.agg [AV.own [2],AV.own [3],AV.own [4]]] [0] (canH 1 [⟨true,[],[AV.agg [AV.sl [.int .u8] ua,AV.int .i64 ub,AV.int .i64 uc]]⟩,⟨false,[.int .i64],b1⟩,⟨false,[.int .i64],b2⟩,⟨false,[.int .i64,.int .i64],b3⟩]) (keepG Tryz.prog 4 [3] [] K)=K [AV.int .i64 (v96_0 ua ub uc b1 b2 b3)] [some ⟨true,[],[AV.agg [AV.sl [.int .u8] (v96_1 ua ub uc b1 b2 b3),AV.int .i64 (v96_2 ua ub uc b1 b2 b3),AV.int .i64 (v96_3 ua ub uc b1 b2 b3)]]⟩,some ⟨false,[.int .i64],(v96_4 ua ub uc b1 b2 b3)⟩,some ⟨false,[.int .i64],(v96_5 ua ub uc b1 b2 b3)⟩,some ⟨false,[.int .i64,.int .i64],(v96_6 ua ub uc b1 b2 b3)⟩]:=by
 refine ((e96 ua ub uc b1 b2 b3 K).trans (n96 _ _ ua ub uc b1 b2 b3)).trans ?_
 unfold q96 at h
 unfold v96_0 v96_1 v96_2 v96_3 v96_4 v96_5 v96_6
 generalize W96 ua ub uc b1 b2 b3=o at *
 cases o with
 | none=>cases h
 | some t=>rfl
def m96:GModel
 | [.ptr g0 g1 g2,.agg [.own g3,.own g4,.own g5]],[⟨true,[],[.agg [.sl g6 ua,.int .i64 ub,.int .i64 uc]]⟩,⟨false,g7,b1⟩,⟨false,g8,b2⟩,⟨false,g9,b3⟩]=>bif nmEq g0 ([1]) && Nat.beq g1 0 && Nat.beq g2 0 && nmEq g3 ([2]) && nmEq g4 ([3]) && nmEq g5 ([4]) && ctsEq g6 ([.int .u8]) && ctsEq g7 ([.int .i64]) && ctsEq g8 ([.int .i64]) && ctsEq g9 ([.int .i64,.int .i64]) then some (q96 ua ub uc b1 b2 b3,[AV.int .i64 (v96_0 ua ub uc b1 b2 b3)],[some ⟨true,[],[AV.agg [AV.sl [.int .u8] (v96_1 ua ub uc b1 b2 b3),AV.int .i64 (v96_2 ua ub uc b1 b2 b3),AV.int .i64 (v96_3 ua ub uc b1 b2 b3)]]⟩,some ⟨false,[.int .i64],(v96_4 ua ub uc b1 b2 b3)⟩,some ⟨false,[.int .i64],(v96_5 ua ub uc b1 b2 b3)⟩,some ⟨false,[.int .i64,.int .i64],(v96_6 ua ub uc b1 b2 b3)⟩]) else none
 | _,_=>none
theorem k96:Known Tryz.prog 96:=⟨Tryz.f96,Tryz.func96,by kernel_rfl,by kernel_rfl⟩
theorem meets96:MeetsG Tryz.prog 96 m96:=by
 refine mg (rt:=[3]) (gs:=[]) (lvl:=0) (cf:=c96) rfl mixed k96 Tryz.func96 (by kernel_rfl) noLoop allT_nil (allG_cons meets42 (allG_cons meets93 (allG_cons meets97 allM_nil))) noI fun xs bs r bs' h K=>?_
 unfold m96 at h
 split at h
 ·rename_i g0 g1 g2 g3 g4 g5 g6 ua ub uc g7 b1 g8 b2 g9 b3
  obtain ⟨hg,h⟩:=bif_pair h
  simp only [Bool.and_eq_true] at hg
  obtain ⟨⟨⟨⟨⟨⟨⟨⟨⟨q0,q1⟩,q2⟩,q3⟩,q4⟩,q5⟩,q6⟩,q7⟩,q8⟩,q9⟩:=hg
  obtain rfl:=nE q0
  obtain rfl:=bE q1
  obtain rfl:=bE q2
  obtain rfl:=nE q3
  obtain rfl:=nE q4
  obtain rfl:=nE q5
  obtain rfl:=cE q6
  obtain rfl:=cE q7
  obtain rfl:=cE q8
  obtain rfl:=cE q9
  obtain ⟨h1,rfl,rfl⟩:=trip_inj h
  exact r96 ua ub uc b1 b2 b3 K h1
 ·cases h
noncomputable def c69:Cfg:=cfg Tryz.prog [(69,999,[2])] [] [] [] []
def q69 (xa xb xc:List AV):Bool:=((decide ((([]:List AV).length+xa.length)*8≤140737488355328) && decide ((([]:List AV).length+xa.length)≤140737488355328)) && ((decide ((([]:List AV).length+xb.length)*8≤140737488355328) && decide ((([]:List AV).length+xb.length)≤140737488355328)) && (decide ((([]:List AV).length+xc.length)*16≤140737488355328) && decide ((([]:List AV).length+xc.length)≤140737488355328))))
def v69_0 (xa xb xc:List AV):List AV:=([]:List AV)++xa
def v69_1 (xa xb xc:List AV):List AV:=([]:List AV)++xb
def v69_2 (xa xb xc:List AV):List AV:=([]:List AV)++xc
theorem e69 (xa xb xc:List AV):funA c69 0 69 [AV.agg [AV.sl [.int .i64] xa,AV.sl [.int .i64] xb,AV.sl [.int .i64,.int .i64] xc]]=(bif (decide ((([]:List AV).length+xa.length)*8≤140737488355328) && decide ((([]:List AV).length+xa.length)≤140737488355328)) then (bif (decide ((([]:List AV).length+xb.length)*8≤140737488355328) && decide ((([]:List AV).length+xb.length)≤140737488355328)) then (bif (decide ((([]:List AV).length+xc.length)*16≤140737488355328) && decide ((([]:List AV).length+xc.length)≤140737488355328)) then some (AV.agg [AV.fl [.int .i64] (([]:List AV)++xa),AV.fl [.int .i64] (([]:List AV)++xb),AV.fl [.int .i64,.int .i64] (([]:List AV)++xc)])
 else none)
 else none)
 else none):=by kernel_rfl
def m69:TModel
 | [.agg [.sl g0 xa,.sl g1 xb,.sl g2 xc]]=>bif ctsEq g0 ([.int .i64]) && ctsEq g1 ([.int .i64]) && ctsEq g2 ([.int .i64,.int .i64]) then some (q69 xa xb xc,AV.agg [AV.fl [.int .i64] (v69_0 xa xb xc),AV.fl [.int .i64] (v69_1 xa xb xc),AV.fl [.int .i64,.int .i64] (v69_2 xa xb xc)]) else none
 | _=>none
theorem k69:Known Tryz.prog 69:=⟨Tryz.f69,Tryz.func69,by kernel_rfl,by kernel_rfl⟩
theorem meets69:Meets Tryz.prog 69 m69:=by
 refine mt (lvl:=0) (cf:=c69) rfl mixed k69 Tryz.func69 (by kernel_rfl) noLoop allT_nil allM_nil noI fun xs r h=>?_
 unfold m69 at h
 split at h
 ·rename_i g0 xa g1 xb g2 xc
  obtain ⟨hg,h⟩:=bif_pair h
  simp only [Bool.and_eq_true] at hg
  obtain ⟨⟨q0,q1⟩,q2⟩:=hg
  obtain rfl:=cE q0
  obtain rfl:=cE q1
  obtain rfl:=cE q2
  obtain ⟨h1,rfl⟩:=pair_inj h
  exact (e69 xa xb xc).trans ((brL (brL (brL1 (fun _=>rfl)))) h1)
 ·cases h
noncomputable def c49:Cfg:=cfg Tryz.prog [(49,999,[2])] [(69,m69)] [] [] []
def q49 (xa:List AV) (xb:Int) (xc xd xe:List AV):Bool:=((decide ((([]:List AV).length+xa.length)*32≤140737488355328) && decide ((([]:List AV).length+xa.length)≤140737488355328)) && q69 xc xd xe)
def v49_0 (xa:List AV) (xb:Int) (xc xd xe:List AV):List AV:=([]:List AV)++xa
def v49_1 (xa:List AV) (xb:Int) (xc xd xe:List AV):Int:=xb
def v49_2 (xa:List AV) (xb:Int) (xc xd xe:List AV):List AV:=(v69_0 xc xd xe)
def v49_3 (xa:List AV) (xb:Int) (xc xd xe:List AV):List AV:=(v69_1 xc xd xe)
def v49_4 (xa:List AV) (xb:Int) (xc xd xe:List AV):List AV:=(v69_2 xc xd xe)
theorem e49 (xa:List AV) (xb:Int) (xc xd xe:List AV):funA c49 0 49 [AV.agg [AV.sl [.int .i64,.int .i64,.int .i64,.int .i64] xa,Ai xb,AV.sl [.int .i64] xc,AV.sl [.int .i64] xd,AV.sl [.int .i64,.int .i64] xe]]=(bif (decide ((([]:List AV).length+xa.length)*32≤140737488355328) && decide ((([]:List AV).length+xa.length)≤140737488355328)) then (bif q69 xc xd xe then some (AV.agg [AV.fl [.int .i64,.int .i64,.int .i64,.int .i64] (([]:List AV)++xa),Ai xb,AV.fl [.int .i64] (v69_0 xc xd xe),AV.fl [.int .i64] (v69_1 xc xd xe),AV.fl [.int .i64,.int .i64] (v69_2 xc xd xe)])
 else none)
 else none):=by kernel_rfl
def m49:TModel
 | [.agg [.sl g0 xa,.int .i64 xb,.sl g1 xc,.sl g2 xd,.sl g3 xe]]=>bif ctsEq g0 ([.int .i64,.int .i64,.int .i64,.int .i64]) && ctsEq g1 ([.int .i64]) && ctsEq g2 ([.int .i64]) && ctsEq g3 ([.int .i64,.int .i64]) then some (q49 xa xb xc xd xe,AV.agg [AV.fl [.int .i64,.int .i64,.int .i64,.int .i64] (v49_0 xa xb xc xd xe),AV.int .i64 (v49_1 xa xb xc xd xe),AV.fl [.int .i64] (v49_2 xa xb xc xd xe),AV.fl [.int .i64] (v49_3 xa xb xc xd xe),AV.fl [.int .i64,.int .i64] (v49_4 xa xb xc xd xe)]) else none
 | _=>none
theorem k49:Known Tryz.prog 49:=⟨Tryz.f49,Tryz.func49,by kernel_rfl,by kernel_rfl⟩
theorem meets49:Meets Tryz.prog 49 m49:=by
 refine mt (lvl:=0) (cf:=c49) rfl mixed k49 Tryz.func49 (by kernel_rfl) noLoop (allT_cons meets69 allT_nil) allM_nil noI fun xs r h=>?_
 unfold m49 at h
 split at h
 ·rename_i g0 xa xb g1 xc g2 xd g3 xe
  obtain ⟨hg,h⟩:=bif_pair h
  simp only [Bool.and_eq_true] at hg
  obtain ⟨⟨⟨q0,q1⟩,q2⟩,q3⟩:=hg
  obtain rfl:=cE q0
  obtain rfl:=cE q1
  obtain rfl:=cE q2
  obtain rfl:=cE q3
  obtain ⟨h1,rfl⟩:=pair_inj h
  exact (e49 xa xb xc xd xe).trans ((brL (brL1 (fun _=>rfl))) h1)
 ·cases h
def G54_0 {β:Type} (t0:List AV) (t1:Int) (t5:Int) (N:(Int)→β) (K:(Unit ⊕ Unit)→β) (d:β):β:=(bif decide (t5<(t0.length:Int)) then (bif (decide (0≤t5) && decide (t5<(t0.length:Int))) then (bif decide (fI (t0.getD t5.toNat .undef) 0=t1) then K (.inr ())
 else N (IntKind.i64.wrap (t5+1)))
 else d)
 else K (.inl ()))
def F54_0 (t0:List AV) (t1 t5:Int):Out (Int) (Unit ⊕ Unit):=G54_0 t0 t1 t5 .next .stop .fail
def R54_0 (t0:List AV) (t1:Int):(Int)→Out (Int) (Unit ⊕ Unit):=fun s:Int=>F54_0 t0 t1 s
def E54_0 (t0:List AV) (t1:Int):(Int)→St:=fun s:Int=>⟨[(0,AV.sl [.int .i64] t0),(1,Ai t1),(5,Ai s)],[]⟩
def K54_0 (t0:List AV) (t1:Int) (k:Kont):(Unit ⊕ Unit)→Option AV:=sumE (fun _:Unit=>k (.exit 0) ⟨[],[]⟩) (fun _:Unit=>k .ret ⟨[(4,AV.bool true)],[]⟩)
def l54_0:LModel:=fun _ _ st k=>match st with
 | ⟨[(0,.sl g0 t0),(1,.int .i64 t1),(5,.int .i64 t5)],[]⟩=>bif ctsEq g0 ([.int .i64]) then ro (runW (R54_0 t0 t1) (((t0.length:Int) - t5:Int).toNat+1) t5) none (K54_0 t0 t1 k) else none
 | _=>none
noncomputable def c54:Cfg:=cfg Tryz.prog [(54,0,[0,1,5]),(54,999,[4]),(54,1000,[]),(54,1001,[0,1,5])] [] [] [] [(54,0,l54_0)]
theorem s54_0 (t0:List AV) (t1:Int) (ce:CallE) (k:Kont) (s:Int) (next:St→Option AV):stepA (codeA c54 ce [] 54 0 (sub [1,0,1,0,0] (body Tryz.f54))) (normA [] [0,1,5]) next ((E54_0 t0 t1) s) k=G54_0 t0 t1 s (fun s=>next ((E54_0 t0 t1) s)) (K54_0 t0 t1 k) none:=by kernel_rfl
theorem st54_0 (t0:List AV) (t1:Int) (ce:CallE) (k:Kont) (s:Int) (next:St→Option AV):stepA (codeA c54 ce [] 54 0 (sub [1,0,1,0,0] (body Tryz.f54))) (normA [] [0,1,5]) next ((E54_0 t0 t1) s) k=(R54_0 t0 t1 s).el none (fun s=>next ((E54_0 t0 t1) s)) (K54_0 t0 t1 k):=(s54_0 t0 t1 ce k s next).trans (by unfold R54_0;unfold F54_0 G54_0;simp only [el_cond,el_ro,el_sum,el_fail,el_next,el_stop] <;> rfl)
theorem ok54_0 {ce:CallE}:LoopOK c54 ce [] 54 0 (sub [1,0,1,0,0] (body Tryz.f54)):=by
 intro m hm st k r h
 obtain rfl:l54_0=m:=Option.some.inj hm
 unfold l54_0 at h
 split at h
 ·rename_i g0 t0 t1 t5
  obtain ⟨hg,h⟩:=bif_some h
  have q0:=hg
  obtain rfl:=cE q0
  refine ⟨(((t0.length:Int) - t5:Int).toNat+1),?_⟩
  rw [← h]
  exact loop_run (E54_0 t0 t1) (K54_0 t0 t1 k) (st54_0 t0 t1 ce k) _ t5
 ·cases h
def q54 (a0:List AV) (a1:Int):Bool:=(ro (runW (R54_0 a0 a1) (((a0.length:Int) - 0:Int).toNat+1) 0) false (sumE (fun _=>true) (fun _=>true)))
def v54_0 (a0:List AV) (a1:Int):Bool:=(ro (runW (R54_0 a0 a1) (((a0.length:Int) - 0:Int).toNat+1) 0) false (sumE (fun _=>false) (fun _=>true)))
theorem e54 (a0:List AV) (a1:Int):funA c54 0 54 [AV.sl [.int .i64] a0,Ai a1]=(ro (runW (R54_0 a0 a1) (((a0.length:Int) - 0:Int).toNat+1) 0) none (sumE (fun _=>some (AV.bool false)) (fun _=>some (AV.bool true)))):=by kernel_rfl
def m54:TModel
 | [.sl g0 a0,.int .i64 a1]=>bif ctsEq g0 ([.int .i64]) then some (q54 a0 a1,AV.bool (v54_0 a0 a1)) else none
 | _=>none
theorem k54:Known Tryz.prog 54:=⟨Tryz.f54,Tryz.func54,by kernel_rfl,by kernel_rfl⟩
theorem meets54:Meets Tryz.prog 54 m54:=by
 refine mt (lvl:=0) (cf:=c54) rfl mixed k54 Tryz.func54 (by kernel_rfl) (loops_cons ok54_0 noLoop) allT_nil allM_nil noI fun xs r h=>?_
 unfold m54 at h
 split at h
 ·rename_i g0 a0 a1
  obtain ⟨hg,h⟩:=bif_pair h
  have q0:=hg
  obtain rfl:=cE q0
  obtain ⟨h1,rfl⟩:=pair_inj h
  exact (e54 a0 a1).trans ((brO (fun o:Option (Unit ⊕ Unit)=>some (AV.bool (ro o false (sumE (fun _=>false) (fun _=>true))))) (brS (fun o:Unit ⊕ Unit=>some (AV.bool ((sumE (fun _=>false) (fun _=>true)) o))) (fun _=>(fun _=>rfl)) (fun _=>(fun _=>rfl)))) h1)
 ·cases h
def G117_2 {β:Type} (t0:List AV) (t1:List AV) (t5:Int) (h0_0:Int) (h0_1:Int) (t7:Int) (N:(Int)→β) (K:(Unit ⊕ Unit)→β) (d:β):β:=(bif decide (t7<(t0.length:Int)) then (bif (decide (0≤t7) && decide (t7<(t0.length:Int))) then (bif !(decide (fI (t0.getD t7.toNat .undef) 0<h0_0) == decide (t7<h0_1)) then K (.inr ())
 else N (IntKind.i64.wrap (t7+1)))
 else d)
 else K (.inl ()))
def F117_2 (t0 t1:List AV) (t5 h0_0 h0_1 t7:Int):Out (Int) (Unit ⊕ Unit):=G117_2 t0 t1 t5 h0_0 h0_1 t7 .next .stop .fail
def R117_2 (t0 t1:List AV) (t5 h0_0 h0_1:Int):(Int)→Out (Int) (Unit ⊕ Unit):=fun s:Int=>F117_2 t0 t1 t5 h0_0 h0_1 s
def E117_2 (t0 t1:List AV) (t5 h0_0 h0_1:Int):(Int)→St:=fun s:Int=>⟨[(0,AV.sl [.int .i64] t0),(1,AV.sl [.int .i64,.int .i64] t1),(5,Ai t5),(6,AV.ptr [0,6] 0 0),(7,Ai s)],[([0,6],⟨true,[],[AV.agg [Ai h0_0,Ai h0_1]]⟩)]⟩
def K117_2 (t0 t1:List AV) (t5 h0_0 h0_1:Int) (k:Kont):(Unit ⊕ Unit)→Option AV:=sumE (fun _:Unit=>k (.exit 2) ⟨[(0,AV.sl [.int .i64] t0),(1,AV.sl [.int .i64,.int .i64] t1),(5,Ai t5)],[([0,6],⟨true,[],[AV.agg [Ai h0_0,Ai h0_1]]⟩)]⟩) (fun _:Unit=>k .ret ⟨[(4,AV.bool false)],[([0,6],⟨true,[],[AV.agg [Ai h0_0,Ai h0_1]]⟩)]⟩)
def l117_2:LModel:=fun _ _ st k=>match st with
 | ⟨[(0,.sl g0 t0),(1,.sl g1 t1),(5,.int .i64 t5),(6,.ptr g2 g3 g4),(7,.int .i64 t7)],[(g5,⟨true,[],[.agg [.int .i64 h0_0,.int .i64 h0_1]]⟩)]⟩=>bif ctsEq g0 ([.int .i64]) && ctsEq g1 ([.int .i64,.int .i64]) && nmEq g2 ([0,6]) && Nat.beq g3 0 && Nat.beq g4 0 && nmEq g5 ([0,6]) then ro (runW (R117_2 t0 t1 t5 h0_0 h0_1) (((t0.length:Int) - t7:Int).toNat+1) t7) none (K117_2 t0 t1 t5 h0_0 h0_1 k) else none
 | _=>none
def G117_0 {β:Type} (t0:List AV) (t1:List AV) (t5:Int) (N:(Int)→β) (K:(Unit ⊕ (Int × Int) ⊕ (Int × Int))→β) (d:β):β:=(bif decide (t5<(t1.length:Int)) then (bif (decide (0≤t5) && decide (t5<(t1.length:Int))) then (bif !(v52_0 (fI (t1.getD t5.toNat .undef) 0) (-1000) 1000) then K (.inr (.inl (fI (t1.getD t5.toNat .undef) 0,fI (t1.getD t5.toNat .undef) 1)))
 else (bif !(v52_0 (fI (t1.getD t5.toNat .undef) 1) 0 (t0.length:Int)) then K (.inr (.inl (fI (t1.getD t5.toNat .undef) 0,fI (t1.getD t5.toNat .undef) 1)))
 else (bif decide (t5 > 0) then (bif (decide (0≤IntKind.i64.wrap (t5 - 1)) && decide (IntKind.i64.wrap (t5 - 1)<(t1.length:Int))) then (bif decide (fI (t1.getD t5.toNat .undef) 0≤fI (t1.getD (IntKind.i64.wrap (t5 - 1)).toNat .undef) 0) then K (.inr (.inl (fI (t1.getD t5.toNat .undef) 0,fI (t1.getD t5.toNat .undef) 1)))
 else (bif (decide (0≤IntKind.i64.wrap (t5 - 1)) && decide (IntKind.i64.wrap (t5 - 1)<(t1.length:Int))) then (bif decide (fI (t1.getD t5.toNat .undef) 1<fI (t1.getD (IntKind.i64.wrap (t5 - 1)).toNat .undef) 1) then K (.inr (.inl (fI (t1.getD t5.toNat .undef) 0,fI (t1.getD t5.toNat .undef) 1)))
 else (ro (runW (R117_2 t0 t1 t5 (fI (t1.getD t5.toNat .undef) 0) (fI (t1.getD t5.toNat .undef) 1)) (((t0.length:Int) - 0:Int).toNat+1) 0) d (sumE (fun _=>N (IntKind.i64.wrap (t5+1))) (fun _=>K (.inr (.inr (fI (t1.getD t5.toNat .undef) 0,fI (t1.getD t5.toNat .undef) 1)))))))
 else d))
 else d)
 else (ro (runW (R117_2 t0 t1 t5 (fI (t1.getD t5.toNat .undef) 0) (fI (t1.getD t5.toNat .undef) 1)) (((t0.length:Int) - 0:Int).toNat+1) 0) d (sumE (fun _=>N (IntKind.i64.wrap (t5+1))) (fun _=>K (.inr (.inr (fI (t1.getD t5.toNat .undef) 0,fI (t1.getD t5.toNat .undef) 1)))))))))
 else d)
 else K (.inl ()))
def F117_0 (t0 t1:List AV) (t5:Int):Out (Int) (Unit ⊕ (Int × Int) ⊕ (Int × Int)):=G117_0 t0 t1 t5 .next .stop .fail
def R117_0 (t0 t1:List AV):(Int)→Out (Int) (Unit ⊕ (Int × Int) ⊕ (Int × Int)):=fun s:Int=>F117_0 t0 t1 s
def E117_0 (t0 t1:List AV):(Int)→St:=fun s:Int=>⟨[(0,AV.sl [.int .i64] t0),(1,AV.sl [.int .i64,.int .i64] t1),(5,Ai s)],[]⟩
def K117_0 (t0 t1:List AV) (k:Kont):(Unit ⊕ (Int × Int) ⊕ (Int × Int))→Option AV:=sumE (fun _:Unit=>k (.exit 0) ⟨[],[]⟩) (sumE (fun p:Int × Int=>k .ret ⟨[(4,AV.bool false)],[([1,6],⟨true,[],[AV.agg [Ai p.1,Ai p.2]]⟩)]⟩) (fun p:Int × Int=>k .ret ⟨[(4,AV.bool false)],[([0,6],⟨true,[],[AV.agg [Ai p.1,Ai p.2]]⟩)]⟩))
def l117_0:LModel:=fun _ _ st k=>match st with
 | ⟨[(0,.sl g0 t0),(1,.sl g1 t1),(5,.int .i64 t5)],[]⟩=>bif ctsEq g0 ([.int .i64]) && ctsEq g1 ([.int .i64,.int .i64]) then ro (runW (R117_0 t0 t1) (((t1.length:Int) - t5:Int).toNat+1) t5) none (K117_0 t0 t1 k) else none
 | _=>none
noncomputable def c117:Cfg:=cfg Tryz.prog [(117,0,[0,1,5]),(117,2,[0,1,5,6,7]),(117,999,[4]),(117,1000,[]),(117,1001,[0,1,5]),(117,1002,[0,1,5]),(117,1003,[0,1,5,6,7])] [(52,m52)] [] [] [(117,0,l117_0),(117,2,l117_2)]
theorem s117_2 (t0 t1:List AV) (t5 h0_0 h0_1:Int) (ce:CallE) (k:Kont) (s:Int) (next:St→Option AV):stepA (codeA c117 ce [] 117 2 (sub [1,0,1,0,0,1,0,0,1,1,1,0,0] (body Tryz.f117))) (normA [] [0,1,5,6,7]) next ((E117_2 t0 t1 t5 h0_0 h0_1) s) k=G117_2 t0 t1 t5 h0_0 h0_1 s (fun s=>next ((E117_2 t0 t1 t5 h0_0 h0_1) s)) (K117_2 t0 t1 t5 h0_0 h0_1 k) none:=by kernel_rfl
theorem st117_2 (t0 t1:List AV) (t5 h0_0 h0_1:Int) (ce:CallE) (k:Kont) (s:Int) (next:St→Option AV):stepA (codeA c117 ce [] 117 2 (sub [1,0,1,0,0,1,0,0,1,1,1,0,0] (body Tryz.f117))) (normA [] [0,1,5,6,7]) next ((E117_2 t0 t1 t5 h0_0 h0_1) s) k=(R117_2 t0 t1 t5 h0_0 h0_1 s).el none (fun s=>next ((E117_2 t0 t1 t5 h0_0 h0_1) s)) (K117_2 t0 t1 t5 h0_0 h0_1 k):=(s117_2 t0 t1 t5 h0_0 h0_1 ce k s next).trans (by unfold R117_2;unfold F117_2 G117_2;simp only [el_cond,el_ro,el_sum,el_fail,el_next,el_stop] <;> rfl)
theorem ok117_2 {ce:CallE}:LoopOK c117 ce [] 117 2 (sub [1,0,1,0,0,1,0,0,1,1,1,0,0] (body Tryz.f117)):=by
 intro m hm st k r h
 obtain rfl:l117_2=m:=Option.some.inj hm
 unfold l117_2 at h
 split at h
 ·rename_i g0 t0 g1 t1 t5 g2 g3 g4 t7 g5 h0_0 h0_1
  obtain ⟨hg,h⟩:=bif_some h
  simp only [Bool.and_eq_true] at hg
  obtain ⟨⟨⟨⟨⟨q0,q1⟩,q2⟩,q3⟩,q4⟩,q5⟩:=hg
  obtain rfl:=cE q0
  obtain rfl:=cE q1
  obtain rfl:=nE q2
  obtain rfl:=bE q3
  obtain rfl:=bE q4
  obtain rfl:=nE q5
  refine ⟨(((t0.length:Int) - t7:Int).toNat+1),?_⟩
  rw [← h]
  exact loop_run (E117_2 t0 t1 t5 h0_0 h0_1) (K117_2 t0 t1 t5 h0_0 h0_1 k) (st117_2 t0 t1 t5 h0_0 h0_1 ce k) _ t7
 ·cases h
theorem s117_0 (t0 t1:List AV) (ce:CallE) (k:Kont) (s:Int) (next:St→Option AV):stepA (codeA c117 ce [] 117 0 (sub [1,0,1,0,0] (body Tryz.f117))) (normA [] [0,1,5]) next ((E117_0 t0 t1) s) k=G117_0 t0 t1 s (fun s=>next ((E117_0 t0 t1) s)) (K117_0 t0 t1 k) none:=by kernel_rfl
theorem st117_0 (t0 t1:List AV) (ce:CallE) (k:Kont) (s:Int) (next:St→Option AV):stepA (codeA c117 ce [] 117 0 (sub [1,0,1,0,0] (body Tryz.f117))) (normA [] [0,1,5]) next ((E117_0 t0 t1) s) k=(R117_0 t0 t1 s).el none (fun s=>next ((E117_0 t0 t1) s)) (K117_0 t0 t1 k):=(s117_0 t0 t1 ce k s next).trans (by unfold R117_0;unfold F117_0 G117_0;simp only [el_cond,el_ro,el_sum,el_fail,el_next,el_stop] <;> rfl)
theorem ok117_0 {ce:CallE}:LoopOK c117 ce [] 117 0 (sub [1,0,1,0,0] (body Tryz.f117)):=by
 intro m hm st k r h
 obtain rfl:l117_0=m:=Option.some.inj hm
 unfold l117_0 at h
 split at h
 ·rename_i g0 t0 g1 t1 t5
  obtain ⟨hg,h⟩:=bif_some h
  simp only [Bool.and_eq_true] at hg
  obtain ⟨q0,q1⟩:=hg
  obtain rfl:=cE q0
  obtain rfl:=cE q1
  refine ⟨(((t1.length:Int) - t5:Int).toNat+1),?_⟩
  rw [← h]
  exact loop_run (E117_0 t0 t1) (K117_0 t0 t1 k) (st117_0 t0 t1 ce k) _ t5
 ·cases h
def q117 (a0 a1:List AV):Bool:=(ro (runW (R117_0 a0 a1) (((a1.length:Int) - 0:Int).toNat+1) 0) false (sumE (fun _=>true) (sumE (fun p17=>true) (fun p18=>true))))
def v117_0 (a0 a1:List AV):Bool:=(ro (runW (R117_0 a0 a1) (((a1.length:Int) - 0:Int).toNat+1) 0) false (sumE (fun _=>true) (sumE (fun p17=>false) (fun p18=>false))))
theorem e117 (a0 a1:List AV):funA c117 0 117 [AV.sl [.int .i64] a0,AV.sl [.int .i64,.int .i64] a1]=(ro (runW (R117_0 a0 a1) (((a1.length:Int) - 0:Int).toNat+1) 0) none (sumE (fun _=>some (AV.bool true)) (sumE (fun p17=>some (AV.bool false)) (fun p18=>some (AV.bool false))))):=by kernel_rfl
def m117:TModel
 | [.sl g0 a0,.sl g1 a1]=>bif ctsEq g0 ([.int .i64]) && ctsEq g1 ([.int .i64,.int .i64]) then some (q117 a0 a1,AV.bool (v117_0 a0 a1)) else none
 | _=>none
theorem k117:Known Tryz.prog 117:=⟨Tryz.f117,Tryz.func117,by kernel_rfl,by kernel_rfl⟩
theorem meets117:Meets Tryz.prog 117 m117:=by
 refine mt (lvl:=0) (cf:=c117) rfl mixed k117 Tryz.func117 (by kernel_rfl) (loops_cons ok117_0 (loops_cons ok117_2 noLoop)) (allT_cons meets52 allT_nil) allM_nil noI fun xs r h=>?_
 unfold m117 at h
 split at h
 ·rename_i g0 a0 g1 a1
  obtain ⟨hg,h⟩:=bif_pair h
  simp only [Bool.and_eq_true] at hg
  obtain ⟨q0,q1⟩:=hg
  obtain rfl:=cE q0
  obtain rfl:=cE q1
  obtain ⟨h1,rfl⟩:=pair_inj h
  exact (e117 a0 a1).trans ((brO (fun o:Option (Unit ⊕ (Int × Int) ⊕ (Int × Int))=>some (AV.bool (ro o false (sumE (fun _=>true) (sumE (fun p17=>false) (fun p18=>false)))))) (brS (fun o:Unit ⊕ (Int × Int) ⊕ (Int × Int)=>some (AV.bool ((sumE (fun _=>true) (sumE (fun p17=>false) (fun p18=>false))) o))) (fun _=>(fun _=>rfl)) (brS (fun o:(Int × Int) ⊕ (Int × Int)=>some (AV.bool ((sumE (fun p17=>false) (fun p18=>false)) o))) (fun p17=>(fun _=>rfl)) (fun p18=>(fun _=>rfl))))) h1)
 ·cases h
def G68_0 {β:Type} (h0_0:List AV) (h0_1:List AV) (h0_2:List AV) (t3:Int) (N:(Int)→β) (K:(Unit ⊕ Unit)→β) (d:β):β:=(bif decide (t3<(h0_1.length:Int)) then (bif (decide (0≤t3) && decide (t3<(h0_1.length:Int))) then (bif !(v52_0 (fI (h0_1.getD t3.toNat .undef) 0) 0 999) then K (.inr ())
 else (bif (decide (0≤0) && decide (0≤t3) && decide (t3≤(h0_1.length:Int))) then (bif (decide (0≤t3) && decide (t3<(h0_1.length:Int))) then (bif q54 ((h0_1.take (Int.toNat t3)).drop (Int.toNat 0)) (fI (h0_1.getD t3.toNat .undef) 0) then (bif (v54_0 ((h0_1.take (Int.toNat t3)).drop (Int.toNat 0)) (fI (h0_1.getD t3.toNat .undef) 0)) then K (.inr ())
 else N (IntKind.i64.wrap (t3+1)))
 else d)
 else d)
 else d))
 else d)
 else K (.inl ()))
def F68_0 (h0_0 h0_1 h0_2:List AV) (t3:Int):Out (Int) (Unit ⊕ Unit):=G68_0 h0_0 h0_1 h0_2 t3 .next .stop .fail
def R68_0 (h0_0 h0_1 h0_2:List AV):(Int)→Out (Int) (Unit ⊕ Unit):=fun s:Int=>F68_0 h0_0 h0_1 h0_2 s
def E68_0 (h0_0 h0_1 h0_2:List AV):(Int)→St:=fun s:Int=>⟨[(1,AV.ptr [0,1] 0 0),(3,Ai s)],[([0,1],⟨true,[],[AV.agg [AV.sl [.int .i64] h0_0,AV.sl [.int .i64] h0_1,AV.sl [.int .i64,.int .i64] h0_2]]⟩)]⟩
def K68_0 (h0_0 h0_1 h0_2:List AV) (k:Kont):(Unit ⊕ Unit)→Option AV:=sumE (fun _:Unit=>k (.exit 0) ⟨[(1,AV.ptr [0,1] 0 0)],[([0,1],⟨true,[],[AV.agg [AV.sl [.int .i64] h0_0,AV.sl [.int .i64] h0_1,AV.sl [.int .i64,.int .i64] h0_2]]⟩)]⟩) (fun _:Unit=>k .ret ⟨[(2,AV.bool false)],[([0,1],⟨true,[],[AV.agg [AV.sl [.int .i64] h0_0,AV.sl [.int .i64] h0_1,AV.sl [.int .i64,.int .i64] h0_2]]⟩)]⟩)
def l68_0:LModel:=fun _ _ st k=>match st with
 | ⟨[(1,.ptr g0 g1 g2),(3,.int .i64 t3)],[(g3,⟨true,[],[.agg [.sl g4 h0_0,.sl g5 h0_1,.sl g6 h0_2]]⟩)]⟩=>bif nmEq g0 ([0,1]) && Nat.beq g1 0 && Nat.beq g2 0 && nmEq g3 ([0,1]) && ctsEq g4 ([.int .i64]) && ctsEq g5 ([.int .i64]) && ctsEq g6 ([.int .i64,.int .i64]) then ro (runW (R68_0 h0_0 h0_1 h0_2) (((h0_1.length:Int) - t3:Int).toNat+1) t3) none (K68_0 h0_0 h0_1 h0_2 k) else none
 | _=>none
noncomputable def c68:Cfg:=cfg Tryz.prog [(68,0,[1,3]),(68,999,[2]),(68,1000,[1]),(68,1001,[1,3])] [(52,m52),(54,m54),(116,m116),(117,m117)] [] [] [(68,0,l68_0)]
theorem s68_0 (h0_0 h0_1 h0_2:List AV) (ce:CallE) (k:Kont) (s:Int) (next:St→Option AV):stepA (codeA c68 ce [] 68 0 (sub [1,1,0,1,0,0] (body Tryz.f68))) (normA [] [1,3]) next ((E68_0 h0_0 h0_1 h0_2) s) k=G68_0 h0_0 h0_1 h0_2 s (fun s=>next ((E68_0 h0_0 h0_1 h0_2) s)) (K68_0 h0_0 h0_1 h0_2 k) none:=by kernel_rfl
theorem st68_0 (h0_0 h0_1 h0_2:List AV) (ce:CallE) (k:Kont) (s:Int) (next:St→Option AV):stepA (codeA c68 ce [] 68 0 (sub [1,1,0,1,0,0] (body Tryz.f68))) (normA [] [1,3]) next ((E68_0 h0_0 h0_1 h0_2) s) k=(R68_0 h0_0 h0_1 h0_2 s).el none (fun s=>next ((E68_0 h0_0 h0_1 h0_2) s)) (K68_0 h0_0 h0_1 h0_2 k):=(s68_0 h0_0 h0_1 h0_2 ce k s next).trans (by unfold R68_0;unfold F68_0 G68_0;simp only [el_cond,el_ro,el_sum,el_fail,el_next,el_stop] <;> rfl)
theorem ok68_0 {ce:CallE}:LoopOK c68 ce [] 68 0 (sub [1,1,0,1,0,0] (body Tryz.f68)):=by
 intro m hm st k r h
 obtain rfl:l68_0=m:=Option.some.inj hm
 unfold l68_0 at h
 split at h
 ·rename_i g0 g1 g2 t3 g3 g4 h0_0 g5 h0_1 g6 h0_2
  obtain ⟨hg,h⟩:=bif_some h
  simp only [Bool.and_eq_true] at hg
  obtain ⟨⟨⟨⟨⟨⟨q0,q1⟩,q2⟩,q3⟩,q4⟩,q5⟩,q6⟩:=hg
  obtain rfl:=nE q0
  obtain rfl:=bE q1
  obtain rfl:=bE q2
  obtain rfl:=nE q3
  obtain rfl:=cE q4
  obtain rfl:=cE q5
  obtain rfl:=cE q6
  refine ⟨(((h0_1.length:Int) - t3:Int).toNat+1),?_⟩
  rw [← h]
  exact loop_run (E68_0 h0_0 h0_1 h0_2) (K68_0 h0_0 h0_1 h0_2 k) (st68_0 h0_0 h0_1 h0_2 ce k) _ t3
 ·cases h
def q68 (xa xb xc:List AV):Bool:=(q116 xa && (bif !(v116_0 xa) then true else (bif !decide ((xb.length:Int)=(xa.length:Int)) then true else (ro (runW (R68_0 xa xb xc) (((xb.length:Int) - 0:Int).toNat+1) 0) false (sumE (fun _=>q117 xa xc) (fun _=>true))))))
def v68_0 (xa xb xc:List AV):Bool:=(bif !(v116_0 xa) then false else (bif !decide ((xb.length:Int)=(xa.length:Int)) then false else (ro (runW (R68_0 xa xb xc) (((xb.length:Int) - 0:Int).toNat+1) 0) false (sumE (fun _=>(v117_0 xa xc)) (fun _=>false)))))
theorem e68 (xa xb xc:List AV):funA c68 0 68 [AV.agg [AV.sl [.int .i64] xa,AV.sl [.int .i64] xb,AV.sl [.int .i64,.int .i64] xc]]=(bif q116 xa then (bif !(v116_0 xa) then some (AV.bool false)
 else (bif !decide ((xb.length:Int)=(xa.length:Int)) then some (AV.bool false)
 else (ro (runW (R68_0 xa xb xc) (((xb.length:Int) - 0:Int).toNat+1) 0) none (sumE (fun _=>(bif q117 xa xc then some (AV.bool (v117_0 xa xc))
 else none)) (fun _=>some (AV.bool false))))))
 else none):=by kernel_rfl
def m68:TModel
 | [.agg [.sl g0 xa,.sl g1 xb,.sl g2 xc]]=>bif ctsEq g0 ([.int .i64]) && ctsEq g1 ([.int .i64]) && ctsEq g2 ([.int .i64,.int .i64]) then some (q68 xa xb xc,AV.bool (v68_0 xa xb xc)) else none
 | _=>none
theorem k68:Known Tryz.prog 68:=⟨Tryz.f68,Tryz.func68,by kernel_rfl,by kernel_rfl⟩
theorem meets68:Meets Tryz.prog 68 m68:=by
 refine mt (lvl:=0) (cf:=c68) rfl mixed k68 Tryz.func68 (by kernel_rfl) (loops_cons ok68_0 noLoop) (allT_cons meets52 (allT_cons meets54 (allT_cons meets116 (allT_cons meets117 allT_nil)))) allM_nil noI fun xs r h=>?_
 unfold m68 at h
 split at h
 ·rename_i g0 xa g1 xb g2 xc
  obtain ⟨hg,h⟩:=bif_pair h
  simp only [Bool.and_eq_true] at hg
  obtain ⟨⟨q0,q1⟩,q2⟩:=hg
  obtain rfl:=cE q0
  obtain rfl:=cE q1
  obtain rfl:=cE q2
  obtain ⟨h1,rfl⟩:=pair_inj h
  exact (e68 xa xb xc).trans ((brL (br (fun b=>some (AV.bool (bif b then false else (bif !decide ((xb.length:Int)=(xa.length:Int)) then false else (ro (runW (R68_0 xa xb xc) (((xb.length:Int) - 0:Int).toNat+1) 0) false (sumE (fun _=>(v117_0 xa xc)) (fun _=>false))))))) (fun _=>rfl) (br (fun b=>some (AV.bool (bif b then false else (ro (runW (R68_0 xa xb xc) (((xb.length:Int) - 0:Int).toNat+1) 0) false (sumE (fun _=>(v117_0 xa xc)) (fun _=>false)))))) (fun _=>rfl) (brO (fun o:Option (Unit ⊕ Unit)=>some (AV.bool (ro o false (sumE (fun _=>(v117_0 xa xc)) (fun _=>false))))) (brS (fun o:Unit ⊕ Unit=>some (AV.bool ((sumE (fun _=>(v117_0 xa xc)) (fun _=>false)) o))) (fun _=>(brL1 (fun _=>rfl))) (fun _=>(fun _=>rfl))))))) h1)
 ·cases h
def G101_0 {β:Type} (t1:Int) (h0_0:List AV) (h0_1:List AV) (h0_2:List AV) (t5:Int) (N:(Int)→β) (K:(Unit ⊕ Int)→β) (d:β):β:=(bif decide (t5<(h0_1.length:Int)) then (bif (decide (0≤t5) && decide (t5<(h0_1.length:Int))) then (bif decide (fI (h0_1.getD t5.toNat .undef) 0=t1) then K (.inr t5)
 else N (IntKind.i64.wrap (t5+1)))
 else d)
 else K (.inl ()))
def F101_0 (t1:Int) (h0_0 h0_1 h0_2:List AV) (t5:Int):Out (Int) (Unit ⊕ Int):=G101_0 t1 h0_0 h0_1 h0_2 t5 .next .stop .fail
def R101_0 (t1:Int) (h0_0 h0_1 h0_2:List AV):(Int)→Out (Int) (Unit ⊕ Int):=fun s:Int=>F101_0 t1 h0_0 h0_1 h0_2 s
def E101_0 (t1:Int) (h0_0 h0_1 h0_2:List AV):(Int)→St:=fun s:Int=>⟨[(1,Ai t1),(2,AV.ptr [0,2] 0 0),(5,Ai s)],[([0,2],⟨true,[],[AV.agg [AV.sl [.int .i64] h0_0,AV.sl [.int .i64] h0_1,AV.sl [.int .i64,.int .i64] h0_2]]⟩)]⟩
def K101_0 (t1:Int) (h0_0 h0_1 h0_2:List AV) (k:Kont):(Unit ⊕ Int)→Option AV:=sumE (fun _:Unit=>k (.exit 0) ⟨[],[([0,2],⟨true,[],[AV.agg [AV.sl [.int .i64] h0_0,AV.sl [.int .i64] h0_1,AV.sl [.int .i64,.int .i64] h0_2]]⟩)]⟩) (fun p:Int=>k .ret ⟨[(4,Ai p)],[([0,2],⟨true,[],[AV.agg [AV.sl [.int .i64] h0_0,AV.sl [.int .i64] h0_1,AV.sl [.int .i64,.int .i64] h0_2]]⟩)]⟩)
def l101_0:LModel:=fun _ _ st k=>match st with
 | ⟨[(1,.int .i64 t1),(2,.ptr g0 g1 g2),(5,.int .i64 t5)],[(g3,⟨true,[],[.agg [.sl g4 h0_0,.sl g5 h0_1,.sl g6 h0_2]]⟩)]⟩=>bif nmEq g0 ([0,2]) && Nat.beq g1 0 && Nat.beq g2 0 && nmEq g3 ([0,2]) && ctsEq g4 ([.int .i64]) && ctsEq g5 ([.int .i64]) && ctsEq g6 ([.int .i64,.int .i64]) then ro (runW (R101_0 t1 h0_0 h0_1 h0_2) (((h0_1.length:Int) - t5:Int).toNat+1) t5) none (K101_0 t1 h0_0 h0_1 h0_2 k) else none
 | _=>none
noncomputable def c101:Cfg:=cfg Tryz.prog [(101,0,[1,2,5]),(101,999,[4]),(101,1000,[]),(101,1001,[1,2,5])] [] [] [] [(101,0,l101_0)]
theorem s101_0 (t1:Int) (h0_0 h0_1 h0_2:List AV) (ce:CallE) (k:Kont) (s:Int) (next:St→Option AV):stepA (codeA c101 ce [] 101 0 (sub [1,0,1,0,0] (body Tryz.f101))) (normA [] [1,2,5]) next ((E101_0 t1 h0_0 h0_1 h0_2) s) k=G101_0 t1 h0_0 h0_1 h0_2 s (fun s=>next ((E101_0 t1 h0_0 h0_1 h0_2) s)) (K101_0 t1 h0_0 h0_1 h0_2 k) none:=by kernel_rfl
theorem st101_0 (t1:Int) (h0_0 h0_1 h0_2:List AV) (ce:CallE) (k:Kont) (s:Int) (next:St→Option AV):stepA (codeA c101 ce [] 101 0 (sub [1,0,1,0,0] (body Tryz.f101))) (normA [] [1,2,5]) next ((E101_0 t1 h0_0 h0_1 h0_2) s) k=(R101_0 t1 h0_0 h0_1 h0_2 s).el none (fun s=>next ((E101_0 t1 h0_0 h0_1 h0_2) s)) (K101_0 t1 h0_0 h0_1 h0_2 k):=(s101_0 t1 h0_0 h0_1 h0_2 ce k s next).trans (by unfold R101_0;unfold F101_0 G101_0;simp only [el_cond,el_ro,el_sum,el_fail,el_next,el_stop] <;> rfl)
theorem ok101_0 {ce:CallE}:LoopOK c101 ce [] 101 0 (sub [1,0,1,0,0] (body Tryz.f101)):=by
 intro m hm st k r h
 obtain rfl:l101_0=m:=Option.some.inj hm
 unfold l101_0 at h
 split at h
 ·rename_i t1 g0 g1 g2 t5 g3 g4 h0_0 g5 h0_1 g6 h0_2
  obtain ⟨hg,h⟩:=bif_some h
  simp only [Bool.and_eq_true] at hg
  obtain ⟨⟨⟨⟨⟨⟨q0,q1⟩,q2⟩,q3⟩,q4⟩,q5⟩,q6⟩:=hg
  obtain rfl:=nE q0
  obtain rfl:=bE q1
  obtain rfl:=bE q2
  obtain rfl:=nE q3
  obtain rfl:=cE q4
  obtain rfl:=cE q5
  obtain rfl:=cE q6
  refine ⟨(((h0_1.length:Int) - t5:Int).toNat+1),?_⟩
  rw [← h]
  exact loop_run (E101_0 t1 h0_0 h0_1 h0_2) (K101_0 t1 h0_0 h0_1 h0_2 k) (st101_0 t1 h0_0 h0_1 h0_2 ce k) _ t5
 ·cases h
def q101 (xa xb xc:List AV) (a1:Int):Bool:=(ro (runW (R101_0 a1 xa xb xc) (((xb.length:Int) - 0:Int).toNat+1) 0) false (sumE (fun _=>true) (fun p21=>true)))
def v101_0 (xa xb xc:List AV) (a1:Int):Int:=(ro (runW (R101_0 a1 xa xb xc) (((xb.length:Int) - 0:Int).toNat+1) 0) 0 (sumE (fun _=>(-1)) (fun p21=>p21)))
theorem e101 (xa xb xc:List AV) (a1:Int):funA c101 0 101 [AV.agg [AV.sl [.int .i64] xa,AV.sl [.int .i64] xb,AV.sl [.int .i64,.int .i64] xc],Ai a1]=(ro (runW (R101_0 a1 xa xb xc) (((xb.length:Int) - 0:Int).toNat+1) 0) none (sumE (fun _=>some (Ai (-1))) (fun p21=>some (Ai p21)))):=by kernel_rfl
def m101:TModel
 | [.agg [.sl g0 xa,.sl g1 xb,.sl g2 xc],.int .i64 a1]=>bif ctsEq g0 ([.int .i64]) && ctsEq g1 ([.int .i64]) && ctsEq g2 ([.int .i64,.int .i64]) then some (q101 xa xb xc a1,AV.int .i64 (v101_0 xa xb xc a1)) else none
 | _=>none
theorem k101:Known Tryz.prog 101:=⟨Tryz.f101,Tryz.func101,by kernel_rfl,by kernel_rfl⟩
theorem meets101:Meets Tryz.prog 101 m101:=by
 refine mt (lvl:=0) (cf:=c101) rfl mixed k101 Tryz.func101 (by kernel_rfl) (loops_cons ok101_0 noLoop) allT_nil allM_nil noI fun xs r h=>?_
 unfold m101 at h
 split at h
 ·rename_i g0 xa g1 xb g2 xc a1
  obtain ⟨hg,h⟩:=bif_pair h
  simp only [Bool.and_eq_true] at hg
  obtain ⟨⟨q0,q1⟩,q2⟩:=hg
  obtain rfl:=cE q0
  obtain rfl:=cE q1
  obtain rfl:=cE q2
  obtain ⟨h1,rfl⟩:=pair_inj h
  exact (e101 xa xb xc a1).trans ((brO (fun o:Option (Unit ⊕ Int)=>some (Ai (ro o 0 (sumE (fun _=>(-1)) (fun p21=>p21))))) (brS (fun o:Unit ⊕ Int=>some (Ai ((sumE (fun _=>(-1)) (fun p21=>p21)) o))) (fun _=>(fun _=>rfl)) (fun p21=>(fun _=>rfl)))) h1)
 ·cases h
def G50_0 {β:Type} (h0_0:List AV) (h0_1:Int) (h0_2:List AV) (h0_3:List AV) (h0_4:List AV) (t3:Int) (N:(Int)→β) (K:(Unit ⊕ (Int × Int × Int × Int))→β) (d:β):β:=by
 refine (?f0:Int→Bool→β) (v101_0 h0_2 h0_3 h0_4 (fI (h0_0.getD t3.toNat .undef) 1)) (v52_0 (fI (h0_0.getD t3.toNat .undef) 3) (IntKind.i64.wrap (fI (h0_0.getD t3.toNat .undef) 2+1)) h0_1);intro x1 x2
 exact (bif decide (t3<(h0_0.length:Int)) then (bif (decide (0≤t3) && decide (t3<(h0_0.length:Int))) then (bif q101 h0_2 h0_3 h0_4 (fI (h0_0.getD t3.toNat .undef) 1) then (bif decide (x1<0) then K (.inr (fI (h0_0.getD t3.toNat .undef) 0,fI (h0_0.getD t3.toNat .undef) 1,fI (h0_0.getD t3.toNat .undef) 2,fI (h0_0.getD t3.toNat .undef) 3))
 else (bif (decide (0≤x1) && decide (x1<(h0_2.length:Int))) then (bif !decide (fI (h0_2.getD x1.toNat .undef) 0=fI (h0_0.getD t3.toNat .undef) 0) then K (.inr (fI (h0_0.getD t3.toNat .undef) 0,fI (h0_0.getD t3.toNat .undef) 1,fI (h0_0.getD t3.toNat .undef) 2,fI (h0_0.getD t3.toNat .undef) 3))
 else (bif decide (t3 > 0) then (bif (decide (0≤IntKind.i64.wrap (t3 - 1)) && decide (IntKind.i64.wrap (t3 - 1)<(h0_0.length:Int))) then (bif decide (fI (h0_0.getD t3.toNat .undef) 1≤fI (h0_0.getD (IntKind.i64.wrap (t3 - 1)).toNat .undef) 1) then K (.inr (fI (h0_0.getD t3.toNat .undef) 0,fI (h0_0.getD t3.toNat .undef) 1,fI (h0_0.getD t3.toNat .undef) 2,fI (h0_0.getD t3.toNat .undef) 3))
 else (bif !(v52_0 (fI (h0_0.getD t3.toNat .undef) 2) 0 h0_1) then K (.inr (fI (h0_0.getD t3.toNat .undef) 0,fI (h0_0.getD t3.toNat .undef) 1,fI (h0_0.getD t3.toNat .undef) 2,fI (h0_0.getD t3.toNat .undef) 3))
 else (bif !decide (fI (h0_0.getD t3.toNat .undef) 3=(-1)) then (bif !x2 then K (.inr (fI (h0_0.getD t3.toNat .undef) 0,fI (h0_0.getD t3.toNat .undef) 1,fI (h0_0.getD t3.toNat .undef) 2,fI (h0_0.getD t3.toNat .undef) 3))
 else N (IntKind.i64.wrap (t3+1)))
 else N (IntKind.i64.wrap (t3+1)))))
 else d)
 else (bif !(v52_0 (fI (h0_0.getD t3.toNat .undef) 2) 0 h0_1) then K (.inr (fI (h0_0.getD t3.toNat .undef) 0,fI (h0_0.getD t3.toNat .undef) 1,fI (h0_0.getD t3.toNat .undef) 2,fI (h0_0.getD t3.toNat .undef) 3))
 else (bif !decide (fI (h0_0.getD t3.toNat .undef) 3=(-1)) then (bif !x2 then K (.inr (fI (h0_0.getD t3.toNat .undef) 0,fI (h0_0.getD t3.toNat .undef) 1,fI (h0_0.getD t3.toNat .undef) 2,fI (h0_0.getD t3.toNat .undef) 3))
 else N (IntKind.i64.wrap (t3+1)))
 else N (IntKind.i64.wrap (t3+1))))))
 else d))
 else d)
 else d)
 else K (.inl ()))
def F50_0 (h0_0:List AV) (h0_1:Int) (h0_2 h0_3 h0_4:List AV) (t3:Int):Out (Int) (Unit ⊕ (Int × Int × Int × Int)):=G50_0 h0_0 h0_1 h0_2 h0_3 h0_4 t3 .next .stop .fail
def R50_0 (h0_0:List AV) (h0_1:Int) (h0_2 h0_3 h0_4:List AV):(Int)→Out (Int) (Unit ⊕ (Int × Int × Int × Int)):=fun s:Int=>F50_0 h0_0 h0_1 h0_2 h0_3 h0_4 s
def E50_0 (h0_0:List AV) (h0_1:Int) (h0_2 h0_3 h0_4:List AV):(Int)→St:=fun s:Int=>⟨[(1,AV.ptr [0,1] 0 0),(3,Ai s)],[([0,1],⟨true,[],[AV.agg [AV.sl [.int .i64,.int .i64,.int .i64,.int .i64] h0_0,Ai h0_1,AV.sl [.int .i64] h0_2,AV.sl [.int .i64] h0_3,AV.sl [.int .i64,.int .i64] h0_4]]⟩)]⟩
def K50_0 (h0_0:List AV) (h0_1:Int) (h0_2 h0_3 h0_4:List AV) (k:Kont):(Unit ⊕ (Int × Int × Int × Int))→Option AV:=sumE (fun _:Unit=>k (.exit 0) ⟨[],[([0,1],⟨true,[],[AV.agg [AV.sl [.int .i64,.int .i64,.int .i64,.int .i64] h0_0,Ai h0_1,AV.sl [.int .i64] h0_2,AV.sl [.int .i64] h0_3,AV.sl [.int .i64,.int .i64] h0_4]]⟩)]⟩) (fun p:Int × Int × Int × Int=>k .ret ⟨[(2,AV.bool false)],[([0,1],⟨true,[],[AV.agg [AV.sl [.int .i64,.int .i64,.int .i64,.int .i64] h0_0,Ai h0_1,AV.sl [.int .i64] h0_2,AV.sl [.int .i64] h0_3,AV.sl [.int .i64,.int .i64] h0_4]]⟩),([1,4],⟨true,[],[AV.agg [Ai p.1,Ai p.2.1,Ai p.2.2.1,Ai p.2.2.2]]⟩)]⟩)
def l50_0:LModel:=fun _ _ st k=>match st with
 | ⟨[(1,.ptr g0 g1 g2),(3,.int .i64 t3)],[(g3,⟨true,[],[.agg [.sl g4 h0_0,.int .i64 h0_1,.sl g5 h0_2,.sl g6 h0_3,.sl g7 h0_4]]⟩)]⟩=>bif nmEq g0 ([0,1]) && Nat.beq g1 0 && Nat.beq g2 0 && nmEq g3 ([0,1]) && ctsEq g4 ([.int .i64,.int .i64,.int .i64,.int .i64]) && ctsEq g5 ([.int .i64]) && ctsEq g6 ([.int .i64]) && ctsEq g7 ([.int .i64,.int .i64]) then ro (runW (R50_0 h0_0 h0_1 h0_2 h0_3 h0_4) (((h0_0.length:Int) - t3:Int).toNat+1) t3) none (K50_0 h0_0 h0_1 h0_2 h0_3 h0_4 k) else none
 | _=>none
noncomputable def c50:Cfg:=cfg Tryz.prog [(50,0,[1,3]),(50,999,[2]),(50,1000,[]),(50,1001,[1,3])] [(52,m52),(68,m68),(101,m101)] [] [] [(50,0,l50_0)]
theorem s50_0 (h0_0:List AV) (h0_1:Int) (h0_2 h0_3 h0_4:List AV) (ce:CallE) (k:Kont) (s:Int) (next:St→Option AV):stepA (codeA c50 ce [] 50 0 (sub [1,1,0,1,0,0] (body Tryz.f50))) (normA [] [1,3]) next ((E50_0 h0_0 h0_1 h0_2 h0_3 h0_4) s) k=G50_0 h0_0 h0_1 h0_2 h0_3 h0_4 s (fun s=>next ((E50_0 h0_0 h0_1 h0_2 h0_3 h0_4) s)) (K50_0 h0_0 h0_1 h0_2 h0_3 h0_4 k) none:=by kernel_rfl
theorem st50_0 (h0_0:List AV) (h0_1:Int) (h0_2 h0_3 h0_4:List AV) (ce:CallE) (k:Kont) (s:Int) (next:St→Option AV):stepA (codeA c50 ce [] 50 0 (sub [1,1,0,1,0,0] (body Tryz.f50))) (normA [] [1,3]) next ((E50_0 h0_0 h0_1 h0_2 h0_3 h0_4) s) k=(R50_0 h0_0 h0_1 h0_2 h0_3 h0_4 s).el none (fun s=>next ((E50_0 h0_0 h0_1 h0_2 h0_3 h0_4) s)) (K50_0 h0_0 h0_1 h0_2 h0_3 h0_4 k):=(s50_0 h0_0 h0_1 h0_2 h0_3 h0_4 ce k s next).trans (by unfold R50_0;unfold F50_0 G50_0;simp only [el_cond,el_ro,el_sum,el_fail,el_next,el_stop] <;> rfl)
theorem ok50_0 {ce:CallE}:LoopOK c50 ce [] 50 0 (sub [1,1,0,1,0,0] (body Tryz.f50)):=by
 intro m hm st k r h
 obtain rfl:l50_0=m:=Option.some.inj hm
 unfold l50_0 at h
 split at h
 ·rename_i g0 g1 g2 t3 g3 g4 h0_0 h0_1 g5 h0_2 g6 h0_3 g7 h0_4
  obtain ⟨hg,h⟩:=bif_some h
  simp only [Bool.and_eq_true] at hg
  obtain ⟨⟨⟨⟨⟨⟨⟨q0,q1⟩,q2⟩,q3⟩,q4⟩,q5⟩,q6⟩,q7⟩:=hg
  obtain rfl:=nE q0
  obtain rfl:=bE q1
  obtain rfl:=bE q2
  obtain rfl:=nE q3
  obtain rfl:=cE q4
  obtain rfl:=cE q5
  obtain rfl:=cE q6
  obtain rfl:=cE q7
  refine ⟨(((h0_0.length:Int) - t3:Int).toNat+1),?_⟩
  rw [← h]
  exact loop_run (E50_0 h0_0 h0_1 h0_2 h0_3 h0_4) (K50_0 h0_0 h0_1 h0_2 h0_3 h0_4 k) (st50_0 h0_0 h0_1 h0_2 h0_3 h0_4 ce k) _ t3
 ·cases h
def q50 (xa:List AV) (xb:Int) (xc xd xe:List AV):Bool:=(q68 xc xd xe && (bif !(v68_0 xc xd xe) then true else (bif !decide ((xa.length:Int)=(xc.length:Int)) then true else (bif !(v52_0 xb 0 1000) then true else (ro (runW (R50_0 xa xb xc xd xe) (((xa.length:Int) - 0:Int).toNat+1) 0) false (sumE (fun _=>true) (fun p23=>true)))))))
def v50_0 (xa:List AV) (xb:Int) (xc xd xe:List AV):Bool:=(bif !(v68_0 xc xd xe) then false else (bif !decide ((xa.length:Int)=(xc.length:Int)) then false else (bif !(v52_0 xb 0 1000) then false else (ro (runW (R50_0 xa xb xc xd xe) (((xa.length:Int) - 0:Int).toNat+1) 0) false (sumE (fun _=>true) (fun p23=>false))))))
theorem e50 (xa:List AV) (xb:Int) (xc xd xe:List AV):funA c50 0 50 [AV.agg [AV.sl [.int .i64,.int .i64,.int .i64,.int .i64] xa,Ai xb,AV.sl [.int .i64] xc,AV.sl [.int .i64] xd,AV.sl [.int .i64,.int .i64] xe]]=(bif q68 xc xd xe then (bif !(v68_0 xc xd xe) then some (AV.bool false)
 else (bif !decide ((xa.length:Int)=(xc.length:Int)) then some (AV.bool false)
 else (bif !(v52_0 xb 0 1000) then some (AV.bool false)
 else (ro (runW (R50_0 xa xb xc xd xe) (((xa.length:Int) - 0:Int).toNat+1) 0) none (sumE (fun _=>some (AV.bool true)) (fun p23=>some (AV.bool false)))))))
 else none):=by kernel_rfl
def m50:TModel
 | [.agg [.sl g0 xa,.int .i64 xb,.sl g1 xc,.sl g2 xd,.sl g3 xe]]=>bif ctsEq g0 ([.int .i64,.int .i64,.int .i64,.int .i64]) && ctsEq g1 ([.int .i64]) && ctsEq g2 ([.int .i64]) && ctsEq g3 ([.int .i64,.int .i64]) then some (q50 xa xb xc xd xe,AV.bool (v50_0 xa xb xc xd xe)) else none
 | _=>none
theorem k50:Known Tryz.prog 50:=⟨Tryz.f50,Tryz.func50,by kernel_rfl,by kernel_rfl⟩
theorem meets50:Meets Tryz.prog 50 m50:=by
 refine mt (lvl:=0) (cf:=c50) rfl mixed k50 Tryz.func50 (by kernel_rfl) (loops_cons ok50_0 noLoop) (allT_cons meets52 (allT_cons meets68 (allT_cons meets101 allT_nil))) allM_nil noI fun xs r h=>?_
 unfold m50 at h
 split at h
 ·rename_i g0 xa xb g1 xc g2 xd g3 xe
  obtain ⟨hg,h⟩:=bif_pair h
  simp only [Bool.and_eq_true] at hg
  obtain ⟨⟨⟨q0,q1⟩,q2⟩,q3⟩:=hg
  obtain rfl:=cE q0
  obtain rfl:=cE q1
  obtain rfl:=cE q2
  obtain rfl:=cE q3
  obtain ⟨h1,rfl⟩:=pair_inj h
  exact (e50 xa xb xc xd xe).trans ((brL (br (fun b=>some (AV.bool (bif b then false else (bif !decide ((xa.length:Int)=(xc.length:Int)) then false else (bif !(v52_0 xb 0 1000) then false else (ro (runW (R50_0 xa xb xc xd xe) (((xa.length:Int) - 0:Int).toNat+1) 0) false (sumE (fun _=>true) (fun p23=>false)))))))) (fun _=>rfl) (br (fun b=>some (AV.bool (bif b then false else (bif !(v52_0 xb 0 1000) then false else (ro (runW (R50_0 xa xb xc xd xe) (((xa.length:Int) - 0:Int).toNat+1) 0) false (sumE (fun _=>true) (fun p23=>false))))))) (fun _=>rfl) (br (fun b=>some (AV.bool (bif b then false else (ro (runW (R50_0 xa xb xc xd xe) (((xa.length:Int) - 0:Int).toNat+1) 0) false (sumE (fun _=>true) (fun p23=>false)))))) (fun _=>rfl) (brO (fun o:Option (Unit ⊕ (Int × Int × Int × Int))=>some (AV.bool (ro o false (sumE (fun _=>true) (fun p23=>false))))) (brS (fun o:Unit ⊕ (Int × Int × Int × Int)=>some (AV.bool ((sumE (fun _=>true) (fun p23=>false)) o))) (fun _=>(fun _=>rfl)) (fun p23=>(fun _=>rfl)))))))) h1)
 ·cases h
noncomputable def c190:Cfg:=cfg Tryz.prog [(190,999,[2])] [(52,m52)] [] [] []
def v190_0 (xa xb:Int):Bool:=(bif (v52_0 xa (-999) 999) then (v52_0 xb 0 999) else false)
theorem e190 (xa xb:Int):funA c190 0 190 [AV.agg [Ai xa,Ai xb]]=(bif (v52_0 xa (-999) 999) then some (AV.bool (v52_0 xb 0 999))
 else some (AV.bool false)):=by kernel_rfl
def m190:TModel
 | [.agg [.int .i64 xa,.int .i64 xb]]=>some (true,AV.bool (v190_0 xa xb))
 | _=>none
theorem k190:Known Tryz.prog 190:=⟨Tryz.f190,Tryz.func190,by kernel_rfl,by kernel_rfl⟩
theorem meets190:Meets Tryz.prog 190 m190:=by
 refine mt (lvl:=0) (cf:=c190) rfl mixed k190 Tryz.func190 (by kernel_rfl) noLoop (allT_cons meets52 allT_nil) allM_nil noI fun xs r h=>?_
 unfold m190 at h
 split at h
 ·rename_i xa xb
  obtain ⟨h1,rfl⟩:=pair_inj h
  exact (e190 xa xb).trans (of_tt (brT (fun b=>some (AV.bool (bif b then (v52_0 xb 0 999) else false))) (fun _=>rfl) (fun _=>rfl)))
 ·cases h
def G161_0 {β:Type} (h3_0:Int) (h3_1:Int) (t8:Int) (t9:Int) (t10:Int) (h0:List AV) (h1:List AV) (h2:List AV) (N:((Int × Int × Int × (List AV) × (List AV) × (List AV)))→β) (K:((Int × Int × (List AV) × (List AV) × (List AV)))→β) (d:β):β:=(bif decide (t10 ≥ 0) then (bif (decide (0≤t10) && decide (t10<(h2.length:Int))) then (bif decide (fI (h2.getD t10.toNat .undef) 0 > h3_0) then (bif (decide (0≤t10) && decide (t10<(h2.length:Int))) then (bif decide (fI (h2.getD t10.toNat .undef) 1=t8) then (bif (decide (0≤t10) && decide (t10<(h2.length:Int))) then N (fI (h2.getD t10.toNat .undef) 1,IntKind.i64.wrap (t9+0),IntKind.i64.wrap (t10 - 1),h0,h1,h2.set t10.toNat (AV.agg [AV.int .i64 (fI (h2.getD t10.toNat .undef) 0),AV.int .i64 (IntKind.i64.wrap (fI (h2.getD t10.toNat .undef) 1+1))]))
 else d)
 else (bif (decide (0≤fI (h2.getD t10.toNat .undef) 1) && decide (fI (h2.getD t10.toNat .undef) 1<(h0.length:Int))) then (bif (decide (0≤t8) && decide (t8<(h0.length:Int))) then (bif (decide (0≤fI (h2.getD t10.toNat .undef) 1) && decide (fI (h2.getD t10.toNat .undef) 1<(h1.length:Int))) then (bif (decide (0≤t8) && decide (t8<(h1.length:Int))) then (bif (decide (0≤t10) && decide (t10<(h2.length:Int))) then N (fI (h2.getD t10.toNat .undef) 1,IntKind.i64.wrap (t9+1),IntKind.i64.wrap (t10 - 1),h0.set t8.toNat (AV.agg [AV.int .i64 (fI (h0.getD (fI (h2.getD t10.toNat .undef) 1).toNat .undef) 0)]),h1.set t8.toNat (AV.agg [AV.int .i64 (fI (h1.getD (fI (h2.getD t10.toNat .undef) 1).toNat .undef) 0)]),h2.set t10.toNat (AV.agg [AV.int .i64 (fI (h2.getD t10.toNat .undef) 0),AV.int .i64 (IntKind.i64.wrap (fI (h2.getD t10.toNat .undef) 1+1))]))
 else d)
 else d)
 else d)
 else d)
 else d))
 else d)
 else K (t8,t9,h0,h1,h2))
 else d)
 else K (t8,t9,h0,h1,h2))
def F161_0 (h3_0 h3_1 t8 t9 t10:Int) (h0 h1 h2:List AV):Out ((Int × Int × Int × (List AV) × (List AV) × (List AV))) ((Int × Int × (List AV) × (List AV) × (List AV))):=G161_0 h3_0 h3_1 t8 t9 t10 h0 h1 h2 .next .stop .fail
def R161_0 (h3_0 h3_1:Int):((Int × Int × Int × (List AV) × (List AV) × (List AV)))→Out ((Int × Int × Int × (List AV) × (List AV) × (List AV))) ((Int × Int × (List AV) × (List AV) × (List AV))):=fun s:Int × Int × Int × (List AV) × (List AV) × (List AV)=>F161_0 h3_0 h3_1 s.1 s.2.1 s.2.2.1 s.2.2.2.1 s.2.2.2.2.1 s.2.2.2.2.2
def E161_0 (h3_0 h3_1:Int):((Int × Int × Int × (List AV) × (List AV) × (List AV)))→St:=fun s:Int × Int × Int × (List AV) × (List AV) × (List AV)=>⟨[(3,AV.ptr [0,3] 0 0),(4,AV.ptr [0,4] 0 0),(7,AV.ptr [0,7] 0 0),(8,Ai s.1),(9,Ai s.2.1),(10,Ai s.2.2.1)],[([0,0,7],⟨false,[.int .i64],s.2.2.2.1⟩),([0,1,7],⟨false,[.int .i64],s.2.2.2.2.1⟩),([0,2,7],⟨false,[.int .i64,.int .i64],s.2.2.2.2.2⟩),([0,3],⟨true,[],[AV.agg [Ai h3_0,Ai h3_1]]⟩),([0,4],⟨true,[],[AV.agg [AV.snil,AV.snil,AV.snil]]⟩),([0,7],⟨true,[],[AV.agg [AV.own [0,0,7],AV.own [0,1,7],AV.own [0,2,7]]]⟩)]⟩
def K161_0 (h3_0 h3_1:Int) (k:Kont):((Int × Int × (List AV) × (List AV) × (List AV)))→Option AV:=fun p:Int × Int × (List AV) × (List AV) × (List AV)=>k (.exit 0) ⟨[(3,AV.ptr [0,3] 0 0),(4,AV.ptr [0,4] 0 0),(7,AV.ptr [0,7] 0 0),(8,Ai p.1),(9,Ai p.2.1)],[([0,0,7],⟨false,[.int .i64],p.2.2.1⟩),([0,1,7],⟨false,[.int .i64],p.2.2.2.1⟩),([0,2,7],⟨false,[.int .i64,.int .i64],p.2.2.2.2⟩),([0,3],⟨true,[],[AV.agg [Ai h3_0,Ai h3_1]]⟩),([0,4],⟨true,[],[AV.agg [AV.snil,AV.snil,AV.snil]]⟩),([0,7],⟨true,[],[AV.agg [AV.own [0,0,7],AV.own [0,1,7],AV.own [0,2,7]]]⟩)]⟩
def l161_0:LModel:=fun _ _ st k=>match st with
 | ⟨[(3,.ptr g0 g1 g2),(4,.ptr g3 g4 g5),(7,.ptr g6 g7 g8),(8,.int .i64 t8),(9,.int .i64 t9),(10,.int .i64 t10)],[(g9,⟨false,g10,h0⟩),(g11,⟨false,g12,h1⟩),(g13,⟨false,g14,h2⟩),(g15,⟨true,[],[.agg [.int .i64 h3_0,.int .i64 h3_1]]⟩),(g16,⟨true,[],[.agg [.snil,.snil,.snil]]⟩),(g17,⟨true,[],[.agg [.own g18,.own g19,.own g20]]⟩)]⟩=>bif nmEq g0 ([0,3]) && Nat.beq g1 0 && Nat.beq g2 0 && nmEq g3 ([0,4]) && Nat.beq g4 0 && Nat.beq g5 0 && nmEq g6 ([0,7]) && Nat.beq g7 0 && Nat.beq g8 0 && nmEq g9 ([0,0,7]) && ctsEq g10 ([.int .i64]) && nmEq g11 ([0,1,7]) && ctsEq g12 ([.int .i64]) && nmEq g13 ([0,2,7]) && ctsEq g14 ([.int .i64,.int .i64]) && nmEq g15 ([0,3]) && nmEq g16 ([0,4]) && nmEq g17 ([0,7]) && nmEq g18 ([0,0,7]) && nmEq g19 ([0,1,7]) && nmEq g20 ([0,2,7]) then ro (runW (R161_0 h3_0 h3_1) ((t10 - 0+1:Int).toNat+1) (t8,t9,t10,h0,h1,h2)) none (K161_0 h3_0 h3_1 k) else none
 | _=>none
noncomputable def c161:Cfg:=cfg Tryz.prog [(161,0,[3,4,7,8,9,10]),(161,999,[4,5,6]),(161,1000,[3,4,7,8,9]),(161,1001,[3,4,7,8,9,10]),(105,999,[6])] [(68,m68),(69,m69),(101,m101),(190,m190)] [] [105] [(161,0,l161_0)]
theorem s161_0 (h3_0 h3_1:Int) (k:Kont) (s:Int × Int × Int × (List AV) × (List AV) × (List AV)) (next:St→Option AV):stepA (codeA c161 (inlA c161 1) [] 161 0 (sub [1,1,1,1,1,1,1,0,1,0,0] (body Tryz.f161))) (normA [] [3,4,7,8,9,10]) next ((E161_0 h3_0 h3_1) s) k=G161_0 h3_0 h3_1 s.1 s.2.1 s.2.2.1 s.2.2.2.1 s.2.2.2.2.1 s.2.2.2.2.2 (fun s=>next ((E161_0 h3_0 h3_1) s)) (K161_0 h3_0 h3_1 k) none:=by kernel_rfl
theorem st161_0 (h3_0 h3_1:Int) (k:Kont) (s:(Int × Int × Int × (List AV) × (List AV) × (List AV))) (next:St→Option AV):stepA (codeA c161 (inlA c161 1) [] 161 0 (sub [1,1,1,1,1,1,1,0,1,0,0] (body Tryz.f161))) (normA [] [3,4,7,8,9,10]) next ((E161_0 h3_0 h3_1) s) k=(R161_0 h3_0 h3_1 s).el none (fun s=>next ((E161_0 h3_0 h3_1) s)) (K161_0 h3_0 h3_1 k):=(s161_0 h3_0 h3_1 k s next).trans (by unfold R161_0;unfold F161_0 G161_0;simp only [el_cond,el_ro,el_sum,el_fail,el_next,el_stop] <;> rfl)
theorem ok161_0:LoopOK c161 (inlA c161 1) [] 161 0 (sub [1,1,1,1,1,1,1,0,1,0,0] (body Tryz.f161)):=by
 intro m hm st k r h
 obtain rfl:l161_0=m:=Option.some.inj hm
 unfold l161_0 at h
 split at h
 ·rename_i g0 g1 g2 g3 g4 g5 g6 g7 g8 t8 t9 t10 g9 g10 h0 g11 g12 h1 g13 g14 h2 g15 h3_0 h3_1 g16 g17 g18 g19 g20
  obtain ⟨hg,h⟩:=bif_some h
  simp only [Bool.and_eq_true] at hg
  obtain ⟨⟨⟨⟨⟨⟨⟨⟨⟨⟨⟨⟨⟨⟨⟨⟨⟨⟨⟨⟨q0,q1⟩,q2⟩,q3⟩,q4⟩,q5⟩,q6⟩,q7⟩,q8⟩,q9⟩,q10⟩,q11⟩,q12⟩,q13⟩,q14⟩,q15⟩,q16⟩,q17⟩,q18⟩,q19⟩,q20⟩:=hg
  obtain rfl:=nE q0
  obtain rfl:=bE q1
  obtain rfl:=bE q2
  obtain rfl:=nE q3
  obtain rfl:=bE q4
  obtain rfl:=bE q5
  obtain rfl:=nE q6
  obtain rfl:=bE q7
  obtain rfl:=bE q8
  obtain rfl:=nE q9
  obtain rfl:=cE q10
  obtain rfl:=nE q11
  obtain rfl:=cE q12
  obtain rfl:=nE q13
  obtain rfl:=cE q14
  obtain rfl:=nE q15
  obtain rfl:=nE q16
  obtain rfl:=nE q17
  obtain rfl:=nE q18
  obtain rfl:=nE q19
  obtain rfl:=nE q20
  refine ⟨((t10 - 0+1:Int).toNat+1),?_⟩
  rw [← h]
  exact loop_run (E161_0 h3_0 h3_1) (K161_0 h3_0 h3_1 k) (st161_0 h3_0 h3_1 k) _ (t8,t9,t10,h0,h1,h2)
 ·cases h
def q161 (xa xb xc:List AV) (ya yb:Int):Bool:=(q68 xa xb xc && (bif !(v68_0 xa xb xc) then q69 xa xb xc else (bif !(v190_0 ya yb) then q69 xa xb xc else (q101 xa xb xc yb && (bif decide ((v101_0 xa xb xc yb) ≥ 0) then q69 xa xb xc else (bif decide ((xa.length:Int) ≥ 64) then q69 xa xb xc else (q69 xa xb xc && ((decide (((v69_0 xa xb xc).length+([AV.int .i64 0]).length)*8≤140737488355328) && decide (((v69_0 xa xb xc).length+([AV.int .i64 0]).length)≤140737488355328)) && ((decide (((v69_1 xa xb xc).length+([AV.int .i64 0]).length)*8≤140737488355328) && decide (((v69_1 xa xb xc).length+([AV.int .i64 0]).length)≤140737488355328)) && (ro (runW (R161_0 ya yb) (((IntKind.i64.wrap (((v69_2 xa xb xc).length:Int) - 1)) - 0+1:Int).toNat+1) ((xa.length:Int),0,IntKind.i64.wrap (((v69_2 xa xb xc).length:Int) - 1),(v69_0 xa xb xc)++([AV.int .i64 0]),(v69_1 xa xb xc)++([AV.int .i64 0]),(v69_2 xa xb xc))) false (fun p24=>((decide (0≤p24.1) && decide (p24.1<(p24.2.2.1.length:Int))) && (decide (0≤p24.1) && decide (p24.1<(p24.2.2.2.1.length:Int)))))))))))))))
def v161_0 (xa xb xc:List AV) (ya yb:Int):List AV:=(bif !(v68_0 xa xb xc) then (v69_0 xa xb xc) else (bif !(v190_0 ya yb) then (v69_0 xa xb xc) else (bif decide ((v101_0 xa xb xc yb) ≥ 0) then (v69_0 xa xb xc) else (bif decide ((xa.length:Int) ≥ 64) then (v69_0 xa xb xc) else (ro (runW (R161_0 ya yb) (((IntKind.i64.wrap (((v69_2 xa xb xc).length:Int) - 1)) - 0+1:Int).toNat+1) ((xa.length:Int),0,IntKind.i64.wrap (((v69_2 xa xb xc).length:Int) - 1),(v69_0 xa xb xc)++([AV.int .i64 0]),(v69_1 xa xb xc)++([AV.int .i64 0]),(v69_2 xa xb xc))) [] (fun p24=>p24.2.2.1.set p24.1.toNat (AV.agg [AV.int .i64 ya])))))))
def v161_1 (xa xb xc:List AV) (ya yb:Int):List AV:=(bif !(v68_0 xa xb xc) then (v69_1 xa xb xc) else (bif !(v190_0 ya yb) then (v69_1 xa xb xc) else (bif decide ((v101_0 xa xb xc yb) ≥ 0) then (v69_1 xa xb xc) else (bif decide ((xa.length:Int) ≥ 64) then (v69_1 xa xb xc) else (ro (runW (R161_0 ya yb) (((IntKind.i64.wrap (((v69_2 xa xb xc).length:Int) - 1)) - 0+1:Int).toNat+1) ((xa.length:Int),0,IntKind.i64.wrap (((v69_2 xa xb xc).length:Int) - 1),(v69_0 xa xb xc)++([AV.int .i64 0]),(v69_1 xa xb xc)++([AV.int .i64 0]),(v69_2 xa xb xc))) [] (fun p24=>p24.2.2.2.1.set p24.1.toNat (AV.agg [AV.int .i64 yb])))))))
def v161_2 (xa xb xc:List AV) (ya yb:Int):List AV:=(bif !(v68_0 xa xb xc) then (v69_2 xa xb xc) else (bif !(v190_0 ya yb) then (v69_2 xa xb xc) else (bif decide ((v101_0 xa xb xc yb) ≥ 0) then (v69_2 xa xb xc) else (bif decide ((xa.length:Int) ≥ 64) then (v69_2 xa xb xc) else (ro (runW (R161_0 ya yb) (((IntKind.i64.wrap (((v69_2 xa xb xc).length:Int) - 1)) - 0+1:Int).toNat+1) ((xa.length:Int),0,IntKind.i64.wrap (((v69_2 xa xb xc).length:Int) - 1),(v69_0 xa xb xc)++([AV.int .i64 0]),(v69_1 xa xb xc)++([AV.int .i64 0]),(v69_2 xa xb xc))) [] (fun p24=>p24.2.2.2.2))))))
def v161_3 (xa xb xc:List AV) (ya yb:Int):Int:=(bif !(v68_0 xa xb xc) then 0 else (bif !(v190_0 ya yb) then 0 else (bif decide ((v101_0 xa xb xc yb) ≥ 0) then 0 else (bif decide ((xa.length:Int) ≥ 64) then 0 else (ro (runW (R161_0 ya yb) (((IntKind.i64.wrap (((v69_2 xa xb xc).length:Int) - 1)) - 0+1:Int).toNat+1) ((xa.length:Int),0,IntKind.i64.wrap (((v69_2 xa xb xc).length:Int) - 1),(v69_0 xa xb xc)++([AV.int .i64 0]),(v69_1 xa xb xc)++([AV.int .i64 0]),(v69_2 xa xb xc))) 0 (fun p24=>p24.2.1))))))
def v161_4 (xa xb xc:List AV) (ya yb:Int):Bool:=(bif !(v68_0 xa xb xc) then false else (bif !(v190_0 ya yb) then false else (bif decide ((v101_0 xa xb xc yb) ≥ 0) then false else (bif decide ((xa.length:Int) ≥ 64) then false else true))))
theorem e161 (xa xb xc:List AV) (ya yb:Int):funA c161 1 161 [AV.agg [AV.sl [.int .i64] xa,AV.sl [.int .i64] xb,AV.sl [.int .i64,.int .i64] xc],AV.agg [Ai ya,Ai yb]]=((fun (x1:List AV) (x2:List AV) (x3:List AV)=>(bif q68 xa xb xc then (bif !(v68_0 xa xb xc) then (bif q69 xa xb xc then some (AV.tup [AV.agg [AV.fl [.int .i64] x1,AV.fl [.int .i64] x2,AV.fl [.int .i64,.int .i64] x3],Ai 0,AV.bool false])
 else none)
 else (bif !(v190_0 ya yb) then (bif q69 xa xb xc then some (AV.tup [AV.agg [AV.fl [.int .i64] x1,AV.fl [.int .i64] x2,AV.fl [.int .i64,.int .i64] x3],Ai 0,AV.bool false])
 else none)
 else (bif q101 xa xb xc yb then (bif decide ((v101_0 xa xb xc yb) ≥ 0) then (bif q69 xa xb xc then some (AV.tup [AV.agg [AV.fl [.int .i64] x1,AV.fl [.int .i64] x2,AV.fl [.int .i64,.int .i64] x3],Ai 0,AV.bool false])
 else none)
 else (bif decide ((xa.length:Int) ≥ 64) then (bif q69 xa xb xc then some (AV.tup [AV.agg [AV.fl [.int .i64] x1,AV.fl [.int .i64] x2,AV.fl [.int .i64,.int .i64] x3],Ai 0,AV.bool false])
 else none)
 else (bif q69 xa xb xc then (bif (decide ((x1.length+([Ai 0]).length)*8≤140737488355328) && decide ((x1.length+([Ai 0]).length)≤140737488355328)) then (bif (decide ((x2.length+([Ai 0]).length)*8≤140737488355328) && decide ((x2.length+([Ai 0]).length)≤140737488355328)) then (ro (runW (R161_0 ya yb) (((IntKind.i64.wrap ((x3.length:Int) - 1)) - 0+1:Int).toNat+1) ((xa.length:Int),0,IntKind.i64.wrap ((x3.length:Int) - 1),x1++([Ai 0]),x2++([Ai 0]),x3)) none (fun p24=>(bif (decide (0≤p24.1) && decide (p24.1<(p24.2.2.1.length:Int))) then (bif (decide (0≤p24.1) && decide (p24.1<(p24.2.2.2.1.length:Int))) then some (AV.tup [AV.agg [AV.fl [.int .i64] (p24.2.2.1.set p24.1.toNat (AV.agg [Ai ya])),AV.fl [.int .i64] (p24.2.2.2.1.set p24.1.toNat (AV.agg [Ai yb])),AV.fl [.int .i64,.int .i64] p24.2.2.2.2],Ai p24.2.1,AV.bool true])
 else none)
 else none)))
 else none)
 else none)
 else none)))
 else none)))
 else none)) (v69_0 xa xb xc) (v69_1 xa xb xc) (v69_2 xa xb xc)):=by kernel_rfl
theorem r161 (xa xb xc:List AV) (ya yb:Int) (h:q161 xa xb xc ya yb=true):funA c161 1 161 [AV.agg [AV.sl [.int .i64] xa,AV.sl [.int .i64] xb,AV.sl [.int .i64,.int .i64] xc],AV.agg [AV.int .i64 ya,AV.int .i64 yb]]=some (AV.tup [AV.agg [AV.fl [.int .i64] (v161_0 xa xb xc ya yb),AV.fl [.int .i64] (v161_1 xa xb xc ya yb),AV.fl [.int .i64,.int .i64] (v161_2 xa xb xc ya yb)],AV.int .i64 (v161_3 xa xb xc ya yb),AV.bool (v161_4 xa xb xc ya yb)]):=by
 refine (e161 xa xb xc ya yb).trans ?_
 unfold q161 at h
 unfold v161_0 v161_1 v161_2 v161_3 v161_4
 refine ifG (fun hc=>?_) (fun hc=>?_) <;> first|rw [hc] at h ⊢|rw [hc] at h|rw [hc]|skip
 ·refine ifG (fun hc=>?_) (fun hc=>?_) <;> first|rw [hc] at h ⊢|rw [hc] at h|rw [hc]|skip
  ·refine ifG (fun hc=>?_) (fun hc=>?_) <;> first|rw [hc] at h ⊢|rw [hc] at h|rw [hc]|skip
   ·rfl
   ·first|exact Bool.noConfusion h|exact Bool.noConfusion hc
  ·refine ifG (fun hc=>?_) (fun hc=>?_) <;> first|rw [hc] at h ⊢|rw [hc] at h|rw [hc]|skip
   ·refine ifG (fun hc=>?_) (fun hc=>?_) <;> first|rw [hc] at h ⊢|rw [hc] at h|rw [hc]|skip
    ·rfl
    ·first|exact Bool.noConfusion h|exact Bool.noConfusion hc
   ·refine ifG (fun hc=>?_) (fun hc=>?_) <;> first|rw [hc] at h ⊢|rw [hc] at h|rw [hc]|skip
    ·refine ifG (fun hc=>?_) (fun hc=>?_) <;> first|rw [hc] at h ⊢|rw [hc] at h|rw [hc]|skip
     ·refine ifG (fun hc=>?_) (fun hc=>?_) <;> first|rw [hc] at h ⊢|rw [hc] at h|rw [hc]|skip
      ·rfl
      ·first|exact Bool.noConfusion h|exact Bool.noConfusion hc
     ·refine ifG (fun hc=>?_) (fun hc=>?_) <;> first|rw [hc] at h ⊢|rw [hc] at h|rw [hc]|skip
      ·refine ifG (fun hc=>?_) (fun hc=>?_) <;> first|rw [hc] at h ⊢|rw [hc] at h|rw [hc]|skip
       ·rfl
       ·first|exact Bool.noConfusion h|exact Bool.noConfusion hc
      ·refine ifG (fun hc=>?_) (fun hc=>?_) <;> first|rw [hc] at h ⊢|rw [hc] at h|rw [hc]|skip
       ·refine ifG (fun hc=>?_) (fun hc=>?_) <;> first|rw [hc] at h ⊢|rw [hc] at h|rw [hc]|skip
        ·refine ifG (fun hc=>?_) (fun hc=>?_) <;> first|rw [hc] at h ⊢|rw [hc] at h|rw [hc]|skip
         ·refine roG (fun hc=>?_) (fun r hc=>?_) <;> first|rw [hc] at h ⊢|rw [hc] at h|rw [hc]|skip
          ·exact Bool.noConfusion h
          ·try simp only [ro] at h ⊢
           refine ifG (fun hc=>?_) (fun hc=>?_) <;> first|rw [hc] at h ⊢|rw [hc] at h|rw [hc]|skip
           ·refine ifG (fun hc=>?_) (fun hc=>?_) <;> first|rw [hc] at h ⊢|rw [hc] at h|rw [hc]|skip
            ·rfl
            ·first|exact Bool.noConfusion h|exact Bool.noConfusion hc
           ·first|exact Bool.noConfusion h|exact Bool.noConfusion hc
         ·first|exact Bool.noConfusion h|exact Bool.noConfusion hc
        ·first|exact Bool.noConfusion h|exact Bool.noConfusion hc
       ·first|exact Bool.noConfusion h|exact Bool.noConfusion hc
    ·first|exact Bool.noConfusion h|exact Bool.noConfusion hc
 ·first|exact Bool.noConfusion h|exact Bool.noConfusion hc
def m161:TModel
 | [.agg [.sl g0 xa,.sl g1 xb,.sl g2 xc],.agg [.int .i64 ya,.int .i64 yb]]=>bif ctsEq g0 ([.int .i64]) && ctsEq g1 ([.int .i64]) && ctsEq g2 ([.int .i64,.int .i64]) then some (q161 xa xb xc ya yb,AV.tup [AV.agg [AV.fl [.int .i64] (v161_0 xa xb xc ya yb),AV.fl [.int .i64] (v161_1 xa xb xc ya yb),AV.fl [.int .i64,.int .i64] (v161_2 xa xb xc ya yb)],AV.int .i64 (v161_3 xa xb xc ya yb),AV.bool (v161_4 xa xb xc ya yb)]) else none
 | _=>none
theorem k161:Known Tryz.prog 161:=⟨Tryz.f161,Tryz.func161,by kernel_rfl,by kernel_rfl⟩
theorem i161_105:InlK Tryz.prog [(161,0,[3,4,7,8,9,10]),(161,999,[4,5,6]),(161,1000,[3,4,7,8,9]),(161,1001,[3,4,7,8,9,10]),(105,999,[6])] [(68,m68),(69,m69),(101,m101),(190,m190)] [] [105] [(161,0,l161_0)] 105:=⟨⟨Tryz.f105,Tryz.func105,by kernel_rfl,by kernel_rfl⟩,Tryz.f105,[],Tryz.func105,by kernel_rfl,fun ce π=>noLoop⟩
theorem meets161:Meets Tryz.prog 161 m161:=by
 refine mt (lvl:=1) (cf:=c161) rfl mixed k161 Tryz.func161 (by kernel_rfl) (loops_cons ok161_0 noLoop) (allT_cons meets68 (allT_cons meets69 (allT_cons meets101 (allT_cons meets190 allT_nil)))) allM_nil (allI_cons i161_105 noI) fun xs r h=>?_
 unfold m161 at h
 split at h
 ·rename_i g0 xa g1 xb g2 xc ya yb
  obtain ⟨hg,h⟩:=bif_pair h
  simp only [Bool.and_eq_true] at hg
  obtain ⟨⟨q0,q1⟩,q2⟩:=hg
  obtain rfl:=cE q0
  obtain rfl:=cE q1
  obtain rfl:=cE q2
  obtain ⟨h1,rfl⟩:=pair_inj h
  exact r161 xa xb xc ya yb h1
 ·cases h
noncomputable def c136:Cfg:=cfg Tryz.prog [(136,999,[4,5,6])] [(49,m49),(50,m50),(161,m161)] [] [] []
def q136 (xa:List AV) (xb:Int) (xc xd xe:List AV) (a1:Int):Bool:=(q49 xa xb xc xd xe && (q50 xa xb xc xd xe && (bif !(v50_0 xa xb xc xd xe) then true else (bif decide (xb ≥ 1000) then true else (bif decide ((xa.length:Int) > 0) then ((decide (0≤IntKind.i64.wrap ((xa.length:Int) - 1)) && decide (IntKind.i64.wrap ((xa.length:Int) - 1)<(xa.length:Int))) && (q161 xc xd xe a1 (IntKind.i64.wrap (fI (xa.getD (IntKind.i64.wrap ((xa.length:Int) - 1)).toNat .undef) 1+1)) && (bif !(v161_4 xc xd xe a1 (IntKind.i64.wrap (fI (xa.getD (IntKind.i64.wrap ((xa.length:Int) - 1)).toNat .undef) 1+1))) then true else (decide (((v49_0 xa xb xc xd xe).length+([AV.agg [AV.int .i64 a1,AV.int .i64 (IntKind.i64.wrap (fI (xa.getD (IntKind.i64.wrap ((xa.length:Int) - 1)).toNat .undef) 1+1)),AV.int .i64 (IntKind.i64.wrap (xb+1)),AV.int .i64 (-1)]]).length)*32≤140737488355328) && decide (((v49_0 xa xb xc xd xe).length+([AV.agg [AV.int .i64 a1,AV.int .i64 (IntKind.i64.wrap (fI (xa.getD (IntKind.i64.wrap ((xa.length:Int) - 1)).toNat .undef) 1+1)),AV.int .i64 (IntKind.i64.wrap (xb+1)),AV.int .i64 (-1)]]).length)≤140737488355328))))) else (q161 xc xd xe a1 0 && (bif !(v161_4 xc xd xe a1 0) then true else (decide (((v49_0 xa xb xc xd xe).length+([AV.agg [AV.int .i64 a1,AV.int .i64 0,AV.int .i64 (IntKind.i64.wrap (xb+1)),AV.int .i64 (-1)]]).length)*32≤140737488355328) && decide (((v49_0 xa xb xc xd xe).length+([AV.agg [AV.int .i64 a1,AV.int .i64 0,AV.int .i64 (IntKind.i64.wrap (xb+1)),AV.int .i64 (-1)]]).length)≤140737488355328)))))))))
def v136_0 (xa:List AV) (xb:Int) (xc xd xe:List AV) (a1:Int):List AV:=(bif !(v50_0 xa xb xc xd xe) then (v49_0 xa xb xc xd xe) else (bif decide (xb ≥ 1000) then (v49_0 xa xb xc xd xe) else (bif decide ((xa.length:Int) > 0) then (bif !(v161_4 xc xd xe a1 (IntKind.i64.wrap (fI (xa.getD (IntKind.i64.wrap ((xa.length:Int) - 1)).toNat .undef) 1+1))) then (v49_0 xa xb xc xd xe) else (v49_0 xa xb xc xd xe)++([AV.agg [AV.int .i64 a1,AV.int .i64 (IntKind.i64.wrap (fI (xa.getD (IntKind.i64.wrap ((xa.length:Int) - 1)).toNat .undef) 1+1)),AV.int .i64 (IntKind.i64.wrap (xb+1)),AV.int .i64 (-1)]])) else (bif !(v161_4 xc xd xe a1 0) then (v49_0 xa xb xc xd xe) else (v49_0 xa xb xc xd xe)++([AV.agg [AV.int .i64 a1,AV.int .i64 0,AV.int .i64 (IntKind.i64.wrap (xb+1)),AV.int .i64 (-1)]])))))
def v136_1 (xa:List AV) (xb:Int) (xc xd xe:List AV) (a1:Int):Int:=(bif !(v50_0 xa xb xc xd xe) then (v49_1 xa xb xc xd xe) else (bif decide (xb ≥ 1000) then (v49_1 xa xb xc xd xe) else (bif decide ((xa.length:Int) > 0) then (bif !(v161_4 xc xd xe a1 (IntKind.i64.wrap (fI (xa.getD (IntKind.i64.wrap ((xa.length:Int) - 1)).toNat .undef) 1+1))) then (v49_1 xa xb xc xd xe) else IntKind.i64.wrap (xb+1)) else (bif !(v161_4 xc xd xe a1 0) then (v49_1 xa xb xc xd xe) else IntKind.i64.wrap (xb+1)))))
def v136_2 (xa:List AV) (xb:Int) (xc xd xe:List AV) (a1:Int):List AV:=(bif !(v50_0 xa xb xc xd xe) then (v49_2 xa xb xc xd xe) else (bif decide (xb ≥ 1000) then (v49_2 xa xb xc xd xe) else (bif decide ((xa.length:Int) > 0) then (bif !(v161_4 xc xd xe a1 (IntKind.i64.wrap (fI (xa.getD (IntKind.i64.wrap ((xa.length:Int) - 1)).toNat .undef) 1+1))) then (v49_2 xa xb xc xd xe) else (v161_0 xc xd xe a1 (IntKind.i64.wrap (fI (xa.getD (IntKind.i64.wrap ((xa.length:Int) - 1)).toNat .undef) 1+1)))) else (bif !(v161_4 xc xd xe a1 0) then (v49_2 xa xb xc xd xe) else (v161_0 xc xd xe a1 0)))))
def v136_3 (xa:List AV) (xb:Int) (xc xd xe:List AV) (a1:Int):List AV:=(bif !(v50_0 xa xb xc xd xe) then (v49_3 xa xb xc xd xe) else (bif decide (xb ≥ 1000) then (v49_3 xa xb xc xd xe) else (bif decide ((xa.length:Int) > 0) then (bif !(v161_4 xc xd xe a1 (IntKind.i64.wrap (fI (xa.getD (IntKind.i64.wrap ((xa.length:Int) - 1)).toNat .undef) 1+1))) then (v49_3 xa xb xc xd xe) else (v161_1 xc xd xe a1 (IntKind.i64.wrap (fI (xa.getD (IntKind.i64.wrap ((xa.length:Int) - 1)).toNat .undef) 1+1)))) else (bif !(v161_4 xc xd xe a1 0) then (v49_3 xa xb xc xd xe) else (v161_1 xc xd xe a1 0)))))
def v136_4 (xa:List AV) (xb:Int) (xc xd xe:List AV) (a1:Int):List AV:=(bif !(v50_0 xa xb xc xd xe) then (v49_4 xa xb xc xd xe) else (bif decide (xb ≥ 1000) then (v49_4 xa xb xc xd xe) else (bif decide ((xa.length:Int) > 0) then (bif !(v161_4 xc xd xe a1 (IntKind.i64.wrap (fI (xa.getD (IntKind.i64.wrap ((xa.length:Int) - 1)).toNat .undef) 1+1))) then (v49_4 xa xb xc xd xe) else (v161_2 xc xd xe a1 (IntKind.i64.wrap (fI (xa.getD (IntKind.i64.wrap ((xa.length:Int) - 1)).toNat .undef) 1+1)))) else (bif !(v161_4 xc xd xe a1 0) then (v49_4 xa xb xc xd xe) else (v161_2 xc xd xe a1 0)))))
def v136_5 (xa:List AV) (xb:Int) (xc xd xe:List AV) (a1:Int):Int:=(bif !(v50_0 xa xb xc xd xe) then 0 else (bif decide (xb ≥ 1000) then 0 else (bif decide ((xa.length:Int) > 0) then (bif !(v161_4 xc xd xe a1 (IntKind.i64.wrap (fI (xa.getD (IntKind.i64.wrap ((xa.length:Int) - 1)).toNat .undef) 1+1))) then 0 else IntKind.i64.wrap (fI (xa.getD (IntKind.i64.wrap ((xa.length:Int) - 1)).toNat .undef) 1+1)) else 0)))
def v136_6 (xa:List AV) (xb:Int) (xc xd xe:List AV) (a1:Int):Bool:=(bif !(v50_0 xa xb xc xd xe) then false else (bif decide (xb ≥ 1000) then false else (bif decide ((xa.length:Int) > 0) then (bif !(v161_4 xc xd xe a1 (IntKind.i64.wrap (fI (xa.getD (IntKind.i64.wrap ((xa.length:Int) - 1)).toNat .undef) 1+1))) then false else true) else (bif !(v161_4 xc xd xe a1 0) then false else true))))
theorem e136 (xa:List AV) (xb:Int) (xc xd xe:List AV) (a1:Int):funA c136 0 136 [AV.agg [AV.sl [.int .i64,.int .i64,.int .i64,.int .i64] xa,Ai xb,AV.sl [.int .i64] xc,AV.sl [.int .i64] xd,AV.sl [.int .i64,.int .i64] xe],Ai a1]=((fun (x1:List AV) (x2:Int) (x3:List AV) (x4:List AV) (x5:List AV)=>(bif q49 xa xb xc xd xe then (bif q50 xa xb xc xd xe then (bif !(v50_0 xa xb xc xd xe) then some (AV.tup [AV.agg [AV.fl [.int .i64,.int .i64,.int .i64,.int .i64] x1,Ai x2,AV.fl [.int .i64] x3,AV.fl [.int .i64] x4,AV.fl [.int .i64,.int .i64] x5],Ai 0,AV.bool false])
 else (bif decide (xb ≥ 1000) then some (AV.tup [AV.agg [AV.fl [.int .i64,.int .i64,.int .i64,.int .i64] x1,Ai x2,AV.fl [.int .i64] x3,AV.fl [.int .i64] x4,AV.fl [.int .i64,.int .i64] x5],Ai 0,AV.bool false])
 else (bif decide ((xa.length:Int) > 0) then (bif (decide (0≤IntKind.i64.wrap ((xa.length:Int) - 1)) && decide (IntKind.i64.wrap ((xa.length:Int) - 1)<(xa.length:Int))) then (bif q161 xc xd xe a1 (IntKind.i64.wrap (fI (xa.getD (IntKind.i64.wrap ((xa.length:Int) - 1)).toNat .undef) 1+1)) then (bif !(v161_4 xc xd xe a1 (IntKind.i64.wrap (fI (xa.getD (IntKind.i64.wrap ((xa.length:Int) - 1)).toNat .undef) 1+1))) then some (AV.tup [AV.agg [AV.fl [.int .i64,.int .i64,.int .i64,.int .i64] x1,Ai x2,AV.fl [.int .i64] x3,AV.fl [.int .i64] x4,AV.fl [.int .i64,.int .i64] x5],Ai 0,AV.bool false])
 else (bif (decide ((x1.length+([AV.agg [Ai a1,Ai (IntKind.i64.wrap (fI (xa.getD (IntKind.i64.wrap ((xa.length:Int) - 1)).toNat .undef) 1+1)),Ai (IntKind.i64.wrap (xb+1)),Ai (-1)]]).length)*32≤140737488355328) && decide ((x1.length+([AV.agg [Ai a1,Ai (IntKind.i64.wrap (fI (xa.getD (IntKind.i64.wrap ((xa.length:Int) - 1)).toNat .undef) 1+1)),Ai (IntKind.i64.wrap (xb+1)),Ai (-1)]]).length)≤140737488355328)) then some (AV.tup [AV.agg [AV.fl [.int .i64,.int .i64,.int .i64,.int .i64] (x1++([AV.agg [Ai a1,Ai (IntKind.i64.wrap (fI (xa.getD (IntKind.i64.wrap ((xa.length:Int) - 1)).toNat .undef) 1+1)),Ai (IntKind.i64.wrap (xb+1)),Ai (-1)]])),Ai (IntKind.i64.wrap (xb+1)),AV.fl [.int .i64] (v161_0 xc xd xe a1 (IntKind.i64.wrap (fI (xa.getD (IntKind.i64.wrap ((xa.length:Int) - 1)).toNat .undef) 1+1))),AV.fl [.int .i64] (v161_1 xc xd xe a1 (IntKind.i64.wrap (fI (xa.getD (IntKind.i64.wrap ((xa.length:Int) - 1)).toNat .undef) 1+1))),AV.fl [.int .i64,.int .i64] (v161_2 xc xd xe a1 (IntKind.i64.wrap (fI (xa.getD (IntKind.i64.wrap ((xa.length:Int) - 1)).toNat .undef) 1+1)))],Ai (IntKind.i64.wrap (fI (xa.getD (IntKind.i64.wrap ((xa.length:Int) - 1)).toNat .undef) 1+1)),AV.bool true])
 else none))
 else none)
 else none)
 else (bif q161 xc xd xe a1 0 then (bif !(v161_4 xc xd xe a1 0) then some (AV.tup [AV.agg [AV.fl [.int .i64,.int .i64,.int .i64,.int .i64] x1,Ai x2,AV.fl [.int .i64] x3,AV.fl [.int .i64] x4,AV.fl [.int .i64,.int .i64] x5],Ai 0,AV.bool false])
 else (bif (decide ((x1.length+([AV.agg [Ai a1,Ai 0,Ai (IntKind.i64.wrap (xb+1)),Ai (-1)]]).length)*32≤140737488355328) && decide ((x1.length+([AV.agg [Ai a1,Ai 0,Ai (IntKind.i64.wrap (xb+1)),Ai (-1)]]).length)≤140737488355328)) then some (AV.tup [AV.agg [AV.fl [.int .i64,.int .i64,.int .i64,.int .i64] (x1++([AV.agg [Ai a1,Ai 0,Ai (IntKind.i64.wrap (xb+1)),Ai (-1)]])),Ai (IntKind.i64.wrap (xb+1)),AV.fl [.int .i64] (v161_0 xc xd xe a1 0),AV.fl [.int .i64] (v161_1 xc xd xe a1 0),AV.fl [.int .i64,.int .i64] (v161_2 xc xd xe a1 0)],Ai 0,AV.bool true])
 else none))
 else none))))
 else none)
 else none)) (v49_0 xa xb xc xd xe) (v49_1 xa xb xc xd xe) (v49_2 xa xb xc xd xe) (v49_3 xa xb xc xd xe) (v49_4 xa xb xc xd xe)):=by kernel_rfl
theorem r136 (xa:List AV) (xb:Int) (xc xd xe:List AV) (a1:Int) (h:q136 xa xb xc xd xe a1=true):funA c136 0 136 [AV.agg [AV.sl [.int .i64,.int .i64,.int .i64,.int .i64] xa,AV.int .i64 xb,AV.sl [.int .i64] xc,AV.sl [.int .i64] xd,AV.sl [.int .i64,.int .i64] xe],AV.int .i64 a1]=some (AV.tup [AV.agg [AV.fl [.int .i64,.int .i64,.int .i64,.int .i64] (v136_0 xa xb xc xd xe a1),AV.int .i64 (v136_1 xa xb xc xd xe a1),AV.fl [.int .i64] (v136_2 xa xb xc xd xe a1),AV.fl [.int .i64] (v136_3 xa xb xc xd xe a1),AV.fl [.int .i64,.int .i64] (v136_4 xa xb xc xd xe a1)],AV.int .i64 (v136_5 xa xb xc xd xe a1),AV.bool (v136_6 xa xb xc xd xe a1)]):=by
 refine (e136 xa xb xc xd xe a1).trans ?_
 unfold q136 at h
 unfold v136_0 v136_1 v136_2 v136_3 v136_4 v136_5 v136_6
 refine ifG (fun hc=>?_) (fun hc=>?_) <;> first|rw [hc] at h ⊢|rw [hc] at h|rw [hc]|skip
 ·refine ifG (fun hc=>?_) (fun hc=>?_) <;> first|rw [hc] at h ⊢|rw [hc] at h|rw [hc]|skip
  ·refine ifG (fun hc=>?_) (fun hc=>?_) <;> first|rw [hc] at h ⊢|rw [hc] at h|rw [hc]|skip
   ·rfl
   ·refine ifG (fun hc=>?_) (fun hc=>?_) <;> first|rw [hc] at h ⊢|rw [hc] at h|rw [hc]|skip
    ·rfl
    ·refine ifG (fun hc=>?_) (fun hc=>?_) <;> first|rw [hc] at h ⊢|rw [hc] at h|rw [hc]|skip
     ·refine ifG (fun hc=>?_) (fun hc=>?_) <;> first|rw [hc] at h ⊢|rw [hc] at h|rw [hc]|skip
      ·refine ifG (fun hc=>?_) (fun hc=>?_) <;> first|rw [hc] at h ⊢|rw [hc] at h|rw [hc]|skip
       ·refine ifG (fun hc=>?_) (fun hc=>?_) <;> first|rw [hc] at h ⊢|rw [hc] at h|rw [hc]|skip
        ·rfl
        ·refine ifG (fun hc=>?_) (fun hc=>?_) <;> first|rw [hc] at h ⊢|rw [hc] at h|rw [hc]|skip
         ·rfl
         ·first|exact Bool.noConfusion h|exact Bool.noConfusion hc
       ·first|exact Bool.noConfusion h|exact Bool.noConfusion hc
      ·first|exact Bool.noConfusion h|exact Bool.noConfusion hc
     ·refine ifG (fun hc=>?_) (fun hc=>?_) <;> first|rw [hc] at h ⊢|rw [hc] at h|rw [hc]|skip
      ·refine ifG (fun hc=>?_) (fun hc=>?_) <;> first|rw [hc] at h ⊢|rw [hc] at h|rw [hc]|skip
       ·rfl
       ·refine ifG (fun hc=>?_) (fun hc=>?_) <;> first|rw [hc] at h ⊢|rw [hc] at h|rw [hc]|skip
        ·rfl
        ·first|exact Bool.noConfusion h|exact Bool.noConfusion hc
      ·first|exact Bool.noConfusion h|exact Bool.noConfusion hc
  ·first|exact Bool.noConfusion h|exact Bool.noConfusion hc
 ·first|exact Bool.noConfusion h|exact Bool.noConfusion hc
def m136:TModel
 | [.agg [.sl g0 xa,.int .i64 xb,.sl g1 xc,.sl g2 xd,.sl g3 xe],.int .i64 a1]=>bif ctsEq g0 ([.int .i64,.int .i64,.int .i64,.int .i64]) && ctsEq g1 ([.int .i64]) && ctsEq g2 ([.int .i64]) && ctsEq g3 ([.int .i64,.int .i64]) then some (q136 xa xb xc xd xe a1,AV.tup [AV.agg [AV.fl [.int .i64,.int .i64,.int .i64,.int .i64] (v136_0 xa xb xc xd xe a1),AV.int .i64 (v136_1 xa xb xc xd xe a1),AV.fl [.int .i64] (v136_2 xa xb xc xd xe a1),AV.fl [.int .i64] (v136_3 xa xb xc xd xe a1),AV.fl [.int .i64,.int .i64] (v136_4 xa xb xc xd xe a1)],AV.int .i64 (v136_5 xa xb xc xd xe a1),AV.bool (v136_6 xa xb xc xd xe a1)]) else none
 | _=>none
theorem k136:Known Tryz.prog 136:=⟨Tryz.f136,Tryz.func136,by kernel_rfl,by kernel_rfl⟩
theorem meets136:Meets Tryz.prog 136 m136:=by
 refine mt (lvl:=0) (cf:=c136) rfl mixed k136 Tryz.func136 (by kernel_rfl) noLoop (allT_cons meets49 (allT_cons meets50 (allT_cons meets161 allT_nil))) allM_nil noI fun xs r h=>?_
 unfold m136 at h
 split at h
 ·rename_i g0 xa xb g1 xc g2 xd g3 xe a1
  obtain ⟨hg,h⟩:=bif_pair h
  simp only [Bool.and_eq_true] at hg
  obtain ⟨⟨⟨q0,q1⟩,q2⟩,q3⟩:=hg
  obtain rfl:=cE q0
  obtain rfl:=cE q1
  obtain rfl:=cE q2
  obtain rfl:=cE q3
  obtain ⟨h1,rfl⟩:=pair_inj h
  exact r136 xa xb xc xd xe a1 h1
 ·cases h
def G137_0 {β:Type} (t1:Int) (h0:List AV) (h1_0:List AV) (h1_1:Int) (h1_2:List AV) (h1_3:List AV) (h1_4:List AV) (h2:List AV) (h3:List AV) (h4:Int) (h5:List AV) (h6:Int) (t7:Int) (N:(Int)→β) (K:(Unit ⊕ ((List AV) × Int × Int))→β) (d:β):β:=(bif decide (t7<(h1_0.length:Int)) then (bif (decide (0≤t7) && decide (t7<(h1_0.length:Int))) then (bif decide (fI (h1_0.getD t7.toNat .undef) 1=t1) then (bif (decide (0≤t7) && decide (t7<(h1_0.length:Int))) then (bif decide (fI (h1_0.getD t7.toNat .undef) 3=(-1)) then (bif (decide (0≤t7) && decide (t7<(h0.length:Int))) then K (.inr (h0.set t7.toNat (AV.agg [AV.int .i64 (fI (h0.getD t7.toNat .undef) 0),AV.int .i64 (fI (h0.getD t7.toNat .undef) 1),AV.int .i64 (fI (h0.getD t7.toNat .undef) 2),AV.int .i64 (IntKind.i64.wrap (h1_1+1))]),IntKind.i64.wrap (h1_1+1),IntKind.i64.wrap (h1_1+1)))
 else d)
 else N (IntKind.i64.wrap (t7+1)))
 else d)
 else N (IntKind.i64.wrap (t7+1)))
 else d)
 else K (.inl ()))
def F137_0 (t1:Int) (h0 h1_0:List AV) (h1_1:Int) (h1_2 h1_3 h1_4 h2 h3:List AV) (h4:Int) (h5:List AV) (h6 t7:Int):Out (Int) (Unit ⊕ ((List AV) × Int × Int)):=G137_0 t1 h0 h1_0 h1_1 h1_2 h1_3 h1_4 h2 h3 h4 h5 h6 t7 .next .stop .fail
def R137_0 (t1:Int) (h0 h1_0:List AV) (h1_1:Int) (h1_2 h1_3 h1_4 h2 h3:List AV) (h4:Int) (h5:List AV) (h6:Int):(Int)→Out (Int) (Unit ⊕ ((List AV) × Int × Int)):=fun s:Int=>F137_0 t1 h0 h1_0 h1_1 h1_2 h1_3 h1_4 h2 h3 h4 h5 h6 s
def E137_0 (t1:Int) (h0 h1_0:List AV) (h1_1:Int) (h1_2 h1_3 h1_4 h2 h3:List AV) (h4:Int) (h5:List AV) (h6:Int):(Int)→St:=fun s:Int=>⟨[(1,Ai t1),(2,AV.ptr [0,2] 0 0),(4,AV.ptr [0,4] 0 0),(6,AV.ptr [0,6] 0 0),(7,Ai s)],[([0,0,6],⟨false,[.int .i64,.int .i64,.int .i64,.int .i64],h0⟩),([0,2],⟨true,[],[AV.agg [AV.sl [.int .i64,.int .i64,.int .i64,.int .i64] h1_0,Ai h1_1,AV.sl [.int .i64] h1_2,AV.sl [.int .i64] h1_3,AV.sl [.int .i64,.int .i64] h1_4]]⟩),([0,2,6],⟨false,[.int .i64],h2⟩),([0,3,6],⟨false,[.int .i64],h3⟩),([0,4],⟨true,[],[AV.agg [AV.snil,Ai h4,AV.snil,AV.snil,AV.snil]]⟩),([0,4,6],⟨false,[.int .i64,.int .i64],h5⟩),([0,6],⟨true,[],[AV.agg [AV.own [0,0,6],Ai h6,AV.own [0,2,6],AV.own [0,3,6],AV.own [0,4,6]]]⟩)]⟩
def K137_0 (t1:Int) (h0 h1_0:List AV) (h1_1:Int) (h1_2 h1_3 h1_4 h2 h3:List AV) (h4:Int) (h5:List AV) (h6:Int) (k:Kont):(Unit ⊕ ((List AV) × Int × Int))→Option AV:=sumE (fun _:Unit=>k (.exit 0) ⟨[(4,AV.ptr [0,4] 0 0),(6,AV.ptr [0,6] 0 0)],[([0,0,6],⟨false,[.int .i64,.int .i64,.int .i64,.int .i64],h0⟩),([0,2],⟨true,[],[AV.agg [AV.sl [.int .i64,.int .i64,.int .i64,.int .i64] h1_0,Ai h1_1,AV.sl [.int .i64] h1_2,AV.sl [.int .i64] h1_3,AV.sl [.int .i64,.int .i64] h1_4]]⟩),([0,2,6],⟨false,[.int .i64],h2⟩),([0,3,6],⟨false,[.int .i64],h3⟩),([0,4],⟨true,[],[AV.agg [AV.snil,Ai h4,AV.snil,AV.snil,AV.snil]]⟩),([0,4,6],⟨false,[.int .i64,.int .i64],h5⟩),([0,6],⟨true,[],[AV.agg [AV.own [0,0,6],Ai h6,AV.own [0,2,6],AV.own [0,3,6],AV.own [0,4,6]]]⟩)]⟩) (fun p:(List AV) × Int × Int=>k .ret ⟨[(4,AV.ptr [0,4] 0 0),(5,AV.bool true)],[([0,0,6],⟨false,[.int .i64,.int .i64,.int .i64,.int .i64],p.1⟩),([0,2],⟨true,[],[AV.agg [AV.sl [.int .i64,.int .i64,.int .i64,.int .i64] h1_0,Ai h1_1,AV.sl [.int .i64] h1_2,AV.sl [.int .i64] h1_3,AV.sl [.int .i64,.int .i64] h1_4]]⟩),([0,2,6],⟨false,[.int .i64],h2⟩),([0,3,6],⟨false,[.int .i64],h3⟩),([0,4],⟨true,[],[AV.agg [AV.own [0,0,6],Ai p.2.1,AV.own [0,2,6],AV.own [0,3,6],AV.own [0,4,6]]]⟩),([0,4,6],⟨false,[.int .i64,.int .i64],h5⟩),([0,6],⟨true,[],[AV.agg [AV.own [0,0,6],Ai p.2.2,AV.own [0,2,6],AV.own [0,3,6],AV.own [0,4,6]]]⟩)]⟩)
def l137_0:LModel:=fun _ _ st k=>match st with
 | ⟨[(1,.int .i64 t1),(2,.ptr g0 g1 g2),(4,.ptr g3 g4 g5),(6,.ptr g6 g7 g8),(7,.int .i64 t7)],[(g9,⟨false,g10,h0⟩),(g11,⟨true,[],[.agg [.sl g12 h1_0,.int .i64 h1_1,.sl g13 h1_2,.sl g14 h1_3,.sl g15 h1_4]]⟩),(g16,⟨false,g17,h2⟩),(g18,⟨false,g19,h3⟩),(g20,⟨true,[],[.agg [.snil,.int .i64 h4,.snil,.snil,.snil]]⟩),(g21,⟨false,g22,h5⟩),(g23,⟨true,[],[.agg [.own g24,.int .i64 h6,.own g25,.own g26,.own g27]]⟩)]⟩=>bif nmEq g0 ([0,2]) && Nat.beq g1 0 && Nat.beq g2 0 && nmEq g3 ([0,4]) && Nat.beq g4 0 && Nat.beq g5 0 && nmEq g6 ([0,6]) && Nat.beq g7 0 && Nat.beq g8 0 && nmEq g9 ([0,0,6]) && ctsEq g10 ([.int .i64,.int .i64,.int .i64,.int .i64]) && nmEq g11 ([0,2]) && ctsEq g12 ([.int .i64,.int .i64,.int .i64,.int .i64]) && ctsEq g13 ([.int .i64]) && ctsEq g14 ([.int .i64]) && ctsEq g15 ([.int .i64,.int .i64]) && nmEq g16 ([0,2,6]) && ctsEq g17 ([.int .i64]) && nmEq g18 ([0,3,6]) && ctsEq g19 ([.int .i64]) && nmEq g20 ([0,4]) && nmEq g21 ([0,4,6]) && ctsEq g22 ([.int .i64,.int .i64]) && nmEq g23 ([0,6]) && nmEq g24 ([0,0,6]) && nmEq g25 ([0,2,6]) && nmEq g26 ([0,3,6]) && nmEq g27 ([0,4,6]) then ro (runW (R137_0 t1 h0 h1_0 h1_1 h1_2 h1_3 h1_4 h2 h3 h4 h5 h6) (((h1_0.length:Int) - t7:Int).toNat+1) t7) none (K137_0 t1 h0 h1_0 h1_1 h1_2 h1_3 h1_4 h2 h3 h4 h5 h6 k) else none
 | _=>none
noncomputable def c137:Cfg:=cfg Tryz.prog [(137,0,[1,2,4,6,7]),(137,999,[4,5]),(137,1000,[4,6]),(137,1001,[1,2,4,6,7])] [(49,m49),(50,m50)] [] [] [(137,0,l137_0)]
theorem s137_0 (t1:Int) (h0 h1_0:List AV) (h1_1:Int) (h1_2 h1_3 h1_4 h2 h3:List AV) (h4:Int) (h5:List AV) (h6:Int) (ce:CallE) (k:Kont) (s:Int) (next:St→Option AV):stepA (codeA c137 ce [] 137 0 (sub [1,1,1,0,1,0,0] (body Tryz.f137))) (normA [] [1,2,4,6,7]) next ((E137_0 t1 h0 h1_0 h1_1 h1_2 h1_3 h1_4 h2 h3 h4 h5 h6) s) k=G137_0 t1 h0 h1_0 h1_1 h1_2 h1_3 h1_4 h2 h3 h4 h5 h6 s (fun s=>next ((E137_0 t1 h0 h1_0 h1_1 h1_2 h1_3 h1_4 h2 h3 h4 h5 h6) s)) (K137_0 t1 h0 h1_0 h1_1 h1_2 h1_3 h1_4 h2 h3 h4 h5 h6 k) none:=by kernel_rfl
theorem st137_0 (t1:Int) (h0 h1_0:List AV) (h1_1:Int) (h1_2 h1_3 h1_4 h2 h3:List AV) (h4:Int) (h5:List AV) (h6:Int) (ce:CallE) (k:Kont) (s:Int) (next:St→Option AV):stepA (codeA c137 ce [] 137 0 (sub [1,1,1,0,1,0,0] (body Tryz.f137))) (normA [] [1,2,4,6,7]) next ((E137_0 t1 h0 h1_0 h1_1 h1_2 h1_3 h1_4 h2 h3 h4 h5 h6) s) k=(R137_0 t1 h0 h1_0 h1_1 h1_2 h1_3 h1_4 h2 h3 h4 h5 h6 s).el none (fun s=>next ((E137_0 t1 h0 h1_0 h1_1 h1_2 h1_3 h1_4 h2 h3 h4 h5 h6) s)) (K137_0 t1 h0 h1_0 h1_1 h1_2 h1_3 h1_4 h2 h3 h4 h5 h6 k):=(s137_0 t1 h0 h1_0 h1_1 h1_2 h1_3 h1_4 h2 h3 h4 h5 h6 ce k s next).trans (by unfold R137_0;unfold F137_0 G137_0;simp only [el_cond,el_ro,el_sum,el_fail,el_next,el_stop] <;> rfl)
theorem ok137_0 {ce:CallE}:LoopOK c137 ce [] 137 0 (sub [1,1,1,0,1,0,0] (body Tryz.f137)):=by
 intro m hm st k r h
 obtain rfl:l137_0=m:=Option.some.inj hm
 unfold l137_0 at h
 split at h
 ·rename_i t1 g0 g1 g2 g3 g4 g5 g6 g7 g8 t7 g9 g10 h0 g11 g12 h1_0 h1_1 g13 h1_2 g14 h1_3 g15 h1_4 g16 g17 h2 g18 g19 h3 g20 h4 g21 g22 h5 g23 g24 h6 g25 g26 g27
  obtain ⟨hg,h⟩:=bif_some h
  simp only [Bool.and_eq_true] at hg
  obtain ⟨⟨⟨⟨⟨⟨⟨⟨⟨⟨⟨⟨⟨⟨⟨⟨⟨⟨⟨⟨⟨⟨⟨⟨⟨⟨⟨q0,q1⟩,q2⟩,q3⟩,q4⟩,q5⟩,q6⟩,q7⟩,q8⟩,q9⟩,q10⟩,q11⟩,q12⟩,q13⟩,q14⟩,q15⟩,q16⟩,q17⟩,q18⟩,q19⟩,q20⟩,q21⟩,q22⟩,q23⟩,q24⟩,q25⟩,q26⟩,q27⟩:=hg
  obtain rfl:=nE q0
  obtain rfl:=bE q1
  obtain rfl:=bE q2
  obtain rfl:=nE q3
  obtain rfl:=bE q4
  obtain rfl:=bE q5
  obtain rfl:=nE q6
  obtain rfl:=bE q7
  obtain rfl:=bE q8
  obtain rfl:=nE q9
  obtain rfl:=cE q10
  obtain rfl:=nE q11
  obtain rfl:=cE q12
  obtain rfl:=cE q13
  obtain rfl:=cE q14
  obtain rfl:=cE q15
  obtain rfl:=nE q16
  obtain rfl:=cE q17
  obtain rfl:=nE q18
  obtain rfl:=cE q19
  obtain rfl:=nE q20
  obtain rfl:=nE q21
  obtain rfl:=cE q22
  obtain rfl:=nE q23
  obtain rfl:=nE q24
  obtain rfl:=nE q25
  obtain rfl:=nE q26
  obtain rfl:=nE q27
  refine ⟨(((h1_0.length:Int) - t7:Int).toNat+1),?_⟩
  rw [← h]
  exact loop_run (E137_0 t1 h0 h1_0 h1_1 h1_2 h1_3 h1_4 h2 h3 h4 h5 h6) (K137_0 t1 h0 h1_0 h1_1 h1_2 h1_3 h1_4 h2 h3 h4 h5 h6 k) (st137_0 t1 h0 h1_0 h1_1 h1_2 h1_3 h1_4 h2 h3 h4 h5 h6 ce k) _ t7
 ·cases h
def q137 (xa:List AV) (xb:Int) (xc xd xe:List AV) (a1:Int):Bool:=(q49 xa xb xc xd xe && (q50 xa xb xc xd xe && (bif !(v50_0 xa xb xc xd xe) then true else (bif decide (xb ≥ 1000) then true else (ro (runW (R137_0 a1 (v49_0 xa xb xc xd xe) xa xb xc xd xe (v49_2 xa xb xc xd xe) (v49_3 xa xb xc xd xe) 0 (v49_4 xa xb xc xd xe) (v49_1 xa xb xc xd xe)) (((xa.length:Int) - 0:Int).toNat+1) 0) false (sumE (fun _=>true) (fun p26=>true)))))))
def v137_0 (xa:List AV) (xb:Int) (xc xd xe:List AV) (a1:Int):List AV:=(bif !(v50_0 xa xb xc xd xe) then (v49_0 xa xb xc xd xe) else (bif decide (xb ≥ 1000) then (v49_0 xa xb xc xd xe) else (ro (runW (R137_0 a1 (v49_0 xa xb xc xd xe) xa xb xc xd xe (v49_2 xa xb xc xd xe) (v49_3 xa xb xc xd xe) 0 (v49_4 xa xb xc xd xe) (v49_1 xa xb xc xd xe)) (((xa.length:Int) - 0:Int).toNat+1) 0) [] (sumE (fun _=>(v49_0 xa xb xc xd xe)) (fun p26=>p26.1)))))
def v137_1 (xa:List AV) (xb:Int) (xc xd xe:List AV) (a1:Int):Int:=(bif !(v50_0 xa xb xc xd xe) then (v49_1 xa xb xc xd xe) else (bif decide (xb ≥ 1000) then (v49_1 xa xb xc xd xe) else (ro (runW (R137_0 a1 (v49_0 xa xb xc xd xe) xa xb xc xd xe (v49_2 xa xb xc xd xe) (v49_3 xa xb xc xd xe) 0 (v49_4 xa xb xc xd xe) (v49_1 xa xb xc xd xe)) (((xa.length:Int) - 0:Int).toNat+1) 0) 0 (sumE (fun _=>(v49_1 xa xb xc xd xe)) (fun p26=>p26.2.1)))))
def v137_2 (xa:List AV) (xb:Int) (xc xd xe:List AV) (a1:Int):List AV:=(v49_2 xa xb xc xd xe)
def v137_3 (xa:List AV) (xb:Int) (xc xd xe:List AV) (a1:Int):List AV:=(v49_3 xa xb xc xd xe)
def v137_4 (xa:List AV) (xb:Int) (xc xd xe:List AV) (a1:Int):List AV:=(v49_4 xa xb xc xd xe)
def v137_5 (xa:List AV) (xb:Int) (xc xd xe:List AV) (a1:Int):Bool:=(bif !(v50_0 xa xb xc xd xe) then false else (bif decide (xb ≥ 1000) then false else (ro (runW (R137_0 a1 (v49_0 xa xb xc xd xe) xa xb xc xd xe (v49_2 xa xb xc xd xe) (v49_3 xa xb xc xd xe) 0 (v49_4 xa xb xc xd xe) (v49_1 xa xb xc xd xe)) (((xa.length:Int) - 0:Int).toNat+1) 0) false (sumE (fun _=>false) (fun p26=>true)))))
theorem e137 (xa:List AV) (xb:Int) (xc xd xe:List AV) (a1:Int):funA c137 0 137 [AV.agg [AV.sl [.int .i64,.int .i64,.int .i64,.int .i64] xa,Ai xb,AV.sl [.int .i64] xc,AV.sl [.int .i64] xd,AV.sl [.int .i64,.int .i64] xe],Ai a1]=((fun (x1:List AV) (x2:Int) (x3:List AV) (x4:List AV) (x5:List AV)=>(bif q49 xa xb xc xd xe then (bif q50 xa xb xc xd xe then (bif !(v50_0 xa xb xc xd xe) then some (AV.tup [AV.agg [AV.fl [.int .i64,.int .i64,.int .i64,.int .i64] x1,Ai x2,AV.fl [.int .i64] x3,AV.fl [.int .i64] x4,AV.fl [.int .i64,.int .i64] x5],AV.bool false])
 else (bif decide (xb ≥ 1000) then some (AV.tup [AV.agg [AV.fl [.int .i64,.int .i64,.int .i64,.int .i64] x1,Ai x2,AV.fl [.int .i64] x3,AV.fl [.int .i64] x4,AV.fl [.int .i64,.int .i64] x5],AV.bool false])
 else (ro (runW (R137_0 a1 x1 xa xb xc xd xe x3 x4 0 x5 x2) (((xa.length:Int) - 0:Int).toNat+1) 0) none (sumE (fun _=>some (AV.tup [AV.agg [AV.fl [.int .i64,.int .i64,.int .i64,.int .i64] x1,Ai x2,AV.fl [.int .i64] x3,AV.fl [.int .i64] x4,AV.fl [.int .i64,.int .i64] x5],AV.bool false])) (fun p26=>some (AV.tup [AV.agg [AV.fl [.int .i64,.int .i64,.int .i64,.int .i64] p26.1,Ai p26.2.1,AV.fl [.int .i64] x3,AV.fl [.int .i64] x4,AV.fl [.int .i64,.int .i64] x5],AV.bool true]))))))
 else none)
 else none)) (v49_0 xa xb xc xd xe) (v49_1 xa xb xc xd xe) (v49_2 xa xb xc xd xe) (v49_3 xa xb xc xd xe) (v49_4 xa xb xc xd xe)):=by kernel_rfl
theorem r137 (xa:List AV) (xb:Int) (xc xd xe:List AV) (a1:Int) (h:q137 xa xb xc xd xe a1=true):funA c137 0 137 [AV.agg [AV.sl [.int .i64,.int .i64,.int .i64,.int .i64] xa,AV.int .i64 xb,AV.sl [.int .i64] xc,AV.sl [.int .i64] xd,AV.sl [.int .i64,.int .i64] xe],AV.int .i64 a1]=some (AV.tup [AV.agg [AV.fl [.int .i64,.int .i64,.int .i64,.int .i64] (v137_0 xa xb xc xd xe a1),AV.int .i64 (v137_1 xa xb xc xd xe a1),AV.fl [.int .i64] (v137_2 xa xb xc xd xe a1),AV.fl [.int .i64] (v137_3 xa xb xc xd xe a1),AV.fl [.int .i64,.int .i64] (v137_4 xa xb xc xd xe a1)],AV.bool (v137_5 xa xb xc xd xe a1)]):=by
 refine (e137 xa xb xc xd xe a1).trans ?_
 unfold q137 at h
 unfold v137_0 v137_1 v137_2 v137_3 v137_4 v137_5
 refine ifG (fun hc=>?_) (fun hc=>?_) <;> first|rw [hc] at h ⊢|rw [hc] at h|rw [hc]|skip
 ·refine ifG (fun hc=>?_) (fun hc=>?_) <;> first|rw [hc] at h ⊢|rw [hc] at h|rw [hc]|skip
  ·refine ifG (fun hc=>?_) (fun hc=>?_) <;> first|rw [hc] at h ⊢|rw [hc] at h|rw [hc]|skip
   ·rfl
   ·refine ifG (fun hc=>?_) (fun hc=>?_) <;> first|rw [hc] at h ⊢|rw [hc] at h|rw [hc]|skip
    ·rfl
    ·refine roG (fun hc=>?_) (fun r hc=>?_) <;> first|rw [hc] at h ⊢|rw [hc] at h|rw [hc]|skip
     ·exact Bool.noConfusion h
     ·try simp only [ro] at h ⊢
      cases r with
      | inl _ =>
       try simp only [sumE] at h ⊢
       rfl
      | inr p26 =>
       try simp only [sumE] at h ⊢
       rfl
  ·first|exact Bool.noConfusion h|exact Bool.noConfusion hc
 ·first|exact Bool.noConfusion h|exact Bool.noConfusion hc
def m137:TModel
 | [.agg [.sl g0 xa,.int .i64 xb,.sl g1 xc,.sl g2 xd,.sl g3 xe],.int .i64 a1]=>bif ctsEq g0 ([.int .i64,.int .i64,.int .i64,.int .i64]) && ctsEq g1 ([.int .i64]) && ctsEq g2 ([.int .i64]) && ctsEq g3 ([.int .i64,.int .i64]) then some (q137 xa xb xc xd xe a1,AV.tup [AV.agg [AV.fl [.int .i64,.int .i64,.int .i64,.int .i64] (v137_0 xa xb xc xd xe a1),AV.int .i64 (v137_1 xa xb xc xd xe a1),AV.fl [.int .i64] (v137_2 xa xb xc xd xe a1),AV.fl [.int .i64] (v137_3 xa xb xc xd xe a1),AV.fl [.int .i64,.int .i64] (v137_4 xa xb xc xd xe a1)],AV.bool (v137_5 xa xb xc xd xe a1)]) else none
 | _=>none
theorem k137:Known Tryz.prog 137:=⟨Tryz.f137,Tryz.func137,by kernel_rfl,by kernel_rfl⟩
theorem meets137:Meets Tryz.prog 137 m137:=by
 refine mt (lvl:=0) (cf:=c137) rfl mixed k137 Tryz.func137 (by kernel_rfl) (loops_cons ok137_0 noLoop) (allT_cons meets49 (allT_cons meets50 allT_nil)) allM_nil noI fun xs r h=>?_
 unfold m137 at h
 split at h
 ·rename_i g0 xa xb g1 xc g2 xd g3 xe a1
  obtain ⟨hg,h⟩:=bif_pair h
  simp only [Bool.and_eq_true] at hg
  obtain ⟨⟨⟨q0,q1⟩,q2⟩,q3⟩:=hg
  obtain rfl:=cE q0
  obtain rfl:=cE q1
  obtain rfl:=cE q2
  obtain rfl:=cE q3
  obtain ⟨h1,rfl⟩:=pair_inj h
  exact r137 xa xb xc xd xe a1 h1
 ·cases h
noncomputable def c139:Cfg:=cfg Tryz.prog [(139,999,[2])] [] [(42,.g m42),(93,.g m93)] [] []
def T139 {β:Type} (k:(Int × Int × (List AV) × Int × Int)→β) (n:β) (ua:List AV) (ub:Int) (uc:Int):β:=by
 refine (?f0:Int→(List AV)→Int→Int→β) (v93_0 ua ub uc ([AV.int .i64 3,AV.int .i64 10,AV.int .i64 30,AV.int .i64 1000])) (v93_1 ua ub uc ([AV.int .i64 3,AV.int .i64 10,AV.int .i64 30,AV.int .i64 1000])) (v93_2 ua ub uc ([AV.int .i64 3,AV.int .i64 10,AV.int .i64 30,AV.int .i64 1000])) (v93_3 ua ub uc ([AV.int .i64 3,AV.int .i64 10,AV.int .i64 30,AV.int .i64 1000]));intro x1 x2 x3 x4
 refine (?f1:Int→(List AV)→Int→Int→β) (v42_0 x1 x2 x3 x4) (v42_1 x1 x2 x3 x4) (v42_2 x1 x2 x3 x4) (v42_3 x1 x2 x3 x4);intro x5 x6 x7 x8
 exact (bif q93 ua ub uc ([AV.int .i64 3,AV.int .i64 10,AV.int .i64 30,AV.int .i64 1000]) then (bif q42 x1 x2 x3 x4 then (bif !decide (3=0) then (bif q42 x1 x6 x7 x8 then k (IntKind.i64.wrap (x5 - IntKind.i64.wrap (Int.tdiv x1 3)),(if IntKind.i64.wrap (IntKind.i64.wrap (x5 - IntKind.i64.wrap (Int.tdiv x1 3))+(v42_0 x1 x6 x7 x8))<1000 then IntKind.i64.wrap (IntKind.i64.wrap (x5 - IntKind.i64.wrap (Int.tdiv x1 3))+(v42_0 x1 x6 x7 x8)) else 1000),(v42_1 x1 x6 x7 x8),(v42_2 x1 x6 x7 x8),(v42_3 x1 x6 x7 x8))
 else n)
 else n)
 else n)
 else n)
abbrev W139 (ua:List AV) (ub:Int) (uc:Int):Option (Int × Int × (List AV) × Int × Int):=T139 some none ua ub uc
theorem n139 {β:Type} (k:(Int × Int × (List AV) × Int × Int)→β) (n:β) (ua:List AV) (ub:Int) (uc:Int):T139 k n ua ub uc=oe k n (W139 ua ub uc):=by
 unfold W139 T139
 simp only [oe_cond,oe_ro,oe_sum,oe_some,oe_none]
def q139 (ua:List AV) (ub uc:Int):Bool:=(W139 ua ub uc).isSome
def v139_0 (ua:List AV) (ub uc:Int):Int:=oe (fun t=>t.1) 0 (W139 ua ub uc)
def v139_1 (ua:List AV) (ub uc:Int):Int:=oe (fun t=>t.2.1) 0 (W139 ua ub uc)
def v139_2 (ua:List AV) (ub uc:Int):List AV:=oe (fun t=>t.2.2.1) [] (W139 ua ub uc)
def v139_3 (ua:List AV) (ub uc:Int):Int:=oe (fun t=>t.2.2.2.1) 0 (W139 ua ub uc)
def v139_4 (ua:List AV) (ub uc:Int):Int:=oe (fun t=>t.2.2.2.2) 0 (W139 ua ub uc)
theorem e139 (ua:List AV) (ub uc:Int) (K:List AV→List (Option Blk)→Option AV):inlA c139 1 139 [AV.ptr [1] 0 0] [0] (canH 1 [⟨true,[],[AV.agg [AV.sl [.int .u8] ua,Ai ub,Ai uc]]⟩]) (keepG Tryz.prog 1 [32] [] K)=T139 (fun t=>K [AV.agg [Ai t.1,Ai t.2.1]] [some ⟨true,[],[AV.agg [AV.sl [.int .u8] t.2.2.1,Ai t.2.2.2.1,Ai t.2.2.2.2]]⟩]) none ua ub uc:=by kernel_rfl
theorem r139 (ua:List AV) (ub uc:Int) (K:List AV→List (Option Blk)→Option AV) (h:q139 ua ub uc=true):inlA c139 1 139 [AV.ptr [1] 0 0] [0] (canH 1 [⟨true,[],[AV.agg [AV.sl [.int .u8] ua,AV.int .i64 ub,AV.int .i64 uc]]⟩]) (keepG Tryz.prog 1 [32] [] K)=K [AV.agg [AV.int .i64 (v139_0 ua ub uc),AV.int .i64 (v139_1 ua ub uc)]] [some ⟨true,[],[AV.agg [AV.sl [.int .u8] (v139_2 ua ub uc),AV.int .i64 (v139_3 ua ub uc),AV.int .i64 (v139_4 ua ub uc)]]⟩]:=by
 refine ((e139 ua ub uc K).trans (n139 _ _ ua ub uc)).trans ?_
 unfold q139 at h
 unfold v139_0 v139_1 v139_2 v139_3 v139_4
 generalize W139 ua ub uc=o at *
 cases o with
 | none=>cases h
 | some t=>rfl
def m139:GModel
 | [.ptr g0 g1 g2],[⟨true,[],[.agg [.sl g3 ua,.int .i64 ub,.int .i64 uc]]⟩]=>bif nmEq g0 ([1]) && Nat.beq g1 0 && Nat.beq g2 0 && ctsEq g3 ([.int .u8]) then some (q139 ua ub uc,[AV.agg [AV.int .i64 (v139_0 ua ub uc),AV.int .i64 (v139_1 ua ub uc)]],[some ⟨true,[],[AV.agg [AV.sl [.int .u8] (v139_2 ua ub uc),AV.int .i64 (v139_3 ua ub uc),AV.int .i64 (v139_4 ua ub uc)]]⟩]) else none
 | _,_=>none
theorem k139:Known Tryz.prog 139:=⟨Tryz.f139,Tryz.func139,by kernel_rfl,by kernel_rfl⟩
theorem meets139:MeetsG Tryz.prog 139 m139:=by
 refine mg (rt:=[32]) (gs:=[]) (lvl:=0) (cf:=c139) rfl mixed k139 Tryz.func139 (by kernel_rfl) noLoop allT_nil (allG_cons meets42 (allG_cons meets93 allM_nil)) noI fun xs bs r bs' h K=>?_
 unfold m139 at h
 split at h
 ·rename_i g0 g1 g2 g3 ua ub uc
  obtain ⟨hg,h⟩:=bif_pair h
  simp only [Bool.and_eq_true] at hg
  obtain ⟨⟨⟨q0,q1⟩,q2⟩,q3⟩:=hg
  obtain rfl:=nE q0
  obtain rfl:=bE q1
  obtain rfl:=bE q2
  obtain rfl:=cE q3
  obtain ⟨h1,rfl,rfl⟩:=trip_inj h
  exact r139 ua ub uc K h1
 ·cases h
noncomputable def c98:Cfg:=cfg Tryz.prog [(98,999,[2]),(98,1000,[2,3])] [] [(42,.g m42),(93,.g m93),(139,.g m139)] [] []
def T98 {β:Type} (k:(Int × Int × (List AV) × Int × Int)→β) (n:β) (ua:List AV) (ub:Int) (uc:Int):β:=by
 refine (?f0:Int→Int→(List AV)→Int→Int→β) (v139_0 ua ub uc) (v139_1 ua ub uc) (v139_2 ua ub uc) (v139_3 ua ub uc) (v139_4 ua ub uc);intro x1 x2 x3 x4 x5
 refine (?f1:Int→(List AV)→Int→Int→β) (v42_0 10 x3 x4 x5) (v42_1 10 x3 x4 x5) (v42_2 10 x3 x4 x5) (v42_3 10 x3 x4 x5);intro x6 x7 x8 x9
 refine (?f2:Int→(List AV)→Int→Int→β) (v93_0 x7 x8 x9 ([AV.int .i64 (-1001),AV.int .i64 (-1000),AV.int .i64 1000,AV.int .i64 1001])) (v93_1 x7 x8 x9 ([AV.int .i64 (-1001),AV.int .i64 (-1000),AV.int .i64 1000,AV.int .i64 1001])) (v93_2 x7 x8 x9 ([AV.int .i64 (-1001),AV.int .i64 (-1000),AV.int .i64 1000,AV.int .i64 1001])) (v93_3 x7 x8 x9 ([AV.int .i64 (-1001),AV.int .i64 (-1000),AV.int .i64 1000,AV.int .i64 1001]));intro x10 x11 x12 x13
 exact (bif q139 ua ub uc then (bif q42 10 x3 x4 x5 then (bif decide (x6=0) then (bif q93 x7 x8 x9 ([AV.int .i64 (-1001),AV.int .i64 (-1000),AV.int .i64 1000,AV.int .i64 1001]) then k (x10,x2,x11,x12,x13)
 else n)
 else (bif decide (x6=1) then (bif q93 x7 x8 x9 ([AV.int .i64 (-1001),AV.int .i64 (-1000),AV.int .i64 1000,AV.int .i64 1001]) then k (x1,x10,x11,x12,x13)
 else n)
 else k (x1,x2,x7,x8,x9)))
 else n)
 else n)
abbrev W98 (ua:List AV) (ub:Int) (uc:Int):Option (Int × Int × (List AV) × Int × Int):=T98 some none ua ub uc
theorem n98 {β:Type} (k:(Int × Int × (List AV) × Int × Int)→β) (n:β) (ua:List AV) (ub:Int) (uc:Int):T98 k n ua ub uc=oe k n (W98 ua ub uc):=by
 unfold W98 T98
 simp only [oe_cond,oe_ro,oe_sum,oe_some,oe_none]
def q98 (ua:List AV) (ub uc:Int):Bool:=(W98 ua ub uc).isSome
def v98_0 (ua:List AV) (ub uc:Int):Int:=oe (fun t=>t.1) 0 (W98 ua ub uc)
def v98_1 (ua:List AV) (ub uc:Int):Int:=oe (fun t=>t.2.1) 0 (W98 ua ub uc)
def v98_2 (ua:List AV) (ub uc:Int):List AV:=oe (fun t=>t.2.2.1) [] (W98 ua ub uc)
def v98_3 (ua:List AV) (ub uc:Int):Int:=oe (fun t=>t.2.2.2.1) 0 (W98 ua ub uc)
def v98_4 (ua:List AV) (ub uc:Int):Int:=oe (fun t=>t.2.2.2.2) 0 (W98 ua ub uc)
theorem e98 (ua:List AV) (ub uc:Int) (K:List AV→List (Option Blk)→Option AV):inlA c98 1 98 [AV.ptr [1] 0 0] [0] (canH 1 [⟨true,[],[AV.agg [AV.sl [.int .u8] ua,Ai ub,Ai uc]]⟩]) (keepG Tryz.prog 1 [32] [] K)=T98 (fun t=>K [AV.agg [Ai t.1,Ai t.2.1]] [some ⟨true,[],[AV.agg [AV.sl [.int .u8] t.2.2.1,Ai t.2.2.2.1,Ai t.2.2.2.2]]⟩]) none ua ub uc:=by kernel_rfl
theorem r98 (ua:List AV) (ub uc:Int) (K:List AV→List (Option Blk)→Option AV) (h:q98 ua ub uc=true):inlA c98 1 98 [AV.ptr [1] 0 0] [0] (canH 1 [⟨true,[],[AV.agg [AV.sl [.int .u8] ua,AV.int .i64 ub,AV.int .i64 uc]]⟩]) (keepG Tryz.prog 1 [32] [] K)=K [AV.agg [AV.int .i64 (v98_0 ua ub uc),AV.int .i64 (v98_1 ua ub uc)]] [some ⟨true,[],[AV.agg [AV.sl [.int .u8] (v98_2 ua ub uc),AV.int .i64 (v98_3 ua ub uc),AV.int .i64 (v98_4 ua ub uc)]]⟩]:=by
 refine ((e98 ua ub uc K).trans (n98 _ _ ua ub uc)).trans ?_
 unfold q98 at h
 unfold v98_0 v98_1 v98_2 v98_3 v98_4
 generalize W98 ua ub uc=o at *
 cases o with
 | none=>cases h
 | some t=>rfl
def m98:GModel
 | [.ptr g0 g1 g2],[⟨true,[],[.agg [.sl g3 ua,.int .i64 ub,.int .i64 uc]]⟩]=>bif nmEq g0 ([1]) && Nat.beq g1 0 && Nat.beq g2 0 && ctsEq g3 ([.int .u8]) then some (q98 ua ub uc,[AV.agg [AV.int .i64 (v98_0 ua ub uc),AV.int .i64 (v98_1 ua ub uc)]],[some ⟨true,[],[AV.agg [AV.sl [.int .u8] (v98_2 ua ub uc),AV.int .i64 (v98_3 ua ub uc),AV.int .i64 (v98_4 ua ub uc)]]⟩]) else none
 | _,_=>none
theorem k98:Known Tryz.prog 98:=⟨Tryz.f98,Tryz.func98,by kernel_rfl,by kernel_rfl⟩
theorem meets98:MeetsG Tryz.prog 98 m98:=by
 refine mg (rt:=[32]) (gs:=[]) (lvl:=0) (cf:=c98) rfl mixed k98 Tryz.func98 (by kernel_rfl) noLoop allT_nil (allG_cons meets42 (allG_cons meets93 (allG_cons meets139 allM_nil))) noI fun xs bs r bs' h K=>?_
 unfold m98 at h
 split at h
 ·rename_i g0 g1 g2 g3 ua ub uc
  obtain ⟨hg,h⟩:=bif_pair h
  simp only [Bool.and_eq_true] at hg
  obtain ⟨⟨⟨q0,q1⟩,q2⟩,q3⟩:=hg
  obtain rfl:=nE q0
  obtain rfl:=bE q1
  obtain rfl:=bE q2
  obtain rfl:=cE q3
  obtain ⟨h1,rfl,rfl⟩:=trip_inj h
  exact r98 ua ub uc K h1
 ·cases h
noncomputable def c43:Cfg:=cfg Tryz.prog [(43,999,[4])] [] [(96,.g m96),(97,.g m97),(98,.g m98)] [] []
def T43 {β:Type} (k:(Int × Int × (List AV) × Int × Int × (List AV) × (List AV) × (List AV))→β) (n:β) (ua:List AV) (ub:Int) (uc:Int) (b1:List AV) (b2:List AV) (b3:List AV):β:=by
 refine (?f0:Int→(List AV)→Int→Int→(List AV)→(List AV)→(List AV)→β) (v96_0 ua ub uc b1 b2 b3) (v96_1 ua ub uc b1 b2 b3) (v96_2 ua ub uc b1 b2 b3) (v96_3 ua ub uc b1 b2 b3) (v96_4 ua ub uc b1 b2 b3) (v96_5 ua ub uc b1 b2 b3) (v96_6 ua ub uc b1 b2 b3);intro x1 x2 x3 x4 x5 x6 x7
 refine (?f1:Int→(List AV)→Int→Int→(List AV)→(List AV)→(List AV)→β) (v96_0 x2 x3 x4 x5 x6 x7) (v96_1 x2 x3 x4 x5 x6 x7) (v96_2 x2 x3 x4 x5 x6 x7) (v96_3 x2 x3 x4 x5 x6 x7) (v96_4 x2 x3 x4 x5 x6 x7) (v96_5 x2 x3 x4 x5 x6 x7) (v96_6 x2 x3 x4 x5 x6 x7);intro x8 x9 x10 x11 x12 x13 x14
 refine (?f2:Bool→(List AV)→Int→Int→β) (v97_0 12 x9 x10 x11) (v97_1 12 x9 x10 x11) (v97_2 12 x9 x10 x11) (v97_3 12 x9 x10 x11);intro x15 x16 x17 x18
 exact (bif q96 ua ub uc b1 b2 b3 then (bif q96 x2 x3 x4 x5 x6 x7 then (bif q97 12 x9 x10 x11 then (bif x15 then (bif q98 x16 x17 x18 then k ((v98_0 x16 x17 x18),(v98_1 x16 x17 x18),(v98_2 x16 x17 x18),(v98_3 x16 x17 x18),(v98_4 x16 x17 x18),x12,x13,x14)
 else n)
 else k ((if x8<x1 then x8 else x1),(if x8 > x1 then x8 else x1),x16,x17,x18,x12,x13,x14))
 else n)
 else n)
 else n)
abbrev W43 (ua:List AV) (ub:Int) (uc:Int) (b1:List AV) (b2:List AV) (b3:List AV):Option (Int × Int × (List AV) × Int × Int × (List AV) × (List AV) × (List AV)):=T43 some none ua ub uc b1 b2 b3
theorem n43 {β:Type} (k:(Int × Int × (List AV) × Int × Int × (List AV) × (List AV) × (List AV))→β) (n:β) (ua:List AV) (ub:Int) (uc:Int) (b1:List AV) (b2:List AV) (b3:List AV):T43 k n ua ub uc b1 b2 b3=oe k n (W43 ua ub uc b1 b2 b3):=by
 unfold W43 T43
 simp only [oe_cond,oe_ro,oe_sum,oe_some,oe_none]
def q43 (ua:List AV) (ub uc:Int) (b1 b2 b3:List AV):Bool:=(W43 ua ub uc b1 b2 b3).isSome
def v43_0 (ua:List AV) (ub uc:Int) (b1 b2 b3:List AV):Int:=oe (fun t=>t.1) 0 (W43 ua ub uc b1 b2 b3)
def v43_1 (ua:List AV) (ub uc:Int) (b1 b2 b3:List AV):Int:=oe (fun t=>t.2.1) 0 (W43 ua ub uc b1 b2 b3)
def v43_2 (ua:List AV) (ub uc:Int) (b1 b2 b3:List AV):List AV:=oe (fun t=>t.2.2.1) [] (W43 ua ub uc b1 b2 b3)
def v43_3 (ua:List AV) (ub uc:Int) (b1 b2 b3:List AV):Int:=oe (fun t=>t.2.2.2.1) 0 (W43 ua ub uc b1 b2 b3)
def v43_4 (ua:List AV) (ub uc:Int) (b1 b2 b3:List AV):Int:=oe (fun t=>t.2.2.2.2.1) 0 (W43 ua ub uc b1 b2 b3)
def v43_5 (ua:List AV) (ub uc:Int) (b1 b2 b3:List AV):List AV:=oe (fun t=>t.2.2.2.2.2.1) [] (W43 ua ub uc b1 b2 b3)
def v43_6 (ua:List AV) (ub uc:Int) (b1 b2 b3:List AV):List AV:=oe (fun t=>t.2.2.2.2.2.2.1) [] (W43 ua ub uc b1 b2 b3)
def v43_7 (ua:List AV) (ub uc:Int) (b1 b2 b3:List AV):List AV:=oe (fun t=>t.2.2.2.2.2.2.2) [] (W43 ua ub uc b1 b2 b3)
theorem e43 (ua:List AV) (ub uc:Int) (b1 b2 b3:List AV) (K:List AV→List (Option Blk)→Option AV):inlA c43 1 43 [AV.ptr [1] 0 0,AV.agg [AV.own [2],AV.own [3],AV.own [4]]] [0] (canH 1 [⟨true,[],[AV.agg [AV.sl [.int .u8] ua,Ai ub,Ai uc]]⟩,⟨false,[.int .i64],b1⟩,⟨false,[.int .i64],b2⟩,⟨false,[.int .i64,.int .i64],b3⟩]) (keepG Tryz.prog 4 [32] [] K)=T43 (fun t=>K [AV.agg [Ai t.1,Ai t.2.1]] [some ⟨true,[],[AV.agg [AV.sl [.int .u8] t.2.2.1,Ai t.2.2.2.1,Ai t.2.2.2.2.1]]⟩,some ⟨false,[.int .i64],t.2.2.2.2.2.1⟩,some ⟨false,[.int .i64],t.2.2.2.2.2.2.1⟩,some ⟨false,[.int .i64,.int .i64],t.2.2.2.2.2.2.2⟩]) none ua ub uc b1 b2 b3:=by kernel_rfl
theorem r43 (ua:List AV) (ub uc:Int) (b1 b2 b3:List AV) (K:List AV→List (Option Blk)→Option AV) (h:q43 ua ub uc b1 b2 b3=true):inlA c43 1 43 [AV.ptr [1] 0 0,AV.agg [AV.own [2],AV.own [3],AV.own [4]]] [0] (canH 1 [⟨true,[],[AV.agg [AV.sl [.int .u8] ua,AV.int .i64 ub,AV.int .i64 uc]]⟩,⟨false,[.int .i64],b1⟩,⟨false,[.int .i64],b2⟩,⟨false,[.int .i64,.int .i64],b3⟩]) (keepG Tryz.prog 4 [32] [] K)=K [AV.agg [AV.int .i64 (v43_0 ua ub uc b1 b2 b3),AV.int .i64 (v43_1 ua ub uc b1 b2 b3)]] [some ⟨true,[],[AV.agg [AV.sl [.int .u8] (v43_2 ua ub uc b1 b2 b3),AV.int .i64 (v43_3 ua ub uc b1 b2 b3),AV.int .i64 (v43_4 ua ub uc b1 b2 b3)]]⟩,some ⟨false,[.int .i64],(v43_5 ua ub uc b1 b2 b3)⟩,some ⟨false,[.int .i64],(v43_6 ua ub uc b1 b2 b3)⟩,some ⟨false,[.int .i64,.int .i64],(v43_7 ua ub uc b1 b2 b3)⟩]:=by
 refine ((e43 ua ub uc b1 b2 b3 K).trans (n43 _ _ ua ub uc b1 b2 b3)).trans ?_
 unfold q43 at h
 unfold v43_0 v43_1 v43_2 v43_3 v43_4 v43_5 v43_6 v43_7
 generalize W43 ua ub uc b1 b2 b3=o at *
 cases o with
 | none=>cases h
 | some t=>rfl
def m43:GModel
 | [.ptr g0 g1 g2,.agg [.own g3,.own g4,.own g5]],[⟨true,[],[.agg [.sl g6 ua,.int .i64 ub,.int .i64 uc]]⟩,⟨false,g7,b1⟩,⟨false,g8,b2⟩,⟨false,g9,b3⟩]=>bif nmEq g0 ([1]) && Nat.beq g1 0 && Nat.beq g2 0 && nmEq g3 ([2]) && nmEq g4 ([3]) && nmEq g5 ([4]) && ctsEq g6 ([.int .u8]) && ctsEq g7 ([.int .i64]) && ctsEq g8 ([.int .i64]) && ctsEq g9 ([.int .i64,.int .i64]) then some (q43 ua ub uc b1 b2 b3,[AV.agg [AV.int .i64 (v43_0 ua ub uc b1 b2 b3),AV.int .i64 (v43_1 ua ub uc b1 b2 b3)]],[some ⟨true,[],[AV.agg [AV.sl [.int .u8] (v43_2 ua ub uc b1 b2 b3),AV.int .i64 (v43_3 ua ub uc b1 b2 b3),AV.int .i64 (v43_4 ua ub uc b1 b2 b3)]]⟩,some ⟨false,[.int .i64],(v43_5 ua ub uc b1 b2 b3)⟩,some ⟨false,[.int .i64],(v43_6 ua ub uc b1 b2 b3)⟩,some ⟨false,[.int .i64,.int .i64],(v43_7 ua ub uc b1 b2 b3)⟩]) else none
 | _,_=>none
theorem k43:Known Tryz.prog 43:=⟨Tryz.f43,Tryz.func43,by kernel_rfl,by kernel_rfl⟩
theorem meets43:MeetsG Tryz.prog 43 m43:=by
 refine mg (rt:=[32]) (gs:=[]) (lvl:=0) (cf:=c43) rfl mixed k43 Tryz.func43 (by kernel_rfl) noLoop allT_nil (allG_cons meets96 (allG_cons meets97 (allG_cons meets98 allM_nil))) noI fun xs bs r bs' h K=>?_
 unfold m43 at h
 split at h
 ·rename_i g0 g1 g2 g3 g4 g5 g6 ua ub uc g7 b1 g8 b2 g9 b3
  obtain ⟨hg,h⟩:=bif_pair h
  simp only [Bool.and_eq_true] at hg
  obtain ⟨⟨⟨⟨⟨⟨⟨⟨⟨q0,q1⟩,q2⟩,q3⟩,q4⟩,q5⟩,q6⟩,q7⟩,q8⟩,q9⟩:=hg
  obtain rfl:=nE q0
  obtain rfl:=bE q1
  obtain rfl:=bE q2
  obtain rfl:=nE q3
  obtain rfl:=nE q4
  obtain rfl:=nE q5
  obtain rfl:=cE q6
  obtain rfl:=cE q7
  obtain rfl:=cE q8
  obtain rfl:=cE q9
  obtain ⟨h1,rfl,rfl⟩:=trip_inj h
  exact r43 ua ub uc b1 b2 b3 K h1
 ·cases h
noncomputable def c51:Cfg:=cfg Tryz.prog [(51,999,[2])] [(52,m52)] [] [] []
def v51_0 (xa xb:Int):Bool:=(bif (v52_0 xa (-1000) 1000) then (v52_0 xb xa 1000) else false)
theorem e51 (xa xb:Int):funA c51 0 51 [AV.agg [Ai xa,Ai xb]]=(bif (v52_0 xa (-1000) 1000) then some (AV.bool (v52_0 xb xa 1000))
 else some (AV.bool false)):=by kernel_rfl
def m51:TModel
 | [.agg [.int .i64 xa,.int .i64 xb]]=>some (true,AV.bool (v51_0 xa xb))
 | _=>none
theorem k51:Known Tryz.prog 51:=⟨Tryz.f51,Tryz.func51,by kernel_rfl,by kernel_rfl⟩
theorem meets51:Meets Tryz.prog 51 m51:=by
 refine mt (lvl:=0) (cf:=c51) rfl mixed k51 Tryz.func51 (by kernel_rfl) noLoop (allT_cons meets52 allT_nil) allM_nil noI fun xs r h=>?_
 unfold m51 at h
 split at h
 ·rename_i xa xb
  obtain ⟨h1,rfl⟩:=pair_inj h
  exact (e51 xa xb).trans (of_tt (brT (fun b=>some (AV.bool (bif b then (v52_0 xb xa 1000) else false))) (fun _=>rfl) (fun _=>rfl)))
 ·cases h
def G119_0 {β:Type} (t1:Int) (h0_0:List AV) (h0_1:List AV) (h0_2:List AV) (t6:Int) (N:(Int)→β) (K:(Unit ⊕ Int)→β) (d:β):β:=(bif decide (t6<(h0_2.length:Int)) then (bif (decide (0≤t6) && decide (t6<(h0_2.length:Int))) then (bif decide (fI (h0_2.getD t6.toNat .undef) 0=t1) then (bif (decide (0≤t6) && decide (t6<(h0_2.length:Int))) then K (.inr (fI (h0_2.getD t6.toNat .undef) 1))
 else d)
 else N (IntKind.i64.wrap (t6+1)))
 else d)
 else K (.inl ()))
def F119_0 (t1:Int) (h0_0 h0_1 h0_2:List AV) (t6:Int):Out (Int) (Unit ⊕ Int):=G119_0 t1 h0_0 h0_1 h0_2 t6 .next .stop .fail
def R119_0 (t1:Int) (h0_0 h0_1 h0_2:List AV):(Int)→Out (Int) (Unit ⊕ Int):=fun s:Int=>F119_0 t1 h0_0 h0_1 h0_2 s
def E119_0 (t1:Int) (h0_0 h0_1 h0_2:List AV):(Int)→St:=fun s:Int=>⟨[(1,Ai t1),(2,AV.ptr [0,2] 0 0),(6,Ai s)],[([0,2],⟨true,[],[AV.agg [AV.sl [.int .i64] h0_0,AV.sl [.int .i64] h0_1,AV.sl [.int .i64,.int .i64] h0_2]]⟩)]⟩
def K119_0 (t1:Int) (h0_0 h0_1 h0_2:List AV) (k:Kont):(Unit ⊕ Int)→Option AV:=sumE (fun _:Unit=>k (.exit 0) ⟨[],[([0,2],⟨true,[],[AV.agg [AV.sl [.int .i64] h0_0,AV.sl [.int .i64] h0_1,AV.sl [.int .i64,.int .i64] h0_2]]⟩)]⟩) (fun p:Int=>k .ret ⟨[(4,Ai p),(5,AV.bool true)],[([0,2],⟨true,[],[AV.agg [AV.sl [.int .i64] h0_0,AV.sl [.int .i64] h0_1,AV.sl [.int .i64,.int .i64] h0_2]]⟩)]⟩)
def l119_0:LModel:=fun _ _ st k=>match st with
 | ⟨[(1,.int .i64 t1),(2,.ptr g0 g1 g2),(6,.int .i64 t6)],[(g3,⟨true,[],[.agg [.sl g4 h0_0,.sl g5 h0_1,.sl g6 h0_2]]⟩)]⟩=>bif nmEq g0 ([0,2]) && Nat.beq g1 0 && Nat.beq g2 0 && nmEq g3 ([0,2]) && ctsEq g4 ([.int .i64]) && ctsEq g5 ([.int .i64]) && ctsEq g6 ([.int .i64,.int .i64]) then ro (runW (R119_0 t1 h0_0 h0_1 h0_2) (((h0_2.length:Int) - t6:Int).toNat+1) t6) none (K119_0 t1 h0_0 h0_1 h0_2 k) else none
 | _=>none
noncomputable def c119:Cfg:=cfg Tryz.prog [(119,0,[1,2,6]),(119,999,[4,5]),(119,1000,[]),(119,1001,[1,2,6])] [] [] [] [(119,0,l119_0)]
theorem s119_0 (t1:Int) (h0_0 h0_1 h0_2:List AV) (ce:CallE) (k:Kont) (s:Int) (next:St→Option AV):stepA (codeA c119 ce [] 119 0 (sub [1,0,1,0,0] (body Tryz.f119))) (normA [] [1,2,6]) next ((E119_0 t1 h0_0 h0_1 h0_2) s) k=G119_0 t1 h0_0 h0_1 h0_2 s (fun s=>next ((E119_0 t1 h0_0 h0_1 h0_2) s)) (K119_0 t1 h0_0 h0_1 h0_2 k) none:=by kernel_rfl
theorem st119_0 (t1:Int) (h0_0 h0_1 h0_2:List AV) (ce:CallE) (k:Kont) (s:Int) (next:St→Option AV):stepA (codeA c119 ce [] 119 0 (sub [1,0,1,0,0] (body Tryz.f119))) (normA [] [1,2,6]) next ((E119_0 t1 h0_0 h0_1 h0_2) s) k=(R119_0 t1 h0_0 h0_1 h0_2 s).el none (fun s=>next ((E119_0 t1 h0_0 h0_1 h0_2) s)) (K119_0 t1 h0_0 h0_1 h0_2 k):=(s119_0 t1 h0_0 h0_1 h0_2 ce k s next).trans (by unfold R119_0;unfold F119_0 G119_0;simp only [el_cond,el_ro,el_sum,el_fail,el_next,el_stop] <;> rfl)
theorem ok119_0 {ce:CallE}:LoopOK c119 ce [] 119 0 (sub [1,0,1,0,0] (body Tryz.f119)):=by
 intro m hm st k r h
 obtain rfl:l119_0=m:=Option.some.inj hm
 unfold l119_0 at h
 split at h
 ·rename_i t1 g0 g1 g2 t6 g3 g4 h0_0 g5 h0_1 g6 h0_2
  obtain ⟨hg,h⟩:=bif_some h
  simp only [Bool.and_eq_true] at hg
  obtain ⟨⟨⟨⟨⟨⟨q0,q1⟩,q2⟩,q3⟩,q4⟩,q5⟩,q6⟩:=hg
  obtain rfl:=nE q0
  obtain rfl:=bE q1
  obtain rfl:=bE q2
  obtain rfl:=nE q3
  obtain rfl:=cE q4
  obtain rfl:=cE q5
  obtain rfl:=cE q6
  refine ⟨(((h0_2.length:Int) - t6:Int).toNat+1),?_⟩
  rw [← h]
  exact loop_run (E119_0 t1 h0_0 h0_1 h0_2) (K119_0 t1 h0_0 h0_1 h0_2 k) (st119_0 t1 h0_0 h0_1 h0_2 ce k) _ t6
 ·cases h
def q119 (xa xb xc:List AV) (a1:Int):Bool:=(ro (runW (R119_0 a1 xa xb xc) (((xc.length:Int) - 0:Int).toNat+1) 0) false (sumE (fun _=>true) (fun p28=>true)))
def v119_0 (xa xb xc:List AV) (a1:Int):Int:=(ro (runW (R119_0 a1 xa xb xc) (((xc.length:Int) - 0:Int).toNat+1) 0) 0 (sumE (fun _=>0) (fun p28=>p28)))
def v119_1 (xa xb xc:List AV) (a1:Int):Bool:=(ro (runW (R119_0 a1 xa xb xc) (((xc.length:Int) - 0:Int).toNat+1) 0) false (sumE (fun _=>false) (fun p28=>true)))
theorem e119 (xa xb xc:List AV) (a1:Int):funA c119 0 119 [AV.agg [AV.sl [.int .i64] xa,AV.sl [.int .i64] xb,AV.sl [.int .i64,.int .i64] xc],Ai a1]=(ro (runW (R119_0 a1 xa xb xc) (((xc.length:Int) - 0:Int).toNat+1) 0) none (sumE (fun _=>some (AV.tup [Ai 0,AV.bool false])) (fun p28=>some (AV.tup [Ai p28,AV.bool true])))):=by kernel_rfl
def m119:TModel
 | [.agg [.sl g0 xa,.sl g1 xb,.sl g2 xc],.int .i64 a1]=>bif ctsEq g0 ([.int .i64]) && ctsEq g1 ([.int .i64]) && ctsEq g2 ([.int .i64,.int .i64]) then some (q119 xa xb xc a1,AV.tup [AV.int .i64 (v119_0 xa xb xc a1),AV.bool (v119_1 xa xb xc a1)]) else none
 | _=>none
theorem k119:Known Tryz.prog 119:=⟨Tryz.f119,Tryz.func119,by kernel_rfl,by kernel_rfl⟩
theorem meets119:Meets Tryz.prog 119 m119:=by
 refine mt (lvl:=0) (cf:=c119) rfl mixed k119 Tryz.func119 (by kernel_rfl) (loops_cons ok119_0 noLoop) allT_nil allM_nil noI fun xs r h=>?_
 unfold m119 at h
 split at h
 ·rename_i g0 xa g1 xb g2 xc a1
  obtain ⟨hg,h⟩:=bif_pair h
  simp only [Bool.and_eq_true] at hg
  obtain ⟨⟨q0,q1⟩,q2⟩:=hg
  obtain rfl:=cE q0
  obtain rfl:=cE q1
  obtain rfl:=cE q2
  obtain ⟨h1,rfl⟩:=pair_inj h
  exact (e119 xa xb xc a1).trans ((brO (fun o:Option (Unit ⊕ Int)=>some (AV.tup [Ai (ro o 0 (sumE (fun _=>0) (fun p28=>p28))),AV.bool (ro o false (sumE (fun _=>false) (fun p28=>true)))])) (brS (fun o:Unit ⊕ Int=>some (AV.tup [Ai ((sumE (fun _=>0) (fun p28=>p28)) o),AV.bool ((sumE (fun _=>false) (fun p28=>true)) o)])) (fun _=>(fun _=>rfl)) (fun p28=>(fun _=>rfl)))) h1)
 ·cases h
def G177_2 {β:Type} (t1:List AV) (t2:Int) (t8:Int) (t9:Int) (t11:Int) (N:((Int × Int))→β) (K:(Int)→β) (d:β):β:=(bif decide (t11 ≥ 0) then (bif (decide (0≤t11) && decide (t11<(t1.length:Int))) then (bif decide (fI (t1.getD t11.toNat .undef) 0 ≥ t2) then (bif (decide (0≤t11) && decide (t11<(t1.length:Int))) then N (fI (t1.getD t11.toNat .undef) 1,IntKind.i64.wrap (t11 - 1))
 else d)
 else N (t9,IntKind.i64.wrap (t11 - 1)))
 else d)
 else K t9)
def F177_2 (t1:List AV) (t2 t8 t9 t11:Int):Out ((Int × Int)) (Int):=G177_2 t1 t2 t8 t9 t11 .next .stop .fail
def R177_2 (t1:List AV) (t2 t8:Int):((Int × Int))→Out ((Int × Int)) (Int):=fun s:Int × Int=>F177_2 t1 t2 t8 s.1 s.2
def E177_2 (t1:List AV) (t2 t8:Int):((Int × Int))→St:=fun s:Int × Int=>⟨[(1,AV.sl [.int .i64,.int .i64] t1),(2,Ai t2),(8,Ai t8),(9,Ai s.1),(11,Ai s.2)],[]⟩
def K177_2 (t1:List AV) (t2 t8:Int) (k:Kont):(Int)→Option AV:=fun p:Int=>k (.exit 2) ⟨[(8,Ai t8),(9,Ai p)],[]⟩
def l177_2:LModel:=fun _ _ st k=>match st with
 | ⟨[(1,.sl g0 t1),(2,.int .i64 t2),(8,.int .i64 t8),(9,.int .i64 t9),(11,.int .i64 t11)],[]⟩=>bif ctsEq g0 ([.int .i64,.int .i64]) then ro (runW (R177_2 t1 t2 t8) ((t11 - 0+1:Int).toNat+1) (t9,t11)) none (K177_2 t1 t2 t8 k) else none
 | _=>none
def G177_0 {β:Type} (t1:List AV) (t2:Int) (t9:Int) (t8:Int) (t10:Int) (N:((Int × Int))→β) (K:(Int)→β) (d:β):β:=(bif decide (t10<(t1.length:Int)) then (bif (decide (0≤t10) && decide (t10<(t1.length:Int))) then (bif decide (fI (t1.getD t10.toNat .undef) 0≤t2) then (bif (decide (0≤t10) && decide (t10<(t1.length:Int))) then N (fI (t1.getD t10.toNat .undef) 1,IntKind.i64.wrap (t10+1))
 else d)
 else N (t8,IntKind.i64.wrap (t10+1)))
 else d)
 else K t8)
def F177_0 (t1:List AV) (t2 t9 t8 t10:Int):Out ((Int × Int)) (Int):=G177_0 t1 t2 t9 t8 t10 .next .stop .fail
def R177_0 (t1:List AV) (t2 t9:Int):((Int × Int))→Out ((Int × Int)) (Int):=fun s:Int × Int=>F177_0 t1 t2 t9 s.1 s.2
def E177_0 (t1:List AV) (t2 t9:Int):((Int × Int))→St:=fun s:Int × Int=>⟨[(1,AV.sl [.int .i64,.int .i64] t1),(2,Ai t2),(8,Ai s.1),(9,Ai t9),(10,Ai s.2)],[]⟩
def K177_0 (t1:List AV) (t2 t9:Int) (k:Kont):(Int)→Option AV:=fun p:Int=>k (.exit 0) ⟨[(1,AV.sl [.int .i64,.int .i64] t1),(2,Ai t2),(8,Ai p),(9,Ai t9)],[]⟩
def l177_0:LModel:=fun _ _ st k=>match st with
 | ⟨[(1,.sl g0 t1),(2,.int .i64 t2),(8,.int .i64 t8),(9,.int .i64 t9),(10,.int .i64 t10)],[]⟩=>bif ctsEq g0 ([.int .i64,.int .i64]) then ro (runW (R177_0 t1 t2 t9) (((t1.length:Int) - t10:Int).toNat+1) (t8,t10)) none (K177_0 t1 t2 t9 k) else none
 | _=>none
noncomputable def c177:Cfg:=cfg Tryz.prog [(177,0,[1,2,8,9,10]),(177,2,[1,2,8,9,11]),(177,999,[6,7]),(177,1000,[1,2,8,9]),(177,1001,[1,2,8,9,10]),(177,1002,[8,9]),(177,1003,[1,2,8,9,11])] [] [] [] [(177,0,l177_0),(177,2,l177_2)]
theorem s177_2 (t1:List AV) (t2 t8:Int) (ce:CallE) (k:Kont) (s:Int × Int) (next:St→Option AV):stepA (codeA c177 ce [] 177 2 (sub [1,1,1,1,0,1,0,0] (body Tryz.f177))) (normA [] [1,2,8,9,11]) next ((E177_2 t1 t2 t8) s) k=G177_2 t1 t2 t8 s.1 s.2 (fun s=>next ((E177_2 t1 t2 t8) s)) (K177_2 t1 t2 t8 k) none:=by kernel_rfl
theorem st177_2 (t1:List AV) (t2 t8:Int) (ce:CallE) (k:Kont) (s:(Int × Int)) (next:St→Option AV):stepA (codeA c177 ce [] 177 2 (sub [1,1,1,1,0,1,0,0] (body Tryz.f177))) (normA [] [1,2,8,9,11]) next ((E177_2 t1 t2 t8) s) k=(R177_2 t1 t2 t8 s).el none (fun s=>next ((E177_2 t1 t2 t8) s)) (K177_2 t1 t2 t8 k):=(s177_2 t1 t2 t8 ce k s next).trans (by unfold R177_2;unfold F177_2 G177_2;simp only [el_cond,el_ro,el_sum,el_fail,el_next,el_stop] <;> rfl)
theorem ok177_2 {ce:CallE}:LoopOK c177 ce [] 177 2 (sub [1,1,1,1,0,1,0,0] (body Tryz.f177)):=by
 intro m hm st k r h
 obtain rfl:l177_2=m:=Option.some.inj hm
 unfold l177_2 at h
 split at h
 ·rename_i g0 t1 t2 t8 t9 t11
  obtain ⟨hg,h⟩:=bif_some h
  have q0:=hg
  obtain rfl:=cE q0
  refine ⟨((t11 - 0+1:Int).toNat+1),?_⟩
  rw [← h]
  exact loop_run (E177_2 t1 t2 t8) (K177_2 t1 t2 t8 k) (st177_2 t1 t2 t8 ce k) _ (t9,t11)
 ·cases h
theorem s177_0 (t1:List AV) (t2 t9:Int) (ce:CallE) (k:Kont) (s:Int × Int) (next:St→Option AV):stepA (codeA c177 ce [] 177 0 (sub [1,1,1,0,1,0,0] (body Tryz.f177))) (normA [] [1,2,8,9,10]) next ((E177_0 t1 t2 t9) s) k=G177_0 t1 t2 t9 s.1 s.2 (fun s=>next ((E177_0 t1 t2 t9) s)) (K177_0 t1 t2 t9 k) none:=by kernel_rfl
theorem st177_0 (t1:List AV) (t2 t9:Int) (ce:CallE) (k:Kont) (s:(Int × Int)) (next:St→Option AV):stepA (codeA c177 ce [] 177 0 (sub [1,1,1,0,1,0,0] (body Tryz.f177))) (normA [] [1,2,8,9,10]) next ((E177_0 t1 t2 t9) s) k=(R177_0 t1 t2 t9 s).el none (fun s=>next ((E177_0 t1 t2 t9) s)) (K177_0 t1 t2 t9 k):=(s177_0 t1 t2 t9 ce k s next).trans (by unfold R177_0;unfold F177_0 G177_0;simp only [el_cond,el_ro,el_sum,el_fail,el_next,el_stop] <;> rfl)
theorem ok177_0 {ce:CallE}:LoopOK c177 ce [] 177 0 (sub [1,1,1,0,1,0,0] (body Tryz.f177)):=by
 intro m hm st k r h
 obtain rfl:l177_0=m:=Option.some.inj hm
 unfold l177_0 at h
 split at h
 ·rename_i g0 t1 t2 t8 t9 t10
  obtain ⟨hg,h⟩:=bif_some h
  have q0:=hg
  obtain rfl:=cE q0
  refine ⟨(((t1.length:Int) - t10:Int).toNat+1),?_⟩
  rw [← h]
  exact loop_run (E177_0 t1 t2 t9) (K177_0 t1 t2 t9 k) (st177_0 t1 t2 t9 ce k) _ (t8,t10)
 ·cases h
def q177 (a0:Int) (a1:List AV) (a2:Int):Bool:=(ro (runW (R177_0 a1 a2 a0) (((a1.length:Int) - 0:Int).toNat+1) (0,0)) false (fun p29=>(ro (runW (R177_2 a1 a2 p29) (((IntKind.i64.wrap ((a1.length:Int) - 1)) - 0+1:Int).toNat+1) (a0,IntKind.i64.wrap ((a1.length:Int) - 1))) false (fun p30=>true))))
def v177_0 (a0:Int) (a1:List AV) (a2:Int):Int:=(ro (runW (R177_0 a1 a2 a0) (((a1.length:Int) - 0:Int).toNat+1) (0,0)) 0 (fun p29=>p29))
def v177_1 (a0:Int) (a1:List AV) (a2:Int):Int:=(ro (runW (R177_0 a1 a2 a0) (((a1.length:Int) - 0:Int).toNat+1) (0,0)) 0 (fun p29=>(ro (runW (R177_2 a1 a2 p29) (((IntKind.i64.wrap ((a1.length:Int) - 1)) - 0+1:Int).toNat+1) (a0,IntKind.i64.wrap ((a1.length:Int) - 1))) 0 (fun p30=>p30))))
theorem e177 (a0:Int) (a1:List AV) (a2:Int):funA c177 0 177 [Ai a0,AV.sl [.int .i64,.int .i64] a1,Ai a2]=(ro (runW (R177_0 a1 a2 a0) (((a1.length:Int) - 0:Int).toNat+1) (0,0)) none (fun p29=>(ro (runW (R177_2 a1 a2 p29) (((IntKind.i64.wrap ((a1.length:Int) - 1)) - 0+1:Int).toNat+1) (a0,IntKind.i64.wrap ((a1.length:Int) - 1))) none (fun p30=>some (AV.tup [Ai p29,Ai p30]))))):=by kernel_rfl
def m177:TModel
 | [.int .i64 a0,.sl g0 a1,.int .i64 a2]=>bif ctsEq g0 ([.int .i64,.int .i64]) then some (q177 a0 a1 a2,AV.tup [AV.int .i64 (v177_0 a0 a1 a2),AV.int .i64 (v177_1 a0 a1 a2)]) else none
 | _=>none
theorem k177:Known Tryz.prog 177:=⟨Tryz.f177,Tryz.func177,by kernel_rfl,by kernel_rfl⟩
theorem meets177:Meets Tryz.prog 177 m177:=by
 refine mt (lvl:=0) (cf:=c177) rfl mixed k177 Tryz.func177 (by kernel_rfl) (loops_cons ok177_0 (loops_cons ok177_2 noLoop)) allT_nil allM_nil noI fun xs r h=>?_
 unfold m177 at h
 split at h
 ·rename_i a0 g0 a1 a2
  obtain ⟨hg,h⟩:=bif_pair h
  have q0:=hg
  obtain rfl:=cE q0
  obtain ⟨h1,rfl⟩:=pair_inj h
  exact (e177 a0 a1 a2).trans ((brO (fun o:Option (Int)=>some (AV.tup [Ai (ro o 0 (fun p29=>p29)),Ai (ro o 0 (fun p29=>(ro (runW (R177_2 a1 a2 p29) (((IntKind.i64.wrap ((a1.length:Int) - 1)) - 0+1:Int).toNat+1) (a0,IntKind.i64.wrap ((a1.length:Int) - 1))) 0 (fun p30=>p30))))])) (fun p29=>(brO (fun o:Option (Int)=>some (AV.tup [Ai p29,Ai (ro o 0 (fun p30=>p30))])) (fun p30=>(fun _=>rfl))))) h1)
 ·cases h
noncomputable def c150:Cfg:=cfg Tryz.prog [(150,999,[4,5])] [(52,m52),(68,m68),(177,m177)] [] [] []
def q150 (xa xb xc:List AV) (a1:Int):Bool:=(q68 xa xb xc && (bif !(v68_0 xa xb xc) then true else (bif !(v52_0 a1 (-1000) 1000) then true else q177 (xa.length:Int) xc a1)))
def v150_0 (xa xb xc:List AV) (a1:Int):Int:=(bif !(v68_0 xa xb xc) then 0 else (bif !(v52_0 a1 (-1000) 1000) then 0 else (v177_0 (xa.length:Int) xc a1)))
def v150_1 (xa xb xc:List AV) (a1:Int):Int:=(bif !(v68_0 xa xb xc) then 0 else (bif !(v52_0 a1 (-1000) 1000) then 0 else (v177_1 (xa.length:Int) xc a1)))
theorem e150 (xa xb xc:List AV) (a1:Int):funA c150 0 150 [AV.agg [AV.sl [.int .i64] xa,AV.sl [.int .i64] xb,AV.sl [.int .i64,.int .i64] xc],Ai a1]=(bif q68 xa xb xc then (bif !(v68_0 xa xb xc) then some (AV.tup [Ai 0,Ai 0])
 else (bif !(v52_0 a1 (-1000) 1000) then some (AV.tup [Ai 0,Ai 0])
 else (bif q177 (xa.length:Int) xc a1 then some (AV.tup [Ai (v177_0 (xa.length:Int) xc a1),Ai (v177_1 (xa.length:Int) xc a1)])
 else none)))
 else none):=by kernel_rfl
def m150:TModel
 | [.agg [.sl g0 xa,.sl g1 xb,.sl g2 xc],.int .i64 a1]=>bif ctsEq g0 ([.int .i64]) && ctsEq g1 ([.int .i64]) && ctsEq g2 ([.int .i64,.int .i64]) then some (q150 xa xb xc a1,AV.tup [AV.int .i64 (v150_0 xa xb xc a1),AV.int .i64 (v150_1 xa xb xc a1)]) else none
 | _=>none
theorem k150:Known Tryz.prog 150:=⟨Tryz.f150,Tryz.func150,by kernel_rfl,by kernel_rfl⟩
theorem meets150:Meets Tryz.prog 150 m150:=by
 refine mt (lvl:=0) (cf:=c150) rfl mixed k150 Tryz.func150 (by kernel_rfl) noLoop (allT_cons meets52 (allT_cons meets68 (allT_cons meets177 allT_nil))) allM_nil noI fun xs r h=>?_
 unfold m150 at h
 split at h
 ·rename_i g0 xa g1 xb g2 xc a1
  obtain ⟨hg,h⟩:=bif_pair h
  simp only [Bool.and_eq_true] at hg
  obtain ⟨⟨q0,q1⟩,q2⟩:=hg
  obtain rfl:=cE q0
  obtain rfl:=cE q1
  obtain rfl:=cE q2
  obtain ⟨h1,rfl⟩:=pair_inj h
  exact (e150 xa xb xc a1).trans ((brL (br (fun b=>some (AV.tup [Ai (bif b then 0 else (bif !(v52_0 a1 (-1000) 1000) then 0 else (v177_0 (xa.length:Int) xc a1))),Ai (bif b then 0 else (bif !(v52_0 a1 (-1000) 1000) then 0 else (v177_1 (xa.length:Int) xc a1)))])) (fun _=>rfl) (br (fun b=>some (AV.tup [Ai (bif b then 0 else (v177_0 (xa.length:Int) xc a1)),Ai (bif b then 0 else (v177_1 (xa.length:Int) xc a1))])) (fun _=>rfl) (brL1 (fun _=>rfl))))) h1)
 ·cases h
end
end Go.Proofs.YtbmfgibbjchijaaGreat
