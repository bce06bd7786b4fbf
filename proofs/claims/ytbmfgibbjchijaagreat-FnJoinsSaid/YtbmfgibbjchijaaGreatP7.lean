import Derived.Test.YtbmfgibbjchijaaGreatP6
import Derived.Test.YtbmfgibbjchijaaGreatP5
import Derived.Test.YtbmfgibbjchijaaGreatProg
import Derived.KernelRfl
namespace Go.Proofs.YtbmfgibbjchijaaGreat
open Go Go.Proofs.VE
set_option linter.unusedVariables false
set_option linter.unusedSimpArgs false
set_option maxRecDepth 100000
set_option maxHeartbeats 4000000
theorem mixed:Tryz.prog.follows .mixedOrders=true:=by kernel_rfl
noncomputable section
noncomputable def c6:Cfg:=cfg Tryz.prog [(6,999,[2])] [] [] [] []
def q6 (a0:List AV):Bool:=true
def v6_0 (a0:List AV):Bool:=decide ((a0.length:Int) > 1048576)
theorem e6 (a0:List AV):funA c6 0 6 [AV.sl [.int .u8] a0]=some (AV.bool (decide ((a0.length:Int) > 1048576))):=by kernel_rfl
def m6:TModel
 | [.sl g0 a0]=>bif ctsEq g0 ([.int .u8]) then some (true,AV.bool (v6_0 a0)) else none
 | _=>none
theorem k6:Known Tryz.prog 6:=⟨Tryz.f6,Tryz.func6,by kernel_rfl,by kernel_rfl⟩
theorem meets6:Meets Tryz.prog 6 m6:=by
 refine mt (lvl:=0) (cf:=c6) rfl mixed k6 Tryz.func6 (by kernel_rfl) noLoop allT_nil allM_nil noI fun xs r h=>?_
 unfold m6 at h
 split at h
 ·rename_i g0 a0
  obtain ⟨hg,h⟩:=bif_pair h
  have q0:=hg
  obtain rfl:=cE q0
  obtain ⟨h1,rfl⟩:=pair_inj h
  exact (e6 a0).trans (of_tt (fun _=>rfl))
 ·cases h
noncomputable def c95:Cfg:=cfg Tryz.prog [(95,999,[2])] [] [] [] []
def q95 (ua:List AV) (ub uc:Int):Bool:=(bif decide (ub<(ua.length:Int)) then (decide (0≤ub) && decide (ub<(ua.length:Int))) else true)
def v95_0 (ua:List AV) (ub uc:Int):Int:=VE.hid (fun (ua:List AV) (ub:Int) (uc:Int)=>(bif decide (ub<(ua.length:Int)) then IntKind.i64.wrap ((BitVec.ofInt 64 (IntKind.i64.wrap (IntKind.i64.wrap ((BitVec.ofInt 64 (IntKind.i64.wrap ((BitVec.ofInt 64 (Int.fdiv (IntKind.i64.wrap (IntKind.i64.wrap (uc*6364136223846793005)+1442695040888963407)) (2 ^ 33)) ^^^ BitVec.ofInt 64 (Int.fdiv (IntKind.i64.wrap (IntKind.i64.wrap (uc*6364136223846793005)+1442695040888963407)) (2 ^ 45))).toNat:Int)) &&& BitVec.ofInt 64 255).toNat:Int)+IntKind.i64.wrap (fI (ua.getD ub.toNat .undef) 0))) &&& BitVec.ofInt 64 255).toNat:Int) else IntKind.i64.wrap ((BitVec.ofInt 64 (IntKind.i64.wrap ((BitVec.ofInt 64 (Int.fdiv (IntKind.i64.wrap (IntKind.i64.wrap (uc*6364136223846793005)+1442695040888963407)) (2 ^ 33)) ^^^ BitVec.ofInt 64 (Int.fdiv (IntKind.i64.wrap (IntKind.i64.wrap (uc*6364136223846793005)+1442695040888963407)) (2 ^ 45))).toNat:Int)) &&& BitVec.ofInt 64 255).toNat:Int))) ua ub uc
def v95_1 (ua:List AV) (ub uc:Int):List AV:=ua
def v95_2 (ua:List AV) (ub uc:Int):Int:=VE.hid (fun (ua:List AV) (ub:Int) (uc:Int)=>(bif decide (ub<(ua.length:Int)) then IntKind.i64.wrap (ub+1) else ub)) ua ub uc
def v95_3 (ua:List AV) (ub uc:Int):Int:=VE.hid (fun (ua:List AV) (ub:Int) (uc:Int)=>IntKind.i64.wrap (IntKind.i64.wrap (uc*6364136223846793005)+1442695040888963407)) ua ub uc
theorem e95 (ua:List AV) (ub uc:Int) (K:List AV→List (Option Blk)→Option AV):inlA c95 1 95 [AV.ptr [1] 0 0] [0] (canH 1 [⟨true,[],[AV.agg [AV.sl [.int .u8] ua,Ai ub,Ai uc]]⟩]) (keepG Tryz.prog 1 [3] [] K)=(bif decide (ub<(ua.length:Int)) then (bif (decide (0≤ub) && decide (ub<(ua.length:Int))) then K [Ai (IntKind.i64.wrap ((BitVec.ofInt 64 (IntKind.i64.wrap (IntKind.i64.wrap ((BitVec.ofInt 64 (IntKind.i64.wrap ((BitVec.ofInt 64 (Int.fdiv (IntKind.i64.wrap (IntKind.i64.wrap (uc*6364136223846793005)+1442695040888963407)) (2 ^ 33)) ^^^ BitVec.ofInt 64 (Int.fdiv (IntKind.i64.wrap (IntKind.i64.wrap (uc*6364136223846793005)+1442695040888963407)) (2 ^ 45))).toNat:Int)) &&& BitVec.ofInt 64 255).toNat:Int)+IntKind.i64.wrap (fI (ua.getD ub.toNat .undef) 0))) &&& BitVec.ofInt 64 255).toNat:Int))] [some ⟨true,[],[AV.agg [AV.sl [.int .u8] ua,Ai (IntKind.i64.wrap (ub+1)),Ai (IntKind.i64.wrap (IntKind.i64.wrap (uc*6364136223846793005)+1442695040888963407))]]⟩]
 else none)
 else K [Ai (IntKind.i64.wrap ((BitVec.ofInt 64 (IntKind.i64.wrap ((BitVec.ofInt 64 (Int.fdiv (IntKind.i64.wrap (IntKind.i64.wrap (uc*6364136223846793005)+1442695040888963407)) (2 ^ 33)) ^^^ BitVec.ofInt 64 (Int.fdiv (IntKind.i64.wrap (IntKind.i64.wrap (uc*6364136223846793005)+1442695040888963407)) (2 ^ 45))).toNat:Int)) &&& BitVec.ofInt 64 255).toNat:Int))] [some ⟨true,[],[AV.agg [AV.sl [.int .u8] ua,Ai ub,Ai (IntKind.i64.wrap (IntKind.i64.wrap (uc*6364136223846793005)+1442695040888963407))]]⟩]):=by kernel_rfl
theorem r95 (ua:List AV) (ub uc:Int) (K:List AV→List (Option Blk)→Option AV) (h:q95 ua ub uc=true):inlA c95 1 95 [AV.ptr [1] 0 0] [0] (canH 1 [⟨true,[],[AV.agg [AV.sl [.int .u8] ua,AV.int .i64 ub,AV.int .i64 uc]]⟩]) (keepG Tryz.prog 1 [3] [] K)=K [AV.int .i64 (v95_0 ua ub uc)] [some ⟨true,[],[AV.agg [AV.sl [.int .u8] (v95_1 ua ub uc),AV.int .i64 (v95_2 ua ub uc),AV.int .i64 (v95_3 ua ub uc)]]⟩]:=by
 unfold v95_0 v95_2 v95_3
 simp only [VE.hid_eq]
 exact (e95 ua ub uc K).trans ((br (fun b=>K [AV.int .i64 (bif b then IntKind.i64.wrap ((BitVec.ofInt 64 (IntKind.i64.wrap (IntKind.i64.wrap ((BitVec.ofInt 64 (IntKind.i64.wrap ((BitVec.ofInt 64 (Int.fdiv (IntKind.i64.wrap (IntKind.i64.wrap (uc*6364136223846793005)+1442695040888963407)) (2 ^ 33)) ^^^ BitVec.ofInt 64 (Int.fdiv (IntKind.i64.wrap (IntKind.i64.wrap (uc*6364136223846793005)+1442695040888963407)) (2 ^ 45))).toNat:Int)) &&& BitVec.ofInt 64 255).toNat:Int)+IntKind.i64.wrap (fI (ua.getD ub.toNat .undef) 0))) &&& BitVec.ofInt 64 255).toNat:Int) else IntKind.i64.wrap ((BitVec.ofInt 64 (IntKind.i64.wrap ((BitVec.ofInt 64 (Int.fdiv (IntKind.i64.wrap (IntKind.i64.wrap (uc*6364136223846793005)+1442695040888963407)) (2 ^ 33)) ^^^ BitVec.ofInt 64 (Int.fdiv (IntKind.i64.wrap (IntKind.i64.wrap (uc*6364136223846793005)+1442695040888963407)) (2 ^ 45))).toNat:Int)) &&& BitVec.ofInt 64 255).toNat:Int))] [some ⟨true,[],[AV.agg [AV.sl [.int .u8] ua,AV.int .i64 (bif b then IntKind.i64.wrap (ub+1) else ub),AV.int .i64 (IntKind.i64.wrap (IntKind.i64.wrap (uc*6364136223846793005)+1442695040888963407))]]⟩]) (brL1 (fun _=>rfl)) (fun _=>rfl)) h)
def m95:GModel
 | [.ptr g0 g1 g2],[⟨true,[],[.agg [.sl g3 ua,.int .i64 ub,.int .i64 uc]]⟩]=>bif nmEq g0 ([1]) && Nat.beq g1 0 && Nat.beq g2 0 && ctsEq g3 ([.int .u8]) then some (q95 ua ub uc,[AV.int .i64 (v95_0 ua ub uc)],[some ⟨true,[],[AV.agg [AV.sl [.int .u8] (v95_1 ua ub uc),AV.int .i64 (v95_2 ua ub uc),AV.int .i64 (v95_3 ua ub uc)]]⟩]) else none
 | _,_=>none
theorem k95:Known Tryz.prog 95:=⟨Tryz.f95,Tryz.func95,by kernel_rfl,by kernel_rfl⟩
theorem meets95:MeetsG Tryz.prog 95 m95:=by
 refine mg (rt:=[3]) (gs:=[]) (lvl:=0) (cf:=c95) rfl mixed k95 Tryz.func95 (by kernel_rfl) noLoop allT_nil allM_nil noI fun xs bs r bs' h K=>?_
 unfold m95 at h
 split at h
 ·rename_i g0 g1 g2 g3 ua ub uc
  obtain ⟨hg,h⟩:=bif_pair h
  simp only [Bool.and_eq_true] at hg
  obtain ⟨⟨⟨q0,q1⟩,q2⟩,q3⟩:=hg
  obtain rfl:=nE q0
  obtain rfl:=bE q1
  obtain rfl:=bE q2
  obtain rfl:=cE q3
  obtain ⟨h1,rfl,rfl⟩:=trip_inj h
  exact r95 ua ub uc K h1
 ·cases h
noncomputable def c42:Cfg:=cfg Tryz.prog [(42,999,[4])] [] [(95,.g m95)] [] []
def q42 (a1:Int) (ua:List AV) (ub uc:Int):Bool:=(bif decide (a1≤0) then true else (bif decide (a1≤256) then (q95 ua ub uc && !decide (a1=0)) else (q95 ua ub uc && (q95 (v95_1 ua ub uc) (v95_2 ua ub uc) (v95_3 ua ub uc) && (q95 (v95_1 (v95_1 ua ub uc) (v95_2 ua ub uc) (v95_3 ua ub uc)) (v95_2 (v95_1 ua ub uc) (v95_2 ua ub uc) (v95_3 ua ub uc)) (v95_3 (v95_1 ua ub uc) (v95_2 ua ub uc) (v95_3 ua ub uc)) && (q95 (v95_1 (v95_1 (v95_1 ua ub uc) (v95_2 ua ub uc) (v95_3 ua ub uc)) (v95_2 (v95_1 ua ub uc) (v95_2 ua ub uc) (v95_3 ua ub uc)) (v95_3 (v95_1 ua ub uc) (v95_2 ua ub uc) (v95_3 ua ub uc))) (v95_2 (v95_1 (v95_1 ua ub uc) (v95_2 ua ub uc) (v95_3 ua ub uc)) (v95_2 (v95_1 ua ub uc) (v95_2 ua ub uc) (v95_3 ua ub uc)) (v95_3 (v95_1 ua ub uc) (v95_2 ua ub uc) (v95_3 ua ub uc))) (v95_3 (v95_1 (v95_1 ua ub uc) (v95_2 ua ub uc) (v95_3 ua ub uc)) (v95_2 (v95_1 ua ub uc) (v95_2 ua ub uc) (v95_3 ua ub uc)) (v95_3 (v95_1 ua ub uc) (v95_2 ua ub uc) (v95_3 ua ub uc))) && !decide (a1=0)))))))
def v42_0 (a1:Int) (ua:List AV) (ub uc:Int):Int:=VE.hid (fun (a1:Int) (ua:List AV) (ub:Int) (uc:Int)=>(bif decide (a1≤0) then 0 else (bif decide (a1≤256) then Int.tmod (v95_0 ua ub uc) a1 else Int.tmod (IntKind.i64.wrap (IntKind.i64.wrap (IntKind.i64.wrap (IntKind.i64.wrap ((v95_0 ua ub uc)*16777216)+IntKind.i64.wrap ((v95_0 (v95_1 ua ub uc) (v95_2 ua ub uc) (v95_3 ua ub uc))*65536))+IntKind.i64.wrap ((v95_0 (v95_1 (v95_1 ua ub uc) (v95_2 ua ub uc) (v95_3 ua ub uc)) (v95_2 (v95_1 ua ub uc) (v95_2 ua ub uc) (v95_3 ua ub uc)) (v95_3 (v95_1 ua ub uc) (v95_2 ua ub uc) (v95_3 ua ub uc)))*256))+(v95_0 (v95_1 (v95_1 (v95_1 ua ub uc) (v95_2 ua ub uc) (v95_3 ua ub uc)) (v95_2 (v95_1 ua ub uc) (v95_2 ua ub uc) (v95_3 ua ub uc)) (v95_3 (v95_1 ua ub uc) (v95_2 ua ub uc) (v95_3 ua ub uc))) (v95_2 (v95_1 (v95_1 ua ub uc) (v95_2 ua ub uc) (v95_3 ua ub uc)) (v95_2 (v95_1 ua ub uc) (v95_2 ua ub uc) (v95_3 ua ub uc)) (v95_3 (v95_1 ua ub uc) (v95_2 ua ub uc) (v95_3 ua ub uc))) (v95_3 (v95_1 (v95_1 ua ub uc) (v95_2 ua ub uc) (v95_3 ua ub uc)) (v95_2 (v95_1 ua ub uc) (v95_2 ua ub uc) (v95_3 ua ub uc)) (v95_3 (v95_1 ua ub uc) (v95_2 ua ub uc) (v95_3 ua ub uc)))))) a1))) a1 ua ub uc
def v42_1 (a1:Int) (ua:List AV) (ub uc:Int):List AV:=VE.hid (fun (a1:Int) (ua:List AV) (ub:Int) (uc:Int)=>(bif decide (a1≤0) then ua else (bif decide (a1≤256) then (v95_1 ua ub uc) else (v95_1 (v95_1 (v95_1 (v95_1 ua ub uc) (v95_2 ua ub uc) (v95_3 ua ub uc)) (v95_2 (v95_1 ua ub uc) (v95_2 ua ub uc) (v95_3 ua ub uc)) (v95_3 (v95_1 ua ub uc) (v95_2 ua ub uc) (v95_3 ua ub uc))) (v95_2 (v95_1 (v95_1 ua ub uc) (v95_2 ua ub uc) (v95_3 ua ub uc)) (v95_2 (v95_1 ua ub uc) (v95_2 ua ub uc) (v95_3 ua ub uc)) (v95_3 (v95_1 ua ub uc) (v95_2 ua ub uc) (v95_3 ua ub uc))) (v95_3 (v95_1 (v95_1 ua ub uc) (v95_2 ua ub uc) (v95_3 ua ub uc)) (v95_2 (v95_1 ua ub uc) (v95_2 ua ub uc) (v95_3 ua ub uc)) (v95_3 (v95_1 ua ub uc) (v95_2 ua ub uc) (v95_3 ua ub uc))))))) a1 ua ub uc
def v42_2 (a1:Int) (ua:List AV) (ub uc:Int):Int:=VE.hid (fun (a1:Int) (ua:List AV) (ub:Int) (uc:Int)=>(bif decide (a1≤0) then ub else (bif decide (a1≤256) then (v95_2 ua ub uc) else (v95_2 (v95_1 (v95_1 (v95_1 ua ub uc) (v95_2 ua ub uc) (v95_3 ua ub uc)) (v95_2 (v95_1 ua ub uc) (v95_2 ua ub uc) (v95_3 ua ub uc)) (v95_3 (v95_1 ua ub uc) (v95_2 ua ub uc) (v95_3 ua ub uc))) (v95_2 (v95_1 (v95_1 ua ub uc) (v95_2 ua ub uc) (v95_3 ua ub uc)) (v95_2 (v95_1 ua ub uc) (v95_2 ua ub uc) (v95_3 ua ub uc)) (v95_3 (v95_1 ua ub uc) (v95_2 ua ub uc) (v95_3 ua ub uc))) (v95_3 (v95_1 (v95_1 ua ub uc) (v95_2 ua ub uc) (v95_3 ua ub uc)) (v95_2 (v95_1 ua ub uc) (v95_2 ua ub uc) (v95_3 ua ub uc)) (v95_3 (v95_1 ua ub uc) (v95_2 ua ub uc) (v95_3 ua ub uc))))))) a1 ua ub uc
def v42_3 (a1:Int) (ua:List AV) (ub uc:Int):Int:=VE.hid (fun (a1:Int) (ua:List AV) (ub:Int) (uc:Int)=>(bif decide (a1≤0) then uc else (bif decide (a1≤256) then (v95_3 ua ub uc) else (v95_3 (v95_1 (v95_1 (v95_1 ua ub uc) (v95_2 ua ub uc) (v95_3 ua ub uc)) (v95_2 (v95_1 ua ub uc) (v95_2 ua ub uc) (v95_3 ua ub uc)) (v95_3 (v95_1 ua ub uc) (v95_2 ua ub uc) (v95_3 ua ub uc))) (v95_2 (v95_1 (v95_1 ua ub uc) (v95_2 ua ub uc) (v95_3 ua ub uc)) (v95_2 (v95_1 ua ub uc) (v95_2 ua ub uc) (v95_3 ua ub uc)) (v95_3 (v95_1 ua ub uc) (v95_2 ua ub uc) (v95_3 ua ub uc))) (v95_3 (v95_1 (v95_1 ua ub uc) (v95_2 ua ub uc) (v95_3 ua ub uc)) (v95_2 (v95_1 ua ub uc) (v95_2 ua ub uc) (v95_3 ua ub uc)) (v95_3 (v95_1 ua ub uc) (v95_2 ua ub uc) (v95_3 ua ub uc))))))) a1 ua ub uc
theorem e42 (a1:Int) (ua:List AV) (ub uc:Int) (K:List AV→List (Option Blk)→Option AV):inlA c42 1 42 [AV.ptr [1] 0 0,Ai a1] [0] (canH 1 [⟨true,[],[AV.agg [AV.sl [.int .u8] ua,Ai ub,Ai uc]]⟩]) (keepG Tryz.prog 1 [3] [] K)=((fun (x1:Int) (x2:List AV) (x3:Int) (x4:Int)=>((fun (x5:Int) (x6:List AV) (x7:Int) (x8:Int)=>((fun (x9:Int) (x10:List AV) (x11:Int) (x12:Int)=>(bif decide (a1≤0) then K [Ai 0] [some ⟨true,[],[AV.agg [AV.sl [.int .u8] ua,Ai ub,Ai uc]]⟩]
 else (bif decide (a1≤256) then (bif q95 ua ub uc then (bif !decide (a1=0) then K [Ai (Int.tmod x1 a1)] [some ⟨true,[],[AV.agg [AV.sl [.int .u8] x2,Ai x3,Ai x4]]⟩]
 else none)
 else none)
 else (bif q95 ua ub uc then (bif q95 x2 x3 x4 then (bif q95 x6 x7 x8 then (bif q95 x10 x11 x12 then (bif !decide (a1=0) then K [Ai (Int.tmod (IntKind.i64.wrap (IntKind.i64.wrap (IntKind.i64.wrap (IntKind.i64.wrap (x1*16777216)+IntKind.i64.wrap (x5*65536))+IntKind.i64.wrap (x9*256))+(v95_0 x10 x11 x12))) a1)] [some ⟨true,[],[AV.agg [AV.sl [.int .u8] (v95_1 x10 x11 x12),Ai (v95_2 x10 x11 x12),Ai (v95_3 x10 x11 x12)]]⟩]
 else none)
 else none)
 else none)
 else none)
 else none)))) (v95_0 x6 x7 x8) (v95_1 x6 x7 x8) (v95_2 x6 x7 x8) (v95_3 x6 x7 x8))) (v95_0 x2 x3 x4) (v95_1 x2 x3 x4) (v95_2 x2 x3 x4) (v95_3 x2 x3 x4))) (v95_0 ua ub uc) (v95_1 ua ub uc) (v95_2 ua ub uc) (v95_3 ua ub uc)):=by kernel_rfl
theorem r42 (a1:Int) (ua:List AV) (ub uc:Int) (K:List AV→List (Option Blk)→Option AV) (h:q42 a1 ua ub uc=true):inlA c42 1 42 [AV.ptr [1] 0 0,AV.int .i64 a1] [0] (canH 1 [⟨true,[],[AV.agg [AV.sl [.int .u8] ua,AV.int .i64 ub,AV.int .i64 uc]]⟩]) (keepG Tryz.prog 1 [3] [] K)=K [AV.int .i64 (v42_0 a1 ua ub uc)] [some ⟨true,[],[AV.agg [AV.sl [.int .u8] (v42_1 a1 ua ub uc),AV.int .i64 (v42_2 a1 ua ub uc),AV.int .i64 (v42_3 a1 ua ub uc)]]⟩]:=by
 unfold v42_0 v42_1 v42_2 v42_3
 simp only [VE.hid_eq]
 exact (e42 a1 ua ub uc K).trans ((br (fun b=>K [AV.int .i64 (bif b then 0 else (bif decide (a1≤256) then Int.tmod (v95_0 ua ub uc) a1 else Int.tmod (IntKind.i64.wrap (IntKind.i64.wrap (IntKind.i64.wrap (IntKind.i64.wrap ((v95_0 ua ub uc)*16777216)+IntKind.i64.wrap ((v95_0 (v95_1 ua ub uc) (v95_2 ua ub uc) (v95_3 ua ub uc))*65536))+IntKind.i64.wrap ((v95_0 (v95_1 (v95_1 ua ub uc) (v95_2 ua ub uc) (v95_3 ua ub uc)) (v95_2 (v95_1 ua ub uc) (v95_2 ua ub uc) (v95_3 ua ub uc)) (v95_3 (v95_1 ua ub uc) (v95_2 ua ub uc) (v95_3 ua ub uc)))*256))+(v95_0 (v95_1 (v95_1 (v95_1 ua ub uc) (v95_2 ua ub uc) (v95_3 ua ub uc)) (v95_2 (v95_1 ua ub uc) (v95_2 ua ub uc) (v95_3 ua ub uc)) (v95_3 (v95_1 ua ub uc) (v95_2 ua ub uc) (v95_3 ua ub uc))) (v95_2 (v95_1 (v95_1 ua ub uc) (v95_2 ua ub uc) (v95_3 ua ub uc)) (v95_2 (v95_1 ua ub uc) (v95_2 ua ub uc) (v95_3 ua ub uc)) (v95_3 (v95_1 ua ub uc) (v95_2 ua ub uc) (v95_3 ua ub uc))) (v95_3 (v95_1 (v95_1 ua ub uc) (v95_2 ua ub uc) (v95_3 ua ub uc)) (v95_2 (v95_1 ua ub uc) (v95_2 ua ub uc) (v95_3 ua ub uc)) (v95_3 (v95_1 ua ub uc) (v95_2 ua ub uc) (v95_3 ua ub uc)))))) a1))] [some ⟨true,[],[AV.agg [AV.sl [.int .u8] (bif b then ua else (bif decide (a1≤256) then (v95_1 ua ub uc) else (v95_1 (v95_1 (v95_1 (v95_1 ua ub uc) (v95_2 ua ub uc) (v95_3 ua ub uc)) (v95_2 (v95_1 ua ub uc) (v95_2 ua ub uc) (v95_3 ua ub uc)) (v95_3 (v95_1 ua ub uc) (v95_2 ua ub uc) (v95_3 ua ub uc))) (v95_2 (v95_1 (v95_1 ua ub uc) (v95_2 ua ub uc) (v95_3 ua ub uc)) (v95_2 (v95_1 ua ub uc) (v95_2 ua ub uc) (v95_3 ua ub uc)) (v95_3 (v95_1 ua ub uc) (v95_2 ua ub uc) (v95_3 ua ub uc))) (v95_3 (v95_1 (v95_1 ua ub uc) (v95_2 ua ub uc) (v95_3 ua ub uc)) (v95_2 (v95_1 ua ub uc) (v95_2 ua ub uc) (v95_3 ua ub uc)) (v95_3 (v95_1 ua ub uc) (v95_2 ua ub uc) (v95_3 ua ub uc)))))),AV.int .i64 (bif b then ub else (bif decide (a1≤256) then (v95_2 ua ub uc) else (v95_2 (v95_1 (v95_1 (v95_1 ua ub uc) (v95_2 ua ub uc) (v95_3 ua ub uc)) (v95_2 (v95_1 ua ub uc) (v95_2 ua ub uc) (v95_3 ua ub uc)) (v95_3 (v95_1 ua ub uc) (v95_2 ua ub uc) (v95_3 ua ub uc))) (v95_2 (v95_1 (v95_1 ua ub uc) (v95_2 ua ub uc) (v95_3 ua ub uc)) (v95_2 (v95_1 ua ub uc) (v95_2 ua ub uc) (v95_3 ua ub uc)) (v95_3 (v95_1 ua ub uc) (v95_2 ua ub uc) (v95_3 ua ub uc))) (v95_3 (v95_1 (v95_1 ua ub uc) (v95_2 ua ub uc) (v95_3 ua ub uc)) (v95_2 (v95_1 ua ub uc) (v95_2 ua ub uc) (v95_3 ua ub uc)) (v95_3 (v95_1 ua ub uc) (v95_2 ua ub uc) (v95_3 ua ub uc)))))),AV.int .i64 (bif b then uc else (bif decide (a1≤256) then (v95_3 ua ub uc) else (v95_3 (v95_1 (v95_1 (v95_1 ua ub uc) (v95_2 ua ub uc) (v95_3 ua ub uc)) (v95_2 (v95_1 ua ub uc) (v95_2 ua ub uc) (v95_3 ua ub uc)) (v95_3 (v95_1 ua ub uc) (v95_2 ua ub uc) (v95_3 ua ub uc))) (v95_2 (v95_1 (v95_1 ua ub uc) (v95_2 ua ub uc) (v95_3 ua ub uc)) (v95_2 (v95_1 ua ub uc) (v95_2 ua ub uc) (v95_3 ua ub uc)) (v95_3 (v95_1 ua ub uc) (v95_2 ua ub uc) (v95_3 ua ub uc))) (v95_3 (v95_1 (v95_1 ua ub uc) (v95_2 ua ub uc) (v95_3 ua ub uc)) (v95_2 (v95_1 ua ub uc) (v95_2 ua ub uc) (v95_3 ua ub uc)) (v95_3 (v95_1 ua ub uc) (v95_2 ua ub uc) (v95_3 ua ub uc))))))]]⟩]) (fun _=>rfl) (br (fun b=>K [AV.int .i64 (bif b then Int.tmod (v95_0 ua ub uc) a1 else Int.tmod (IntKind.i64.wrap (IntKind.i64.wrap (IntKind.i64.wrap (IntKind.i64.wrap ((v95_0 ua ub uc)*16777216)+IntKind.i64.wrap ((v95_0 (v95_1 ua ub uc) (v95_2 ua ub uc) (v95_3 ua ub uc))*65536))+IntKind.i64.wrap ((v95_0 (v95_1 (v95_1 ua ub uc) (v95_2 ua ub uc) (v95_3 ua ub uc)) (v95_2 (v95_1 ua ub uc) (v95_2 ua ub uc) (v95_3 ua ub uc)) (v95_3 (v95_1 ua ub uc) (v95_2 ua ub uc) (v95_3 ua ub uc)))*256))+(v95_0 (v95_1 (v95_1 (v95_1 ua ub uc) (v95_2 ua ub uc) (v95_3 ua ub uc)) (v95_2 (v95_1 ua ub uc) (v95_2 ua ub uc) (v95_3 ua ub uc)) (v95_3 (v95_1 ua ub uc) (v95_2 ua ub uc) (v95_3 ua ub uc))) (v95_2 (v95_1 (v95_1 ua ub uc) (v95_2 ua ub uc) (v95_3 ua ub uc)) (v95_2 (v95_1 ua ub uc) (v95_2 ua ub uc) (v95_3 ua ub uc)) (v95_3 (v95_1 ua ub uc) (v95_2 ua ub uc) (v95_3 ua ub uc))) (v95_3 (v95_1 (v95_1 ua ub uc) (v95_2 ua ub uc) (v95_3 ua ub uc)) (v95_2 (v95_1 ua ub uc) (v95_2 ua ub uc) (v95_3 ua ub uc)) (v95_3 (v95_1 ua ub uc) (v95_2 ua ub uc) (v95_3 ua ub uc)))))) a1)] [some ⟨true,[],[AV.agg [AV.sl [.int .u8] (bif b then (v95_1 ua ub uc) else (v95_1 (v95_1 (v95_1 (v95_1 ua ub uc) (v95_2 ua ub uc) (v95_3 ua ub uc)) (v95_2 (v95_1 ua ub uc) (v95_2 ua ub uc) (v95_3 ua ub uc)) (v95_3 (v95_1 ua ub uc) (v95_2 ua ub uc) (v95_3 ua ub uc))) (v95_2 (v95_1 (v95_1 ua ub uc) (v95_2 ua ub uc) (v95_3 ua ub uc)) (v95_2 (v95_1 ua ub uc) (v95_2 ua ub uc) (v95_3 ua ub uc)) (v95_3 (v95_1 ua ub uc) (v95_2 ua ub uc) (v95_3 ua ub uc))) (v95_3 (v95_1 (v95_1 ua ub uc) (v95_2 ua ub uc) (v95_3 ua ub uc)) (v95_2 (v95_1 ua ub uc) (v95_2 ua ub uc) (v95_3 ua ub uc)) (v95_3 (v95_1 ua ub uc) (v95_2 ua ub uc) (v95_3 ua ub uc))))),AV.int .i64 (bif b then (v95_2 ua ub uc) else (v95_2 (v95_1 (v95_1 (v95_1 ua ub uc) (v95_2 ua ub uc) (v95_3 ua ub uc)) (v95_2 (v95_1 ua ub uc) (v95_2 ua ub uc) (v95_3 ua ub uc)) (v95_3 (v95_1 ua ub uc) (v95_2 ua ub uc) (v95_3 ua ub uc))) (v95_2 (v95_1 (v95_1 ua ub uc) (v95_2 ua ub uc) (v95_3 ua ub uc)) (v95_2 (v95_1 ua ub uc) (v95_2 ua ub uc) (v95_3 ua ub uc)) (v95_3 (v95_1 ua ub uc) (v95_2 ua ub uc) (v95_3 ua ub uc))) (v95_3 (v95_1 (v95_1 ua ub uc) (v95_2 ua ub uc) (v95_3 ua ub uc)) (v95_2 (v95_1 ua ub uc) (v95_2 ua ub uc) (v95_3 ua ub uc)) (v95_3 (v95_1 ua ub uc) (v95_2 ua ub uc) (v95_3 ua ub uc))))),AV.int .i64 (bif b then (v95_3 ua ub uc) else (v95_3 (v95_1 (v95_1 (v95_1 ua ub uc) (v95_2 ua ub uc) (v95_3 ua ub uc)) (v95_2 (v95_1 ua ub uc) (v95_2 ua ub uc) (v95_3 ua ub uc)) (v95_3 (v95_1 ua ub uc) (v95_2 ua ub uc) (v95_3 ua ub uc))) (v95_2 (v95_1 (v95_1 ua ub uc) (v95_2 ua ub uc) (v95_3 ua ub uc)) (v95_2 (v95_1 ua ub uc) (v95_2 ua ub uc) (v95_3 ua ub uc)) (v95_3 (v95_1 ua ub uc) (v95_2 ua ub uc) (v95_3 ua ub uc))) (v95_3 (v95_1 (v95_1 ua ub uc) (v95_2 ua ub uc) (v95_3 ua ub uc)) (v95_2 (v95_1 ua ub uc) (v95_2 ua ub uc) (v95_3 ua ub uc)) (v95_3 (v95_1 ua ub uc) (v95_2 ua ub uc) (v95_3 ua ub uc)))))]]⟩]) (brL (brL1 (fun _=>rfl))) (brL (brL (brL (brL (brL1 (fun _=>rfl)))))))) h)
def m42:GModel
 | [.ptr g0 g1 g2,.int .i64 a1],[⟨true,[],[.agg [.sl g3 ua,.int .i64 ub,.int .i64 uc]]⟩]=>bif nmEq g0 ([1]) && Nat.beq g1 0 && Nat.beq g2 0 && ctsEq g3 ([.int .u8]) then some (q42 a1 ua ub uc,[AV.int .i64 (v42_0 a1 ua ub uc)],[some ⟨true,[],[AV.agg [AV.sl [.int .u8] (v42_1 a1 ua ub uc),AV.int .i64 (v42_2 a1 ua ub uc),AV.int .i64 (v42_3 a1 ua ub uc)]]⟩]) else none
 | _,_=>none
theorem k42:Known Tryz.prog 42:=⟨Tryz.f42,Tryz.func42,by kernel_rfl,by kernel_rfl⟩
theorem meets42:MeetsG Tryz.prog 42 m42:=by
 refine mg (rt:=[3]) (gs:=[]) (lvl:=0) (cf:=c42) rfl mixed k42 Tryz.func42 (by kernel_rfl) noLoop allT_nil (allG_cons meets95 allM_nil) noI fun xs bs r bs' h K=>?_
 unfold m42 at h
 split at h
 ·rename_i g0 g1 g2 a1 g3 ua ub uc
  obtain ⟨hg,h⟩:=bif_pair h
  simp only [Bool.and_eq_true] at hg
  obtain ⟨⟨⟨q0,q1⟩,q2⟩,q3⟩:=hg
  obtain rfl:=nE q0
  obtain rfl:=bE q1
  obtain rfl:=bE q2
  obtain rfl:=cE q3
  obtain ⟨h1,rfl,rfl⟩:=trip_inj h
  exact r42 a1 ua ub uc K h1
 ·cases h
noncomputable def c93:Cfg:=cfg Tryz.prog [(93,999,[4])] [] [(42,.g m42)] [] []
def T93 {β:Type} (k:(Int × (List AV) × Int × Int × (List AV))→β) (n:β) (ua:List AV) (ub:Int) (uc:Int) (b1:List AV):β:=(bif q42 (b1.length:Int) ua ub uc then (bif (decide (0≤(v42_0 (b1.length:Int) ua ub uc)) && decide ((v42_0 (b1.length:Int) ua ub uc)<(b1.length:Int))) then k (fI (b1.getD (v42_0 (b1.length:Int) ua ub uc).toNat .undef) 0,(v42_1 (b1.length:Int) ua ub uc),(v42_2 (b1.length:Int) ua ub uc),(v42_3 (b1.length:Int) ua ub uc),b1)
 else n)
 else n)
abbrev W93 (ua:List AV) (ub:Int) (uc:Int) (b1:List AV):Option (Int × (List AV) × Int × Int × (List AV)):=T93 some none ua ub uc b1
theorem n93 {β:Type} (k:(Int × (List AV) × Int × Int × (List AV))→β) (n:β) (ua:List AV) (ub:Int) (uc:Int) (b1:List AV):T93 k n ua ub uc b1=oe k n (W93 ua ub uc b1):=by
 unfold W93 T93
 simp only [oe_cond,oe_ro,oe_sum,oe_some,oe_none]
def q93 (ua:List AV) (ub uc:Int) (b1:List AV):Bool:=(W93 ua ub uc b1).isSome
def v93_0 (ua:List AV) (ub uc:Int) (b1:List AV):Int:=oe (fun t=>t.1) 0 (W93 ua ub uc b1)
def v93_1 (ua:List AV) (ub uc:Int) (b1:List AV):List AV:=oe (fun t=>t.2.1) [] (W93 ua ub uc b1)
def v93_2 (ua:List AV) (ub uc:Int) (b1:List AV):Int:=oe (fun t=>t.2.2.1) 0 (W93 ua ub uc b1)
def v93_3 (ua:List AV) (ub uc:Int) (b1:List AV):Int:=oe (fun t=>t.2.2.2.1) 0 (W93 ua ub uc b1)
def v93_4 (ua:List AV) (ub uc:Int) (b1:List AV):List AV:=oe (fun t=>t.2.2.2.2) [] (W93 ua ub uc b1)
theorem e93 (ua:List AV) (ub uc:Int) (b1:List AV) (K:List AV→List (Option Blk)→Option AV):inlA c93 1 93 [AV.ptr [1] 0 0,AV.own [2]] [0] (canH 1 [⟨true,[],[AV.agg [AV.sl [.int .u8] ua,Ai ub,Ai uc]]⟩,⟨false,[.int .i64],b1⟩]) (keepG Tryz.prog 2 [3] [] K)=T93 (fun t=>K [Ai t.1] [some ⟨true,[],[AV.agg [AV.sl [.int .u8] t.2.1,Ai t.2.2.1,Ai t.2.2.2.1]]⟩,some ⟨false,[.int .i64],t.2.2.2.2⟩]) none ua ub uc b1:=by kernel_rfl
theorem r93 (ua:List AV) (ub uc:Int) (b1:List AV) (K:List AV→List (Option Blk)→Option AV) (h:q93 ua ub uc b1=true):inlA c93 1 93 [AV.ptr [1] 0 0,AV.own [2]] [0] (canH 1 [⟨true,[],[AV.agg [AV.sl [.int .u8] ua,AV.int .i64 ub,AV.int .i64 uc]]⟩,⟨false,[.int .i64],b1⟩]) (keepG Tryz.prog 2 [3] [] K)=K [AV.int .i64 (v93_0 ua ub uc b1)] [some ⟨true,[],[AV.agg [AV.sl [.int .u8] (v93_1 ua ub uc b1),AV.int .i64 (v93_2 ua ub uc b1),AV.int .i64 (v93_3 ua ub uc b1)]]⟩,some ⟨false,[.int .i64],(v93_4 ua ub uc b1)⟩]:=by
 refine ((e93 ua ub uc b1 K).trans (n93 _ _ ua ub uc b1)).trans ?_
 unfold q93 at h
 unfold v93_0 v93_1 v93_2 v93_3 v93_4
 generalize W93 ua ub uc b1=o at *
 cases o with
 | none=>cases h
 | some t=>rfl
def m93:GModel
 | [.ptr g0 g1 g2,.own g3],[⟨true,[],[.agg [.sl g4 ua,.int .i64 ub,.int .i64 uc]]⟩,⟨false,g5,b1⟩]=>bif nmEq g0 ([1]) && Nat.beq g1 0 && Nat.beq g2 0 && nmEq g3 ([2]) && ctsEq g4 ([.int .u8]) && ctsEq g5 ([.int .i64]) then some (q93 ua ub uc b1,[AV.int .i64 (v93_0 ua ub uc b1)],[some ⟨true,[],[AV.agg [AV.sl [.int .u8] (v93_1 ua ub uc b1),AV.int .i64 (v93_2 ua ub uc b1),AV.int .i64 (v93_3 ua ub uc b1)]]⟩,some ⟨false,[.int .i64],(v93_4 ua ub uc b1)⟩]) else none
 | _,_=>none
theorem k93:Known Tryz.prog 93:=⟨Tryz.f93,Tryz.func93,by kernel_rfl,by kernel_rfl⟩
theorem meets93:MeetsG Tryz.prog 93 m93:=by
 refine mg (rt:=[3]) (gs:=[]) (lvl:=0) (cf:=c93) rfl mixed k93 Tryz.func93 (by kernel_rfl) noLoop allT_nil (allG_cons meets42 allM_nil) noI fun xs bs r bs' h K=>?_
 unfold m93 at h
 split at h
 ·rename_i g0 g1 g2 g3 g4 ua ub uc g5 b1
  obtain ⟨hg,h⟩:=bif_pair h
  simp only [Bool.and_eq_true] at hg
  obtain ⟨⟨⟨⟨⟨q0,q1⟩,q2⟩,q3⟩,q4⟩,q5⟩:=hg
  obtain rfl:=nE q0
  obtain rfl:=bE q1
  obtain rfl:=bE q2
  obtain rfl:=nE q3
  obtain rfl:=cE q4
  obtain rfl:=cE q5
  obtain ⟨h1,rfl,rfl⟩:=trip_inj h
  exact r93 ua ub uc b1 K h1
 ·cases h
def G123_0 {β:Type} (t6:Int) (t7:Int) (h0:List AV) (h1_0:List AV) (h1_1:Int) (h1_2:Int) (N:((Int × (List AV) × (List AV) × Int × Int))→β) (K:(((List AV) × (List AV) × Int × Int))→β) (d:β):β:=(bif decide (t7 > 0) then (bif q42 t6 h1_0 h1_1 h1_2 then (bif !decide (3=0) then (bif (decide ((h0.length+([AV.int .i64 (IntKind.i64.wrap ((v42_0 t6 h1_0 h1_1 h1_2) - IntKind.i64.wrap (Int.tdiv t6 3)))]).length)*8≤140737488355328) && decide ((h0.length+([AV.int .i64 (IntKind.i64.wrap ((v42_0 t6 h1_0 h1_1 h1_2) - IntKind.i64.wrap (Int.tdiv t6 3)))]).length)≤140737488355328)) then N (IntKind.i64.wrap (t7 - 1),h0++([AV.int .i64 (IntKind.i64.wrap ((v42_0 t6 h1_0 h1_1 h1_2) - IntKind.i64.wrap (Int.tdiv t6 3)))]),(v42_1 t6 h1_0 h1_1 h1_2),(v42_2 t6 h1_0 h1_1 h1_2),(v42_3 t6 h1_0 h1_1 h1_2))
 else d)
 else d)
 else d)
 else K (h0,h1_0,h1_1,h1_2))
def F123_0 (t6 t7:Int) (h0 h1_0:List AV) (h1_1 h1_2:Int):Out ((Int × (List AV) × (List AV) × Int × Int)) (((List AV) × (List AV) × Int × Int)):=G123_0 t6 t7 h0 h1_0 h1_1 h1_2 .next .stop .fail
def R123_0 (t6:Int):((Int × (List AV) × (List AV) × Int × Int))→Out ((Int × (List AV) × (List AV) × Int × Int)) (((List AV) × (List AV) × Int × Int)):=fun s:Int × (List AV) × (List AV) × Int × Int=>F123_0 t6 s.1 s.2.1 s.2.2.1 s.2.2.2.1 s.2.2.2.2
def E123_0 (t6:Int):((Int × (List AV) × (List AV) × Int × Int))→St:=fun s:Int × (List AV) × (List AV) × Int × Int=>⟨[(0,AV.ptr [1] 0 0),(5,AV.own [0,5,0]),(6,Ai t6),(7,Ai s.1)],[([0,5,0],⟨false,[.int .i64],s.2.1⟩),([1],⟨true,[],[AV.agg [AV.sl [.int .u8] s.2.2.1,Ai s.2.2.2.1,Ai s.2.2.2.2]]⟩)]⟩
def K123_0 (t6:Int) (k:Kont):(((List AV) × (List AV) × Int × Int))→Option AV:=fun p:(List AV) × (List AV) × Int × Int=>k (.exit 0) ⟨[(5,AV.own [0,5,0])],[([0,5,0],⟨false,[.int .i64],p.1⟩),([1],⟨true,[],[AV.agg [AV.sl [.int .u8] p.2.1,Ai p.2.2.1,Ai p.2.2.2]]⟩)]⟩
def l123_0:LModel:=fun _ _ st k=>match st with
 | ⟨[(0,.ptr g0 g1 g2),(5,.own g3),(6,.int .i64 t6),(7,.int .i64 t7)],[(g4,⟨false,g5,h0⟩),(g6,⟨true,[],[.agg [.sl g7 h1_0,.int .i64 h1_1,.int .i64 h1_2]]⟩)]⟩=>bif nmEq g0 ([1]) && Nat.beq g1 0 && Nat.beq g2 0 && nmEq g3 ([0,5,0]) && nmEq g4 ([0,5,0]) && ctsEq g5 ([.int .i64]) && nmEq g6 ([1]) && ctsEq g7 ([.int .u8]) then ro (runW (R123_0 t6) ((t7 - 0:Int).toNat+1) (t7,h0,h1_0,h1_1,h1_2)) none (K123_0 t6 k) else none
 | _=>none
noncomputable def c123:Cfg:=cfg Tryz.prog [(123,0,[0,5,6,7]),(123,999,[4]),(123,1000,[5]),(123,1001,[0,5,6,7])] [] [(42,.g m42),(93,.g m93)] [] [(123,0,l123_0)]
theorem s123_0 (t6:Int) (ce:CallE) (k:Kont) (s:Int × (List AV) × (List AV) × Int × Int) (next:St→Option AV):stepA (codeA c123 ce [0] 123 0 (sub [1,1,1,0,1,0,0] (body Tryz.f123))) (normA [0] [0,5,6,7]) next ((E123_0 t6) s) k=G123_0 t6 s.1 s.2.1 s.2.2.1 s.2.2.2.1 s.2.2.2.2 (fun s=>next ((E123_0 t6) s)) (K123_0 t6 k) none:=by kernel_rfl
theorem st123_0 (t6:Int) (ce:CallE) (k:Kont) (s:(Int × (List AV) × (List AV) × Int × Int)) (next:St→Option AV):stepA (codeA c123 ce [0] 123 0 (sub [1,1,1,0,1,0,0] (body Tryz.f123))) (normA [0] [0,5,6,7]) next ((E123_0 t6) s) k=(R123_0 t6 s).el none (fun s=>next ((E123_0 t6) s)) (K123_0 t6 k):=(s123_0 t6 ce k s next).trans (by unfold R123_0;unfold F123_0 G123_0;simp only [el_cond,el_ro,el_sum,el_fail,el_next,el_stop] <;> rfl)
theorem ok123_0 {ce:CallE}:LoopOK c123 ce [0] 123 0 (sub [1,1,1,0,1,0,0] (body Tryz.f123)):=by
 intro m hm st k r h
 obtain rfl:l123_0=m:=Option.some.inj hm
 unfold l123_0 at h
 split at h
 ·rename_i g0 g1 g2 g3 t6 t7 g4 g5 h0 g6 g7 h1_0 h1_1 h1_2
  obtain ⟨hg,h⟩:=bif_some h
  simp only [Bool.and_eq_true] at hg
  obtain ⟨⟨⟨⟨⟨⟨⟨q0,q1⟩,q2⟩,q3⟩,q4⟩,q5⟩,q6⟩,q7⟩:=hg
  obtain rfl:=nE q0
  obtain rfl:=bE q1
  obtain rfl:=bE q2
  obtain rfl:=nE q3
  obtain rfl:=nE q4
  obtain rfl:=cE q5
  obtain rfl:=nE q6
  obtain rfl:=cE q7
  refine ⟨((t7 - 0:Int).toNat+1),?_⟩
  rw [← h]
  exact loop_run (E123_0 t6) (K123_0 t6 k) (st123_0 t6 ce k) _ (t7,h0,h1_0,h1_1,h1_2)
 ·cases h
def T123 {β:Type} (k:((List AV) × (List AV) × Int × Int)→β) (n:β) (a1:Int) (ua:List AV) (ub:Int) (uc:Int):β:=by
 refine (?f0:Int→(List AV)→Int→Int→β) (v93_0 ua ub uc ([AV.int .i64 3,AV.int .i64 10,AV.int .i64 30,AV.int .i64 1000])) (v93_1 ua ub uc ([AV.int .i64 3,AV.int .i64 10,AV.int .i64 30,AV.int .i64 1000])) (v93_2 ua ub uc ([AV.int .i64 3,AV.int .i64 10,AV.int .i64 30,AV.int .i64 1000])) (v93_3 ua ub uc ([AV.int .i64 3,AV.int .i64 10,AV.int .i64 30,AV.int .i64 1000]));intro x1 x2 x3 x4
 exact (bif q93 ua ub uc ([AV.int .i64 3,AV.int .i64 10,AV.int .i64 30,AV.int .i64 1000]) then (bif q42 (IntKind.i64.wrap (a1+1)) x2 x3 x4 then (ro (runW (R123_0 x1) (((v42_0 (IntKind.i64.wrap (a1+1)) x2 x3 x4) - 0:Int).toNat+1) ((v42_0 (IntKind.i64.wrap (a1+1)) x2 x3 x4),([]:List AV),(v42_1 (IntKind.i64.wrap (a1+1)) x2 x3 x4),(v42_2 (IntKind.i64.wrap (a1+1)) x2 x3 x4),(v42_3 (IntKind.i64.wrap (a1+1)) x2 x3 x4))) n (fun p2=>k (p2.1,p2.2.1,p2.2.2.1,p2.2.2.2)))
 else n)
 else n)
abbrev W123 (a1:Int) (ua:List AV) (ub:Int) (uc:Int):Option ((List AV) × (List AV) × Int × Int):=T123 some none a1 ua ub uc
theorem n123 {β:Type} (k:((List AV) × (List AV) × Int × Int)→β) (n:β) (a1:Int) (ua:List AV) (ub:Int) (uc:Int):T123 k n a1 ua ub uc=oe k n (W123 a1 ua ub uc):=by
 unfold W123 T123
 simp only [oe_cond,oe_ro,oe_sum,oe_some,oe_none]
def q123 (a1:Int) (ua:List AV) (ub uc:Int):Bool:=(W123 a1 ua ub uc).isSome
def v123_0 (a1:Int) (ua:List AV) (ub uc:Int):List AV:=oe (fun t=>t.1) [] (W123 a1 ua ub uc)
def v123_1 (a1:Int) (ua:List AV) (ub uc:Int):List AV:=oe (fun t=>t.2.1) [] (W123 a1 ua ub uc)
def v123_2 (a1:Int) (ua:List AV) (ub uc:Int):Int:=oe (fun t=>t.2.2.1) 0 (W123 a1 ua ub uc)
def v123_3 (a1:Int) (ua:List AV) (ub uc:Int):Int:=oe (fun t=>t.2.2.2) 0 (W123 a1 ua ub uc)
theorem e123 (a1:Int) (ua:List AV) (ub uc:Int) (K:List AV→List (Option Blk)→Option AV):inlA c123 1 123 [AV.ptr [1] 0 0,Ai a1] [0] (canH 1 [⟨true,[],[AV.agg [AV.sl [.int .u8] ua,Ai ub,Ai uc]]⟩]) (keepG Tryz.prog 1 [25] [] K)=T123 (fun t=>K [AV.fl [.int .i64] t.1] [some ⟨true,[],[AV.agg [AV.sl [.int .u8] t.2.1,Ai t.2.2.1,Ai t.2.2.2]]⟩]) none a1 ua ub uc:=by kernel_rfl
theorem r123 (a1:Int) (ua:List AV) (ub uc:Int) (K:List AV→List (Option Blk)→Option AV) (h:q123 a1 ua ub uc=true):inlA c123 1 123 [AV.ptr [1] 0 0,AV.int .i64 a1] [0] (canH 1 [⟨true,[],[AV.agg [AV.sl [.int .u8] ua,AV.int .i64 ub,AV.int .i64 uc]]⟩]) (keepG Tryz.prog 1 [25] [] K)=K [AV.fl [.int .i64] (v123_0 a1 ua ub uc)] [some ⟨true,[],[AV.agg [AV.sl [.int .u8] (v123_1 a1 ua ub uc),AV.int .i64 (v123_2 a1 ua ub uc),AV.int .i64 (v123_3 a1 ua ub uc)]]⟩]:=by
 refine ((e123 a1 ua ub uc K).trans (n123 _ _ a1 ua ub uc)).trans ?_
 unfold q123 at h
 unfold v123_0 v123_1 v123_2 v123_3
 generalize W123 a1 ua ub uc=o at *
 cases o with
 | none=>cases h
 | some t=>rfl
def m123:GModel
 | [.ptr g0 g1 g2,.int .i64 a1],[⟨true,[],[.agg [.sl g3 ua,.int .i64 ub,.int .i64 uc]]⟩]=>bif nmEq g0 ([1]) && Nat.beq g1 0 && Nat.beq g2 0 && ctsEq g3 ([.int .u8]) then some (q123 a1 ua ub uc,[AV.fl [.int .i64] (v123_0 a1 ua ub uc)],[some ⟨true,[],[AV.agg [AV.sl [.int .u8] (v123_1 a1 ua ub uc),AV.int .i64 (v123_2 a1 ua ub uc),AV.int .i64 (v123_3 a1 ua ub uc)]]⟩]) else none
 | _,_=>none
theorem k123:Known Tryz.prog 123:=⟨Tryz.f123,Tryz.func123,by kernel_rfl,by kernel_rfl⟩
theorem meets123:MeetsG Tryz.prog 123 m123:=by
 refine mg (rt:=[25]) (gs:=[]) (lvl:=0) (cf:=c123) rfl mixed k123 Tryz.func123 (by kernel_rfl) (loops_cons ok123_0 noLoop) allT_nil (allG_cons meets42 (allG_cons meets93 allM_nil)) noI fun xs bs r bs' h K=>?_
 unfold m123 at h
 split at h
 ·rename_i g0 g1 g2 a1 g3 ua ub uc
  obtain ⟨hg,h⟩:=bif_pair h
  simp only [Bool.and_eq_true] at hg
  obtain ⟨⟨⟨q0,q1⟩,q2⟩,q3⟩:=hg
  obtain rfl:=nE q0
  obtain rfl:=bE q1
  obtain rfl:=bE q2
  obtain rfl:=cE q3
  obtain ⟨h1,rfl,rfl⟩:=trip_inj h
  exact r123 a1 ua ub uc K h1
 ·cases h
noncomputable def c52:Cfg:=cfg Tryz.prog [(52,999,[6])] [] [] [] []
def v52_0 (a0 a1 a2:Int):Bool:=(bif decide (a0 ≥ a1) then decide (a0≤a2) else false)
theorem e52 (a0 a1 a2:Int):funA c52 0 52 [Ai a0,Ai a1,Ai a2]=(bif decide (a0 ≥ a1) then some (AV.bool (decide (a0≤a2)))
 else some (AV.bool false)):=by kernel_rfl
def m52:TModel
 | [.int .i64 a0,.int .i64 a1,.int .i64 a2]=>some (true,AV.bool (v52_0 a0 a1 a2))
 | _=>none
theorem k52:Known Tryz.prog 52:=⟨Tryz.f52,Tryz.func52,by kernel_rfl,by kernel_rfl⟩
theorem meets52:Meets Tryz.prog 52 m52:=by
 refine mt (lvl:=0) (cf:=c52) rfl mixed k52 Tryz.func52 (by kernel_rfl) noLoop allT_nil allM_nil noI fun xs r h=>?_
 unfold m52 at h
 split at h
 ·rename_i a0 a1 a2
  obtain ⟨h1,rfl⟩:=pair_inj h
  exact (e52 a0 a1 a2).trans (of_tt (brT (fun b=>some (AV.bool (bif b then decide (a0≤a2) else false))) (fun _=>rfl) (fun _=>rfl)))
 ·cases h
def G116_0 {β:Type} (t0:List AV) (t3:Int) (N:(Int)→β) (K:(Unit ⊕ Unit)→β) (d:β):β:=(bif decide (t3<(t0.length:Int)) then (bif (decide (0≤t3) && decide (t3<(t0.length:Int))) then (bif !(v52_0 (fI (t0.getD t3.toNat .undef) 0) (-999) 999) then K (.inr ())
 else N (IntKind.i64.wrap (t3+1)))
 else d)
 else K (.inl ()))
def F116_0 (t0:List AV) (t3:Int):Out (Int) (Unit ⊕ Unit):=G116_0 t0 t3 .next .stop .fail
def R116_0 (t0:List AV):(Int)→Out (Int) (Unit ⊕ Unit):=fun s:Int=>F116_0 t0 s
def E116_0 (t0:List AV):(Int)→St:=fun s:Int=>⟨[(0,AV.sl [.int .i64] t0),(3,Ai s)],[]⟩
def K116_0 (t0:List AV) (k:Kont):(Unit ⊕ Unit)→Option AV:=sumE (fun _:Unit=>k (.exit 0) ⟨[(0,AV.sl [.int .i64] t0)],[]⟩) (fun _:Unit=>k .ret ⟨[(2,AV.bool false)],[]⟩)
def l116_0:LModel:=fun _ _ st k=>match st with
 | ⟨[(0,.sl g0 t0),(3,.int .i64 t3)],[]⟩=>bif ctsEq g0 ([.int .i64]) then ro (runW (R116_0 t0) (((t0.length:Int) - t3:Int).toNat+1) t3) none (K116_0 t0 k) else none
 | _=>none
noncomputable def c116:Cfg:=cfg Tryz.prog [(116,0,[0,3]),(116,999,[2]),(116,1000,[0]),(116,1001,[0,3])] [(52,m52)] [] [] [(116,0,l116_0)]
theorem s116_0 (t0:List AV) (ce:CallE) (k:Kont) (s:Int) (next:St→Option AV):stepA (codeA c116 ce [] 116 0 (sub [1,0,1,0,0] (body Tryz.f116))) (normA [] [0,3]) next ((E116_0 t0) s) k=G116_0 t0 s (fun s=>next ((E116_0 t0) s)) (K116_0 t0 k) none:=by kernel_rfl
theorem st116_0 (t0:List AV) (ce:CallE) (k:Kont) (s:Int) (next:St→Option AV):stepA (codeA c116 ce [] 116 0 (sub [1,0,1,0,0] (body Tryz.f116))) (normA [] [0,3]) next ((E116_0 t0) s) k=(R116_0 t0 s).el none (fun s=>next ((E116_0 t0) s)) (K116_0 t0 k):=(s116_0 t0 ce k s next).trans (by unfold R116_0;unfold F116_0 G116_0;simp only [el_cond,el_ro,el_sum,el_fail,el_next,el_stop] <;> rfl)
theorem ok116_0 {ce:CallE}:LoopOK c116 ce [] 116 0 (sub [1,0,1,0,0] (body Tryz.f116)):=by
 intro m hm st k r h
 obtain rfl:l116_0=m:=Option.some.inj hm
 unfold l116_0 at h
 split at h
 ·rename_i g0 t0 t3
  obtain ⟨hg,h⟩:=bif_some h
  have q0:=hg
  obtain rfl:=cE q0
  refine ⟨(((t0.length:Int) - t3:Int).toNat+1),?_⟩
  rw [← h]
  exact loop_run (E116_0 t0) (K116_0 t0 k) (st116_0 t0 ce k) _ t3
 ·cases h
def q116 (a0:List AV):Bool:=(ro (runW (R116_0 a0) (((a0.length:Int) - 0:Int).toNat+1) 0) false (sumE (fun _=>true) (fun _=>true)))
def v116_0 (a0:List AV):Bool:=(ro (runW (R116_0 a0) (((a0.length:Int) - 0:Int).toNat+1) 0) false (sumE (fun _=>decide ((a0.length:Int)≤64)) (fun _=>false)))
theorem e116 (a0:List AV):funA c116 0 116 [AV.sl [.int .i64] a0]=(ro (runW (R116_0 a0) (((a0.length:Int) - 0:Int).toNat+1) 0) none (sumE (fun _=>some (AV.bool (decide ((a0.length:Int)≤64)))) (fun _=>some (AV.bool false)))):=by kernel_rfl
def m116:TModel
 | [.sl g0 a0]=>bif ctsEq g0 ([.int .i64]) then some (q116 a0,AV.bool (v116_0 a0)) else none
 | _=>none
theorem k116:Known Tryz.prog 116:=⟨Tryz.f116,Tryz.func116,by kernel_rfl,by kernel_rfl⟩
theorem meets116:Meets Tryz.prog 116 m116:=by
 refine mt (lvl:=0) (cf:=c116) rfl mixed k116 Tryz.func116 (by kernel_rfl) (loops_cons ok116_0 noLoop) (allT_cons meets52 allT_nil) allM_nil noI fun xs r h=>?_
 unfold m116 at h
 split at h
 ·rename_i g0 a0
  obtain ⟨hg,h⟩:=bif_pair h
  have q0:=hg
  obtain rfl:=cE q0
  obtain ⟨h1,rfl⟩:=pair_inj h
  exact (e116 a0).trans ((brO (fun o:Option (Unit ⊕ Unit)=>some (AV.bool (ro o false (sumE (fun _=>decide ((a0.length:Int)≤64)) (fun _=>false))))) (brS (fun o:Unit ⊕ Unit=>some (AV.bool ((sumE (fun _=>decide ((a0.length:Int)≤64)) (fun _=>false)) o))) (fun _=>(fun _=>rfl)) (fun _=>(fun _=>rfl)))) h1)
 ·cases h
def G125_0_s0 {β:Type} (t0:List AV) (h0:List AV) (t4:Int) (N:(Int ⊕ (Int × (List AV)))→β) (K:(Unit ⊕ ((List AV)))→β) (d:β):β:=(bif decide (t4<(t0.length:Int)) then (bif (decide ((([AV.int .i64 t4]).length)*8≤140737488355328) && decide ((([AV.int .i64 t4]).length)≤140737488355328)) then N (.inr (IntKind.i64.wrap (t4+1),[AV.int .i64 t4]))
 else d)
 else K (.inl ()))
def F125_0_s0 (t0 h0:List AV) (t4:Int):Out (Int ⊕ (Int × (List AV))) (Unit ⊕ ((List AV))):=G125_0_s0 t0 h0 t4 .next .stop .fail
def G125_0_s1 {β:Type} (t0:List AV) (h0:List AV) (t4:Int) (h1:List AV) (N:(Int ⊕ (Int × (List AV)))→β) (K:(Unit ⊕ ((List AV)))→β) (d:β):β:=(bif decide (t4<(t0.length:Int)) then (bif (decide ((h1.length+([AV.int .i64 t4]).length)*8≤140737488355328) && decide ((h1.length+([AV.int .i64 t4]).length)≤140737488355328)) then N (.inr (IntKind.i64.wrap (t4+1),h1++([AV.int .i64 t4])))
 else d)
 else K (.inr h1))
def F125_0_s1 (t0 h0:List AV) (t4:Int) (h1:List AV):Out (Int ⊕ (Int × (List AV))) (Unit ⊕ ((List AV))):=G125_0_s1 t0 h0 t4 h1 .next .stop .fail
def R125_0 (t0 h0:List AV):(Int ⊕ (Int × (List AV)))→Out (Int ⊕ (Int × (List AV))) (Unit ⊕ ((List AV))):=sumE (fun s:Int=>F125_0_s0 t0 h0 s) (fun s:Int × (List AV)=>F125_0_s1 t0 h0 s.1 s.2)
def E125_0 (t0 h0:List AV):(Int ⊕ (Int × (List AV)))→St:=sumE (fun s:Int=>⟨[(0,AV.sl [.int .i64] t0),(2,AV.ptr [0,2] 0 0),(3,AV.ptr [0,3] 0 0),(4,Ai s)],[([0,0,3],⟨false,[.int .i64],h0⟩),([0,2],⟨true,[],[AV.agg [AV.snil,AV.snil,AV.snil]]⟩),([0,3],⟨true,[],[AV.agg [AV.own [0,0,3],AV.snil,AV.snil]]⟩)]⟩) (fun s:Int × (List AV)=>⟨[(0,AV.sl [.int .i64] t0),(2,AV.ptr [0,2] 0 0),(3,AV.ptr [0,3] 0 0),(4,Ai s.1)],[([0,0,3],⟨false,[.int .i64],h0⟩),([0,1,3],⟨false,[.int .i64],s.2⟩),([0,2],⟨true,[],[AV.agg [AV.snil,AV.snil,AV.snil]]⟩),([0,3],⟨true,[],[AV.agg [AV.own [0,0,3],AV.own [0,1,3],AV.snil]]⟩)]⟩)
def K125_0 (t0 h0:List AV) (k:Kont):(Unit ⊕ ((List AV)))→Option AV:=sumE (fun _:Unit=>k (.exit 0) ⟨[(2,AV.ptr [0,2] 0 0),(3,AV.ptr [0,3] 0 0)],[([0,0,3],⟨false,[.int .i64],h0⟩),([0,2],⟨true,[],[AV.agg [AV.snil,AV.snil,AV.snil]]⟩),([0,3],⟨true,[],[AV.agg [AV.own [0,0,3],AV.snil,AV.snil]]⟩)]⟩) (fun p:(List AV)=>k (.exit 0) ⟨[(2,AV.ptr [0,2] 0 0),(3,AV.ptr [0,3] 0 0)],[([0,0,3],⟨false,[.int .i64],h0⟩),([0,1,3],⟨false,[.int .i64],p⟩),([0,2],⟨true,[],[AV.agg [AV.snil,AV.snil,AV.snil]]⟩),([0,3],⟨true,[],[AV.agg [AV.own [0,0,3],AV.own [0,1,3],AV.snil]]⟩)]⟩)
def l125_0:LModel:=fun _ _ st k=>match st with
 | ⟨[(0,.sl g0 t0),(2,.ptr g1 g2 g3),(3,.ptr g4 g5 g6),(4,.int .i64 t4)],[(g7,⟨false,g8,h0⟩),(g9,⟨true,[],[.agg [.snil,.snil,.snil]]⟩),(g10,⟨true,[],[.agg [.own g11,.snil,.snil]]⟩)]⟩=>bif ctsEq g0 ([.int .i64]) && nmEq g1 ([0,2]) && Nat.beq g2 0 && Nat.beq g3 0 && nmEq g4 ([0,3]) && Nat.beq g5 0 && Nat.beq g6 0 && nmEq g7 ([0,0,3]) && ctsEq g8 ([.int .i64]) && nmEq g9 ([0,2]) && nmEq g10 ([0,3]) && nmEq g11 ([0,0,3]) then ro (runW (R125_0 t0 h0) (((t0.length:Int) - t4:Int).toNat+1) (.inl t4)) none (K125_0 t0 h0 k) else none
 | ⟨[(0,.sl g0 t0),(2,.ptr g1 g2 g3),(3,.ptr g4 g5 g6),(4,.int .i64 t4)],[(g7,⟨false,g8,h0⟩),(g9,⟨false,g10,h1⟩),(g11,⟨true,[],[.agg [.snil,.snil,.snil]]⟩),(g12,⟨true,[],[.agg [.own g13,.own g14,.snil]]⟩)]⟩=>bif ctsEq g0 ([.int .i64]) && nmEq g1 ([0,2]) && Nat.beq g2 0 && Nat.beq g3 0 && nmEq g4 ([0,3]) && Nat.beq g5 0 && Nat.beq g6 0 && nmEq g7 ([0,0,3]) && ctsEq g8 ([.int .i64]) && nmEq g9 ([0,1,3]) && ctsEq g10 ([.int .i64]) && nmEq g11 ([0,2]) && nmEq g12 ([0,3]) && nmEq g13 ([0,0,3]) && nmEq g14 ([0,1,3]) then ro (runW (R125_0 t0 h0) (((t0.length:Int) - t4:Int).toNat+1) (.inr (t4,h1))) none (K125_0 t0 h0 k) else none
 | _=>none
noncomputable def c125:Cfg:=cfg Tryz.prog [(125,0,[0,2,3,4]),(125,999,[2]),(125,1000,[2,3]),(125,1001,[0,2,3,4])] [(116,m116)] [] [] [(125,0,l125_0)]
theorem s125_0_s0 (t0 h0:List AV) (ce:CallE) (k:Kont) (s:Int) (next:St→Option AV):stepA (codeA c125 ce [] 125 0 (sub [1,1,1,0,1,0,0] (body Tryz.f125))) (normA [] [0,2,3,4]) next ((E125_0 t0 h0) (.inl s)) k=G125_0_s0 t0 h0 s (fun s=>next ((E125_0 t0 h0) s)) (K125_0 t0 h0 k) none:=by kernel_rfl
theorem s125_0_s1 (t0 h0:List AV) (ce:CallE) (k:Kont) (s:Int × (List AV)) (next:St→Option AV):stepA (codeA c125 ce [] 125 0 (sub [1,1,1,0,1,0,0] (body Tryz.f125))) (normA [] [0,2,3,4]) next ((E125_0 t0 h0) (.inr s)) k=G125_0_s1 t0 h0 s.1 s.2 (fun s=>next ((E125_0 t0 h0) s)) (K125_0 t0 h0 k) none:=by kernel_rfl
theorem st125_0 (t0 h0:List AV) (ce:CallE) (k:Kont) (s:Int ⊕ (Int × (List AV))) (next:St→Option AV):stepA (codeA c125 ce [] 125 0 (sub [1,1,1,0,1,0,0] (body Tryz.f125))) (normA [] [0,2,3,4]) next ((E125_0 t0 h0) s) k=(R125_0 t0 h0 s).el none (fun s=>next ((E125_0 t0 h0) s)) (K125_0 t0 h0 k):=(match s with | .inl s=>(s125_0_s0 t0 h0 ce k s next).trans (by unfold R125_0;unfold F125_0_s0 G125_0_s0;simp only [el_cond,el_ro,el_sum,el_fail,el_next,el_stop] <;> rfl) | .inr s=>(s125_0_s1 t0 h0 ce k s next).trans (by unfold R125_0;unfold F125_0_s1 G125_0_s1;simp only [el_cond,el_ro,el_sum,el_fail,el_next,el_stop] <;> rfl))
theorem ok125_0 {ce:CallE}:LoopOK c125 ce [] 125 0 (sub [1,1,1,0,1,0,0] (body Tryz.f125)):=by
 intro m hm st k r h
 obtain rfl:l125_0=m:=Option.some.inj hm
 unfold l125_0 at h
 split at h
 ·rename_i g0 t0 g1 g2 g3 g4 g5 g6 t4 g7 g8 h0 g9 g10 g11
  obtain ⟨hg,h⟩:=bif_some h
  simp only [Bool.and_eq_true] at hg
  obtain ⟨⟨⟨⟨⟨⟨⟨⟨⟨⟨⟨q0,q1⟩,q2⟩,q3⟩,q4⟩,q5⟩,q6⟩,q7⟩,q8⟩,q9⟩,q10⟩,q11⟩:=hg
  obtain rfl:=cE q0
  obtain rfl:=nE q1
  obtain rfl:=bE q2
  obtain rfl:=bE q3
  obtain rfl:=nE q4
  obtain rfl:=bE q5
  obtain rfl:=bE q6
  obtain rfl:=nE q7
  obtain rfl:=cE q8
  obtain rfl:=nE q9
  obtain rfl:=nE q10
  obtain rfl:=nE q11
  refine ⟨(((t0.length:Int) - t4:Int).toNat+1),?_⟩
  rw [← h]
  exact loop_run (E125_0 t0 h0) (K125_0 t0 h0 k) (st125_0 t0 h0 ce k) _ (.inl t4)
 ·rename_i g0 t0 g1 g2 g3 g4 g5 g6 t4 g7 g8 h0 g9 g10 h1 g11 g12 g13 g14
  obtain ⟨hg,h⟩:=bif_some h
  simp only [Bool.and_eq_true] at hg
  obtain ⟨⟨⟨⟨⟨⟨⟨⟨⟨⟨⟨⟨⟨⟨q0,q1⟩,q2⟩,q3⟩,q4⟩,q5⟩,q6⟩,q7⟩,q8⟩,q9⟩,q10⟩,q11⟩,q12⟩,q13⟩,q14⟩:=hg
  obtain rfl:=cE q0
  obtain rfl:=nE q1
  obtain rfl:=bE q2
  obtain rfl:=bE q3
  obtain rfl:=nE q4
  obtain rfl:=bE q5
  obtain rfl:=bE q6
  obtain rfl:=nE q7
  obtain rfl:=cE q8
  obtain rfl:=nE q9
  obtain rfl:=cE q10
  obtain rfl:=nE q11
  obtain rfl:=nE q12
  obtain rfl:=nE q13
  obtain rfl:=nE q14
  refine ⟨(((t0.length:Int) - t4:Int).toNat+1),?_⟩
  rw [← h]
  exact loop_run (E125_0 t0 h0) (K125_0 t0 h0 k) (st125_0 t0 h0 ce k) _ (.inr (t4,h1))
 ·cases h
def q125 (a0:List AV):Bool:=(q116 a0 && (bif !(v116_0 a0) then true else ((decide ((([]:List AV).length+a0.length)*8≤140737488355328) && decide ((([]:List AV).length+a0.length)≤140737488355328)) && (ro (runW (R125_0 a0 (([]:List AV)++a0)) (((a0.length:Int) - 0:Int).toNat+1) (.inl 0)) false (sumE (fun _=>true) (fun p6=>true))))))
def v125_0 (a0:List AV):List AV:=(bif !(v116_0 a0) then ([]:List AV) else ([]:List AV)++a0)
def v125_1 (a0:List AV):List AV:=(bif !(v116_0 a0) then ([]:List AV) else (ro (runW (R125_0 a0 (([]:List AV)++a0)) (((a0.length:Int) - 0:Int).toNat+1) (.inl 0)) [] (sumE (fun _=>([]:List AV)) (fun p6=>p6))))
def v125_2 (a0:List AV):List AV:=([]:List AV)
theorem e125 (a0:List AV):funA c125 0 125 [AV.sl [.int .i64] a0]=(bif q116 a0 then (bif !(v116_0 a0) then some (AV.agg [AV.fl [.int .i64] ([]:List AV),AV.fl [.int .i64] ([]:List AV),AV.fl [.int .i64,.int .i64] ([]:List AV)])
 else (bif (decide ((([]:List AV).length+a0.length)*8≤140737488355328) && decide ((([]:List AV).length+a0.length)≤140737488355328)) then (ro (runW (R125_0 a0 (([]:List AV)++a0)) (((a0.length:Int) - 0:Int).toNat+1) (.inl 0)) none (sumE (fun _=>some (AV.agg [AV.fl [.int .i64] (([]:List AV)++a0),AV.fl [.int .i64] ([]:List AV),AV.fl [.int .i64,.int .i64] ([]:List AV)])) (fun p6=>some (AV.agg [AV.fl [.int .i64] (([]:List AV)++a0),AV.fl [.int .i64] p6,AV.fl [.int .i64,.int .i64] ([]:List AV)]))))
 else none))
 else none):=by kernel_rfl
def m125:TModel
 | [.sl g0 a0]=>bif ctsEq g0 ([.int .i64]) then some (q125 a0,AV.agg [AV.fl [.int .i64] (v125_0 a0),AV.fl [.int .i64] (v125_1 a0),AV.fl [.int .i64,.int .i64] (v125_2 a0)]) else none
 | _=>none
theorem k125:Known Tryz.prog 125:=⟨Tryz.f125,Tryz.func125,by kernel_rfl,by kernel_rfl⟩
theorem meets125:Meets Tryz.prog 125 m125:=by
 refine mt (lvl:=0) (cf:=c125) rfl mixed k125 Tryz.func125 (by kernel_rfl) (loops_cons ok125_0 noLoop) (allT_cons meets116 allT_nil) allM_nil noI fun xs r h=>?_
 unfold m125 at h
 split at h
 ·rename_i g0 a0
  obtain ⟨hg,h⟩:=bif_pair h
  have q0:=hg
  obtain rfl:=cE q0
  obtain ⟨h1,rfl⟩:=pair_inj h
  exact (e125 a0).trans ((brL (br (fun b=>some (AV.agg [AV.fl [.int .i64] (bif b then ([]:List AV) else ([]:List AV)++a0),AV.fl [.int .i64] (bif b then ([]:List AV) else (ro (runW (R125_0 a0 (([]:List AV)++a0)) (((a0.length:Int) - 0:Int).toNat+1) (.inl 0)) [] (sumE (fun _=>([]:List AV)) (fun p6=>p6)))),AV.fl [.int .i64,.int .i64] ([]:List AV)])) (fun _=>rfl) (brL (brO (fun o:Option (Unit ⊕ ((List AV)))=>some (AV.agg [AV.fl [.int .i64] (([]:List AV)++a0),AV.fl [.int .i64] (ro o [] (sumE (fun _=>([]:List AV)) (fun p6=>p6))),AV.fl [.int .i64,.int .i64] ([]:List AV)])) (brS (fun o:Unit ⊕ ((List AV))=>some (AV.agg [AV.fl [.int .i64] (([]:List AV)++a0),AV.fl [.int .i64] ((sumE (fun _=>([]:List AV)) (fun p6=>p6)) o),AV.fl [.int .i64,.int .i64] ([]:List AV)])) (fun _=>(fun _=>rfl)) (fun p6=>(fun _=>rfl))))))) h1)
 ·cases h
noncomputable def c97:Cfg:=cfg Tryz.prog [(97,999,[4])] [] [(42,.g m42)] [] []
def T97 {β:Type} (k:(Bool × (List AV) × Int × Int)→β) (n:β) (a1:Int) (ua:List AV) (ub:Int) (uc:Int):β:=(bif q42 a1 ua ub uc then k (decide ((v42_0 a1 ua ub uc)=0),(v42_1 a1 ua ub uc),(v42_2 a1 ua ub uc),(v42_3 a1 ua ub uc))
 else n)
abbrev W97 (a1:Int) (ua:List AV) (ub:Int) (uc:Int):Option (Bool × (List AV) × Int × Int):=T97 some none a1 ua ub uc
theorem n97 {β:Type} (k:(Bool × (List AV) × Int × Int)→β) (n:β) (a1:Int) (ua:List AV) (ub:Int) (uc:Int):T97 k n a1 ua ub uc=oe k n (W97 a1 ua ub uc):=by
 unfold W97 T97
 simp only [oe_cond,oe_ro,oe_sum,oe_some,oe_none]
def q97 (a1:Int) (ua:List AV) (ub uc:Int):Bool:=(W97 a1 ua ub uc).isSome
def v97_0 (a1:Int) (ua:List AV) (ub uc:Int):Bool:=oe (fun t=>t.1) false (W97 a1 ua ub uc)
def v97_1 (a1:Int) (ua:List AV) (ub uc:Int):List AV:=oe (fun t=>t.2.1) [] (W97 a1 ua ub uc)
def v97_2 (a1:Int) (ua:List AV) (ub uc:Int):Int:=oe (fun t=>t.2.2.1) 0 (W97 a1 ua ub uc)
def v97_3 (a1:Int) (ua:List AV) (ub uc:Int):Int:=oe (fun t=>t.2.2.2) 0 (W97 a1 ua ub uc)
theorem e97 (a1:Int) (ua:List AV) (ub uc:Int) (K:List AV→List (Option Blk)→Option AV):inlA c97 1 97 [AV.ptr [1] 0 0,Ai a1] [0] (canH 1 [⟨true,[],[AV.agg [AV.sl [.int .u8] ua,Ai ub,Ai uc]]⟩]) (keepG Tryz.prog 1 [4] [] K)=T97 (fun t=>K [AV.bool t.1] [some ⟨true,[],[AV.agg [AV.sl [.int .u8] t.2.1,Ai t.2.2.1,Ai t.2.2.2]]⟩]) none a1 ua ub uc:=by kernel_rfl
theorem r97 (a1:Int) (ua:List AV) (ub uc:Int) (K:List AV→List (Option Blk)→Option AV) (h:q97 a1 ua ub uc=true):inlA c97 1 97 [AV.ptr [1] 0 0,AV.int .i64 a1] [0] (canH 1 [⟨true,[],[AV.agg [AV.sl [.int .u8] ua,AV.int .i64 ub,AV.int .i64 uc]]⟩]) (keepG Tryz.prog 1 [4] [] K)=K [AV.bool (v97_0 a1 ua ub uc)] [some ⟨true,[],[AV.agg [AV.sl [.int .u8] (v97_1 a1 ua ub uc),AV.int .i64 (v97_2 a1 ua ub uc),AV.int .i64 (v97_3 a1 ua ub uc)]]⟩]:=by
 refine ((e97 a1 ua ub uc K).trans (n97 _ _ a1 ua ub uc)).trans ?_
 unfold q97 at h
 unfold v97_0 v97_1 v97_2 v97_3
 generalize W97 a1 ua ub uc=o at *
 cases o with
 | none=>cases h
 | some t=>rfl
def m97:GModel
 | [.ptr g0 g1 g2,.int .i64 a1],[⟨true,[],[.agg [.sl g3 ua,.int .i64 ub,.int .i64 uc]]⟩]=>bif nmEq g0 ([1]) && Nat.beq g1 0 && Nat.beq g2 0 && ctsEq g3 ([.int .u8]) then some (q97 a1 ua ub uc,[AV.bool (v97_0 a1 ua ub uc)],[some ⟨true,[],[AV.agg [AV.sl [.int .u8] (v97_1 a1 ua ub uc),AV.int .i64 (v97_2 a1 ua ub uc),AV.int .i64 (v97_3 a1 ua ub uc)]]⟩]) else none
 | _,_=>none
theorem k97:Known Tryz.prog 97:=⟨Tryz.f97,Tryz.func97,by kernel_rfl,by kernel_rfl⟩
theorem meets97:MeetsG Tryz.prog 97 m97:=by
 refine mg (rt:=[4]) (gs:=[]) (lvl:=0) (cf:=c97) rfl mixed k97 Tryz.func97 (by kernel_rfl) noLoop allT_nil (allG_cons meets42 allM_nil) noI fun xs bs r bs' h K=>?_
 unfold m97 at h
 split at h
 ·rename_i g0 g1 g2 a1 g3 ua ub uc
  obtain ⟨hg,h⟩:=bif_pair h
  simp only [Bool.and_eq_true] at hg
  obtain ⟨⟨⟨q0,q1⟩,q2⟩,q3⟩:=hg
  obtain rfl:=nE q0
  obtain rfl:=bE q1
  obtain rfl:=bE q2
  obtain rfl:=cE q3
  obtain ⟨h1,rfl,rfl⟩:=trip_inj h
  exact r97 a1 ua ub uc K h1
 ·cases h
noncomputable def c96:Cfg:=cfg Tryz.prog [(96,999,[4])] [] [(42,.g m42),(93,.g m93),(97,.g m97)] [] []
def T96 {β:Type} (k:(Int × (List AV) × Int × Int × (List AV) × (List AV) × (List AV))→β) (n:β) (ua:List AV) (ub:Int) (uc:Int) (b1:List AV) (b2:List AV) (b3:List AV):β:=by
 refine (?f0:Bool→(List AV)→Int→Int→β) (v97_0 4 ua ub uc) (v97_1 4 ua ub uc) (v97_2 4 ua ub uc) (v97_3 4 ua ub uc);intro x1 x2 x3 x4
 refine (?f1:Int→(List AV)→Int→Int→β) (v42_0 (b1.length:Int) x2 x3 x4) (v42_1 (b1.length:Int) x2 x3 x4) (v42_2 (b1.length:Int) x2 x3 x4) (v42_3 (b1.length:Int) x2 x3 x4);intro x5 x6 x7 x8
 exact (bif decide ((b1.length:Int) > 0) then (bif q97 4 ua ub uc then (bif !x1 then (bif q42 (b1.length:Int) x2 x3 x4 then (bif (decide (0≤x5) && decide (x5<(b1.length:Int))) then (bif q42 3 x6 x7 x8 then k (IntKind.i64.wrap (IntKind.i64.wrap (fI (b1.getD x5.toNat .undef) 0+(v42_0 3 x6 x7 x8)) - 1),(v42_1 3 x6 x7 x8),(v42_2 3 x6 x7 x8),(v42_3 3 x6 x7 x8),b1,b2,b3)
 else n)
 else n)
 else n)
 else (bif q93 x2 x3 x4 ([AV.int .i64 0,AV.int .i64 3,AV.int .i64 (-2),AV.int .i64 (-1000),AV.int .i64 1000,AV.int .i64 50]) then k ((v93_0 x2 x3 x4 ([AV.int .i64 0,AV.int .i64 3,AV.int .i64 (-2),AV.int .i64 (-1000),AV.int .i64 1000,AV.int .i64 50])),(v93_1 x2 x3 x4 ([AV.int .i64 0,AV.int .i64 3,AV.int .i64 (-2),AV.int .i64 (-1000),AV.int .i64 1000,AV.int .i64 50])),(v93_2 x2 x3 x4 ([AV.int .i64 0,AV.int .i64 3,AV.int .i64 (-2),AV.int .i64 (-1000),AV.int .i64 1000,AV.int .i64 50])),(v93_3 x2 x3 x4 ([AV.int .i64 0,AV.int .i64 3,AV.int .i64 (-2),AV.int .i64 (-1000),AV.int .i64 1000,AV.int .i64 50])),b1,b2,b3)
 else n))
 else n)
 else (bif q93 ua ub uc ([AV.int .i64 0,AV.int .i64 3,AV.int .i64 (-2),AV.int .i64 (-1000),AV.int .i64 1000,AV.int .i64 50]) then k ((v93_0 ua ub uc ([AV.int .i64 0,AV.int .i64 3,AV.int .i64 (-2),AV.int .i64 (-1000),AV.int .i64 1000,AV.int .i64 50])),(v93_1 ua ub uc ([AV.int .i64 0,AV.int .i64 3,AV.int .i64 (-2),AV.int .i64 (-1000),AV.int .i64 1000,AV.int .i64 50])),(v93_2 ua ub uc ([AV.int .i64 0,AV.int .i64 3,AV.int .i64 (-2),AV.int .i64 (-1000),AV.int .i64 1000,AV.int .i64 50])),(v93_3 ua ub uc ([AV.int .i64 0,AV.int .i64 3,AV.int .i64 (-2),AV.int .i64 (-1000),AV.int .i64 1000,AV.int .i64 50])),b1,b2,b3)
 else n))
abbrev W96 (ua:List AV) (ub:Int) (uc:Int) (b1:List AV) (b2:List AV) (b3:List AV):Option (Int × (List AV) × Int × Int × (List AV) × (List AV) × (List AV)):=T96 some none ua ub uc b1 b2 b3
theorem n96 {β:Type} (k:(Int × (List AV) × Int × Int × (List AV) × (List AV) × (List AV))→β) (n:β) (ua:List AV) (ub:Int) (uc:Int) (b1:List AV) (b2:List AV) (b3:List AV):T96 k n ua ub uc b1 b2 b3=oe k n (W96 ua ub uc b1 b2 b3):=by
 unfold W96 T96
 simp only [oe_cond,oe_ro,oe_sum,oe_some,oe_none]
def q96 (ua:List AV) (ub uc:Int) (b1 b2 b3:List AV):Bool:=(W96 ua ub uc b1 b2 b3).isSome
def v96_0 (ua:List AV) (ub uc:Int) (b1 b2 b3:List AV):Int:=oe (fun t=>t.1) 0 (W96 ua ub uc b1 b2 b3)
def v96_1 (ua:List AV) (ub uc:Int) (b1 b2 b3:List AV):List AV:=oe (fun t=>t.2.1) [] (W96 ua ub uc b1 b2 b3)
def v96_2 (ua:List AV) (ub uc:Int) (b1 b2 b3:List AV):Int:=oe (fun t=>t.2.2.1) 0 (W96 ua ub uc b1 b2 b3)
def v96_3 (ua:List AV) (ub uc:Int) (b1 b2 b3:List AV):Int:=oe (fun t=>t.2.2.2.1) 0 (W96 ua ub uc b1 b2 b3)
def v96_4 (ua:List AV) (ub uc:Int) (b1 b2 b3:List AV):List AV:=oe (fun t=>t.2.2.2.2.1) [] (W96 ua ub uc b1 b2 b3)
def v96_5 (ua:List AV) (ub uc:Int) (b1 b2 b3:List AV):List AV:=oe (fun t=>t.2.2.2.2.2.1) [] (W96 ua ub uc b1 b2 b3)
def v96_6 (ua:List AV) (ub uc:Int) (b1 b2 b3:List AV):List AV:=oe (fun t=>t.2.2.2.2.2.2) [] (W96 ua ub uc b1 b2 b3)
theorem e96 (ua:List AV) (ub uc:Int) (b1 b2 b3:List AV) (K:List AV→List (Option Blk)→Option AV):inlA c96 1 96 [AV.ptr [1] 0 0,AV.agg [AV.own [2],AV.own [3],AV.own [4]]] [0] (canH 1 [⟨true,[],[AV.agg [AV.sl [.int .u8] ua,Ai ub,Ai uc]]⟩,⟨false,[.int .i64],b1⟩,⟨false,[.int .i64],b2⟩,⟨false,[.int .i64,.int .i64],b3⟩]) (keepG Tryz.prog 4 [3] [] K)=T96 (fun t=>K [Ai t.1] [some ⟨true,[],[AV.agg [AV.sl [.int .u8] t.2.1,Ai t.2.2.1,Ai t.2.2.2.1]]⟩,some ⟨false,[.int .i64],t.2.2.2.2.1⟩,some ⟨false,[.int .i64],t.2.2.2.2.2.1⟩,some ⟨false,[.int .i64,.int .i64],t.2.2.2.2.2.2⟩]) none ua ub uc b1 b2 b3:=by kernel_rfl
theorem r96 (ua:List AV) (ub uc:Int) (b1 b2 b3:List AV) (K:List AV→List (Option Blk)→Option AV) (h:q96 ua ub uc b1 b2 b3=true):inlA c96 1 96 [AV.ptr [1] 0 0,AV.agg [AV.own [2],AV.own [3],AV.own [4]]] [0] (canH 1 [⟨true,[],[AV.agg [AV.sl [.int .u8] ua,AV.int .i64 ub,AV.int .i64 uc]]⟩,⟨false,[.int .i64],b1⟩,⟨false,[.int .i64],b2⟩,⟨false,[.int .i64,.int .i64],b3⟩]) (keepG Tryz.prog 4 [3] [] K)=K [AV.int .i64 (v96_0 ua ub uc b1 b2 b3)] [some ⟨true,[],[AV.agg [AV.sl [.int .u8] (v96_1 ua ub uc b1 b2 b3),AV.int .i64 (v96_2 ua ub uc b1 b2 b3),AV.int .i64 (v96_3 ua ub uc b1 b2 b3)]]⟩,some ⟨false,[.int .i64],(v96_4 ua ub uc b1 b2 b3)⟩,some ⟨false,[.int .i64],(v96_5 ua ub uc b1 b2 b3)⟩,some ⟨false,[.int .i64,.int .i64],(v96_6 ua ub uc b1 b2 b3)⟩]:=by
 refine ((e96 ua ub uc b1 b2 b3 K).trans (n96 _ _ ua ub uc b1 b2 b3)).trans ?_
 unfold q96 at h
 unfold v96_0 v96_1 v96_2 v96_3 v96_4 v96_5 v96_6
 generalize W96 ua ub uc b1 b2 b3=o at *
 cases o with
 | none=>cases h
 | some t=>rfl
def m96:GModel
 | [.ptr g0 g1 g2,.agg [.own g3,.own g4,.own g5]],[⟨true,[],[.agg [.sl g6 ua,.int .i64 ub,.int .i64 uc]]⟩,⟨false,g7,b1⟩,⟨false,g8,b2⟩,⟨false,g9,b3⟩]=>bif nmEq g0 ([1]) && Nat.beq g1 0 && Nat.beq g2 0 && nmEq g3 ([2]) && nmEq g4 ([3]) && nmEq g5 ([4]) && ctsEq g6 ([.int .u8]) && ctsEq g7 ([.int .i64]) && ctsEq g8 ([.int .i64]) && ctsEq g9 ([.int .i64,.int .i64]) then some (q96 ua ub uc b1 b2 b3,[AV.int .i64 (v96_0 ua ub uc b1 b2 b3)],[some ⟨true,[],[AV.agg [AV.sl [.int .u8] (v96_1 ua ub uc b1 b2 b3),AV.int .i64 (v96_2 ua ub uc b1 b2 b3),AV.int .i64 (v96_3 ua ub uc b1 b2 b3)]]⟩,some ⟨false,[.int .i64],(v96_4 ua ub uc b1 b2 b3)⟩,some ⟨false,[.int .i64],(v96_5 ua ub uc b1 b2 b3)⟩,some ⟨false,[.int .i64,.int .i64],(v96_6 ua ub uc b1 b2 b3)⟩]) else none
 | _,_=>none
theorem k96:Known Tryz.prog 96:=⟨Tryz.f96,Tryz.func96,by kernel_rfl,by kernel_rfl⟩
theorem meets96:MeetsG Tryz.prog 96 m96:=by
 refine mg (rt:=[3]) (gs:=[]) (lvl:=0) (cf:=c96) rfl mixed k96 Tryz.func96 (by kernel_rfl) noLoop allT_nil (allG_cons meets42 (allG_cons meets93 (allG_cons meets97 allM_nil))) noI fun xs bs r bs' h K=>?_
 unfold m96 at h
 split at h
 ·rename_i g0 g1 g2 g3 g4 g5 g6 ua ub uc g7 b1 g8 b2 g9 b3
  obtain ⟨hg,h⟩:=bif_pair h
  simp only [Bool.and_eq_true] at hg
  obtain ⟨⟨⟨⟨⟨⟨⟨⟨⟨q0,q1⟩,q2⟩,q3⟩,q4⟩,q5⟩,q6⟩,q7⟩,q8⟩,q9⟩:=hg
  obtain rfl:=nE q0
  obtain rfl:=bE q1
  obtain rfl:=bE q2
  obtain rfl:=nE q3
  obtain rfl:=nE q4
  obtain rfl:=nE q5
  obtain rfl:=cE q6
  obtain rfl:=cE q7
  obtain rfl:=cE q8
  obtain rfl:=cE q9
  obtain ⟨h1,rfl,rfl⟩:=trip_inj h
  exact r96 ua ub uc b1 b2 b3 K h1
 ·cases h
def G54_0 {β:Type} (t0:List AV) (t1:Int) (t5:Int) (N:(Int)→β) (K:(Unit ⊕ Unit)→β) (d:β):β:=(bif decide (t5<(t0.length:Int)) then (bif (decide (0≤t5) && decide (t5<(t0.length:Int))) then (bif decide (fI (t0.getD t5.toNat .undef) 0=t1) then K (.inr ())
 else N (IntKind.i64.wrap (t5+1)))
 else d)
 else K (.inl ()))
def F54_0 (t0:List AV) (t1 t5:Int):Out (Int) (Unit ⊕ Unit):=G54_0 t0 t1 t5 .next .stop .fail
def R54_0 (t0:List AV) (t1:Int):(Int)→Out (Int) (Unit ⊕ Unit):=fun s:Int=>F54_0 t0 t1 s
def E54_0 (t0:List AV) (t1:Int):(Int)→St:=fun s:Int=>⟨[(0,AV.sl [.int .i64] t0),(1,Ai t1),(5,Ai s)],[]⟩
def K54_0 (t0:List AV) (t1:Int) (k:Kont):(Unit ⊕ Unit)→Option AV:=sumE (fun _:Unit=>k (.exit 0) ⟨[],[]⟩) (fun _:Unit=>k .ret ⟨[(4,AV.bool true)],[]⟩)
def l54_0:LModel:=fun _ _ st k=>match st with
 | ⟨[(0,.sl g0 t0),(1,.int .i64 t1),(5,.int .i64 t5)],[]⟩=>bif ctsEq g0 ([.int .i64]) then ro (runW (R54_0 t0 t1) (((t0.length:Int) - t5:Int).toNat+1) t5) none (K54_0 t0 t1 k) else none
 | _=>none
noncomputable def c54:Cfg:=cfg Tryz.prog [(54,0,[0,1,5]),(54,999,[4]),(54,1000,[]),(54,1001,[0,1,5])] [] [] [] [(54,0,l54_0)]
theorem s54_0 (t0:List AV) (t1:Int) (ce:CallE) (k:Kont) (s:Int) (next:St→Option AV):stepA (codeA c54 ce [] 54 0 (sub [1,0,1,0,0] (body Tryz.f54))) (normA [] [0,1,5]) next ((E54_0 t0 t1) s) k=G54_0 t0 t1 s (fun s=>next ((E54_0 t0 t1) s)) (K54_0 t0 t1 k) none:=by kernel_rfl
theorem st54_0 (t0:List AV) (t1:Int) (ce:CallE) (k:Kont) (s:Int) (next:St→Option AV):stepA (codeA c54 ce [] 54 0 (sub [1,0,1,0,0] (body Tryz.f54))) (normA [] [0,1,5]) next ((E54_0 t0 t1) s) k=(R54_0 t0 t1 s).el none (fun s=>next ((E54_0 t0 t1) s)) (K54_0 t0 t1 k):=(s54_0 t0 t1 ce k s next).trans (by unfold R54_0;unfold F54_0 G54_0;simp only [el_cond,el_ro,el_sum,el_fail,el_next,el_stop] <;> rfl)
theorem ok54_0 {ce:CallE}:LoopOK c54 ce [] 54 0 (sub [1,0,1,0,0] (body Tryz.f54)):=by
 intro m hm st k r h
 obtain rfl:l54_0=m:=Option.some.inj hm
 unfold l54_0 at h
 split at h
 ·rename_i g0 t0 t1 t5
  obtain ⟨hg,h⟩:=bif_some h
  have q0:=hg
  obtain rfl:=cE q0
  refine ⟨(((t0.length:Int) - t5:Int).toNat+1),?_⟩
  rw [← h]
  exact loop_run (E54_0 t0 t1) (K54_0 t0 t1 k) (st54_0 t0 t1 ce k) _ t5
 ·cases h
def q54 (a0:List AV) (a1:Int):Bool:=(ro (runW (R54_0 a0 a1) (((a0.length:Int) - 0:Int).toNat+1) 0) false (sumE (fun _=>true) (fun _=>true)))
def v54_0 (a0:List AV) (a1:Int):Bool:=(ro (runW (R54_0 a0 a1) (((a0.length:Int) - 0:Int).toNat+1) 0) false (sumE (fun _=>false) (fun _=>true)))
theorem e54 (a0:List AV) (a1:Int):funA c54 0 54 [AV.sl [.int .i64] a0,Ai a1]=(ro (runW (R54_0 a0 a1) (((a0.length:Int) - 0:Int).toNat+1) 0) none (sumE (fun _=>some (AV.bool false)) (fun _=>some (AV.bool true)))):=by kernel_rfl
def m54:TModel
 | [.sl g0 a0,.int .i64 a1]=>bif ctsEq g0 ([.int .i64]) then some (q54 a0 a1,AV.bool (v54_0 a0 a1)) else none
 | _=>none
theorem k54:Known Tryz.prog 54:=⟨Tryz.f54,Tryz.func54,by kernel_rfl,by kernel_rfl⟩
theorem meets54:Meets Tryz.prog 54 m54:=by
 refine mt (lvl:=0) (cf:=c54) rfl mixed k54 Tryz.func54 (by kernel_rfl) (loops_cons ok54_0 noLoop) allT_nil allM_nil noI fun xs r h=>?_
 unfold m54 at h
 split at h
 ·rename_i g0 a0 a1
  obtain ⟨hg,h⟩:=bif_pair h
  have q0:=hg
  obtain rfl:=cE q0
  obtain ⟨h1,rfl⟩:=pair_inj h
  exact (e54 a0 a1).trans ((brO (fun o:Option (Unit ⊕ Unit)=>some (AV.bool (ro o false (sumE (fun _=>false) (fun _=>true))))) (brS (fun o:Unit ⊕ Unit=>some (AV.bool ((sumE (fun _=>false) (fun _=>true)) o))) (fun _=>(fun _=>rfl)) (fun _=>(fun _=>rfl)))) h1)
 ·cases h
def G117_2 {β:Type} (t0:List AV) (t1:List AV) (t5:Int) (h0_0:Int) (h0_1:Int) (t7:Int) (N:(Int)→β) (K:(Unit ⊕ Unit)→β) (d:β):β:=(bif decide (t7<(t0.length:Int)) then (bif (decide (0≤t7) && decide (t7<(t0.length:Int))) then (bif !(decide (fI (t0.getD t7.toNat .undef) 0<h0_0) == decide (t7<h0_1)) then K (.inr ())
 else N (IntKind.i64.wrap (t7+1)))
 else d)
 else K (.inl ()))
def F117_2 (t0 t1:List AV) (t5 h0_0 h0_1 t7:Int):Out (Int) (Unit ⊕ Unit):=G117_2 t0 t1 t5 h0_0 h0_1 t7 .next .stop .fail
def R117_2 (t0 t1:List AV) (t5 h0_0 h0_1:Int):(Int)→Out (Int) (Unit ⊕ Unit):=fun s:Int=>F117_2 t0 t1 t5 h0_0 h0_1 s
def E117_2 (t0 t1:List AV) (t5 h0_0 h0_1:Int):(Int)→St:=fun s:Int=>⟨[(0,AV.sl [.int .i64] t0),(1,AV.sl [.int .i64,.int .i64] t1),(5,Ai t5),(6,AV.ptr [0,6] 0 0),(7,Ai s)],[([0,6],⟨true,[],[AV.agg [Ai h0_0,Ai h0_1]]⟩)]⟩
def K117_2 (t0 t1:List AV) (t5 h0_0 h0_1:Int) (k:Kont):(Unit ⊕ Unit)→Option AV:=sumE (fun _:Unit=>k (.exit 2) ⟨[(0,AV.sl [.int .i64] t0),(1,AV.sl [.int .i64,.int .i64] t1),(5,Ai t5)],[([0,6],⟨true,[],[AV.agg [Ai h0_0,Ai h0_1]]⟩)]⟩) (fun _:Unit=>k .ret ⟨[(4,AV.bool false)],[([0,6],⟨true,[],[AV.agg [Ai h0_0,Ai h0_1]]⟩)]⟩)
def l117_2:LModel:=fun _ _ st k=>match st with
 | ⟨[(0,.sl g0 t0),(1,.sl g1 t1),(5,.int .i64 t5),(6,.ptr g2 g3 g4),(7,.int .i64 t7)],[(g5,⟨true,[],[.agg [.int .i64 h0_0,.int .i64 h0_1]]⟩)]⟩=>bif ctsEq g0 ([.int .i64]) && ctsEq g1 ([.int .i64,.int .i64]) && nmEq g2 ([0,6]) && Nat.beq g3 0 && Nat.beq g4 0 && nmEq g5 ([0,6]) then ro (runW (R117_2 t0 t1 t5 h0_0 h0_1) (((t0.length:Int) - t7:Int).toNat+1) t7) none (K117_2 t0 t1 t5 h0_0 h0_1 k) else none
 | _=>none
def G117_0 {β:Type} (t0:List AV) (t1:List AV) (t5:Int) (N:(Int)→β) (K:(Unit ⊕ (Int × Int) ⊕ (Int × Int))→β) (d:β):β:=(bif decide (t5<(t1.length:Int)) then (bif (decide (0≤t5) && decide (t5<(t1.length:Int))) then (bif !(v52_0 (fI (t1.getD t5.toNat .undef) 0) (-1000) 1000) then K (.inr (.inl (fI (t1.getD t5.toNat .undef) 0,fI (t1.getD t5.toNat .undef) 1)))
 else (bif !(v52_0 (fI (t1.getD t5.toNat .undef) 1) 0 (t0.length:Int)) then K (.inr (.inl (fI (t1.getD t5.toNat .undef) 0,fI (t1.getD t5.toNat .undef) 1)))
 else (bif decide (t5 > 0) then (bif (decide (0≤IntKind.i64.wrap (t5 - 1)) && decide (IntKind.i64.wrap (t5 - 1)<(t1.length:Int))) then (bif decide (fI (t1.getD t5.toNat .undef) 0≤fI (t1.getD (IntKind.i64.wrap (t5 - 1)).toNat .undef) 0) then K (.inr (.inl (fI (t1.getD t5.toNat .undef) 0,fI (t1.getD t5.toNat .undef) 1)))
 else (bif (decide (0≤IntKind.i64.wrap (t5 - 1)) && decide (IntKind.i64.wrap (t5 - 1)<(t1.length:Int))) then (bif decide (fI (t1.getD t5.toNat .undef) 1<fI (t1.getD (IntKind.i64.wrap (t5 - 1)).toNat .undef) 1) then K (.inr (.inl (fI (t1.getD t5.toNat .undef) 0,fI (t1.getD t5.toNat .undef) 1)))
 else (ro (runW (R117_2 t0 t1 t5 (fI (t1.getD t5.toNat .undef) 0) (fI (t1.getD t5.toNat .undef) 1)) (((t0.length:Int) - 0:Int).toNat+1) 0) d (sumE (fun _=>N (IntKind.i64.wrap (t5+1))) (fun _=>K (.inr (.inr (fI (t1.getD t5.toNat .undef) 0,fI (t1.getD t5.toNat .undef) 1)))))))
 else d))
 else d)
 else (ro (runW (R117_2 t0 t1 t5 (fI (t1.getD t5.toNat .undef) 0) (fI (t1.getD t5.toNat .undef) 1)) (((t0.length:Int) - 0:Int).toNat+1) 0) d (sumE (fun _=>N (IntKind.i64.wrap (t5+1))) (fun _=>K (.inr (.inr (fI (t1.getD t5.toNat .undef) 0,fI (t1.getD t5.toNat .undef) 1)))))))))
 else d)
 else K (.inl ()))
def F117_0 (t0 t1:List AV) (t5:Int):Out (Int) (Unit ⊕ (Int × Int) ⊕ (Int × Int)):=G117_0 t0 t1 t5 .next .stop .fail
def R117_0 (t0 t1:List AV):(Int)→Out (Int) (Unit ⊕ (Int × Int) ⊕ (Int × Int)):=fun s:Int=>F117_0 t0 t1 s
def E117_0 (t0 t1:List AV):(Int)→St:=fun s:Int=>⟨[(0,AV.sl [.int .i64] t0),(1,AV.sl [.int .i64,.int .i64] t1),(5,Ai s)],[]⟩
def K117_0 (t0 t1:List AV) (k:Kont):(Unit ⊕ (Int × Int) ⊕ (Int × Int))→Option AV:=sumE (fun _:Unit=>k (.exit 0) ⟨[],[]⟩) (sumE (fun p:Int × Int=>k .ret ⟨[(4,AV.bool false)],[([1,6],⟨true,[],[AV.agg [Ai p.1,Ai p.2]]⟩)]⟩) (fun p:Int × Int=>k .ret ⟨[(4,AV.bool false)],[([0,6],⟨true,[],[AV.agg [Ai p.1,Ai p.2]]⟩)]⟩))
def l117_0:LModel:=fun _ _ st k=>match st with
 | ⟨[(0,.sl g0 t0),(1,.sl g1 t1),(5,.int .i64 t5)],[]⟩=>bif ctsEq g0 ([.int .i64]) && ctsEq g1 ([.int .i64,.int .i64]) then ro (runW (R117_0 t0 t1) (((t1.length:Int) - t5:Int).toNat+1) t5) none (K117_0 t0 t1 k) else none
 | _=>none
noncomputable def c117:Cfg:=cfg Tryz.prog [(117,0,[0,1,5]),(117,2,[0,1,5,6,7]),(117,999,[4]),(117,1000,[]),(117,1001,[0,1,5]),(117,1002,[0,1,5]),(117,1003,[0,1,5,6,7])] [(52,m52)] [] [] [(117,0,l117_0),(117,2,l117_2)]
theorem s117_2 (t0 t1:List AV) (t5 h0_0 h0_1:Int) (ce:CallE) (k:Kont) (s:Int) (next:St→Option AV):stepA (codeA c117 ce [] 117 2 (sub [1,0,1,0,0,1,0,0,1,1,1,0,0] (body Tryz.f117))) (normA [] [0,1,5,6,7]) next ((E117_2 t0 t1 t5 h0_0 h0_1) s) k=G117_2 t0 t1 t5 h0_0 h0_1 s (fun s=>next ((E117_2 t0 t1 t5 h0_0 h0_1) s)) (K117_2 t0 t1 t5 h0_0 h0_1 k) none:=by kernel_rfl
theorem st117_2 (t0 t1:List AV) (t5 h0_0 h0_1:Int) (ce:CallE) (k:Kont) (s:Int) (next:St→Option AV):stepA (codeA c117 ce [] 117 2 (sub [1,0,1,0,0,1,0,0,1,1,1,0,0] (body Tryz.f117))) (normA [] [0,1,5,6,7]) next ((E117_2 t0 t1 t5 h0_0 h0_1) s) k=(R117_2 t0 t1 t5 h0_0 h0_1 s).el none (fun s=>next ((E117_2 t0 t1 t5 h0_0 h0_1) s)) (K117_2 t0 t1 t5 h0_0 h0_1 k):=(s117_2 t0 t1 t5 h0_0 h0_1 ce k s next).trans (by unfold R117_2;unfold F117_2 G117_2;simp only [el_cond,el_ro,el_sum,el_fail,el_next,el_stop] <;> rfl)
theorem ok117_2 {ce:CallE}:LoopOK c117 ce [] 117 2 (sub [1,0,1,0,0,1,0,0,1,1,1,0,0] (body Tryz.f117)):=by
 intro m hm st k r h
 obtain rfl:l117_2=m:=Option.some.inj hm
 unfold l117_2 at h
 split at h
 ·rename_i g0 t0 g1 t1 t5 g2 g3 g4 t7 g5 h0_0 h0_1
  obtain ⟨hg,h⟩:=bif_some h
  simp only [Bool.and_eq_true] at hg
  obtain ⟨⟨⟨⟨⟨q0,q1⟩,q2⟩,q3⟩,q4⟩,q5⟩:=hg
  obtain rfl:=cE q0
  obtain rfl:=cE q1
  obtain rfl:=nE q2
  obtain rfl:=bE q3
  obtain rfl:=bE q4
  obtain rfl:=nE q5
  refine ⟨(((t0.length:Int) - t7:Int).toNat+1),?_⟩
  rw [← h]
  exact loop_run (E117_2 t0 t1 t5 h0_0 h0_1) (K117_2 t0 t1 t5 h0_0 h0_1 k) (st117_2 t0 t1 t5 h0_0 h0_1 ce k) _ t7
 ·cases h
theorem s117_0 (t0 t1:List AV) (ce:CallE) (k:Kont) (s:Int) (next:St→Option AV):stepA (codeA c117 ce [] 117 0 (sub [1,0,1,0,0] (body Tryz.f117))) (normA [] [0,1,5]) next ((E117_0 t0 t1) s) k=G117_0 t0 t1 s (fun s=>next ((E117_0 t0 t1) s)) (K117_0 t0 t1 k) none:=by kernel_rfl
theorem st117_0 (t0 t1:List AV) (ce:CallE) (k:Kont) (s:Int) (next:St→Option AV):stepA (codeA c117 ce [] 117 0 (sub [1,0,1,0,0] (body Tryz.f117))) (normA [] [0,1,5]) next ((E117_0 t0 t1) s) k=(R117_0 t0 t1 s).el none (fun s=>next ((E117_0 t0 t1) s)) (K117_0 t0 t1 k):=(s117_0 t0 t1 ce k s next).trans (by unfold R117_0;unfold F117_0 G117_0;simp only [el_cond,el_ro,el_sum,el_fail,el_next,el_stop] <;> rfl)
theorem ok117_0 {ce:CallE}:LoopOK c117 ce [] 117 0 (sub [1,0,1,0,0] (body Tryz.f117)):=by
 intro m hm st k r h
 obtain rfl:l117_0=m:=Option.some.inj hm
 unfold l117_0 at h
 split at h
 ·rename_i g0 t0 g1 t1 t5
  obtain ⟨hg,h⟩:=bif_some h
  simp only [Bool.and_eq_true] at hg
  obtain ⟨q0,q1⟩:=hg
  obtain rfl:=cE q0
  obtain rfl:=cE q1
  refine ⟨(((t1.length:Int) - t5:Int).toNat+1),?_⟩
  rw [← h]
  exact loop_run (E117_0 t0 t1) (K117_0 t0 t1 k) (st117_0 t0 t1 ce k) _ t5
 ·cases h
def q117 (a0 a1:List AV):Bool:=(ro (runW (R117_0 a0 a1) (((a1.length:Int) - 0:Int).toNat+1) 0) false (sumE (fun _=>true) (sumE (fun p15=>true) (fun p16=>true))))
def v117_0 (a0 a1:List AV):Bool:=(ro (runW (R117_0 a0 a1) (((a1.length:Int) - 0:Int).toNat+1) 0) false (sumE (fun _=>true) (sumE (fun p15=>false) (fun p16=>false))))
theorem e117 (a0 a1:List AV):funA c117 0 117 [AV.sl [.int .i64] a0,AV.sl [.int .i64,.int .i64] a1]=(ro (runW (R117_0 a0 a1) (((a1.length:Int) - 0:Int).toNat+1) 0) none (sumE (fun _=>some (AV.bool true)) (sumE (fun p15=>some (AV.bool false)) (fun p16=>some (AV.bool false))))):=by kernel_rfl
def m117:TModel
 | [.sl g0 a0,.sl g1 a1]=>bif ctsEq g0 ([.int .i64]) && ctsEq g1 ([.int .i64,.int .i64]) then some (q117 a0 a1,AV.bool (v117_0 a0 a1)) else none
 | _=>none
theorem k117:Known Tryz.prog 117:=⟨Tryz.f117,Tryz.func117,by kernel_rfl,by kernel_rfl⟩
theorem meets117:Meets Tryz.prog 117 m117:=by
 refine mt (lvl:=0) (cf:=c117) rfl mixed k117 Tryz.func117 (by kernel_rfl) (loops_cons ok117_0 (loops_cons ok117_2 noLoop)) (allT_cons meets52 allT_nil) allM_nil noI fun xs r h=>?_
 unfold m117 at h
 split at h
 ·rename_i g0 a0 g1 a1
  obtain ⟨hg,h⟩:=bif_pair h
  simp only [Bool.and_eq_true] at hg
  obtain ⟨q0,q1⟩:=hg
  obtain rfl:=cE q0
  obtain rfl:=cE q1
  obtain ⟨h1,rfl⟩:=pair_inj h
  exact (e117 a0 a1).trans ((brO (fun o:Option (Unit ⊕ (Int × Int) ⊕ (Int × Int))=>some (AV.bool (ro o false (sumE (fun _=>true) (sumE (fun p15=>false) (fun p16=>false)))))) (brS (fun o:Unit ⊕ (Int × Int) ⊕ (Int × Int)=>some (AV.bool ((sumE (fun _=>true) (sumE (fun p15=>false) (fun p16=>false))) o))) (fun _=>(fun _=>rfl)) (brS (fun o:(Int × Int) ⊕ (Int × Int)=>some (AV.bool ((sumE (fun p15=>false) (fun p16=>false)) o))) (fun p15=>(fun _=>rfl)) (fun p16=>(fun _=>rfl))))) h1)
 ·cases h
def G68_0 {β:Type} (h0_0:List AV) (h0_1:List AV) (h0_2:List AV) (t3:Int) (N:(Int)→β) (K:(Unit ⊕ Unit)→β) (d:β):β:=(bif decide (t3<(h0_1.length:Int)) then (bif (decide (0≤t3) && decide (t3<(h0_1.length:Int))) then (bif !(v52_0 (fI (h0_1.getD t3.toNat .undef) 0) 0 999) then K (.inr ())
 else (bif (decide (0≤0) && decide (0≤t3) && decide (t3≤(h0_1.length:Int))) then (bif (decide (0≤t3) && decide (t3<(h0_1.length:Int))) then (bif q54 ((h0_1.take (Int.toNat t3)).drop (Int.toNat 0)) (fI (h0_1.getD t3.toNat .undef) 0) then (bif (v54_0 ((h0_1.take (Int.toNat t3)).drop (Int.toNat 0)) (fI (h0_1.getD t3.toNat .undef) 0)) then K (.inr ())
 else N (IntKind.i64.wrap (t3+1)))
 else d)
 else d)
 else d))
 else d)
 else K (.inl ()))
def F68_0 (h0_0 h0_1 h0_2:List AV) (t3:Int):Out (Int) (Unit ⊕ Unit):=G68_0 h0_0 h0_1 h0_2 t3 .next .stop .fail
def R68_0 (h0_0 h0_1 h0_2:List AV):(Int)→Out (Int) (Unit ⊕ Unit):=fun s:Int=>F68_0 h0_0 h0_1 h0_2 s
def E68_0 (h0_0 h0_1 h0_2:List AV):(Int)→St:=fun s:Int=>⟨[(1,AV.ptr [0,1] 0 0),(3,Ai s)],[([0,1],⟨true,[],[AV.agg [AV.sl [.int .i64] h0_0,AV.sl [.int .i64] h0_1,AV.sl [.int .i64,.int .i64] h0_2]]⟩)]⟩
def K68_0 (h0_0 h0_1 h0_2:List AV) (k:Kont):(Unit ⊕ Unit)→Option AV:=sumE (fun _:Unit=>k (.exit 0) ⟨[(1,AV.ptr [0,1] 0 0)],[([0,1],⟨true,[],[AV.agg [AV.sl [.int .i64] h0_0,AV.sl [.int .i64] h0_1,AV.sl [.int .i64,.int .i64] h0_2]]⟩)]⟩) (fun _:Unit=>k .ret ⟨[(2,AV.bool false)],[([0,1],⟨true,[],[AV.agg [AV.sl [.int .i64] h0_0,AV.sl [.int .i64] h0_1,AV.sl [.int .i64,.int .i64] h0_2]]⟩)]⟩)
def l68_0:LModel:=fun _ _ st k=>match st with
 | ⟨[(1,.ptr g0 g1 g2),(3,.int .i64 t3)],[(g3,⟨true,[],[.agg [.sl g4 h0_0,.sl g5 h0_1,.sl g6 h0_2]]⟩)]⟩=>bif nmEq g0 ([0,1]) && Nat.beq g1 0 && Nat.beq g2 0 && nmEq g3 ([0,1]) && ctsEq g4 ([.int .i64]) && ctsEq g5 ([.int .i64]) && ctsEq g6 ([.int .i64,.int .i64]) then ro (runW (R68_0 h0_0 h0_1 h0_2) (((h0_1.length:Int) - t3:Int).toNat+1) t3) none (K68_0 h0_0 h0_1 h0_2 k) else none
 | _=>none
noncomputable def c68:Cfg:=cfg Tryz.prog [(68,0,[1,3]),(68,999,[2]),(68,1000,[1]),(68,1001,[1,3])] [(52,m52),(54,m54),(116,m116),(117,m117)] [] [] [(68,0,l68_0)]
theorem s68_0 (h0_0 h0_1 h0_2:List AV) (ce:CallE) (k:Kont) (s:Int) (next:St→Option AV):stepA (codeA c68 ce [] 68 0 (sub [1,1,0,1,0,0] (body Tryz.f68))) (normA [] [1,3]) next ((E68_0 h0_0 h0_1 h0_2) s) k=G68_0 h0_0 h0_1 h0_2 s (fun s=>next ((E68_0 h0_0 h0_1 h0_2) s)) (K68_0 h0_0 h0_1 h0_2 k) none:=by kernel_rfl
theorem st68_0 (h0_0 h0_1 h0_2:List AV) (ce:CallE) (k:Kont) (s:Int) (next:St→Option AV):stepA (codeA c68 ce [] 68 0 (sub [1,1,0,1,0,0] (body Tryz.f68))) (normA [] [1,3]) next ((E68_0 h0_0 h0_1 h0_2) s) k=(R68_0 h0_0 h0_1 h0_2 s).el none (fun s=>next ((E68_0 h0_0 h0_1 h0_2) s)) (K68_0 h0_0 h0_1 h0_2 k):=(s68_0 h0_0 h0_1 h0_2 ce k s next).trans (by unfold R68_0;unfold F68_0 G68_0;simp only [el_cond,el_ro,el_sum,el_fail,el_next,el_stop] <;> rfl)
theorem ok68_0 {ce:CallE}:LoopOK c68 ce [] 68 0 (sub [1,1,0,1,0,0] (body Tryz.f68)):=by
 intro m hm st k r h
 obtain rfl:l68_0=m:=Option.some.inj hm
 unfold l68_0 at h
 split at h
 ·rename_i g0 g1 g2 t3 g3 g4 h0_0 g5 h0_1 g6 h0_2
  obtain ⟨hg,h⟩:=bif_some h
  simp only [Bool.and_eq_true] at hg
  obtain ⟨⟨⟨⟨⟨⟨q0,q1⟩,q2⟩,q3⟩,q4⟩,q5⟩,q6⟩:=hg
  obtain rfl:=nE q0
  obtain rfl:=bE q1
  obtain rfl:=bE q2
  obtain rfl:=nE q3
  obtain rfl:=cE q4
  obtain rfl:=cE q5
  obtain rfl:=cE q6
  refine ⟨(((h0_1.length:Int) - t3:Int).toNat+1),?_⟩
  rw [← h]
  exact loop_run (E68_0 h0_0 h0_1 h0_2) (K68_0 h0_0 h0_1 h0_2 k) (st68_0 h0_0 h0_1 h0_2 ce k) _ t3
 ·cases h
def q68 (xa xb xc:List AV):Bool:=(q116 xa && (bif !(v116_0 xa) then true else (bif !decide ((xb.length:Int)=(xa.length:Int)) then true else (ro (runW (R68_0 xa xb xc) (((xb.length:Int) - 0:Int).toNat+1) 0) false (sumE (fun _=>q117 xa xc) (fun _=>true))))))
def v68_0 (xa xb xc:List AV):Bool:=(bif !(v116_0 xa) then false else (bif !decide ((xb.length:Int)=(xa.length:Int)) then false else (ro (runW (R68_0 xa xb xc) (((xb.length:Int) - 0:Int).toNat+1) 0) false (sumE (fun _=>(v117_0 xa xc)) (fun _=>false)))))
theorem e68 (xa xb xc:List AV):funA c68 0 68 [AV.agg [AV.sl [.int .i64] xa,AV.sl [.int .i64] xb,AV.sl [.int .i64,.int .i64] xc]]=(bif q116 xa then (bif !(v116_0 xa) then some (AV.bool false)
 else (bif !decide ((xb.length:Int)=(xa.length:Int)) then some (AV.bool false)
 else (ro (runW (R68_0 xa xb xc) (((xb.length:Int) - 0:Int).toNat+1) 0) none (sumE (fun _=>(bif q117 xa xc then some (AV.bool (v117_0 xa xc))
 else none)) (fun _=>some (AV.bool false))))))
 else none):=by kernel_rfl
def m68:TModel
 | [.agg [.sl g0 xa,.sl g1 xb,.sl g2 xc]]=>bif ctsEq g0 ([.int .i64]) && ctsEq g1 ([.int .i64]) && ctsEq g2 ([.int .i64,.int .i64]) then some (q68 xa xb xc,AV.bool (v68_0 xa xb xc)) else none
 | _=>none
theorem k68:Known Tryz.prog 68:=⟨Tryz.f68,Tryz.func68,by kernel_rfl,by kernel_rfl⟩
theorem meets68:Meets Tryz.prog 68 m68:=by
 refine mt (lvl:=0) (cf:=c68) rfl mixed k68 Tryz.func68 (by kernel_rfl) (loops_cons ok68_0 noLoop) (allT_cons meets52 (allT_cons meets54 (allT_cons meets116 (allT_cons meets117 allT_nil)))) allM_nil noI fun xs r h=>?_
 unfold m68 at h
 split at h
 ·rename_i g0 xa g1 xb g2 xc
  obtain ⟨hg,h⟩:=bif_pair h
  simp only [Bool.and_eq_true] at hg
  obtain ⟨⟨q0,q1⟩,q2⟩:=hg
  obtain rfl:=cE q0
  obtain rfl:=cE q1
  obtain rfl:=cE q2
  obtain ⟨h1,rfl⟩:=pair_inj h
  exact (e68 xa xb xc).trans ((brL (br (fun b=>some (AV.bool (bif b then false else (bif !decide ((xb.length:Int)=(xa.length:Int)) then false else (ro (runW (R68_0 xa xb xc) (((xb.length:Int) - 0:Int).toNat+1) 0) false (sumE (fun _=>(v117_0 xa xc)) (fun _=>false))))))) (fun _=>rfl) (br (fun b=>some (AV.bool (bif b then false else (ro (runW (R68_0 xa xb xc) (((xb.length:Int) - 0:Int).toNat+1) 0) false (sumE (fun _=>(v117_0 xa xc)) (fun _=>false)))))) (fun _=>rfl) (brO (fun o:Option (Unit ⊕ Unit)=>some (AV.bool (ro o false (sumE (fun _=>(v117_0 xa xc)) (fun _=>false))))) (brS (fun o:Unit ⊕ Unit=>some (AV.bool ((sumE (fun _=>(v117_0 xa xc)) (fun _=>false)) o))) (fun _=>(brL1 (fun _=>rfl))) (fun _=>(fun _=>rfl))))))) h1)
 ·cases h
noncomputable def c69:Cfg:=cfg Tryz.prog [(69,999,[2])] [] [] [] []
def q69 (xa xb xc:List AV):Bool:=((decide ((([]:List AV).length+xa.length)*8≤140737488355328) && decide ((([]:List AV).length+xa.length)≤140737488355328)) && ((decide ((([]:List AV).length+xb.length)*8≤140737488355328) && decide ((([]:List AV).length+xb.length)≤140737488355328)) && (decide ((([]:List AV).length+xc.length)*16≤140737488355328) && decide ((([]:List AV).length+xc.length)≤140737488355328))))
def v69_0 (xa xb xc:List AV):List AV:=([]:List AV)++xa
def v69_1 (xa xb xc:List AV):List AV:=([]:List AV)++xb
def v69_2 (xa xb xc:List AV):List AV:=([]:List AV)++xc
theorem e69 (xa xb xc:List AV):funA c69 0 69 [AV.agg [AV.sl [.int .i64] xa,AV.sl [.int .i64] xb,AV.sl [.int .i64,.int .i64] xc]]=(bif (decide ((([]:List AV).length+xa.length)*8≤140737488355328) && decide ((([]:List AV).length+xa.length)≤140737488355328)) then (bif (decide ((([]:List AV).length+xb.length)*8≤140737488355328) && decide ((([]:List AV).length+xb.length)≤140737488355328)) then (bif (decide ((([]:List AV).length+xc.length)*16≤140737488355328) && decide ((([]:List AV).length+xc.length)≤140737488355328)) then some (AV.agg [AV.fl [.int .i64] (([]:List AV)++xa),AV.fl [.int .i64] (([]:List AV)++xb),AV.fl [.int .i64,.int .i64] (([]:List AV)++xc)])
 else none)
 else none)
 else none):=by kernel_rfl
def m69:TModel
 | [.agg [.sl g0 xa,.sl g1 xb,.sl g2 xc]]=>bif ctsEq g0 ([.int .i64]) && ctsEq g1 ([.int .i64]) && ctsEq g2 ([.int .i64,.int .i64]) then some (q69 xa xb xc,AV.agg [AV.fl [.int .i64] (v69_0 xa xb xc),AV.fl [.int .i64] (v69_1 xa xb xc),AV.fl [.int .i64,.int .i64] (v69_2 xa xb xc)]) else none
 | _=>none
theorem k69:Known Tryz.prog 69:=⟨Tryz.f69,Tryz.func69,by kernel_rfl,by kernel_rfl⟩
theorem meets69:Meets Tryz.prog 69 m69:=by
 refine mt (lvl:=0) (cf:=c69) rfl mixed k69 Tryz.func69 (by kernel_rfl) noLoop allT_nil allM_nil noI fun xs r h=>?_
 unfold m69 at h
 split at h
 ·rename_i g0 xa g1 xb g2 xc
  obtain ⟨hg,h⟩:=bif_pair h
  simp only [Bool.and_eq_true] at hg
  obtain ⟨⟨q0,q1⟩,q2⟩:=hg
  obtain rfl:=cE q0
  obtain rfl:=cE q1
  obtain rfl:=cE q2
  obtain ⟨h1,rfl⟩:=pair_inj h
  exact (e69 xa xb xc).trans ((brL (brL (brL1 (fun _=>rfl)))) h1)
 ·cases h
def G119_0 {β:Type} (t1:Int) (h0_0:List AV) (h0_1:List AV) (h0_2:List AV) (t6:Int) (N:(Int)→β) (K:(Unit ⊕ Int)→β) (d:β):β:=(bif decide (t6<(h0_2.length:Int)) then (bif (decide (0≤t6) && decide (t6<(h0_2.length:Int))) then (bif decide (fI (h0_2.getD t6.toNat .undef) 0=t1) then (bif (decide (0≤t6) && decide (t6<(h0_2.length:Int))) then K (.inr (fI (h0_2.getD t6.toNat .undef) 1))
 else d)
 else N (IntKind.i64.wrap (t6+1)))
 else d)
 else K (.inl ()))
def F119_0 (t1:Int) (h0_0 h0_1 h0_2:List AV) (t6:Int):Out (Int) (Unit ⊕ Int):=G119_0 t1 h0_0 h0_1 h0_2 t6 .next .stop .fail
def R119_0 (t1:Int) (h0_0 h0_1 h0_2:List AV):(Int)→Out (Int) (Unit ⊕ Int):=fun s:Int=>F119_0 t1 h0_0 h0_1 h0_2 s
def E119_0 (t1:Int) (h0_0 h0_1 h0_2:List AV):(Int)→St:=fun s:Int=>⟨[(1,Ai t1),(2,AV.ptr [0,2] 0 0),(6,Ai s)],[([0,2],⟨true,[],[AV.agg [AV.sl [.int .i64] h0_0,AV.sl [.int .i64] h0_1,AV.sl [.int .i64,.int .i64] h0_2]]⟩)]⟩
def K119_0 (t1:Int) (h0_0 h0_1 h0_2:List AV) (k:Kont):(Unit ⊕ Int)→Option AV:=sumE (fun _:Unit=>k (.exit 0) ⟨[],[([0,2],⟨true,[],[AV.agg [AV.sl [.int .i64] h0_0,AV.sl [.int .i64] h0_1,AV.sl [.int .i64,.int .i64] h0_2]]⟩)]⟩) (fun p:Int=>k .ret ⟨[(4,Ai p),(5,AV.bool true)],[([0,2],⟨true,[],[AV.agg [AV.sl [.int .i64] h0_0,AV.sl [.int .i64] h0_1,AV.sl [.int .i64,.int .i64] h0_2]]⟩)]⟩)
def l119_0:LModel:=fun _ _ st k=>match st with
 | ⟨[(1,.int .i64 t1),(2,.ptr g0 g1 g2),(6,.int .i64 t6)],[(g3,⟨true,[],[.agg [.sl g4 h0_0,.sl g5 h0_1,.sl g6 h0_2]]⟩)]⟩=>bif nmEq g0 ([0,2]) && Nat.beq g1 0 && Nat.beq g2 0 && nmEq g3 ([0,2]) && ctsEq g4 ([.int .i64]) && ctsEq g5 ([.int .i64]) && ctsEq g6 ([.int .i64,.int .i64]) then ro (runW (R119_0 t1 h0_0 h0_1 h0_2) (((h0_2.length:Int) - t6:Int).toNat+1) t6) none (K119_0 t1 h0_0 h0_1 h0_2 k) else none
 | _=>none
noncomputable def c119:Cfg:=cfg Tryz.prog [(119,0,[1,2,6]),(119,999,[4,5]),(119,1000,[]),(119,1001,[1,2,6])] [] [] [] [(119,0,l119_0)]
theorem s119_0 (t1:Int) (h0_0 h0_1 h0_2:List AV) (ce:CallE) (k:Kont) (s:Int) (next:St→Option AV):stepA (codeA c119 ce [] 119 0 (sub [1,0,1,0,0] (body Tryz.f119))) (normA [] [1,2,6]) next ((E119_0 t1 h0_0 h0_1 h0_2) s) k=G119_0 t1 h0_0 h0_1 h0_2 s (fun s=>next ((E119_0 t1 h0_0 h0_1 h0_2) s)) (K119_0 t1 h0_0 h0_1 h0_2 k) none:=by kernel_rfl
theorem st119_0 (t1:Int) (h0_0 h0_1 h0_2:List AV) (ce:CallE) (k:Kont) (s:Int) (next:St→Option AV):stepA (codeA c119 ce [] 119 0 (sub [1,0,1,0,0] (body Tryz.f119))) (normA [] [1,2,6]) next ((E119_0 t1 h0_0 h0_1 h0_2) s) k=(R119_0 t1 h0_0 h0_1 h0_2 s).el none (fun s=>next ((E119_0 t1 h0_0 h0_1 h0_2) s)) (K119_0 t1 h0_0 h0_1 h0_2 k):=(s119_0 t1 h0_0 h0_1 h0_2 ce k s next).trans (by unfold R119_0;unfold F119_0 G119_0;simp only [el_cond,el_ro,el_sum,el_fail,el_next,el_stop] <;> rfl)
theorem ok119_0 {ce:CallE}:LoopOK c119 ce [] 119 0 (sub [1,0,1,0,0] (body Tryz.f119)):=by
 intro m hm st k r h
 obtain rfl:l119_0=m:=Option.some.inj hm
 unfold l119_0 at h
 split at h
 ·rename_i t1 g0 g1 g2 t6 g3 g4 h0_0 g5 h0_1 g6 h0_2
  obtain ⟨hg,h⟩:=bif_some h
  simp only [Bool.and_eq_true] at hg
  obtain ⟨⟨⟨⟨⟨⟨q0,q1⟩,q2⟩,q3⟩,q4⟩,q5⟩,q6⟩:=hg
  obtain rfl:=nE q0
  obtain rfl:=bE q1
  obtain rfl:=bE q2
  obtain rfl:=nE q3
  obtain rfl:=cE q4
  obtain rfl:=cE q5
  obtain rfl:=cE q6
  refine ⟨(((h0_2.length:Int) - t6:Int).toNat+1),?_⟩
  rw [← h]
  exact loop_run (E119_0 t1 h0_0 h0_1 h0_2) (K119_0 t1 h0_0 h0_1 h0_2 k) (st119_0 t1 h0_0 h0_1 h0_2 ce k) _ t6
 ·cases h
def q119 (xa xb xc:List AV) (a1:Int):Bool:=(ro (runW (R119_0 a1 xa xb xc) (((xc.length:Int) - 0:Int).toNat+1) 0) false (sumE (fun _=>true) (fun p19=>true)))
def v119_0 (xa xb xc:List AV) (a1:Int):Int:=(ro (runW (R119_0 a1 xa xb xc) (((xc.length:Int) - 0:Int).toNat+1) 0) 0 (sumE (fun _=>0) (fun p19=>p19)))
def v119_1 (xa xb xc:List AV) (a1:Int):Bool:=(ro (runW (R119_0 a1 xa xb xc) (((xc.length:Int) - 0:Int).toNat+1) 0) false (sumE (fun _=>false) (fun p19=>true)))
theorem e119 (xa xb xc:List AV) (a1:Int):funA c119 0 119 [AV.agg [AV.sl [.int .i64] xa,AV.sl [.int .i64] xb,AV.sl [.int .i64,.int .i64] xc],Ai a1]=(ro (runW (R119_0 a1 xa xb xc) (((xc.length:Int) - 0:Int).toNat+1) 0) none (sumE (fun _=>some (AV.tup [Ai 0,AV.bool false])) (fun p19=>some (AV.tup [Ai p19,AV.bool true])))):=by kernel_rfl
def m119:TModel
 | [.agg [.sl g0 xa,.sl g1 xb,.sl g2 xc],.int .i64 a1]=>bif ctsEq g0 ([.int .i64]) && ctsEq g1 ([.int .i64]) && ctsEq g2 ([.int .i64,.int .i64]) then some (q119 xa xb xc a1,AV.tup [AV.int .i64 (v119_0 xa xb xc a1),AV.bool (v119_1 xa xb xc a1)]) else none
 | _=>none
theorem k119:Known Tryz.prog 119:=⟨Tryz.f119,Tryz.func119,by kernel_rfl,by kernel_rfl⟩
theorem meets119:Meets Tryz.prog 119 m119:=by
 refine mt (lvl:=0) (cf:=c119) rfl mixed k119 Tryz.func119 (by kernel_rfl) (loops_cons ok119_0 noLoop) allT_nil allM_nil noI fun xs r h=>?_
 unfold m119 at h
 split at h
 ·rename_i g0 xa g1 xb g2 xc a1
  obtain ⟨hg,h⟩:=bif_pair h
  simp only [Bool.and_eq_true] at hg
  obtain ⟨⟨q0,q1⟩,q2⟩:=hg
  obtain rfl:=cE q0
  obtain rfl:=cE q1
  obtain rfl:=cE q2
  obtain ⟨h1,rfl⟩:=pair_inj h
  exact (e119 xa xb xc a1).trans ((brO (fun o:Option (Unit ⊕ Int)=>some (AV.tup [Ai (ro o 0 (sumE (fun _=>0) (fun p19=>p19))),AV.bool (ro o false (sumE (fun _=>false) (fun p19=>true)))])) (brS (fun o:Unit ⊕ Int=>some (AV.tup [Ai ((sumE (fun _=>0) (fun p19=>p19)) o),AV.bool ((sumE (fun _=>false) (fun p19=>true)) o)])) (fun _=>(fun _=>rfl)) (fun p19=>(fun _=>rfl)))) h1)
 ·cases h
def G177_2 {β:Type} (t1:List AV) (t2:Int) (t8:Int) (t9:Int) (t11:Int) (N:((Int × Int))→β) (K:(Int)→β) (d:β):β:=(bif decide (t11 ≥ 0) then (bif (decide (0≤t11) && decide (t11<(t1.length:Int))) then (bif decide (fI (t1.getD t11.toNat .undef) 0 ≥ t2) then (bif (decide (0≤t11) && decide (t11<(t1.length:Int))) then N (fI (t1.getD t11.toNat .undef) 1,IntKind.i64.wrap (t11 - 1))
 else d)
 else N (t9,IntKind.i64.wrap (t11 - 1)))
 else d)
 else K t9)
def F177_2 (t1:List AV) (t2 t8 t9 t11:Int):Out ((Int × Int)) (Int):=G177_2 t1 t2 t8 t9 t11 .next .stop .fail
def R177_2 (t1:List AV) (t2 t8:Int):((Int × Int))→Out ((Int × Int)) (Int):=fun s:Int × Int=>F177_2 t1 t2 t8 s.1 s.2
def E177_2 (t1:List AV) (t2 t8:Int):((Int × Int))→St:=fun s:Int × Int=>⟨[(1,AV.sl [.int .i64,.int .i64] t1),(2,Ai t2),(8,Ai t8),(9,Ai s.1),(11,Ai s.2)],[]⟩
def K177_2 (t1:List AV) (t2 t8:Int) (k:Kont):(Int)→Option AV:=fun p:Int=>k (.exit 2) ⟨[(8,Ai t8),(9,Ai p)],[]⟩
def l177_2:LModel:=fun _ _ st k=>match st with
 | ⟨[(1,.sl g0 t1),(2,.int .i64 t2),(8,.int .i64 t8),(9,.int .i64 t9),(11,.int .i64 t11)],[]⟩=>bif ctsEq g0 ([.int .i64,.int .i64]) then ro (runW (R177_2 t1 t2 t8) ((t11 - 0+1:Int).toNat+1) (t9,t11)) none (K177_2 t1 t2 t8 k) else none
 | _=>none
def G177_0 {β:Type} (t1:List AV) (t2:Int) (t9:Int) (t8:Int) (t10:Int) (N:((Int × Int))→β) (K:(Int)→β) (d:β):β:=(bif decide (t10<(t1.length:Int)) then (bif (decide (0≤t10) && decide (t10<(t1.length:Int))) then (bif decide (fI (t1.getD t10.toNat .undef) 0≤t2) then (bif (decide (0≤t10) && decide (t10<(t1.length:Int))) then N (fI (t1.getD t10.toNat .undef) 1,IntKind.i64.wrap (t10+1))
 else d)
 else N (t8,IntKind.i64.wrap (t10+1)))
 else d)
 else K t8)
def F177_0 (t1:List AV) (t2 t9 t8 t10:Int):Out ((Int × Int)) (Int):=G177_0 t1 t2 t9 t8 t10 .next .stop .fail
def R177_0 (t1:List AV) (t2 t9:Int):((Int × Int))→Out ((Int × Int)) (Int):=fun s:Int × Int=>F177_0 t1 t2 t9 s.1 s.2
def E177_0 (t1:List AV) (t2 t9:Int):((Int × Int))→St:=fun s:Int × Int=>⟨[(1,AV.sl [.int .i64,.int .i64] t1),(2,Ai t2),(8,Ai s.1),(9,Ai t9),(10,Ai s.2)],[]⟩
def K177_0 (t1:List AV) (t2 t9:Int) (k:Kont):(Int)→Option AV:=fun p:Int=>k (.exit 0) ⟨[(1,AV.sl [.int .i64,.int .i64] t1),(2,Ai t2),(8,Ai p),(9,Ai t9)],[]⟩
def l177_0:LModel:=fun _ _ st k=>match st with
 | ⟨[(1,.sl g0 t1),(2,.int .i64 t2),(8,.int .i64 t8),(9,.int .i64 t9),(10,.int .i64 t10)],[]⟩=>bif ctsEq g0 ([.int .i64,.int .i64]) then ro (runW (R177_0 t1 t2 t9) (((t1.length:Int) - t10:Int).toNat+1) (t8,t10)) none (K177_0 t1 t2 t9 k) else none
 | _=>none
noncomputable def c177:Cfg:=cfg Tryz.prog [(177,0,[1,2,8,9,10]),(177,2,[1,2,8,9,11]),(177,999,[6,7]),(177,1000,[1,2,8,9]),(177,1001,[1,2,8,9,10]),(177,1002,[8,9]),(177,1003,[1,2,8,9,11])] [] [] [] [(177,0,l177_0),(177,2,l177_2)]
theorem s177_2 (t1:List AV) (t2 t8:Int) (ce:CallE) (k:Kont) (s:Int × Int) (next:St→Option AV):stepA (codeA c177 ce [] 177 2 (sub [1,1,1,1,0,1,0,0] (body Tryz.f177))) (normA [] [1,2,8,9,11]) next ((E177_2 t1 t2 t8) s) k=G177_2 t1 t2 t8 s.1 s.2 (fun s=>next ((E177_2 t1 t2 t8) s)) (K177_2 t1 t2 t8 k) none:=by kernel_rfl
theorem st177_2 (t1:List AV) (t2 t8:Int) (ce:CallE) (k:Kont) (s:(Int × Int)) (next:St→Option AV):stepA (codeA c177 ce [] 177 2 (sub [1,1,1,1,0,1,0,0] (body Tryz.f177))) (normA [] [1,2,8,9,11]) next ((E177_2 t1 t2 t8) s) k=(R177_2 t1 t2 t8 s).el none (fun s=>next ((E177_2 t1 t2 t8) s)) (K177_2 t1 t2 t8 k):=(s177_2 t1 t2 t8 ce k s next).trans (by unfold R177_2;unfold F177_2 G177_2;simp only [el_cond,el_ro,el_sum,el_fail,el_next,el_stop] <;> rfl)
theorem ok177_2 {ce:CallE}:LoopOK c177 ce [] 177 2 (sub [1,1,1,1,0,1,0,0] (body Tryz.f177)):=by
 intro m hm st k r h
 obtain rfl:l177_2=m:=Option.some.inj hm
 unfold l177_2 at h
 split at h
 ·rename_i g0 t1 t2 t8 t9 t11
  obtain ⟨hg,h⟩:=bif_some h
  have q0:=hg
  obtain rfl:=cE q0
  refine ⟨((t11 - 0+1:Int).toNat+1),?_⟩
  rw [← h]
  exact loop_run (E177_2 t1 t2 t8) (K177_2 t1 t2 t8 k) (st177_2 t1 t2 t8 ce k) _ (t9,t11)
 ·cases h
theorem s177_0 (t1:List AV) (t2 t9:Int) (ce:CallE) (k:Kont) (s:Int × Int) (next:St→Option AV):stepA (codeA c177 ce [] 177 0 (sub [1,1,1,0,1,0,0] (body Tryz.f177))) (normA [] [1,2,8,9,10]) next ((E177_0 t1 t2 t9) s) k=G177_0 t1 t2 t9 s.1 s.2 (fun s=>next ((E177_0 t1 t2 t9) s)) (K177_0 t1 t2 t9 k) none:=by kernel_rfl
theorem st177_0 (t1:List AV) (t2 t9:Int) (ce:CallE) (k:Kont) (s:(Int × Int)) (next:St→Option AV):stepA (codeA c177 ce [] 177 0 (sub [1,1,1,0,1,0,0] (body Tryz.f177))) (normA [] [1,2,8,9,10]) next ((E177_0 t1 t2 t9) s) k=(R177_0 t1 t2 t9 s).el none (fun s=>next ((E177_0 t1 t2 t9) s)) (K177_0 t1 t2 t9 k):=(s177_0 t1 t2 t9 ce k s next).trans (by unfold R177_0;unfold F177_0 G177_0;simp only [el_cond,el_ro,el_sum,el_fail,el_next,el_stop] <;> rfl)
theorem ok177_0 {ce:CallE}:LoopOK c177 ce [] 177 0 (sub [1,1,1,0,1,0,0] (body Tryz.f177)):=by
 intro m hm st k r h
 obtain rfl:l177_0=m:=Option.some.inj hm
 unfold l177_0 at h
 split at h
 ·rename_i g0 t1 t2 t8 t9 t10
  obtain ⟨hg,h⟩:=bif_some h
  have q0:=hg
  obtain rfl:=cE q0
  refine ⟨(((t1.length:Int) - t10:Int).toNat+1),?_⟩
  rw [← h]
  exact loop_run (E177_0 t1 t2 t9) (K177_0 t1 t2 t9 k) (st177_0 t1 t2 t9 ce k) _ (t8,t10)
 ·cases h
def q177 (a0:Int) (a1:List AV) (a2:Int):Bool:=(ro (runW (R177_0 a1 a2 a0) (((a1.length:Int) - 0:Int).toNat+1) (0,0)) false (fun p20=>(ro (runW (R177_2 a1 a2 p20) (((IntKind.i64.wrap ((a1.length:Int) - 1)) - 0+1:Int).toNat+1) (a0,IntKind.i64.wrap ((a1.length:Int) - 1))) false (fun p21=>true))))
def v177_0 (a0:Int) (a1:List AV) (a2:Int):Int:=(ro (runW (R177_0 a1 a2 a0) (((a1.length:Int) - 0:Int).toNat+1) (0,0)) 0 (fun p20=>p20))
def v177_1 (a0:Int) (a1:List AV) (a2:Int):Int:=(ro (runW (R177_0 a1 a2 a0) (((a1.length:Int) - 0:Int).toNat+1) (0,0)) 0 (fun p20=>(ro (runW (R177_2 a1 a2 p20) (((IntKind.i64.wrap ((a1.length:Int) - 1)) - 0+1:Int).toNat+1) (a0,IntKind.i64.wrap ((a1.length:Int) - 1))) 0 (fun p21=>p21))))
theorem e177 (a0:Int) (a1:List AV) (a2:Int):funA c177 0 177 [Ai a0,AV.sl [.int .i64,.int .i64] a1,Ai a2]=(ro (runW (R177_0 a1 a2 a0) (((a1.length:Int) - 0:Int).toNat+1) (0,0)) none (fun p20=>(ro (runW (R177_2 a1 a2 p20) (((IntKind.i64.wrap ((a1.length:Int) - 1)) - 0+1:Int).toNat+1) (a0,IntKind.i64.wrap ((a1.length:Int) - 1))) none (fun p21=>some (AV.tup [Ai p20,Ai p21]))))):=by kernel_rfl
def m177:TModel
 | [.int .i64 a0,.sl g0 a1,.int .i64 a2]=>bif ctsEq g0 ([.int .i64,.int .i64]) then some (q177 a0 a1 a2,AV.tup [AV.int .i64 (v177_0 a0 a1 a2),AV.int .i64 (v177_1 a0 a1 a2)]) else none
 | _=>none
theorem k177:Known Tryz.prog 177:=⟨Tryz.f177,Tryz.func177,by kernel_rfl,by kernel_rfl⟩
theorem meets177:Meets Tryz.prog 177 m177:=by
 refine mt (lvl:=0) (cf:=c177) rfl mixed k177 Tryz.func177 (by kernel_rfl) (loops_cons ok177_0 (loops_cons ok177_2 noLoop)) allT_nil allM_nil noI fun xs r h=>?_
 unfold m177 at h
 split at h
 ·rename_i a0 g0 a1 a2
  obtain ⟨hg,h⟩:=bif_pair h
  have q0:=hg
  obtain rfl:=cE q0
  obtain ⟨h1,rfl⟩:=pair_inj h
  exact (e177 a0 a1 a2).trans ((brO (fun o:Option (Int)=>some (AV.tup [Ai (ro o 0 (fun p20=>p20)),Ai (ro o 0 (fun p20=>(ro (runW (R177_2 a1 a2 p20) (((IntKind.i64.wrap ((a1.length:Int) - 1)) - 0+1:Int).toNat+1) (a0,IntKind.i64.wrap ((a1.length:Int) - 1))) 0 (fun p21=>p21))))])) (fun p20=>(brO (fun o:Option (Int)=>some (AV.tup [Ai p20,Ai (ro o 0 (fun p21=>p21))])) (fun p21=>(fun _=>rfl))))) h1)
 ·cases h
noncomputable def c150:Cfg:=cfg Tryz.prog [(150,999,[4,5])] [(52,m52),(68,m68),(177,m177)] [] [] []
def q150 (xa xb xc:List AV) (a1:Int):Bool:=(q68 xa xb xc && (bif !(v68_0 xa xb xc) then true else (bif !(v52_0 a1 (-1000) 1000) then true else q177 (xa.length:Int) xc a1)))
def v150_0 (xa xb xc:List AV) (a1:Int):Int:=(bif !(v68_0 xa xb xc) then 0 else (bif !(v52_0 a1 (-1000) 1000) then 0 else (v177_0 (xa.length:Int) xc a1)))
def v150_1 (xa xb xc:List AV) (a1:Int):Int:=(bif !(v68_0 xa xb xc) then 0 else (bif !(v52_0 a1 (-1000) 1000) then 0 else (v177_1 (xa.length:Int) xc a1)))
theorem e150 (xa xb xc:List AV) (a1:Int):funA c150 0 150 [AV.agg [AV.sl [.int .i64] xa,AV.sl [.int .i64] xb,AV.sl [.int .i64,.int .i64] xc],Ai a1]=(bif q68 xa xb xc then (bif !(v68_0 xa xb xc) then some (AV.tup [Ai 0,Ai 0])
 else (bif !(v52_0 a1 (-1000) 1000) then some (AV.tup [Ai 0,Ai 0])
 else (bif q177 (xa.length:Int) xc a1 then some (AV.tup [Ai (v177_0 (xa.length:Int) xc a1),Ai (v177_1 (xa.length:Int) xc a1)])
 else none)))
 else none):=by kernel_rfl
def m150:TModel
 | [.agg [.sl g0 xa,.sl g1 xb,.sl g2 xc],.int .i64 a1]=>bif ctsEq g0 ([.int .i64]) && ctsEq g1 ([.int .i64]) && ctsEq g2 ([.int .i64,.int .i64]) then some (q150 xa xb xc a1,AV.tup [AV.int .i64 (v150_0 xa xb xc a1),AV.int .i64 (v150_1 xa xb xc a1)]) else none
 | _=>none
theorem k150:Known Tryz.prog 150:=⟨Tryz.f150,Tryz.func150,by kernel_rfl,by kernel_rfl⟩
theorem meets150:Meets Tryz.prog 150 m150:=by
 refine mt (lvl:=0) (cf:=c150) rfl mixed k150 Tryz.func150 (by kernel_rfl) noLoop (allT_cons meets52 (allT_cons meets68 (allT_cons meets177 allT_nil))) allM_nil noI fun xs r h=>?_
 unfold m150 at h
 split at h
 ·rename_i g0 xa g1 xb g2 xc a1
  obtain ⟨hg,h⟩:=bif_pair h
  simp only [Bool.and_eq_true] at hg
  obtain ⟨⟨q0,q1⟩,q2⟩:=hg
  obtain rfl:=cE q0
  obtain rfl:=cE q1
  obtain rfl:=cE q2
  obtain ⟨h1,rfl⟩:=pair_inj h
  exact (e150 xa xb xc a1).trans ((brL (br (fun b=>some (AV.tup [Ai (bif b then 0 else (bif !(v52_0 a1 (-1000) 1000) then 0 else (v177_0 (xa.length:Int) xc a1))),Ai (bif b then 0 else (bif !(v52_0 a1 (-1000) 1000) then 0 else (v177_1 (xa.length:Int) xc a1)))])) (fun _=>rfl) (br (fun b=>some (AV.tup [Ai (bif b then 0 else (v177_0 (xa.length:Int) xc a1)),Ai (bif b then 0 else (v177_1 (xa.length:Int) xc a1))])) (fun _=>rfl) (brL1 (fun _=>rfl))))) h1)
 ·cases h
def G151_0 {β:Type} (t0:List AV) (t3:Int) (t11:Int) (t12:Int) (h0:List AV) (N:((Int × Int × (List AV)))→β) (K:((Int × (List AV)))→β) (d:β):β:=(bif decide (t11≤t12) then (bif (decide (0≤t11) && decide (t11<(t0.length:Int))) then (bif decide (fI (t0.getD t11.toNat .undef) 0<t3) then N (IntKind.i64.wrap (t11+1),t12,h0)
 else (bif (decide (0≤t12) && decide (t12<(t0.length:Int))) then (bif decide (fI (t0.getD t12.toNat .undef) 0 ≥ t3) then N (t11,IntKind.i64.wrap (t12 - 1),h0)
 else (bif (decide ((h0.length+([AV.agg [AV.int .i64 t11,AV.int .i64 t12]]).length)*16≤140737488355328) && decide ((h0.length+([AV.agg [AV.int .i64 t11,AV.int .i64 t12]]).length)≤140737488355328)) then N (IntKind.i64.wrap (t11+1),IntKind.i64.wrap (t12 - 1),h0++([AV.agg [AV.int .i64 t11,AV.int .i64 t12]]))
 else d))
 else d))
 else d)
 else K (t11,h0))
def F151_0 (t0:List AV) (t3 t11 t12:Int) (h0:List AV):Out ((Int × Int × (List AV))) ((Int × (List AV))):=G151_0 t0 t3 t11 t12 h0 .next .stop .fail
def R151_0 (t0:List AV) (t3:Int):((Int × Int × (List AV)))→Out ((Int × Int × (List AV))) ((Int × (List AV))):=fun s:Int × Int × (List AV)=>F151_0 t0 t3 s.1 s.2.1 s.2.2
def E151_0 (t0:List AV) (t3:Int):((Int × Int × (List AV)))→St:=fun s:Int × Int × (List AV)=>⟨[(0,AV.sl [.int .i64] t0),(3,Ai t3),(10,AV.own [0,10]),(11,Ai s.1),(12,Ai s.2.1)],[([0,10],⟨false,[.int .i64,.int .i64],s.2.2⟩)]⟩
def K151_0 (t0:List AV) (t3:Int) (k:Kont):((Int × (List AV)))→Option AV:=fun p:Int × (List AV)=>k (.exit 0) ⟨[(10,AV.own [0,10]),(11,Ai p.1)],[([0,10],⟨false,[.int .i64,.int .i64],p.2⟩)]⟩
def l151_0:LModel:=fun _ _ st k=>match st with
 | ⟨[(0,.sl g0 t0),(3,.int .i64 t3),(10,.own g1),(11,.int .i64 t11),(12,.int .i64 t12)],[(g2,⟨false,g3,h0⟩)]⟩=>bif ctsEq g0 ([.int .i64]) && nmEq g1 ([0,10]) && nmEq g2 ([0,10]) && ctsEq g3 ([.int .i64,.int .i64]) then ro (runW (R151_0 t0 t3) ((t12 - t11+1:Int).toNat+1) (t11,t12,h0)) none (K151_0 t0 t3 k) else none
 | _=>none
noncomputable def c151:Cfg:=cfg Tryz.prog [(151,0,[0,3,10,11,12]),(151,999,[8,9]),(151,1000,[10,11]),(151,1001,[0,3,10,11,12]),(151,1002,[0,3,10,11,12])] [(52,m52)] [] [] [(151,0,l151_0)]
theorem s151_0 (t0:List AV) (t3:Int) (ce:CallE) (k:Kont) (s:Int × Int × (List AV)) (next:St→Option AV):stepA (codeA c151 ce [] 151 0 (sub [1,1,1,1,1,0,0,0] (body Tryz.f151))) (normA [] [0,3,10,11,12]) next ((E151_0 t0 t3) s) k=G151_0 t0 t3 s.1 s.2.1 s.2.2 (fun s=>next ((E151_0 t0 t3) s)) (K151_0 t0 t3 k) none:=by kernel_rfl
theorem st151_0 (t0:List AV) (t3:Int) (ce:CallE) (k:Kont) (s:(Int × Int × (List AV))) (next:St→Option AV):stepA (codeA c151 ce [] 151 0 (sub [1,1,1,1,1,0,0,0] (body Tryz.f151))) (normA [] [0,3,10,11,12]) next ((E151_0 t0 t3) s) k=(R151_0 t0 t3 s).el none (fun s=>next ((E151_0 t0 t3) s)) (K151_0 t0 t3 k):=(s151_0 t0 t3 ce k s next).trans (by unfold R151_0;unfold F151_0 G151_0;simp only [el_cond,el_ro,el_sum,el_fail,el_next,el_stop] <;> rfl)
theorem ok151_0 {ce:CallE}:LoopOK c151 ce [] 151 0 (sub [1,1,1,1,1,0,0,0] (body Tryz.f151)):=by
 intro m hm st k r h
 obtain rfl:l151_0=m:=Option.some.inj hm
 unfold l151_0 at h
 split at h
 ·rename_i g0 t0 t3 g1 t11 t12 g2 g3 h0
  obtain ⟨hg,h⟩:=bif_some h
  simp only [Bool.and_eq_true] at hg
  obtain ⟨⟨⟨q0,q1⟩,q2⟩,q3⟩:=hg
  obtain rfl:=cE q0
  obtain rfl:=nE q1
  obtain rfl:=nE q2
  obtain rfl:=cE q3
  refine ⟨((t12 - t11+1:Int).toNat+1),?_⟩
  rw [← h]
  exact loop_run (E151_0 t0 t3) (K151_0 t0 t3 k) (st151_0 t0 t3 ce k) _ (t11,t12,h0)
 ·cases h
def q151 (a0:List AV) (a1 a2 a3:Int):Bool:=(bif !(v52_0 a1 0 a2) then true else (bif decide (a2 > (a0.length:Int)) then true else (ro (runW (R151_0 a0 a3) (((IntKind.i64.wrap (a2 - 1)) - a1+1:Int).toNat+1) (a1,IntKind.i64.wrap (a2 - 1),([]:List AV))) false (fun p22=>true))))
def v151_0 (a0:List AV) (a1 a2 a3:Int):List AV:=(bif !(v52_0 a1 0 a2) then ([]:List AV) else (bif decide (a2 > (a0.length:Int)) then ([]:List AV) else (ro (runW (R151_0 a0 a3) (((IntKind.i64.wrap (a2 - 1)) - a1+1:Int).toNat+1) (a1,IntKind.i64.wrap (a2 - 1),([]:List AV))) [] (fun p22=>p22.2))))
def v151_1 (a0:List AV) (a1 a2 a3:Int):Int:=(bif !(v52_0 a1 0 a2) then 0 else (bif decide (a2 > (a0.length:Int)) then 0 else (ro (runW (R151_0 a0 a3) (((IntKind.i64.wrap (a2 - 1)) - a1+1:Int).toNat+1) (a1,IntKind.i64.wrap (a2 - 1),([]:List AV))) 0 (fun p22=>p22.1))))
theorem e151 (a0:List AV) (a1 a2 a3:Int):funA c151 0 151 [AV.sl [.int .i64] a0,Ai a1,Ai a2,Ai a3]=(bif !(v52_0 a1 0 a2) then some (AV.tup [AV.fl [.int .i64,.int .i64] ([]:List AV),Ai 0])
 else (bif decide (a2 > (a0.length:Int)) then some (AV.tup [AV.fl [.int .i64,.int .i64] ([]:List AV),Ai 0])
 else (ro (runW (R151_0 a0 a3) (((IntKind.i64.wrap (a2 - 1)) - a1+1:Int).toNat+1) (a1,IntKind.i64.wrap (a2 - 1),([]:List AV))) none (fun p22=>some (AV.tup [AV.fl [.int .i64,.int .i64] p22.2,Ai p22.1]))))):=by kernel_rfl
def m151:TModel
 | [.sl g0 a0,.int .i64 a1,.int .i64 a2,.int .i64 a3]=>bif ctsEq g0 ([.int .i64]) then some (q151 a0 a1 a2 a3,AV.tup [AV.fl [.int .i64,.int .i64] (v151_0 a0 a1 a2 a3),AV.int .i64 (v151_1 a0 a1 a2 a3)]) else none
 | _=>none
theorem k151:Known Tryz.prog 151:=⟨Tryz.f151,Tryz.func151,by kernel_rfl,by kernel_rfl⟩
theorem meets151:Meets Tryz.prog 151 m151:=by
 refine mt (lvl:=0) (cf:=c151) rfl mixed k151 Tryz.func151 (by kernel_rfl) (loops_cons ok151_0 noLoop) (allT_cons meets52 allT_nil) allM_nil noI fun xs r h=>?_
 unfold m151 at h
 split at h
 ·rename_i g0 a0 a1 a2 a3
  obtain ⟨hg,h⟩:=bif_pair h
  have q0:=hg
  obtain rfl:=cE q0
  obtain ⟨h1,rfl⟩:=pair_inj h
  exact (e151 a0 a1 a2 a3).trans ((br (fun b=>some (AV.tup [AV.fl [.int .i64,.int .i64] (bif b then ([]:List AV) else (bif decide (a2 > (a0.length:Int)) then ([]:List AV) else (ro (runW (R151_0 a0 a3) (((IntKind.i64.wrap (a2 - 1)) - a1+1:Int).toNat+1) (a1,IntKind.i64.wrap (a2 - 1),([]:List AV))) [] (fun p22=>p22.2)))),Ai (bif b then 0 else (bif decide (a2 > (a0.length:Int)) then 0 else (ro (runW (R151_0 a0 a3) (((IntKind.i64.wrap (a2 - 1)) - a1+1:Int).toNat+1) (a1,IntKind.i64.wrap (a2 - 1),([]:List AV))) 0 (fun p22=>p22.1))))])) (fun _=>rfl) (br (fun b=>some (AV.tup [AV.fl [.int .i64,.int .i64] (bif b then ([]:List AV) else (ro (runW (R151_0 a0 a3) (((IntKind.i64.wrap (a2 - 1)) - a1+1:Int).toNat+1) (a1,IntKind.i64.wrap (a2 - 1),([]:List AV))) [] (fun p22=>p22.2))),Ai (bif b then 0 else (ro (runW (R151_0 a0 a3) (((IntKind.i64.wrap (a2 - 1)) - a1+1:Int).toNat+1) (a1,IntKind.i64.wrap (a2 - 1),([]:List AV))) 0 (fun p22=>p22.1)))])) (fun _=>rfl) (brO (fun o:Option ((Int × (List AV)))=>some (AV.tup [AV.fl [.int .i64,.int .i64] (ro o [] (fun p22=>p22.2)),Ai (ro o 0 (fun p22=>p22.1))])) (fun p22=>(fun _=>rfl))))) h1)
 ·cases h
noncomputable def c122:Cfg:=cfg Tryz.prog [(122,999,[])] [] [] [] []
def q122 (a1 a2:Int) (b0:List AV):Bool:=((decide (0≤a1) && decide (a1<(b0.length:Int))) && ((decide (0≤a2) && decide (a2<(b0.length:Int))) && ((decide (0≤a1) && decide (a1<(b0.length:Int))) && (decide (0≤a2) && decide (a2<((b0.set a1.toNat (AV.agg [AV.int .i64 (fI (b0.getD a2.toNat .undef) 0)])).length:Int))))))
def v122_0 (a1 a2:Int) (b0:List AV):List AV:=(b0.set a1.toNat (AV.agg [AV.int .i64 (fI (b0.getD a2.toNat .undef) 0)])).set a2.toNat (AV.agg [AV.int .i64 (fI (b0.getD a1.toNat .undef) 0)])
theorem e122 (a1 a2:Int) (b0:List AV) (K:AV→List Blk→Option AV):inlA c122 1 122 [AV.own [1],Ai a1,Ai a2] [0] (canH 1 [⟨false,[.int .i64],b0⟩]) (keepB 1 K)=(bif (decide (0≤a1) && decide (a1<(b0.length:Int))) then (bif (decide (0≤a2) && decide (a2<(b0.length:Int))) then (bif (decide (0≤a1) && decide (a1<(b0.length:Int))) then (bif (decide (0≤a2) && decide (a2<((b0.set a1.toNat (AV.agg [Ai (fI (b0.getD a2.toNat .undef) 0)])).length:Int))) then K (AV.tup []) [⟨false,[.int .i64],(b0.set a1.toNat (AV.agg [Ai (fI (b0.getD a2.toNat .undef) 0)])).set a2.toNat (AV.agg [Ai (fI (b0.getD a1.toNat .undef) 0)])⟩]
 else none)
 else none)
 else none)
 else none):=by kernel_rfl
theorem r122 (a1 a2:Int) (b0:List AV) (K:AV→List Blk→Option AV) (h:q122 a1 a2 b0=true):inlA c122 1 122 [AV.own [1],AV.int .i64 a1,AV.int .i64 a2] [0] (canH 1 [⟨false,[.int .i64],b0⟩]) (keepB 1 K)=K (AV.tup []) [⟨false,[.int .i64],(v122_0 a1 a2 b0)⟩]:=(e122 a1 a2 b0 K).trans ((brL (brL (brL (brL1 (fun _=>rfl))))) h)
def m122:WModel
 | [.own g0,.int .i64 a1,.int .i64 a2],[⟨false,g1,b0⟩]=>bif nmEq g0 ([1]) && ctsEq g1 ([.int .i64]) then some (q122 a1 a2 b0,AV.tup [],[⟨false,[.int .i64],(v122_0 a1 a2 b0)⟩]) else none
 | _,_=>none
theorem k122:Known Tryz.prog 122:=⟨Tryz.f122,Tryz.func122,by kernel_rfl,by kernel_rfl⟩
theorem meets122:MeetsM Tryz.prog 122 m122:=by
 refine mw (lvl:=0) (cf:=c122) rfl mixed k122 Tryz.func122 (by kernel_rfl) noLoop allT_nil allM_nil noI fun xs bs r bs' h K=>?_
 unfold m122 at h
 split at h
 ·rename_i g0 a1 a2 g1 b0
  obtain ⟨hg,h⟩:=bif_pair h
  simp only [Bool.and_eq_true] at hg
  obtain ⟨q0,q1⟩:=hg
  obtain rfl:=nE q0
  obtain rfl:=cE q1
  obtain ⟨h1,rfl,rfl⟩:=trip_inj h
  exact r122 a1 a2 b0 K h1
 ·cases h
def G152_0 {β:Type} (t1:List AV) (h2_0:List AV) (h2_1:List AV) (h2_2:List AV) (h3:List AV) (t7:Int) (h0:List AV) (h1:List AV) (N:((Int × (List AV) × (List AV)))→β) (K:(((List AV) × (List AV)) ⊕ ((List AV) × (List AV) × (List AV) × (List AV) × (List AV)))→β) (d:β):β:=(bif decide (t7<(t1.length:Int)) then (bif (decide (0≤t7) && decide (t7<(t1.length:Int))) then (bif (decide (0≤t7) && decide (t7<(t1.length:Int))) then (bif !(v52_0 (fI (t1.getD t7.toNat .undef) 0) 0 (IntKind.i64.wrap ((h0.length:Int) - 1))) then (bif q69 h2_0 h2_1 h2_2 then K (.inr (h0,h1,(v69_0 h2_0 h2_1 h2_2),(v69_1 h2_0 h2_1 h2_2),(v69_2 h2_0 h2_1 h2_2)))
 else d)
 else (bif !(v52_0 (fI (t1.getD t7.toNat .undef) 1) 0 (IntKind.i64.wrap ((h0.length:Int) - 1))) then (bif q69 h2_0 h2_1 h2_2 then K (.inr (h0,h1,(v69_0 h2_0 h2_1 h2_2),(v69_1 h2_0 h2_1 h2_2),(v69_2 h2_0 h2_1 h2_2)))
 else d)
 else (bif q122 (fI (t1.getD t7.toNat .undef) 0) (fI (t1.getD t7.toNat .undef) 1) h0 then (bif q122 (fI (t1.getD t7.toNat .undef) 0) (fI (t1.getD t7.toNat .undef) 1) h1 then N (IntKind.i64.wrap (t7+1),(v122_0 (fI (t1.getD t7.toNat .undef) 0) (fI (t1.getD t7.toNat .undef) 1) h0),(v122_0 (fI (t1.getD t7.toNat .undef) 0) (fI (t1.getD t7.toNat .undef) 1) h1))
 else d)
 else d)))
 else d)
 else d)
 else K (.inl (h0,h1)))
def F152_0 (t1 h2_0 h2_1 h2_2 h3:List AV) (t7:Int) (h0 h1:List AV):Out ((Int × (List AV) × (List AV))) (((List AV) × (List AV)) ⊕ ((List AV) × (List AV) × (List AV) × (List AV) × (List AV))):=G152_0 t1 h2_0 h2_1 h2_2 h3 t7 h0 h1 .next .stop .fail
def R152_0 (t1 h2_0 h2_1 h2_2 h3:List AV):((Int × (List AV) × (List AV)))→Out ((Int × (List AV) × (List AV))) (((List AV) × (List AV)) ⊕ ((List AV) × (List AV) × (List AV) × (List AV) × (List AV))):=fun s:Int × (List AV) × (List AV)=>F152_0 t1 h2_0 h2_1 h2_2 h3 s.1 s.2.1 s.2.2
def E152_0 (t1 h2_0 h2_1 h2_2 h3:List AV):((Int × (List AV) × (List AV)))→St:=fun s:Int × (List AV) × (List AV)=>⟨[(1,AV.sl [.int .i64,.int .i64] t1),(2,AV.ptr [0,2] 0 0),(4,AV.ptr [0,4] 0 0),(6,AV.ptr [0,6] 0 0),(7,Ai s.1)],[([0,0,6],⟨false,[.int .i64],s.2.1⟩),([0,1,6],⟨false,[.int .i64],s.2.2⟩),([0,2],⟨true,[],[AV.agg [AV.sl [.int .i64] h2_0,AV.sl [.int .i64] h2_1,AV.sl [.int .i64,.int .i64] h2_2]]⟩),([0,2,6],⟨false,[.int .i64,.int .i64],h3⟩),([0,4],⟨true,[],[AV.agg [AV.snil,AV.snil,AV.snil]]⟩),([0,6],⟨true,[],[AV.agg [AV.own [0,0,6],AV.own [0,1,6],AV.own [0,2,6]]]⟩)]⟩
def K152_0 (t1 h2_0 h2_1 h2_2 h3:List AV) (k:Kont):(((List AV) × (List AV)) ⊕ ((List AV) × (List AV) × (List AV) × (List AV) × (List AV)))→Option AV:=sumE (fun p:(List AV) × (List AV)=>k (.exit 0) ⟨[(4,AV.ptr [0,4] 0 0),(6,AV.ptr [0,6] 0 0)],[([0,0,6],⟨false,[.int .i64],p.1⟩),([0,1,6],⟨false,[.int .i64],p.2⟩),([0,2],⟨true,[],[AV.agg [AV.sl [.int .i64] h2_0,AV.sl [.int .i64] h2_1,AV.sl [.int .i64,.int .i64] h2_2]]⟩),([0,2,6],⟨false,[.int .i64,.int .i64],h3⟩),([0,4],⟨true,[],[AV.agg [AV.snil,AV.snil,AV.snil]]⟩),([0,6],⟨true,[],[AV.agg [AV.own [0,0,6],AV.own [0,1,6],AV.own [0,2,6]]]⟩)]⟩) (fun p:(List AV) × (List AV) × (List AV) × (List AV) × (List AV)=>k .ret ⟨[(4,AV.ptr [0,4] 0 0),(5,AV.bool false)],[([0,0,6],⟨false,[.int .i64],p.1⟩),([0,1,6],⟨false,[.int .i64],p.2.1⟩),([0,1,53],⟨false,[.int .i64],p.2.2.1⟩),([0,2],⟨true,[],[AV.agg [AV.sl [.int .i64] h2_0,AV.sl [.int .i64] h2_1,AV.sl [.int .i64,.int .i64] h2_2]]⟩),([0,2,6],⟨false,[.int .i64,.int .i64],h3⟩),([0,4],⟨true,[],[AV.agg [AV.own [0,1,53],AV.own [1,1,53],AV.own [2,1,53]]]⟩),([0,6],⟨true,[],[AV.agg [AV.own [0,0,6],AV.own [0,1,6],AV.own [0,2,6]]]⟩),([1,1,53],⟨false,[.int .i64],p.2.2.2.1⟩),([2,1,53],⟨false,[.int .i64,.int .i64],p.2.2.2.2⟩)]⟩)
def l152_0:LModel:=fun _ _ st k=>match st with
 | ⟨[(1,.sl g0 t1),(2,.ptr g1 g2 g3),(4,.ptr g4 g5 g6),(6,.ptr g7 g8 g9),(7,.int .i64 t7)],[(g10,⟨false,g11,h0⟩),(g12,⟨false,g13,h1⟩),(g14,⟨true,[],[.agg [.sl g15 h2_0,.sl g16 h2_1,.sl g17 h2_2]]⟩),(g18,⟨false,g19,h3⟩),(g20,⟨true,[],[.agg [.snil,.snil,.snil]]⟩),(g21,⟨true,[],[.agg [.own g22,.own g23,.own g24]]⟩)]⟩=>bif ctsEq g0 ([.int .i64,.int .i64]) && nmEq g1 ([0,2]) && Nat.beq g2 0 && Nat.beq g3 0 && nmEq g4 ([0,4]) && Nat.beq g5 0 && Nat.beq g6 0 && nmEq g7 ([0,6]) && Nat.beq g8 0 && Nat.beq g9 0 && nmEq g10 ([0,0,6]) && ctsEq g11 ([.int .i64]) && nmEq g12 ([0,1,6]) && ctsEq g13 ([.int .i64]) && nmEq g14 ([0,2]) && ctsEq g15 ([.int .i64]) && ctsEq g16 ([.int .i64]) && ctsEq g17 ([.int .i64,.int .i64]) && nmEq g18 ([0,2,6]) && ctsEq g19 ([.int .i64,.int .i64]) && nmEq g20 ([0,4]) && nmEq g21 ([0,6]) && nmEq g22 ([0,0,6]) && nmEq g23 ([0,1,6]) && nmEq g24 ([0,2,6]) then ro (runW (R152_0 t1 h2_0 h2_1 h2_2 h3) (((t1.length:Int) - t7:Int).toNat+1) (t7,h0,h1)) none (K152_0 t1 h2_0 h2_1 h2_2 h3 k) else none
 | _=>none
noncomputable def c152:Cfg:=cfg Tryz.prog [(152,0,[1,2,4,6,7]),(152,999,[4,5]),(152,1000,[4,6]),(152,1001,[1,2,4,6,7])] [(52,m52),(69,m69)] [(122,.w m122)] [] [(152,0,l152_0)]
theorem s152_0 (t1 h2_0 h2_1 h2_2 h3:List AV) (ce:CallE) (k:Kont) (s:Int × (List AV) × (List AV)) (next:St→Option AV):stepA (codeA c152 ce [] 152 0 (sub [1,1,1,0,1,0,0] (body Tryz.f152))) (normA [] [1,2,4,6,7]) next ((E152_0 t1 h2_0 h2_1 h2_2 h3) s) k=G152_0 t1 h2_0 h2_1 h2_2 h3 s.1 s.2.1 s.2.2 (fun s=>next ((E152_0 t1 h2_0 h2_1 h2_2 h3) s)) (K152_0 t1 h2_0 h2_1 h2_2 h3 k) none:=by kernel_rfl
theorem st152_0 (t1 h2_0 h2_1 h2_2 h3:List AV) (ce:CallE) (k:Kont) (s:(Int × (List AV) × (List AV))) (next:St→Option AV):stepA (codeA c152 ce [] 152 0 (sub [1,1,1,0,1,0,0] (body Tryz.f152))) (normA [] [1,2,4,6,7]) next ((E152_0 t1 h2_0 h2_1 h2_2 h3) s) k=(R152_0 t1 h2_0 h2_1 h2_2 h3 s).el none (fun s=>next ((E152_0 t1 h2_0 h2_1 h2_2 h3) s)) (K152_0 t1 h2_0 h2_1 h2_2 h3 k):=(s152_0 t1 h2_0 h2_1 h2_2 h3 ce k s next).trans (by unfold R152_0;unfold F152_0 G152_0;simp only [el_cond,el_ro,el_sum,el_fail,el_next,el_stop] <;> rfl)
theorem ok152_0 {ce:CallE}:LoopOK c152 ce [] 152 0 (sub [1,1,1,0,1,0,0] (body Tryz.f152)):=by
 intro m hm st k r h
 obtain rfl:l152_0=m:=Option.some.inj hm
 unfold l152_0 at h
 split at h
 ·rename_i g0 t1 g1 g2 g3 g4 g5 g6 g7 g8 g9 t7 g10 g11 h0 g12 g13 h1 g14 g15 h2_0 g16 h2_1 g17 h2_2 g18 g19 h3 g20 g21 g22 g23 g24
  obtain ⟨hg,h⟩:=bif_some h
  simp only [Bool.and_eq_true] at hg
  obtain ⟨⟨⟨⟨⟨⟨⟨⟨⟨⟨⟨⟨⟨⟨⟨⟨⟨⟨⟨⟨⟨⟨⟨⟨q0,q1⟩,q2⟩,q3⟩,q4⟩,q5⟩,q6⟩,q7⟩,q8⟩,q9⟩,q10⟩,q11⟩,q12⟩,q13⟩,q14⟩,q15⟩,q16⟩,q17⟩,q18⟩,q19⟩,q20⟩,q21⟩,q22⟩,q23⟩,q24⟩:=hg
  obtain rfl:=cE q0
  obtain rfl:=nE q1
  obtain rfl:=bE q2
  obtain rfl:=bE q3
  obtain rfl:=nE q4
  obtain rfl:=bE q5
  obtain rfl:=bE q6
  obtain rfl:=nE q7
  obtain rfl:=bE q8
  obtain rfl:=bE q9
  obtain rfl:=nE q10
  obtain rfl:=cE q11
  obtain rfl:=nE q12
  obtain rfl:=cE q13
  obtain rfl:=nE q14
  obtain rfl:=cE q15
  obtain rfl:=cE q16
  obtain rfl:=cE q17
  obtain rfl:=nE q18
  obtain rfl:=cE q19
  obtain rfl:=nE q20
  obtain rfl:=nE q21
  obtain rfl:=nE q22
  obtain rfl:=nE q23
  obtain rfl:=nE q24
  refine ⟨(((t1.length:Int) - t7:Int).toNat+1),?_⟩
  rw [← h]
  exact loop_run (E152_0 t1 h2_0 h2_1 h2_2 h3) (K152_0 t1 h2_0 h2_1 h2_2 h3 k) (st152_0 t1 h2_0 h2_1 h2_2 h3 ce k) _ (t7,h0,h1)
 ·cases h
def q152 (xa xb xc a1:List AV):Bool:=(q69 xa xb xc && (bif !decide (((v69_1 xa xb xc).length:Int)=((v69_0 xa xb xc).length:Int)) then true else (ro (runW (R152_0 a1 xa xb xc (v69_2 xa xb xc)) (((a1.length:Int) - 0:Int).toNat+1) (0,(v69_0 xa xb xc),(v69_1 xa xb xc))) false (sumE (fun p23=>true) (fun p24=>true)))))
def v152_0 (xa xb xc a1:List AV):List AV:=(bif !decide (((v69_1 xa xb xc).length:Int)=((v69_0 xa xb xc).length:Int)) then (v69_0 xa xb xc) else (ro (runW (R152_0 a1 xa xb xc (v69_2 xa xb xc)) (((a1.length:Int) - 0:Int).toNat+1) (0,(v69_0 xa xb xc),(v69_1 xa xb xc))) [] (sumE (fun p23=>p23.1) (fun p24=>p24.2.2.1))))
def v152_1 (xa xb xc a1:List AV):List AV:=(bif !decide (((v69_1 xa xb xc).length:Int)=((v69_0 xa xb xc).length:Int)) then (v69_1 xa xb xc) else (ro (runW (R152_0 a1 xa xb xc (v69_2 xa xb xc)) (((a1.length:Int) - 0:Int).toNat+1) (0,(v69_0 xa xb xc),(v69_1 xa xb xc))) [] (sumE (fun p23=>p23.2) (fun p24=>p24.2.2.2.1))))
def v152_2 (xa xb xc a1:List AV):List AV:=(bif !decide (((v69_1 xa xb xc).length:Int)=((v69_0 xa xb xc).length:Int)) then (v69_2 xa xb xc) else (ro (runW (R152_0 a1 xa xb xc (v69_2 xa xb xc)) (((a1.length:Int) - 0:Int).toNat+1) (0,(v69_0 xa xb xc),(v69_1 xa xb xc))) [] (sumE (fun p23=>(v69_2 xa xb xc)) (fun p24=>p24.2.2.2.2))))
def v152_3 (xa xb xc a1:List AV):Bool:=(bif !decide (((v69_1 xa xb xc).length:Int)=((v69_0 xa xb xc).length:Int)) then false else (ro (runW (R152_0 a1 xa xb xc (v69_2 xa xb xc)) (((a1.length:Int) - 0:Int).toNat+1) (0,(v69_0 xa xb xc),(v69_1 xa xb xc))) false (sumE (fun p23=>true) (fun p24=>false))))
theorem e152 (xa xb xc a1:List AV):funA c152 0 152 [AV.agg [AV.sl [.int .i64] xa,AV.sl [.int .i64] xb,AV.sl [.int .i64,.int .i64] xc],AV.sl [.int .i64,.int .i64] a1]=(bif q69 xa xb xc then (bif !decide (((v69_1 xa xb xc).length:Int)=((v69_0 xa xb xc).length:Int)) then some (AV.tup [AV.agg [AV.fl [.int .i64] (v69_0 xa xb xc),AV.fl [.int .i64] (v69_1 xa xb xc),AV.fl [.int .i64,.int .i64] (v69_2 xa xb xc)],AV.bool false])
 else (ro (runW (R152_0 a1 xa xb xc (v69_2 xa xb xc)) (((a1.length:Int) - 0:Int).toNat+1) (0,(v69_0 xa xb xc),(v69_1 xa xb xc))) none (sumE (fun p23=>some (AV.tup [AV.agg [AV.fl [.int .i64] p23.1,AV.fl [.int .i64] p23.2,AV.fl [.int .i64,.int .i64] (v69_2 xa xb xc)],AV.bool true])) (fun p24=>some (AV.tup [AV.agg [AV.fl [.int .i64] p24.2.2.1,AV.fl [.int .i64] p24.2.2.2.1,AV.fl [.int .i64,.int .i64] p24.2.2.2.2],AV.bool false])))))
 else none):=by kernel_rfl
theorem r152 (xa xb xc a1:List AV) (h:q152 xa xb xc a1=true):funA c152 0 152 [AV.agg [AV.sl [.int .i64] xa,AV.sl [.int .i64] xb,AV.sl [.int .i64,.int .i64] xc],AV.sl [.int .i64,.int .i64] a1]=some (AV.tup [AV.agg [AV.fl [.int .i64] (v152_0 xa xb xc a1),AV.fl [.int .i64] (v152_1 xa xb xc a1),AV.fl [.int .i64,.int .i64] (v152_2 xa xb xc a1)],AV.bool (v152_3 xa xb xc a1)]):=by
 refine (e152 xa xb xc a1).trans ?_
 unfold q152 at h
 unfold v152_0 v152_1 v152_2 v152_3
 refine ifG (fun hc=>?_) (fun hc=>?_) <;> first|rw [hc] at h ⊢|rw [hc] at h|rw [hc]|skip
 ·refine ifG (fun hc=>?_) (fun hc=>?_) <;> first|rw [hc] at h ⊢|rw [hc] at h|rw [hc]|skip
  ·rfl
  ·refine roG (fun hc=>?_) (fun r hc=>?_) <;> first|rw [hc] at h ⊢|rw [hc] at h|rw [hc]|skip
   ·exact Bool.noConfusion h
   ·try simp only [ro] at h ⊢
    cases r with
    | inl p23 =>
     try simp only [sumE] at h ⊢
     rfl
    | inr p24 =>
     try simp only [sumE] at h ⊢
     rfl
 ·first|exact Bool.noConfusion h|exact Bool.noConfusion hc
def m152:TModel
 | [.agg [.sl g0 xa,.sl g1 xb,.sl g2 xc],.sl g3 a1]=>bif ctsEq g0 ([.int .i64]) && ctsEq g1 ([.int .i64]) && ctsEq g2 ([.int .i64,.int .i64]) && ctsEq g3 ([.int .i64,.int .i64]) then some (q152 xa xb xc a1,AV.tup [AV.agg [AV.fl [.int .i64] (v152_0 xa xb xc a1),AV.fl [.int .i64] (v152_1 xa xb xc a1),AV.fl [.int .i64,.int .i64] (v152_2 xa xb xc a1)],AV.bool (v152_3 xa xb xc a1)]) else none
 | _=>none
theorem k152:Known Tryz.prog 152:=⟨Tryz.f152,Tryz.func152,by kernel_rfl,by kernel_rfl⟩
theorem meets152:Meets Tryz.prog 152 m152:=by
 refine mt (lvl:=0) (cf:=c152) rfl mixed k152 Tryz.func152 (by kernel_rfl) (loops_cons ok152_0 noLoop) (allT_cons meets52 (allT_cons meets69 allT_nil)) (allM_cons meets122 allM_nil) noI fun xs r h=>?_
 unfold m152 at h
 split at h
 ·rename_i g0 xa g1 xb g2 xc g3 a1
  obtain ⟨hg,h⟩:=bif_pair h
  simp only [Bool.and_eq_true] at hg
  obtain ⟨⟨⟨q0,q1⟩,q2⟩,q3⟩:=hg
  obtain rfl:=cE q0
  obtain rfl:=cE q1
  obtain rfl:=cE q2
  obtain rfl:=cE q3
  obtain ⟨h1,rfl⟩:=pair_inj h
  exact r152 xa xb xc a1 h1
 ·cases h
def G153_0 {β:Type} (h0:List AV) (h1:List AV) (h2_0:List AV) (h2_1:List AV) (h2_2:List AV) (h4_0:Int) (h4_1:Int) (t7:Bool) (t8:Int) (h3:List AV) (N:((Bool × Int × (List AV)))→β) (K:((Bool × (List AV)))→β) (d:β):β:=(bif decide (t8<(h2_2.length:Int)) then (bif !t7 then (bif (decide (0≤t8) && decide (t8<(h2_2.length:Int))) then (bif decide (fI (h2_2.getD t8.toNat .undef) 0 > h4_0) then (bif (decide ((h3.length+([AV.agg [AV.int .i64 h4_0,AV.int .i64 h4_1]]).length)*16≤140737488355328) && decide ((h3.length+([AV.agg [AV.int .i64 h4_0,AV.int .i64 h4_1]]).length)≤140737488355328)) then (bif (decide (0≤t8) && decide (t8<(h2_2.length:Int))) then (bif (decide (((h3++([AV.agg [AV.int .i64 h4_0,AV.int .i64 h4_1]])).length+([AV.agg [AV.int .i64 (fI (h2_2.getD t8.toNat .undef) 0),AV.int .i64 (fI (h2_2.getD t8.toNat .undef) 1)]]).length)*16≤140737488355328) && decide (((h3++([AV.agg [AV.int .i64 h4_0,AV.int .i64 h4_1]])).length+([AV.agg [AV.int .i64 (fI (h2_2.getD t8.toNat .undef) 0),AV.int .i64 (fI (h2_2.getD t8.toNat .undef) 1)]]).length)≤140737488355328)) then N (true,IntKind.i64.wrap (t8+1),(h3++([AV.agg [AV.int .i64 h4_0,AV.int .i64 h4_1]]))++([AV.agg [AV.int .i64 (fI (h2_2.getD t8.toNat .undef) 0),AV.int .i64 (fI (h2_2.getD t8.toNat .undef) 1)]]))
 else d)
 else d)
 else d)
 else (bif (decide (0≤t8) && decide (t8<(h2_2.length:Int))) then (bif (decide ((h3.length+([AV.agg [AV.int .i64 (fI (h2_2.getD t8.toNat .undef) 0),AV.int .i64 (fI (h2_2.getD t8.toNat .undef) 1)]]).length)*16≤140737488355328) && decide ((h3.length+([AV.agg [AV.int .i64 (fI (h2_2.getD t8.toNat .undef) 0),AV.int .i64 (fI (h2_2.getD t8.toNat .undef) 1)]]).length)≤140737488355328)) then N (t7,IntKind.i64.wrap (t8+1),h3++([AV.agg [AV.int .i64 (fI (h2_2.getD t8.toNat .undef) 0),AV.int .i64 (fI (h2_2.getD t8.toNat .undef) 1)]]))
 else d)
 else d))
 else d)
 else (bif (decide (0≤t8) && decide (t8<(h2_2.length:Int))) then (bif (decide ((h3.length+([AV.agg [AV.int .i64 (fI (h2_2.getD t8.toNat .undef) 0),AV.int .i64 (fI (h2_2.getD t8.toNat .undef) 1)]]).length)*16≤140737488355328) && decide ((h3.length+([AV.agg [AV.int .i64 (fI (h2_2.getD t8.toNat .undef) 0),AV.int .i64 (fI (h2_2.getD t8.toNat .undef) 1)]]).length)≤140737488355328)) then N (t7,IntKind.i64.wrap (t8+1),h3++([AV.agg [AV.int .i64 (fI (h2_2.getD t8.toNat .undef) 0),AV.int .i64 (fI (h2_2.getD t8.toNat .undef) 1)]]))
 else d)
 else d))
 else K (t7,h3))
def F153_0 (h0 h1 h2_0 h2_1 h2_2:List AV) (h4_0 h4_1:Int) (t7:Bool) (t8:Int) (h3:List AV):Out ((Bool × Int × (List AV))) ((Bool × (List AV))):=G153_0 h0 h1 h2_0 h2_1 h2_2 h4_0 h4_1 t7 t8 h3 .next .stop .fail
def R153_0 (h0 h1 h2_0 h2_1 h2_2:List AV) (h4_0 h4_1:Int):((Bool × Int × (List AV)))→Out ((Bool × Int × (List AV))) ((Bool × (List AV))):=fun s:Bool × Int × (List AV)=>F153_0 h0 h1 h2_0 h2_1 h2_2 h4_0 h4_1 s.1 s.2.1 s.2.2
def E153_0 (h0 h1 h2_0 h2_1 h2_2:List AV) (h4_0 h4_1:Int):((Bool × Int × (List AV)))→St:=fun s:Bool × Int × (List AV)=>⟨[(2,AV.ptr [0,2] 0 0),(3,AV.ptr [0,3] 0 0),(4,AV.ptr [0,4] 0 0),(6,AV.ptr [0,6] 0 0),(7,AV.bool s.1),(8,Ai s.2.1)],[([0,0,6],⟨false,[.int .i64],h0⟩),([0,1,6],⟨false,[.int .i64],h1⟩),([0,2],⟨true,[],[AV.agg [AV.sl [.int .i64] h2_0,AV.sl [.int .i64] h2_1,AV.sl [.int .i64,.int .i64] h2_2]]⟩),([0,2,6],⟨false,[.int .i64,.int .i64],s.2.2⟩),([0,3],⟨true,[],[AV.agg [Ai h4_0,Ai h4_1]]⟩),([0,4],⟨true,[],[AV.agg [AV.snil,AV.snil,AV.snil]]⟩),([0,6],⟨true,[],[AV.agg [AV.own [0,0,6],AV.own [0,1,6],AV.own [0,2,6]]]⟩)]⟩
def K153_0 (h0 h1 h2_0 h2_1 h2_2:List AV) (h4_0 h4_1:Int) (k:Kont):((Bool × (List AV)))→Option AV:=fun p:Bool × (List AV)=>k (.exit 0) ⟨[(2,AV.ptr [0,2] 0 0),(3,AV.ptr [0,3] 0 0),(4,AV.ptr [0,4] 0 0),(6,AV.ptr [0,6] 0 0),(7,AV.bool p.1)],[([0,0,6],⟨false,[.int .i64],h0⟩),([0,1,6],⟨false,[.int .i64],h1⟩),([0,2],⟨true,[],[AV.agg [AV.sl [.int .i64] h2_0,AV.sl [.int .i64] h2_1,AV.sl [.int .i64,.int .i64] h2_2]]⟩),([0,2,6],⟨false,[.int .i64,.int .i64],p.2⟩),([0,3],⟨true,[],[AV.agg [Ai h4_0,Ai h4_1]]⟩),([0,4],⟨true,[],[AV.agg [AV.snil,AV.snil,AV.snil]]⟩),([0,6],⟨true,[],[AV.agg [AV.own [0,0,6],AV.own [0,1,6],AV.own [0,2,6]]]⟩)]⟩
def l153_0:LModel:=fun _ _ st k=>match st with
 | ⟨[(2,.ptr g0 g1 g2),(3,.ptr g3 g4 g5),(4,.ptr g6 g7 g8),(6,.ptr g9 g10 g11),(7,.bool t7),(8,.int .i64 t8)],[(g12,⟨false,g13,h0⟩),(g14,⟨false,g15,h1⟩),(g16,⟨true,[],[.agg [.sl g17 h2_0,.sl g18 h2_1,.sl g19 h2_2]]⟩),(g20,⟨false,g21,h3⟩),(g22,⟨true,[],[.agg [.int .i64 h4_0,.int .i64 h4_1]]⟩),(g23,⟨true,[],[.agg [.snil,.snil,.snil]]⟩),(g24,⟨true,[],[.agg [.own g25,.own g26,.own g27]]⟩)]⟩=>bif nmEq g0 ([0,2]) && Nat.beq g1 0 && Nat.beq g2 0 && nmEq g3 ([0,3]) && Nat.beq g4 0 && Nat.beq g5 0 && nmEq g6 ([0,4]) && Nat.beq g7 0 && Nat.beq g8 0 && nmEq g9 ([0,6]) && Nat.beq g10 0 && Nat.beq g11 0 && nmEq g12 ([0,0,6]) && ctsEq g13 ([.int .i64]) && nmEq g14 ([0,1,6]) && ctsEq g15 ([.int .i64]) && nmEq g16 ([0,2]) && ctsEq g17 ([.int .i64]) && ctsEq g18 ([.int .i64]) && ctsEq g19 ([.int .i64,.int .i64]) && nmEq g20 ([0,2,6]) && ctsEq g21 ([.int .i64,.int .i64]) && nmEq g22 ([0,3]) && nmEq g23 ([0,4]) && nmEq g24 ([0,6]) && nmEq g25 ([0,0,6]) && nmEq g26 ([0,1,6]) && nmEq g27 ([0,2,6]) then ro (runW (R153_0 h0 h1 h2_0 h2_1 h2_2 h4_0 h4_1) (((h2_2.length:Int) - t8:Int).toNat+1) (t7,t8,h3)) none (K153_0 h0 h1 h2_0 h2_1 h2_2 h4_0 h4_1 k) else none
 | _=>none
noncomputable def c153:Cfg:=cfg Tryz.prog [(153,0,[2,3,4,6,7,8]),(153,999,[4,5]),(153,1000,[2,3,4,6,7]),(153,1001,[2,3,4,6,7,8])] [(68,m68),(69,m69)] [] [] [(153,0,l153_0)]
theorem s153_0 (h0 h1 h2_0 h2_1 h2_2:List AV) (h4_0 h4_1:Int) (ce:CallE) (k:Kont) (s:Bool × Int × (List AV)) (next:St→Option AV):stepA (codeA c153 ce [] 153 0 (sub [1,1,1,1,0,1,0,0] (body Tryz.f153))) (normA [] [2,3,4,6,7,8]) next ((E153_0 h0 h1 h2_0 h2_1 h2_2 h4_0 h4_1) s) k=G153_0 h0 h1 h2_0 h2_1 h2_2 h4_0 h4_1 s.1 s.2.1 s.2.2 (fun s=>next ((E153_0 h0 h1 h2_0 h2_1 h2_2 h4_0 h4_1) s)) (K153_0 h0 h1 h2_0 h2_1 h2_2 h4_0 h4_1 k) none:=by kernel_rfl
theorem st153_0 (h0 h1 h2_0 h2_1 h2_2:List AV) (h4_0 h4_1:Int) (ce:CallE) (k:Kont) (s:(Bool × Int × (List AV))) (next:St→Option AV):stepA (codeA c153 ce [] 153 0 (sub [1,1,1,1,0,1,0,0] (body Tryz.f153))) (normA [] [2,3,4,6,7,8]) next ((E153_0 h0 h1 h2_0 h2_1 h2_2 h4_0 h4_1) s) k=(R153_0 h0 h1 h2_0 h2_1 h2_2 h4_0 h4_1 s).el none (fun s=>next ((E153_0 h0 h1 h2_0 h2_1 h2_2 h4_0 h4_1) s)) (K153_0 h0 h1 h2_0 h2_1 h2_2 h4_0 h4_1 k):=(s153_0 h0 h1 h2_0 h2_1 h2_2 h4_0 h4_1 ce k s next).trans (by unfold R153_0;unfold F153_0 G153_0;simp only [el_cond,el_ro,el_sum,el_fail,el_next,el_stop] <;> rfl)
theorem ok153_0 {ce:CallE}:LoopOK c153 ce [] 153 0 (sub [1,1,1,1,0,1,0,0] (body Tryz.f153)):=by
 intro m hm st k r h
 obtain rfl:l153_0=m:=Option.some.inj hm
 unfold l153_0 at h
 split at h
 ·rename_i g0 g1 g2 g3 g4 g5 g6 g7 g8 g9 g10 g11 t7 t8 g12 g13 h0 g14 g15 h1 g16 g17 h2_0 g18 h2_1 g19 h2_2 g20 g21 h3 g22 h4_0 h4_1 g23 g24 g25 g26 g27
  obtain ⟨hg,h⟩:=bif_some h
  simp only [Bool.and_eq_true] at hg
  obtain ⟨⟨⟨⟨⟨⟨⟨⟨⟨⟨⟨⟨⟨⟨⟨⟨⟨⟨⟨⟨⟨⟨⟨⟨⟨⟨⟨q0,q1⟩,q2⟩,q3⟩,q4⟩,q5⟩,q6⟩,q7⟩,q8⟩,q9⟩,q10⟩,q11⟩,q12⟩,q13⟩,q14⟩,q15⟩,q16⟩,q17⟩,q18⟩,q19⟩,q20⟩,q21⟩,q22⟩,q23⟩,q24⟩,q25⟩,q26⟩,q27⟩:=hg
  obtain rfl:=nE q0
  obtain rfl:=bE q1
  obtain rfl:=bE q2
  obtain rfl:=nE q3
  obtain rfl:=bE q4
  obtain rfl:=bE q5
  obtain rfl:=nE q6
  obtain rfl:=bE q7
  obtain rfl:=bE q8
  obtain rfl:=nE q9
  obtain rfl:=bE q10
  obtain rfl:=bE q11
  obtain rfl:=nE q12
  obtain rfl:=cE q13
  obtain rfl:=nE q14
  obtain rfl:=cE q15
  obtain rfl:=nE q16
  obtain rfl:=cE q17
  obtain rfl:=cE q18
  obtain rfl:=cE q19
  obtain rfl:=nE q20
  obtain rfl:=cE q21
  obtain rfl:=nE q22
  obtain rfl:=nE q23
  obtain rfl:=nE q24
  obtain rfl:=nE q25
  obtain rfl:=nE q26
  obtain rfl:=nE q27
  refine ⟨(((h2_2.length:Int) - t8:Int).toNat+1),?_⟩
  rw [← h]
  exact loop_run (E153_0 h0 h1 h2_0 h2_1 h2_2 h4_0 h4_1) (K153_0 h0 h1 h2_0 h2_1 h2_2 h4_0 h4_1 k) (st153_0 h0 h1 h2_0 h2_1 h2_2 h4_0 h4_1 ce k) _ (t7,t8,h3)
 ·cases h
def q153 (xa xb xc:List AV) (ya yb:Int):Bool:=(q69 xa xb xc && (ro (runW (R153_0 (v69_0 xa xb xc) (v69_1 xa xb xc) xa xb xc ya yb) (((xc.length:Int) - 0:Int).toNat+1) (false,0,([]:List AV))) false (fun p25=>(bif !p25.1 then ((decide ((p25.2.length+([AV.agg [AV.int .i64 ya,AV.int .i64 yb]]).length)*16≤140737488355328) && decide ((p25.2.length+([AV.agg [AV.int .i64 ya,AV.int .i64 yb]]).length)≤140737488355328)) && (q68 xa xb xc && (bif !(v68_0 xa xb xc) then q69 xa xb xc else (q68 (v69_0 xa xb xc) (v69_1 xa xb xc) (p25.2++([AV.agg [AV.int .i64 ya,AV.int .i64 yb]])) && (bif !(v68_0 (v69_0 xa xb xc) (v69_1 xa xb xc) (p25.2++([AV.agg [AV.int .i64 ya,AV.int .i64 yb]]))) then q69 xa xb xc else true))))) else (q68 xa xb xc && (bif !(v68_0 xa xb xc) then q69 xa xb xc else (q68 (v69_0 xa xb xc) (v69_1 xa xb xc) p25.2 && (bif !(v68_0 (v69_0 xa xb xc) (v69_1 xa xb xc) p25.2) then q69 xa xb xc else true))))))))
def v153_0 (xa xb xc:List AV) (ya yb:Int):List AV:=(v69_0 xa xb xc)
def v153_1 (xa xb xc:List AV) (ya yb:Int):List AV:=(v69_1 xa xb xc)
def v153_2 (xa xb xc:List AV) (ya yb:Int):List AV:=(ro (runW (R153_0 (v69_0 xa xb xc) (v69_1 xa xb xc) xa xb xc ya yb) (((xc.length:Int) - 0:Int).toNat+1) (false,0,([]:List AV))) [] (fun p25=>(bif !p25.1 then (bif !(v68_0 xa xb xc) then (v69_2 xa xb xc) else (bif !(v68_0 (v69_0 xa xb xc) (v69_1 xa xb xc) (p25.2++([AV.agg [AV.int .i64 ya,AV.int .i64 yb]]))) then (v69_2 xa xb xc) else p25.2++([AV.agg [AV.int .i64 ya,AV.int .i64 yb]]))) else (bif !(v68_0 xa xb xc) then (v69_2 xa xb xc) else (bif !(v68_0 (v69_0 xa xb xc) (v69_1 xa xb xc) p25.2) then (v69_2 xa xb xc) else p25.2)))))
def v153_3 (xa xb xc:List AV) (ya yb:Int):Bool:=(ro (runW (R153_0 (v69_0 xa xb xc) (v69_1 xa xb xc) xa xb xc ya yb) (((xc.length:Int) - 0:Int).toNat+1) (false,0,([]:List AV))) false (fun p25=>(bif !p25.1 then (bif !(v68_0 xa xb xc) then false else (bif !(v68_0 (v69_0 xa xb xc) (v69_1 xa xb xc) (p25.2++([AV.agg [AV.int .i64 ya,AV.int .i64 yb]]))) then false else true)) else (bif !(v68_0 xa xb xc) then false else (bif !(v68_0 (v69_0 xa xb xc) (v69_1 xa xb xc) p25.2) then false else true)))))
theorem e153 (xa xb xc:List AV) (ya yb:Int):funA c153 0 153 [AV.agg [AV.sl [.int .i64] xa,AV.sl [.int .i64] xb,AV.sl [.int .i64,.int .i64] xc],AV.agg [Ai ya,Ai yb]]=((fun (x1:List AV) (x2:List AV) (x3:List AV)=>(bif q69 xa xb xc then (ro (runW (R153_0 x1 x2 xa xb xc ya yb) (((xc.length:Int) - 0:Int).toNat+1) (false,0,([]:List AV))) none (fun p25=>(bif !p25.1 then (bif (decide ((p25.2.length+([AV.agg [Ai ya,Ai yb]]).length)*16≤140737488355328) && decide ((p25.2.length+([AV.agg [Ai ya,Ai yb]]).length)≤140737488355328)) then (bif q68 xa xb xc then (bif !(v68_0 xa xb xc) then (bif q69 xa xb xc then some (AV.tup [AV.agg [AV.fl [.int .i64] x1,AV.fl [.int .i64] x2,AV.fl [.int .i64,.int .i64] x3],AV.bool false])
 else none)
 else (bif q68 x1 x2 (p25.2++([AV.agg [Ai ya,Ai yb]])) then (bif !(v68_0 x1 x2 (p25.2++([AV.agg [Ai ya,Ai yb]]))) then (bif q69 xa xb xc then some (AV.tup [AV.agg [AV.fl [.int .i64] x1,AV.fl [.int .i64] x2,AV.fl [.int .i64,.int .i64] x3],AV.bool false])
 else none)
 else some (AV.tup [AV.agg [AV.fl [.int .i64] x1,AV.fl [.int .i64] x2,AV.fl [.int .i64,.int .i64] (p25.2++([AV.agg [Ai ya,Ai yb]]))],AV.bool true]))
 else none))
 else none)
 else none)
 else (bif q68 xa xb xc then (bif !(v68_0 xa xb xc) then (bif q69 xa xb xc then some (AV.tup [AV.agg [AV.fl [.int .i64] x1,AV.fl [.int .i64] x2,AV.fl [.int .i64,.int .i64] x3],AV.bool false])
 else none)
 else (bif q68 x1 x2 p25.2 then (bif !(v68_0 x1 x2 p25.2) then (bif q69 xa xb xc then some (AV.tup [AV.agg [AV.fl [.int .i64] x1,AV.fl [.int .i64] x2,AV.fl [.int .i64,.int .i64] x3],AV.bool false])
 else none)
 else some (AV.tup [AV.agg [AV.fl [.int .i64] x1,AV.fl [.int .i64] x2,AV.fl [.int .i64,.int .i64] p25.2],AV.bool true]))
 else none))
 else none))))
 else none)) (v69_0 xa xb xc) (v69_1 xa xb xc) (v69_2 xa xb xc)):=by kernel_rfl
theorem r153 (xa xb xc:List AV) (ya yb:Int) (h:q153 xa xb xc ya yb=true):funA c153 0 153 [AV.agg [AV.sl [.int .i64] xa,AV.sl [.int .i64] xb,AV.sl [.int .i64,.int .i64] xc],AV.agg [AV.int .i64 ya,AV.int .i64 yb]]=some (AV.tup [AV.agg [AV.fl [.int .i64] (v153_0 xa xb xc ya yb),AV.fl [.int .i64] (v153_1 xa xb xc ya yb),AV.fl [.int .i64,.int .i64] (v153_2 xa xb xc ya yb)],AV.bool (v153_3 xa xb xc ya yb)]):=by
 refine (e153 xa xb xc ya yb).trans ?_
 unfold q153 at h
 unfold v153_0 v153_1 v153_2 v153_3
 refine ifG (fun hc=>?_) (fun hc=>?_) <;> first|rw [hc] at h ⊢|rw [hc] at h|rw [hc]|skip
 ·refine roG (fun hc=>?_) (fun r hc=>?_) <;> first|rw [hc] at h ⊢|rw [hc] at h|rw [hc]|skip
  ·exact Bool.noConfusion h
  ·try simp only [ro] at h ⊢
   refine ifG (fun hc=>?_) (fun hc=>?_) <;> first|rw [hc] at h ⊢|rw [hc] at h|rw [hc]|skip
   ·refine ifG (fun hc=>?_) (fun hc=>?_) <;> first|rw [hc] at h ⊢|rw [hc] at h|rw [hc]|skip
    ·refine ifG (fun hc=>?_) (fun hc=>?_) <;> first|rw [hc] at h ⊢|rw [hc] at h|rw [hc]|skip
     ·refine ifG (fun hc=>?_) (fun hc=>?_) <;> first|rw [hc] at h ⊢|rw [hc] at h|rw [hc]|skip
      ·refine ifT ?_
       rfl
      ·refine ifG (fun hc=>?_) (fun hc=>?_) <;> first|rw [hc] at h ⊢|rw [hc] at h|rw [hc]|skip
       ·refine ifG (fun hc=>?_) (fun hc=>?_) <;> first|rw [hc] at h ⊢|rw [hc] at h|rw [hc]|skip
        ·refine ifT ?_
         rfl
        ·rfl
       ·first|exact Bool.noConfusion h|exact Bool.noConfusion hc
     ·first|exact Bool.noConfusion h|exact Bool.noConfusion hc
    ·first|exact Bool.noConfusion h|exact Bool.noConfusion hc
   ·refine ifG (fun hc=>?_) (fun hc=>?_) <;> first|rw [hc] at h ⊢|rw [hc] at h|rw [hc]|skip
    ·refine ifG (fun hc=>?_) (fun hc=>?_) <;> first|rw [hc] at h ⊢|rw [hc] at h|rw [hc]|skip
     ·refine ifT ?_
      rfl
     ·refine ifG (fun hc=>?_) (fun hc=>?_) <;> first|rw [hc] at h ⊢|rw [hc] at h|rw [hc]|skip
      ·refine ifG (fun hc=>?_) (fun hc=>?_) <;> first|rw [hc] at h ⊢|rw [hc] at h|rw [hc]|skip
       ·refine ifT ?_
        rfl
       ·rfl
      ·first|exact Bool.noConfusion h|exact Bool.noConfusion hc
    ·first|exact Bool.noConfusion h|exact Bool.noConfusion hc
 ·first|exact Bool.noConfusion h|exact Bool.noConfusion hc
def m153:TModel
 | [.agg [.sl g0 xa,.sl g1 xb,.sl g2 xc],.agg [.int .i64 ya,.int .i64 yb]]=>bif ctsEq g0 ([.int .i64]) && ctsEq g1 ([.int .i64]) && ctsEq g2 ([.int .i64,.int .i64]) then some (q153 xa xb xc ya yb,AV.tup [AV.agg [AV.fl [.int .i64] (v153_0 xa xb xc ya yb),AV.fl [.int .i64] (v153_1 xa xb xc ya yb),AV.fl [.int .i64,.int .i64] (v153_2 xa xb xc ya yb)],AV.bool (v153_3 xa xb xc ya yb)]) else none
 | _=>none
theorem k153:Known Tryz.prog 153:=⟨Tryz.f153,Tryz.func153,by kernel_rfl,by kernel_rfl⟩
theorem meets153:Meets Tryz.prog 153 m153:=by
 refine mt (lvl:=0) (cf:=c153) rfl mixed k153 Tryz.func153 (by kernel_rfl) (loops_cons ok153_0 noLoop) (allT_cons meets68 (allT_cons meets69 allT_nil)) allM_nil noI fun xs r h=>?_
 unfold m153 at h
 split at h
 ·rename_i g0 xa g1 xb g2 xc ya yb
  obtain ⟨hg,h⟩:=bif_pair h
  simp only [Bool.and_eq_true] at hg
  obtain ⟨⟨q0,q1⟩,q2⟩:=hg
  obtain rfl:=cE q0
  obtain rfl:=cE q1
  obtain rfl:=cE q2
  obtain ⟨h1,rfl⟩:=pair_inj h
  exact r153 xa xb xc ya yb h1
 ·cases h
noncomputable def c118:Cfg:=cfg Tryz.prog [(118,999,[4,5,6])] [(52,m52),(68,m68),(69,m69),(119,m119),(150,m150),(151,m151),(152,m152),(153,m153)] [] [] []
def q118 (xa xb xc:List AV) (a1:Int):Bool:=(q68 xa xb xc && (bif !(v68_0 xa xb xc) then q69 xa xb xc else (bif !(v52_0 a1 (-1000) 1000) then q69 xa xb xc else (q119 xa xb xc a1 && (bif (v119_1 xa xb xc a1) then q69 xa xb xc else (q150 xa xb xc a1 && (q151 xa (v150_0 xa xb xc a1) (v150_1 xa xb xc a1) a1 && (q152 xa xb xc (v151_0 xa (v150_0 xa xb xc a1) (v150_1 xa xb xc a1) a1) && q153 (v152_0 xa xb xc (v151_0 xa (v150_0 xa xb xc a1) (v150_1 xa xb xc a1) a1)) (v152_1 xa xb xc (v151_0 xa (v150_0 xa xb xc a1) (v150_1 xa xb xc a1) a1)) (v152_2 xa xb xc (v151_0 xa (v150_0 xa xb xc a1) (v150_1 xa xb xc a1) a1)) a1 (v151_1 xa (v150_0 xa xb xc a1) (v150_1 xa xb xc a1) a1)))))))))
def v118_0 (xa xb xc:List AV) (a1:Int):List AV:=(bif !(v68_0 xa xb xc) then (v69_0 xa xb xc) else (bif !(v52_0 a1 (-1000) 1000) then (v69_0 xa xb xc) else (bif (v119_1 xa xb xc a1) then (v69_0 xa xb xc) else (v153_0 (v152_0 xa xb xc (v151_0 xa (v150_0 xa xb xc a1) (v150_1 xa xb xc a1) a1)) (v152_1 xa xb xc (v151_0 xa (v150_0 xa xb xc a1) (v150_1 xa xb xc a1) a1)) (v152_2 xa xb xc (v151_0 xa (v150_0 xa xb xc a1) (v150_1 xa xb xc a1) a1)) a1 (v151_1 xa (v150_0 xa xb xc a1) (v150_1 xa xb xc a1) a1)))))
def v118_1 (xa xb xc:List AV) (a1:Int):List AV:=(bif !(v68_0 xa xb xc) then (v69_1 xa xb xc) else (bif !(v52_0 a1 (-1000) 1000) then (v69_1 xa xb xc) else (bif (v119_1 xa xb xc a1) then (v69_1 xa xb xc) else (v153_1 (v152_0 xa xb xc (v151_0 xa (v150_0 xa xb xc a1) (v150_1 xa xb xc a1) a1)) (v152_1 xa xb xc (v151_0 xa (v150_0 xa xb xc a1) (v150_1 xa xb xc a1) a1)) (v152_2 xa xb xc (v151_0 xa (v150_0 xa xb xc a1) (v150_1 xa xb xc a1) a1)) a1 (v151_1 xa (v150_0 xa xb xc a1) (v150_1 xa xb xc a1) a1)))))
def v118_2 (xa xb xc:List AV) (a1:Int):List AV:=(bif !(v68_0 xa xb xc) then (v69_2 xa xb xc) else (bif !(v52_0 a1 (-1000) 1000) then (v69_2 xa xb xc) else (bif (v119_1 xa xb xc a1) then (v69_2 xa xb xc) else (v153_2 (v152_0 xa xb xc (v151_0 xa (v150_0 xa xb xc a1) (v150_1 xa xb xc a1) a1)) (v152_1 xa xb xc (v151_0 xa (v150_0 xa xb xc a1) (v150_1 xa xb xc a1) a1)) (v152_2 xa xb xc (v151_0 xa (v150_0 xa xb xc a1) (v150_1 xa xb xc a1) a1)) a1 (v151_1 xa (v150_0 xa xb xc a1) (v150_1 xa xb xc a1) a1)))))
def v118_3 (xa xb xc:List AV) (a1:Int):List AV:=(bif !(v68_0 xa xb xc) then ([]:List AV) else (bif !(v52_0 a1 (-1000) 1000) then ([]:List AV) else (bif (v119_1 xa xb xc a1) then ([]:List AV) else (v151_0 xa (v150_0 xa xb xc a1) (v150_1 xa xb xc a1) a1))))
def v118_4 (xa xb xc:List AV) (a1:Int):Bool:=(bif !(v68_0 xa xb xc) then false else (bif !(v52_0 a1 (-1000) 1000) then false else true))
theorem e118 (xa xb xc:List AV) (a1:Int):funA c118 0 118 [AV.agg [AV.sl [.int .i64] xa,AV.sl [.int .i64] xb,AV.sl [.int .i64,.int .i64] xc],Ai a1]=((fun (x1:Int) (x2:Int)=>((fun (x3:List AV) (x4:Int)=>((fun (x5:List AV) (x6:List AV) (x7:List AV)=>(bif q68 xa xb xc then (bif !(v68_0 xa xb xc) then (bif q69 xa xb xc then some (AV.tup [AV.agg [AV.fl [.int .i64] (v69_0 xa xb xc),AV.fl [.int .i64] (v69_1 xa xb xc),AV.fl [.int .i64,.int .i64] (v69_2 xa xb xc)],AV.fl [.int .i64,.int .i64] ([]:List AV),AV.bool false])
 else none)
 else (bif !(v52_0 a1 (-1000) 1000) then (bif q69 xa xb xc then some (AV.tup [AV.agg [AV.fl [.int .i64] (v69_0 xa xb xc),AV.fl [.int .i64] (v69_1 xa xb xc),AV.fl [.int .i64,.int .i64] (v69_2 xa xb xc)],AV.fl [.int .i64,.int .i64] ([]:List AV),AV.bool false])
 else none)
 else (bif q119 xa xb xc a1 then (bif (v119_1 xa xb xc a1) then (bif q69 xa xb xc then some (AV.tup [AV.agg [AV.fl [.int .i64] (v69_0 xa xb xc),AV.fl [.int .i64] (v69_1 xa xb xc),AV.fl [.int .i64,.int .i64] (v69_2 xa xb xc)],AV.fl [.int .i64,.int .i64] ([]:List AV),AV.bool true])
 else none)
 else (bif q150 xa xb xc a1 then (bif q151 xa x1 x2 a1 then (bif q152 xa xb xc x3 then (bif q153 x5 x6 x7 a1 x4 then some (AV.tup [AV.agg [AV.fl [.int .i64] (v153_0 x5 x6 x7 a1 x4),AV.fl [.int .i64] (v153_1 x5 x6 x7 a1 x4),AV.fl [.int .i64,.int .i64] (v153_2 x5 x6 x7 a1 x4)],AV.fl [.int .i64,.int .i64] x3,AV.bool true])
 else none)
 else none)
 else none)
 else none))
 else none)))
 else none)) (v152_0 xa xb xc x3) (v152_1 xa xb xc x3) (v152_2 xa xb xc x3))) (v151_0 xa x1 x2 a1) (v151_1 xa x1 x2 a1))) (v150_0 xa xb xc a1) (v150_1 xa xb xc a1)):=by kernel_rfl
theorem r118 (xa xb xc:List AV) (a1:Int) (h:q118 xa xb xc a1=true):funA c118 0 118 [AV.agg [AV.sl [.int .i64] xa,AV.sl [.int .i64] xb,AV.sl [.int .i64,.int .i64] xc],AV.int .i64 a1]=some (AV.tup [AV.agg [AV.fl [.int .i64] (v118_0 xa xb xc a1),AV.fl [.int .i64] (v118_1 xa xb xc a1),AV.fl [.int .i64,.int .i64] (v118_2 xa xb xc a1)],AV.fl [.int .i64,.int .i64] (v118_3 xa xb xc a1),AV.bool (v118_4 xa xb xc a1)]):=by
 refine (e118 xa xb xc a1).trans ?_
 unfold q118 at h
 unfold v118_0 v118_1 v118_2 v118_3 v118_4
 refine ifG (fun hc=>?_) (fun hc=>?_) <;> first|rw [hc] at h ⊢|rw [hc] at h|rw [hc]|skip
 ·refine ifG (fun hc=>?_) (fun hc=>?_) <;> first|rw [hc] at h ⊢|rw [hc] at h|rw [hc]|skip
  ·refine ifG (fun hc=>?_) (fun hc=>?_) <;> first|rw [hc] at h ⊢|rw [hc] at h|rw [hc]|skip
   ·rfl
   ·first|exact Bool.noConfusion h|exact Bool.noConfusion hc
  ·refine ifG (fun hc=>?_) (fun hc=>?_) <;> first|rw [hc] at h ⊢|rw [hc] at h|rw [hc]|skip
   ·refine ifG (fun hc=>?_) (fun hc=>?_) <;> first|rw [hc] at h ⊢|rw [hc] at h|rw [hc]|skip
    ·rfl
    ·first|exact Bool.noConfusion h|exact Bool.noConfusion hc
   ·refine ifG (fun hc=>?_) (fun hc=>?_) <;> first|rw [hc] at h ⊢|rw [hc] at h|rw [hc]|skip
    ·refine ifG (fun hc=>?_) (fun hc=>?_) <;> first|rw [hc] at h ⊢|rw [hc] at h|rw [hc]|skip
     ·refine ifG (fun hc=>?_) (fun hc=>?_) <;> first|rw [hc] at h ⊢|rw [hc] at h|rw [hc]|skip
      ·rfl
      ·first|exact Bool.noConfusion h|exact Bool.noConfusion hc
     ·refine ifG (fun hc=>?_) (fun hc=>?_) <;> first|rw [hc] at h ⊢|rw [hc] at h|rw [hc]|skip
      ·refine ifG (fun hc=>?_) (fun hc=>?_) <;> first|rw [hc] at h ⊢|rw [hc] at h|rw [hc]|skip
       ·refine ifG (fun hc=>?_) (fun hc=>?_) <;> first|rw [hc] at h ⊢|rw [hc] at h|rw [hc]|skip
        ·refine ifG (fun hc=>?_) (fun hc=>?_) <;> first|rw [hc] at h ⊢|rw [hc] at h|rw [hc]|skip
         ·rfl
         ·first|exact Bool.noConfusion h|exact Bool.noConfusion hc
        ·first|exact Bool.noConfusion h|exact Bool.noConfusion hc
       ·first|exact Bool.noConfusion h|exact Bool.noConfusion hc
      ·first|exact Bool.noConfusion h|exact Bool.noConfusion hc
    ·first|exact Bool.noConfusion h|exact Bool.noConfusion hc
 ·first|exact Bool.noConfusion h|exact Bool.noConfusion hc
def m118:TModel
 | [.agg [.sl g0 xa,.sl g1 xb,.sl g2 xc],.int .i64 a1]=>bif ctsEq g0 ([.int .i64]) && ctsEq g1 ([.int .i64]) && ctsEq g2 ([.int .i64,.int .i64]) then some (q118 xa xb xc a1,AV.tup [AV.agg [AV.fl [.int .i64] (v118_0 xa xb xc a1),AV.fl [.int .i64] (v118_1 xa xb xc a1),AV.fl [.int .i64,.int .i64] (v118_2 xa xb xc a1)],AV.fl [.int .i64,.int .i64] (v118_3 xa xb xc a1),AV.bool (v118_4 xa xb xc a1)]) else none
 | _=>none
theorem k118:Known Tryz.prog 118:=⟨Tryz.f118,Tryz.func118,by kernel_rfl,by kernel_rfl⟩
theorem meets118:Meets Tryz.prog 118 m118:=by
 refine mt (lvl:=0) (cf:=c118) rfl mixed k118 Tryz.func118 (by kernel_rfl) noLoop (allT_cons meets52 (allT_cons meets68 (allT_cons meets69 (allT_cons meets119 (allT_cons meets150 (allT_cons meets151 (allT_cons meets152 (allT_cons meets153 allT_nil)))))))) allM_nil noI fun xs r h=>?_
 unfold m118 at h
 split at h
 ·rename_i g0 xa g1 xb g2 xc a1
  obtain ⟨hg,h⟩:=bif_pair h
  simp only [Bool.and_eq_true] at hg
  obtain ⟨⟨q0,q1⟩,q2⟩:=hg
  obtain rfl:=cE q0
  obtain rfl:=cE q1
  obtain rfl:=cE q2
  obtain ⟨h1,rfl⟩:=pair_inj h
  exact r118 xa xb xc a1 h1
 ·cases h
def G138_0 {β:Type} (t4:Int) (h0:List AV) (h1:List AV) (h3:List AV) (h5_0:List AV) (h5_1:Int) (h5_2:Int) (N:((Int × (List AV) × (List AV) × (List AV) × (List AV) × Int × Int))→β) (K:(((List AV) × (List AV) × (List AV) × (List AV) × Int × Int))→β) (d:β):β:=by
 refine (?f0:Int→(List AV)→Int→Int→(List AV)→(List AV)→(List AV)→β) (v96_0 h5_0 h5_1 h5_2 h0 h1 h3) (v96_1 h5_0 h5_1 h5_2 h0 h1 h3) (v96_2 h5_0 h5_1 h5_2 h0 h1 h3) (v96_3 h5_0 h5_1 h5_2 h0 h1 h3) (v96_4 h5_0 h5_1 h5_2 h0 h1 h3) (v96_5 h5_0 h5_1 h5_2 h0 h1 h3) (v96_6 h5_0 h5_1 h5_2 h0 h1 h3);intro x1 x2 x3 x4 x5 x6 x7
 exact (bif decide (t4 > 0) then (bif q96 h5_0 h5_1 h5_2 h0 h1 h3 then (bif q118 x5 x6 x7 x1 then N (IntKind.i64.wrap (t4 - 1),(v118_0 x5 x6 x7 x1),(v118_1 x5 x6 x7 x1),(v118_2 x5 x6 x7 x1),x2,x3,x4)
 else d)
 else d)
 else K (h0,h1,h3,h5_0,h5_1,h5_2))
def F138_0 (t4:Int) (h0 h1 h3 h5_0:List AV) (h5_1 h5_2:Int):Out ((Int × (List AV) × (List AV) × (List AV) × (List AV) × Int × Int)) (((List AV) × (List AV) × (List AV) × (List AV) × Int × Int)):=G138_0 t4 h0 h1 h3 h5_0 h5_1 h5_2 .next .stop .fail
def R138_0:((Int × (List AV) × (List AV) × (List AV) × (List AV) × Int × Int))→Out ((Int × (List AV) × (List AV) × (List AV) × (List AV) × Int × Int)) (((List AV) × (List AV) × (List AV) × (List AV) × Int × Int)):=fun s:Int × (List AV) × (List AV) × (List AV) × (List AV) × Int × Int=>F138_0 s.1 s.2.1 s.2.2.1 s.2.2.2.1 s.2.2.2.2.1 s.2.2.2.2.2.1 s.2.2.2.2.2.2
def E138_0:((Int × (List AV) × (List AV) × (List AV) × (List AV) × Int × Int))→St:=fun s:Int × (List AV) × (List AV) × (List AV) × (List AV) × Int × Int=>⟨[(0,AV.ptr [1] 0 0),(2,AV.ptr [0,2,0] 0 0),(3,AV.ptr [0,3,0] 0 0),(4,Ai s.1)],[([0,0,3,0],⟨false,[.int .i64],s.2.1⟩),([0,1,3,0],⟨false,[.int .i64],s.2.2.1⟩),([0,2,0],⟨true,[],[AV.agg [AV.snil,AV.snil,AV.snil]]⟩),([0,2,3,0],⟨false,[.int .i64,.int .i64],s.2.2.2.1⟩),([0,3,0],⟨true,[],[AV.agg [AV.own [0,0,3,0],AV.own [0,1,3,0],AV.own [0,2,3,0]]]⟩),([1],⟨true,[],[AV.agg [AV.sl [.int .u8] s.2.2.2.2.1,Ai s.2.2.2.2.2.1,Ai s.2.2.2.2.2.2]]⟩)]⟩
def K138_0 (k:Kont):(((List AV) × (List AV) × (List AV) × (List AV) × Int × Int))→Option AV:=fun p:(List AV) × (List AV) × (List AV) × (List AV) × Int × Int=>k (.exit 0) ⟨[(2,AV.ptr [0,2,0] 0 0),(3,AV.ptr [0,3,0] 0 0)],[([0,0,3,0],⟨false,[.int .i64],p.1⟩),([0,1,3,0],⟨false,[.int .i64],p.2.1⟩),([0,2,0],⟨true,[],[AV.agg [AV.snil,AV.snil,AV.snil]]⟩),([0,2,3,0],⟨false,[.int .i64,.int .i64],p.2.2.1⟩),([0,3,0],⟨true,[],[AV.agg [AV.own [0,0,3,0],AV.own [0,1,3,0],AV.own [0,2,3,0]]]⟩),([1],⟨true,[],[AV.agg [AV.sl [.int .u8] p.2.2.2.1,Ai p.2.2.2.2.1,Ai p.2.2.2.2.2]]⟩)]⟩
def l138_0:LModel:=fun _ _ st k=>match st with
 | ⟨[(0,.ptr g0 g1 g2),(2,.ptr g3 g4 g5),(3,.ptr g6 g7 g8),(4,.int .i64 t4)],[(g9,⟨false,g10,h0⟩),(g11,⟨false,g12,h1⟩),(g13,⟨true,[],[.agg [.snil,.snil,.snil]]⟩),(g14,⟨false,g15,h3⟩),(g16,⟨true,[],[.agg [.own g17,.own g18,.own g19]]⟩),(g20,⟨true,[],[.agg [.sl g21 h5_0,.int .i64 h5_1,.int .i64 h5_2]]⟩)]⟩=>bif nmEq g0 ([1]) && Nat.beq g1 0 && Nat.beq g2 0 && nmEq g3 ([0,2,0]) && Nat.beq g4 0 && Nat.beq g5 0 && nmEq g6 ([0,3,0]) && Nat.beq g7 0 && Nat.beq g8 0 && nmEq g9 ([0,0,3,0]) && ctsEq g10 ([.int .i64]) && nmEq g11 ([0,1,3,0]) && ctsEq g12 ([.int .i64]) && nmEq g13 ([0,2,0]) && nmEq g14 ([0,2,3,0]) && ctsEq g15 ([.int .i64,.int .i64]) && nmEq g16 ([0,3,0]) && nmEq g17 ([0,0,3,0]) && nmEq g18 ([0,1,3,0]) && nmEq g19 ([0,2,3,0]) && nmEq g20 ([1]) && ctsEq g21 ([.int .u8]) then ro (runW (R138_0) ((t4 - 0:Int).toNat+1) (t4,h0,h1,h3,h5_0,h5_1,h5_2)) none (K138_0 k) else none
 | _=>none
noncomputable def c138:Cfg:=cfg Tryz.prog [(138,0,[0,2,3,4]),(138,999,[2]),(138,1000,[2,3]),(138,1001,[0,2,3,4])] [(118,m118),(125,m125)] [(42,.g m42),(96,.g m96),(123,.g m123)] [] [(138,0,l138_0)]
theorem s138_0 (ce:CallE) (k:Kont) (s:Int × (List AV) × (List AV) × (List AV) × (List AV) × Int × Int) (next:St→Option AV):stepA (codeA c138 ce [0] 138 0 (sub [1,1,0,1,0,0] (body Tryz.f138))) (normA [0] [0,2,3,4]) next (E138_0 s) k=G138_0 s.1 s.2.1 s.2.2.1 s.2.2.2.1 s.2.2.2.2.1 s.2.2.2.2.2.1 s.2.2.2.2.2.2 (fun s=>next (E138_0 s)) (K138_0 k) none:=by kernel_rfl
theorem st138_0 (ce:CallE) (k:Kont) (s:(Int × (List AV) × (List AV) × (List AV) × (List AV) × Int × Int)) (next:St→Option AV):stepA (codeA c138 ce [0] 138 0 (sub [1,1,0,1,0,0] (body Tryz.f138))) (normA [0] [0,2,3,4]) next (E138_0 s) k=(R138_0 s).el none (fun s=>next (E138_0 s)) (K138_0 k):=(s138_0 ce k s next).trans (by unfold R138_0;unfold F138_0 G138_0;simp only [el_cond,el_ro,el_sum,el_fail,el_next,el_stop] <;> rfl)
theorem ok138_0 {ce:CallE}:LoopOK c138 ce [0] 138 0 (sub [1,1,0,1,0,0] (body Tryz.f138)):=by
 intro m hm st k r h
 obtain rfl:l138_0=m:=Option.some.inj hm
 unfold l138_0 at h
 split at h
 ·rename_i g0 g1 g2 g3 g4 g5 g6 g7 g8 t4 g9 g10 h0 g11 g12 h1 g13 g14 g15 h3 g16 g17 g18 g19 g20 g21 h5_0 h5_1 h5_2
  obtain ⟨hg,h⟩:=bif_some h
  simp only [Bool.and_eq_true] at hg
  obtain ⟨⟨⟨⟨⟨⟨⟨⟨⟨⟨⟨⟨⟨⟨⟨⟨⟨⟨⟨⟨⟨q0,q1⟩,q2⟩,q3⟩,q4⟩,q5⟩,q6⟩,q7⟩,q8⟩,q9⟩,q10⟩,q11⟩,q12⟩,q13⟩,q14⟩,q15⟩,q16⟩,q17⟩,q18⟩,q19⟩,q20⟩,q21⟩:=hg
  obtain rfl:=nE q0
  obtain rfl:=bE q1
  obtain rfl:=bE q2
  obtain rfl:=nE q3
  obtain rfl:=bE q4
  obtain rfl:=bE q5
  obtain rfl:=nE q6
  obtain rfl:=bE q7
  obtain rfl:=bE q8
  obtain rfl:=nE q9
  obtain rfl:=cE q10
  obtain rfl:=nE q11
  obtain rfl:=cE q12
  obtain rfl:=nE q13
  obtain rfl:=nE q14
  obtain rfl:=cE q15
  obtain rfl:=nE q16
  obtain rfl:=nE q17
  obtain rfl:=nE q18
  obtain rfl:=nE q19
  obtain rfl:=nE q20
  obtain rfl:=cE q21
  refine ⟨((t4 - 0:Int).toNat+1),?_⟩
  rw [← h]
  exact loop_run E138_0 (K138_0 k) (st138_0 ce k) _ (t4,h0,h1,h3,h5_0,h5_1,h5_2)
 ·cases h
def T138 {β:Type} (k:((List AV) × (List AV) × (List AV) × (List AV) × Int × Int)→β) (n:β) (ua:List AV) (ub:Int) (uc:Int):β:=by
 refine (?f0:(List AV)→(List AV)→Int→Int→β) (v123_0 14 ua ub uc) (v123_1 14 ua ub uc) (v123_2 14 ua ub uc) (v123_3 14 ua ub uc);intro x1 x2 x3 x4
 exact (bif q123 14 ua ub uc then (bif q125 x1 then (bif q42 5 x2 x3 x4 then (ro (runW (R138_0) (((v42_0 5 x2 x3 x4) - 0:Int).toNat+1) ((v42_0 5 x2 x3 x4),(v125_0 x1),(v125_1 x1),(v125_2 x1),(v42_1 5 x2 x3 x4),(v42_2 5 x2 x3 x4),(v42_3 5 x2 x3 x4))) n (fun p26=>k (p26.1,p26.2.1,p26.2.2.1,p26.2.2.2.1,p26.2.2.2.2.1,p26.2.2.2.2.2)))
 else n)
 else n)
 else n)
abbrev W138 (ua:List AV) (ub:Int) (uc:Int):Option ((List AV) × (List AV) × (List AV) × (List AV) × Int × Int):=T138 some none ua ub uc
theorem n138 {β:Type} (k:((List AV) × (List AV) × (List AV) × (List AV) × Int × Int)→β) (n:β) (ua:List AV) (ub:Int) (uc:Int):T138 k n ua ub uc=oe k n (W138 ua ub uc):=by
 unfold W138 T138
 simp only [oe_cond,oe_ro,oe_sum,oe_some,oe_none]
def q138 (ua:List AV) (ub uc:Int):Bool:=(W138 ua ub uc).isSome
def v138_0 (ua:List AV) (ub uc:Int):List AV:=oe (fun t=>t.1) [] (W138 ua ub uc)
def v138_1 (ua:List AV) (ub uc:Int):List AV:=oe (fun t=>t.2.1) [] (W138 ua ub uc)
def v138_2 (ua:List AV) (ub uc:Int):List AV:=oe (fun t=>t.2.2.1) [] (W138 ua ub uc)
def v138_3 (ua:List AV) (ub uc:Int):List AV:=oe (fun t=>t.2.2.2.1) [] (W138 ua ub uc)
def v138_4 (ua:List AV) (ub uc:Int):Int:=oe (fun t=>t.2.2.2.2.1) 0 (W138 ua ub uc)
def v138_5 (ua:List AV) (ub uc:Int):Int:=oe (fun t=>t.2.2.2.2.2) 0 (W138 ua ub uc)
theorem e138 (ua:List AV) (ub uc:Int) (K:List AV→List (Option Blk)→Option AV):inlA c138 1 138 [AV.ptr [1] 0 0] [0] (canH 1 [⟨true,[],[AV.agg [AV.sl [.int .u8] ua,Ai ub,Ai uc]]⟩]) (keepG Tryz.prog 1 [28] [] K)=T138 (fun t=>K [AV.agg [AV.fl [.int .i64] t.1,AV.fl [.int .i64] t.2.1,AV.fl [.int .i64,.int .i64] t.2.2.1]] [some ⟨true,[],[AV.agg [AV.sl [.int .u8] t.2.2.2.1,Ai t.2.2.2.2.1,Ai t.2.2.2.2.2]]⟩]) none ua ub uc:=by kernel_rfl
theorem r138 (ua:List AV) (ub uc:Int) (K:List AV→List (Option Blk)→Option AV) (h:q138 ua ub uc=true):inlA c138 1 138 [AV.ptr [1] 0 0] [0] (canH 1 [⟨true,[],[AV.agg [AV.sl [.int .u8] ua,AV.int .i64 ub,AV.int .i64 uc]]⟩]) (keepG Tryz.prog 1 [28] [] K)=K [AV.agg [AV.fl [.int .i64] (v138_0 ua ub uc),AV.fl [.int .i64] (v138_1 ua ub uc),AV.fl [.int .i64,.int .i64] (v138_2 ua ub uc)]] [some ⟨true,[],[AV.agg [AV.sl [.int .u8] (v138_3 ua ub uc),AV.int .i64 (v138_4 ua ub uc),AV.int .i64 (v138_5 ua ub uc)]]⟩]:=by
 refine ((e138 ua ub uc K).trans (n138 _ _ ua ub uc)).trans ?_
 unfold q138 at h
 unfold v138_0 v138_1 v138_2 v138_3 v138_4 v138_5
 generalize W138 ua ub uc=o at *
 cases o with
 | none=>cases h
 | some t=>rfl
def m138:GModel
 | [.ptr g0 g1 g2],[⟨true,[],[.agg [.sl g3 ua,.int .i64 ub,.int .i64 uc]]⟩]=>bif nmEq g0 ([1]) && Nat.beq g1 0 && Nat.beq g2 0 && ctsEq g3 ([.int .u8]) then some (q138 ua ub uc,[AV.agg [AV.fl [.int .i64] (v138_0 ua ub uc),AV.fl [.int .i64] (v138_1 ua ub uc),AV.fl [.int .i64,.int .i64] (v138_2 ua ub uc)]],[some ⟨true,[],[AV.agg [AV.sl [.int .u8] (v138_3 ua ub uc),AV.int .i64 (v138_4 ua ub uc),AV.int .i64 (v138_5 ua ub uc)]]⟩]) else none
 | _,_=>none
theorem k138:Known Tryz.prog 138:=⟨Tryz.f138,Tryz.func138,by kernel_rfl,by kernel_rfl⟩
theorem meets138:MeetsG Tryz.prog 138 m138:=by
 refine mg (rt:=[28]) (gs:=[]) (lvl:=0) (cf:=c138) rfl mixed k138 Tryz.func138 (by kernel_rfl) (loops_cons ok138_0 noLoop) (allT_cons meets118 (allT_cons meets125 allT_nil)) (allG_cons meets42 (allG_cons meets96 (allG_cons meets123 allM_nil))) noI fun xs bs r bs' h K=>?_
 unfold m138 at h
 split at h
 ·rename_i g0 g1 g2 g3 ua ub uc
  obtain ⟨hg,h⟩:=bif_pair h
  simp only [Bool.and_eq_true] at hg
  obtain ⟨⟨⟨q0,q1⟩,q2⟩,q3⟩:=hg
  obtain rfl:=nE q0
  obtain rfl:=bE q1
  obtain rfl:=bE q2
  obtain rfl:=cE q3
  obtain ⟨h1,rfl,rfl⟩:=trip_inj h
  exact r138 ua ub uc K h1
 ·cases h
noncomputable def c94:Cfg:=cfg Tryz.prog [(94,999,[2]),(94,1000,[2,3])] [] [(42,.g m42),(93,.g m93),(138,.g m138)] [] []
def T94 {β:Type} (k:((List AV) × (List AV) × (List AV) × (List AV) × Int × Int)→β) (n:β) (ua:List AV) (ub:Int) (uc:Int):β:=by
 refine (?f0:(List AV)→(List AV)→(List AV)→(List AV)→Int→Int→β) (v138_0 ua ub uc) (v138_1 ua ub uc) (v138_2 ua ub uc) (v138_3 ua ub uc) (v138_4 ua ub uc) (v138_5 ua ub uc);intro x1 x2 x3 x4 x5 x6
 refine (?f1:Int→(List AV)→Int→Int→β) (v42_0 12 x4 x5 x6) (v42_1 12 x4 x5 x6) (v42_2 12 x4 x5 x6) (v42_3 12 x4 x5 x6);intro x7 x8 x9 x10
 refine (?f2:Int→(List AV)→Int→Int→β) (v42_0 9 x8 x9 x10) (v42_1 9 x8 x9 x10) (v42_2 9 x8 x9 x10) (v42_3 9 x8 x9 x10);intro x11 x12 x13 x14
 exact (bif q138 ua ub uc then (bif q42 12 x4 x5 x6 then (bif decide (x7=0) then (bif decide ((x1.length:Int) > 0) then (bif q93 x8 x9 x10 ([AV.int .i64 0,AV.int .i64 999,AV.int .i64 1000,AV.int .i64 (-5)]) then (bif (decide (0≤0) && decide (0<(x1.length:Int))) then k (x1.set (0:Int).toNat (AV.agg [AV.int .i64 (v93_0 x8 x9 x10 ([AV.int .i64 0,AV.int .i64 999,AV.int .i64 1000,AV.int .i64 (-5)]))]),x2,x3,(v93_1 x8 x9 x10 ([AV.int .i64 0,AV.int .i64 999,AV.int .i64 1000,AV.int .i64 (-5)])),(v93_2 x8 x9 x10 ([AV.int .i64 0,AV.int .i64 999,AV.int .i64 1000,AV.int .i64 (-5)])),(v93_3 x8 x9 x10 ([AV.int .i64 0,AV.int .i64 999,AV.int .i64 1000,AV.int .i64 (-5)])))
 else n)
 else n)
 else k (x1,x2,x3,x8,x9,x10))
 else (bif decide (x7=1) then (bif q42 9 x8 x9 x10 then (bif q42 9 x12 x13 x14 then (bif (decide ((x3.length+([AV.agg [AV.int .i64 x11,AV.int .i64 (v42_0 9 x12 x13 x14)]]).length)*16≤140737488355328) && decide ((x3.length+([AV.agg [AV.int .i64 x11,AV.int .i64 (v42_0 9 x12 x13 x14)]]).length)≤140737488355328)) then k (x1,x2,x3++([AV.agg [AV.int .i64 x11,AV.int .i64 (v42_0 9 x12 x13 x14)]]),(v42_1 9 x12 x13 x14),(v42_2 9 x12 x13 x14),(v42_3 9 x12 x13 x14))
 else n)
 else n)
 else n)
 else (bif decide (x7=2) then (bif (decide ((x2.length+([AV.int .i64 0]).length)*8≤140737488355328) && decide ((x2.length+([AV.int .i64 0]).length)≤140737488355328)) then k (x1,x2++([AV.int .i64 0]),x3,x8,x9,x10)
 else n)
 else k (x1,x2,x3,x8,x9,x10))))
 else n)
 else n)
abbrev W94 (ua:List AV) (ub:Int) (uc:Int):Option ((List AV) × (List AV) × (List AV) × (List AV) × Int × Int):=T94 some none ua ub uc
theorem n94 {β:Type} (k:((List AV) × (List AV) × (List AV) × (List AV) × Int × Int)→β) (n:β) (ua:List AV) (ub:Int) (uc:Int):T94 k n ua ub uc=oe k n (W94 ua ub uc):=by
 unfold W94 T94
 simp only [oe_cond,oe_ro,oe_sum,oe_some,oe_none]
def q94 (ua:List AV) (ub uc:Int):Bool:=(W94 ua ub uc).isSome
def v94_0 (ua:List AV) (ub uc:Int):List AV:=oe (fun t=>t.1) [] (W94 ua ub uc)
def v94_1 (ua:List AV) (ub uc:Int):List AV:=oe (fun t=>t.2.1) [] (W94 ua ub uc)
def v94_2 (ua:List AV) (ub uc:Int):List AV:=oe (fun t=>t.2.2.1) [] (W94 ua ub uc)
def v94_3 (ua:List AV) (ub uc:Int):List AV:=oe (fun t=>t.2.2.2.1) [] (W94 ua ub uc)
def v94_4 (ua:List AV) (ub uc:Int):Int:=oe (fun t=>t.2.2.2.2.1) 0 (W94 ua ub uc)
def v94_5 (ua:List AV) (ub uc:Int):Int:=oe (fun t=>t.2.2.2.2.2) 0 (W94 ua ub uc)
theorem e94 (ua:List AV) (ub uc:Int) (K:List AV→List (Option Blk)→Option AV):inlA c94 1 94 [AV.ptr [1] 0 0] [0] (canH 1 [⟨true,[],[AV.agg [AV.sl [.int .u8] ua,Ai ub,Ai uc]]⟩]) (keepG Tryz.prog 1 [28] [] K)=T94 (fun t=>K [AV.agg [AV.fl [.int .i64] t.1,AV.fl [.int .i64] t.2.1,AV.fl [.int .i64,.int .i64] t.2.2.1]] [some ⟨true,[],[AV.agg [AV.sl [.int .u8] t.2.2.2.1,Ai t.2.2.2.2.1,Ai t.2.2.2.2.2]]⟩]) none ua ub uc:=by kernel_rfl
theorem r94 (ua:List AV) (ub uc:Int) (K:List AV→List (Option Blk)→Option AV) (h:q94 ua ub uc=true):inlA c94 1 94 [AV.ptr [1] 0 0] [0] (canH 1 [⟨true,[],[AV.agg [AV.sl [.int .u8] ua,AV.int .i64 ub,AV.int .i64 uc]]⟩]) (keepG Tryz.prog 1 [28] [] K)=K [AV.agg [AV.fl [.int .i64] (v94_0 ua ub uc),AV.fl [.int .i64] (v94_1 ua ub uc),AV.fl [.int .i64,.int .i64] (v94_2 ua ub uc)]] [some ⟨true,[],[AV.agg [AV.sl [.int .u8] (v94_3 ua ub uc),AV.int .i64 (v94_4 ua ub uc),AV.int .i64 (v94_5 ua ub uc)]]⟩]:=by
 refine ((e94 ua ub uc K).trans (n94 _ _ ua ub uc)).trans ?_
 unfold q94 at h
 unfold v94_0 v94_1 v94_2 v94_3 v94_4 v94_5
 generalize W94 ua ub uc=o at *
 cases o with
 | none=>cases h
 | some t=>rfl
def m94:GModel
 | [.ptr g0 g1 g2],[⟨true,[],[.agg [.sl g3 ua,.int .i64 ub,.int .i64 uc]]⟩]=>bif nmEq g0 ([1]) && Nat.beq g1 0 && Nat.beq g2 0 && ctsEq g3 ([.int .u8]) then some (q94 ua ub uc,[AV.agg [AV.fl [.int .i64] (v94_0 ua ub uc),AV.fl [.int .i64] (v94_1 ua ub uc),AV.fl [.int .i64,.int .i64] (v94_2 ua ub uc)]],[some ⟨true,[],[AV.agg [AV.sl [.int .u8] (v94_3 ua ub uc),AV.int .i64 (v94_4 ua ub uc),AV.int .i64 (v94_5 ua ub uc)]]⟩]) else none
 | _,_=>none
theorem k94:Known Tryz.prog 94:=⟨Tryz.f94,Tryz.func94,by kernel_rfl,by kernel_rfl⟩
theorem meets94:MeetsG Tryz.prog 94 m94:=by
 refine mg (rt:=[28]) (gs:=[]) (lvl:=0) (cf:=c94) rfl mixed k94 Tryz.func94 (by kernel_rfl) noLoop allT_nil (allG_cons meets42 (allG_cons meets93 (allG_cons meets138 allM_nil))) noI fun xs bs r bs' h K=>?_
 unfold m94 at h
 split at h
 ·rename_i g0 g1 g2 g3 ua ub uc
  obtain ⟨hg,h⟩:=bif_pair h
  simp only [Bool.and_eq_true] at hg
  obtain ⟨⟨⟨q0,q1⟩,q2⟩,q3⟩:=hg
  obtain rfl:=nE q0
  obtain rfl:=bE q1
  obtain rfl:=bE q2
  obtain rfl:=cE q3
  obtain ⟨h1,rfl,rfl⟩:=trip_inj h
  exact r94 ua ub uc K h1
 ·cases h
noncomputable def c139:Cfg:=cfg Tryz.prog [(139,999,[2])] [] [(42,.g m42),(93,.g m93)] [] []
def T139 {β:Type} (k:(Int × Int × (List AV) × Int × Int)→β) (n:β) (ua:List AV) (ub:Int) (uc:Int):β:=by
 refine (?f0:Int→(List AV)→Int→Int→β) (v93_0 ua ub uc ([AV.int .i64 3,AV.int .i64 10,AV.int .i64 30,AV.int .i64 1000])) (v93_1 ua ub uc ([AV.int .i64 3,AV.int .i64 10,AV.int .i64 30,AV.int .i64 1000])) (v93_2 ua ub uc ([AV.int .i64 3,AV.int .i64 10,AV.int .i64 30,AV.int .i64 1000])) (v93_3 ua ub uc ([AV.int .i64 3,AV.int .i64 10,AV.int .i64 30,AV.int .i64 1000]));intro x1 x2 x3 x4
 refine (?f1:Int→(List AV)→Int→Int→β) (v42_0 x1 x2 x3 x4) (v42_1 x1 x2 x3 x4) (v42_2 x1 x2 x3 x4) (v42_3 x1 x2 x3 x4);intro x5 x6 x7 x8
 exact (bif q93 ua ub uc ([AV.int .i64 3,AV.int .i64 10,AV.int .i64 30,AV.int .i64 1000]) then (bif q42 x1 x2 x3 x4 then (bif !decide (3=0) then (bif q42 x1 x6 x7 x8 then k (IntKind.i64.wrap (x5 - IntKind.i64.wrap (Int.tdiv x1 3)),(if IntKind.i64.wrap (IntKind.i64.wrap (x5 - IntKind.i64.wrap (Int.tdiv x1 3))+(v42_0 x1 x6 x7 x8))<1000 then IntKind.i64.wrap (IntKind.i64.wrap (x5 - IntKind.i64.wrap (Int.tdiv x1 3))+(v42_0 x1 x6 x7 x8)) else 1000),(v42_1 x1 x6 x7 x8),(v42_2 x1 x6 x7 x8),(v42_3 x1 x6 x7 x8))
 else n)
 else n)
 else n)
 else n)
abbrev W139 (ua:List AV) (ub:Int) (uc:Int):Option (Int × Int × (List AV) × Int × Int):=T139 some none ua ub uc
theorem n139 {β:Type} (k:(Int × Int × (List AV) × Int × Int)→β) (n:β) (ua:List AV) (ub:Int) (uc:Int):T139 k n ua ub uc=oe k n (W139 ua ub uc):=by
 unfold W139 T139
 simp only [oe_cond,oe_ro,oe_sum,oe_some,oe_none]
def q139 (ua:List AV) (ub uc:Int):Bool:=(W139 ua ub uc).isSome
def v139_0 (ua:List AV) (ub uc:Int):Int:=oe (fun t=>t.1) 0 (W139 ua ub uc)
def v139_1 (ua:List AV) (ub uc:Int):Int:=oe (fun t=>t.2.1) 0 (W139 ua ub uc)
def v139_2 (ua:List AV) (ub uc:Int):List AV:=oe (fun t=>t.2.2.1) [] (W139 ua ub uc)
def v139_3 (ua:List AV) (ub uc:Int):Int:=oe (fun t=>t.2.2.2.1) 0 (W139 ua ub uc)
def v139_4 (ua:List AV) (ub uc:Int):Int:=oe (fun t=>t.2.2.2.2) 0 (W139 ua ub uc)
theorem e139 (ua:List AV) (ub uc:Int) (K:List AV→List (Option Blk)→Option AV):inlA c139 1 139 [AV.ptr [1] 0 0] [0] (canH 1 [⟨true,[],[AV.agg [AV.sl [.int .u8] ua,Ai ub,Ai uc]]⟩]) (keepG Tryz.prog 1 [32] [] K)=T139 (fun t=>K [AV.agg [Ai t.1,Ai t.2.1]] [some ⟨true,[],[AV.agg [AV.sl [.int .u8] t.2.2.1,Ai t.2.2.2.1,Ai t.2.2.2.2]]⟩]) none ua ub uc:=by kernel_rfl
theorem r139 (ua:List AV) (ub uc:Int) (K:List AV→List (Option Blk)→Option AV) (h:q139 ua ub uc=true):inlA c139 1 139 [AV.ptr [1] 0 0] [0] (canH 1 [⟨true,[],[AV.agg [AV.sl [.int .u8] ua,AV.int .i64 ub,AV.int .i64 uc]]⟩]) (keepG Tryz.prog 1 [32] [] K)=K [AV.agg [AV.int .i64 (v139_0 ua ub uc),AV.int .i64 (v139_1 ua ub uc)]] [some ⟨true,[],[AV.agg [AV.sl [.int .u8] (v139_2 ua ub uc),AV.int .i64 (v139_3 ua ub uc),AV.int .i64 (v139_4 ua ub uc)]]⟩]:=by
 refine ((e139 ua ub uc K).trans (n139 _ _ ua ub uc)).trans ?_
 unfold q139 at h
 unfold v139_0 v139_1 v139_2 v139_3 v139_4
 generalize W139 ua ub uc=o at *
 cases o with
 | none=>cases h
 | some t=>rfl
def m139:GModel
 | [.ptr g0 g1 g2],[⟨true,[],[.agg [.sl g3 ua,.int .i64 ub,.int .i64 uc]]⟩]=>bif nmEq g0 ([1]) && Nat.beq g1 0 && Nat.beq g2 0 && ctsEq g3 ([.int .u8]) then some (q139 ua ub uc,[AV.agg [AV.int .i64 (v139_0 ua ub uc),AV.int .i64 (v139_1 ua ub uc)]],[some ⟨true,[],[AV.agg [AV.sl [.int .u8] (v139_2 ua ub uc),AV.int .i64 (v139_3 ua ub uc),AV.int .i64 (v139_4 ua ub uc)]]⟩]) else none
 | _,_=>none
theorem k139:Known Tryz.prog 139:=⟨Tryz.f139,Tryz.func139,by kernel_rfl,by kernel_rfl⟩
theorem meets139:MeetsG Tryz.prog 139 m139:=by
 refine mg (rt:=[32]) (gs:=[]) (lvl:=0) (cf:=c139) rfl mixed k139 Tryz.func139 (by kernel_rfl) noLoop allT_nil (allG_cons meets42 (allG_cons meets93 allM_nil)) noI fun xs bs r bs' h K=>?_
 unfold m139 at h
 split at h
 ·rename_i g0 g1 g2 g3 ua ub uc
  obtain ⟨hg,h⟩:=bif_pair h
  simp only [Bool.and_eq_true] at hg
  obtain ⟨⟨⟨q0,q1⟩,q2⟩,q3⟩:=hg
  obtain rfl:=nE q0
  obtain rfl:=bE q1
  obtain rfl:=bE q2
  obtain rfl:=cE q3
  obtain ⟨h1,rfl,rfl⟩:=trip_inj h
  exact r139 ua ub uc K h1
 ·cases h
noncomputable def c98:Cfg:=cfg Tryz.prog [(98,999,[2]),(98,1000,[2,3])] [] [(42,.g m42),(93,.g m93),(139,.g m139)] [] []
def T98 {β:Type} (k:(Int × Int × (List AV) × Int × Int)→β) (n:β) (ua:List AV) (ub:Int) (uc:Int):β:=by
 refine (?f0:Int→Int→(List AV)→Int→Int→β) (v139_0 ua ub uc) (v139_1 ua ub uc) (v139_2 ua ub uc) (v139_3 ua ub uc) (v139_4 ua ub uc);intro x1 x2 x3 x4 x5
 refine (?f1:Int→(List AV)→Int→Int→β) (v42_0 10 x3 x4 x5) (v42_1 10 x3 x4 x5) (v42_2 10 x3 x4 x5) (v42_3 10 x3 x4 x5);intro x6 x7 x8 x9
 refine (?f2:Int→(List AV)→Int→Int→β) (v93_0 x7 x8 x9 ([AV.int .i64 (-1001),AV.int .i64 (-1000),AV.int .i64 1000,AV.int .i64 1001])) (v93_1 x7 x8 x9 ([AV.int .i64 (-1001),AV.int .i64 (-1000),AV.int .i64 1000,AV.int .i64 1001])) (v93_2 x7 x8 x9 ([AV.int .i64 (-1001),AV.int .i64 (-1000),AV.int .i64 1000,AV.int .i64 1001])) (v93_3 x7 x8 x9 ([AV.int .i64 (-1001),AV.int .i64 (-1000),AV.int .i64 1000,AV.int .i64 1001]));intro x10 x11 x12 x13
 exact (bif q139 ua ub uc then (bif q42 10 x3 x4 x5 then (bif decide (x6=0) then (bif q93 x7 x8 x9 ([AV.int .i64 (-1001),AV.int .i64 (-1000),AV.int .i64 1000,AV.int .i64 1001]) then k (x10,x2,x11,x12,x13)
 else n)
 else (bif decide (x6=1) then (bif q93 x7 x8 x9 ([AV.int .i64 (-1001),AV.int .i64 (-1000),AV.int .i64 1000,AV.int .i64 1001]) then k (x1,x10,x11,x12,x13)
 else n)
 else k (x1,x2,x7,x8,x9)))
 else n)
 else n)
abbrev W98 (ua:List AV) (ub:Int) (uc:Int):Option (Int × Int × (List AV) × Int × Int):=T98 some none ua ub uc
theorem n98 {β:Type} (k:(Int × Int × (List AV) × Int × Int)→β) (n:β) (ua:List AV) (ub:Int) (uc:Int):T98 k n ua ub uc=oe k n (W98 ua ub uc):=by
 unfold W98 T98
 simp only [oe_cond,oe_ro,oe_sum,oe_some,oe_none]
def q98 (ua:List AV) (ub uc:Int):Bool:=(W98 ua ub uc).isSome
def v98_0 (ua:List AV) (ub uc:Int):Int:=oe (fun t=>t.1) 0 (W98 ua ub uc)
def v98_1 (ua:List AV) (ub uc:Int):Int:=oe (fun t=>t.2.1) 0 (W98 ua ub uc)
def v98_2 (ua:List AV) (ub uc:Int):List AV:=oe (fun t=>t.2.2.1) [] (W98 ua ub uc)
def v98_3 (ua:List AV) (ub uc:Int):Int:=oe (fun t=>t.2.2.2.1) 0 (W98 ua ub uc)
def v98_4 (ua:List AV) (ub uc:Int):Int:=oe (fun t=>t.2.2.2.2) 0 (W98 ua ub uc)
theorem e98 (ua:List AV) (ub uc:Int) (K:List AV→List (Option Blk)→Option AV):inlA c98 1 98 [AV.ptr [1] 0 0] [0] (canH 1 [⟨true,[],[AV.agg [AV.sl [.int .u8] ua,Ai ub,Ai uc]]⟩]) (keepG Tryz.prog 1 [32] [] K)=T98 (fun t=>K [AV.agg [Ai t.1,Ai t.2.1]] [some ⟨true,[],[AV.agg [AV.sl [.int .u8] t.2.2.1,Ai t.2.2.2.1,Ai t.2.2.2.2]]⟩]) none ua ub uc:=by kernel_rfl
theorem r98 (ua:List AV) (ub uc:Int) (K:List AV→List (Option Blk)→Option AV) (h:q98 ua ub uc=true):inlA c98 1 98 [AV.ptr [1] 0 0] [0] (canH 1 [⟨true,[],[AV.agg [AV.sl [.int .u8] ua,AV.int .i64 ub,AV.int .i64 uc]]⟩]) (keepG Tryz.prog 1 [32] [] K)=K [AV.agg [AV.int .i64 (v98_0 ua ub uc),AV.int .i64 (v98_1 ua ub uc)]] [some ⟨true,[],[AV.agg [AV.sl [.int .u8] (v98_2 ua ub uc),AV.int .i64 (v98_3 ua ub uc),AV.int .i64 (v98_4 ua ub uc)]]⟩]:=by
 refine ((e98 ua ub uc K).trans (n98 _ _ ua ub uc)).trans ?_
 unfold q98 at h
 unfold v98_0 v98_1 v98_2 v98_3 v98_4
 generalize W98 ua ub uc=o at *
 cases o with
 | none=>cases h
 | some t=>rfl
def m98:GModel
 | [.ptr g0 g1 g2],[⟨true,[],[.agg [.sl g3 ua,.int .i64 ub,.int .i64 uc]]⟩]=>bif nmEq g0 ([1]) && Nat.beq g1 0 && Nat.beq g2 0 && ctsEq g3 ([.int .u8]) then some (q98 ua ub uc,[AV.agg [AV.int .i64 (v98_0 ua ub uc),AV.int .i64 (v98_1 ua ub uc)]],[some ⟨true,[],[AV.agg [AV.sl [.int .u8] (v98_2 ua ub uc),AV.int .i64 (v98_3 ua ub uc),AV.int .i64 (v98_4 ua ub uc)]]⟩]) else none
 | _,_=>none
theorem k98:Known Tryz.prog 98:=⟨Tryz.f98,Tryz.func98,by kernel_rfl,by kernel_rfl⟩
theorem meets98:MeetsG Tryz.prog 98 m98:=by
 refine mg (rt:=[32]) (gs:=[]) (lvl:=0) (cf:=c98) rfl mixed k98 Tryz.func98 (by kernel_rfl) noLoop allT_nil (allG_cons meets42 (allG_cons meets93 (allG_cons meets139 allM_nil))) noI fun xs bs r bs' h K=>?_
 unfold m98 at h
 split at h
 ·rename_i g0 g1 g2 g3 ua ub uc
  obtain ⟨hg,h⟩:=bif_pair h
  simp only [Bool.and_eq_true] at hg
  obtain ⟨⟨⟨q0,q1⟩,q2⟩,q3⟩:=hg
  obtain rfl:=nE q0
  obtain rfl:=bE q1
  obtain rfl:=bE q2
  obtain rfl:=cE q3
  obtain ⟨h1,rfl,rfl⟩:=trip_inj h
  exact r98 ua ub uc K h1
 ·cases h
noncomputable def c43:Cfg:=cfg Tryz.prog [(43,999,[4])] [] [(96,.g m96),(97,.g m97),(98,.g m98)] [] []
def T43 {β:Type} (k:(Int × Int × (List AV) × Int × Int × (List AV) × (List AV) × (List AV))→β) (n:β) (ua:List AV) (ub:Int) (uc:Int) (b1:List AV) (b2:List AV) (b3:List AV):β:=by
 refine (?f0:Int→(List AV)→Int→Int→(List AV)→(List AV)→(List AV)→β) (v96_0 ua ub uc b1 b2 b3) (v96_1 ua ub uc b1 b2 b3) (v96_2 ua ub uc b1 b2 b3) (v96_3 ua ub uc b1 b2 b3) (v96_4 ua ub uc b1 b2 b3) (v96_5 ua ub uc b1 b2 b3) (v96_6 ua ub uc b1 b2 b3);intro x1 x2 x3 x4 x5 x6 x7
 refine (?f1:Int→(List AV)→Int→Int→(List AV)→(List AV)→(List AV)→β) (v96_0 x2 x3 x4 x5 x6 x7) (v96_1 x2 x3 x4 x5 x6 x7) (v96_2 x2 x3 x4 x5 x6 x7) (v96_3 x2 x3 x4 x5 x6 x7) (v96_4 x2 x3 x4 x5 x6 x7) (v96_5 x2 x3 x4 x5 x6 x7) (v96_6 x2 x3 x4 x5 x6 x7);intro x8 x9 x10 x11 x12 x13 x14
 refine (?f2:Bool→(List AV)→Int→Int→β) (v97_0 12 x9 x10 x11) (v97_1 12 x9 x10 x11) (v97_2 12 x9 x10 x11) (v97_3 12 x9 x10 x11);intro x15 x16 x17 x18
 exact (bif q96 ua ub uc b1 b2 b3 then (bif q96 x2 x3 x4 x5 x6 x7 then (bif q97 12 x9 x10 x11 then (bif x15 then (bif q98 x16 x17 x18 then k ((v98_0 x16 x17 x18),(v98_1 x16 x17 x18),(v98_2 x16 x17 x18),(v98_3 x16 x17 x18),(v98_4 x16 x17 x18),x12,x13,x14)
 else n)
 else k ((if x8<x1 then x8 else x1),(if x8 > x1 then x8 else x1),x16,x17,x18,x12,x13,x14))
 else n)
 else n)
 else n)
abbrev W43 (ua:List AV) (ub:Int) (uc:Int) (b1:List AV) (b2:List AV) (b3:List AV):Option (Int × Int × (List AV) × Int × Int × (List AV) × (List AV) × (List AV)):=T43 some none ua ub uc b1 b2 b3
theorem n43 {β:Type} (k:(Int × Int × (List AV) × Int × Int × (List AV) × (List AV) × (List AV))→β) (n:β) (ua:List AV) (ub:Int) (uc:Int) (b1:List AV) (b2:List AV) (b3:List AV):T43 k n ua ub uc b1 b2 b3=oe k n (W43 ua ub uc b1 b2 b3):=by
 unfold W43 T43
 simp only [oe_cond,oe_ro,oe_sum,oe_some,oe_none]
def q43 (ua:List AV) (ub uc:Int) (b1 b2 b3:List AV):Bool:=(W43 ua ub uc b1 b2 b3).isSome
def v43_0 (ua:List AV) (ub uc:Int) (b1 b2 b3:List AV):Int:=oe (fun t=>t.1) 0 (W43 ua ub uc b1 b2 b3)
def v43_1 (ua:List AV) (ub uc:Int) (b1 b2 b3:List AV):Int:=oe (fun t=>t.2.1) 0 (W43 ua ub uc b1 b2 b3)
def v43_2 (ua:List AV) (ub uc:Int) (b1 b2 b3:List AV):List AV:=oe (fun t=>t.2.2.1) [] (W43 ua ub uc b1 b2 b3)
def v43_3 (ua:List AV) (ub uc:Int) (b1 b2 b3:List AV):Int:=oe (fun t=>t.2.2.2.1) 0 (W43 ua ub uc b1 b2 b3)
def v43_4 (ua:List AV) (ub uc:Int) (b1 b2 b3:List AV):Int:=oe (fun t=>t.2.2.2.2.1) 0 (W43 ua ub uc b1 b2 b3)
def v43_5 (ua:List AV) (ub uc:Int) (b1 b2 b3:List AV):List AV:=oe (fun t=>t.2.2.2.2.2.1) [] (W43 ua ub uc b1 b2 b3)
def v43_6 (ua:List AV) (ub uc:Int) (b1 b2 b3:List AV):List AV:=oe (fun t=>t.2.2.2.2.2.2.1) [] (W43 ua ub uc b1 b2 b3)
def v43_7 (ua:List AV) (ub uc:Int) (b1 b2 b3:List AV):List AV:=oe (fun t=>t.2.2.2.2.2.2.2) [] (W43 ua ub uc b1 b2 b3)
theorem e43 (ua:List AV) (ub uc:Int) (b1 b2 b3:List AV) (K:List AV→List (Option Blk)→Option AV):inlA c43 1 43 [AV.ptr [1] 0 0,AV.agg [AV.own [2],AV.own [3],AV.own [4]]] [0] (canH 1 [⟨true,[],[AV.agg [AV.sl [.int .u8] ua,Ai ub,Ai uc]]⟩,⟨false,[.int .i64],b1⟩,⟨false,[.int .i64],b2⟩,⟨false,[.int .i64,.int .i64],b3⟩]) (keepG Tryz.prog 4 [32] [] K)=T43 (fun t=>K [AV.agg [Ai t.1,Ai t.2.1]] [some ⟨true,[],[AV.agg [AV.sl [.int .u8] t.2.2.1,Ai t.2.2.2.1,Ai t.2.2.2.2.1]]⟩,some ⟨false,[.int .i64],t.2.2.2.2.2.1⟩,some ⟨false,[.int .i64],t.2.2.2.2.2.2.1⟩,some ⟨false,[.int .i64,.int .i64],t.2.2.2.2.2.2.2⟩]) none ua ub uc b1 b2 b3:=by kernel_rfl
theorem r43 (ua:List AV) (ub uc:Int) (b1 b2 b3:List AV) (K:List AV→List (Option Blk)→Option AV) (h:q43 ua ub uc b1 b2 b3=true):inlA c43 1 43 [AV.ptr [1] 0 0,AV.agg [AV.own [2],AV.own [3],AV.own [4]]] [0] (canH 1 [⟨true,[],[AV.agg [AV.sl [.int .u8] ua,AV.int .i64 ub,AV.int .i64 uc]]⟩,⟨false,[.int .i64],b1⟩,⟨false,[.int .i64],b2⟩,⟨false,[.int .i64,.int .i64],b3⟩]) (keepG Tryz.prog 4 [32] [] K)=K [AV.agg [AV.int .i64 (v43_0 ua ub uc b1 b2 b3),AV.int .i64 (v43_1 ua ub uc b1 b2 b3)]] [some ⟨true,[],[AV.agg [AV.sl [.int .u8] (v43_2 ua ub uc b1 b2 b3),AV.int .i64 (v43_3 ua ub uc b1 b2 b3),AV.int .i64 (v43_4 ua ub uc b1 b2 b3)]]⟩,some ⟨false,[.int .i64],(v43_5 ua ub uc b1 b2 b3)⟩,some ⟨false,[.int .i64],(v43_6 ua ub uc b1 b2 b3)⟩,some ⟨false,[.int .i64,.int .i64],(v43_7 ua ub uc b1 b2 b3)⟩]:=by
 refine ((e43 ua ub uc b1 b2 b3 K).trans (n43 _ _ ua ub uc b1 b2 b3)).trans ?_
 unfold q43 at h
 unfold v43_0 v43_1 v43_2 v43_3 v43_4 v43_5 v43_6 v43_7
 generalize W43 ua ub uc b1 b2 b3=o at *
 cases o with
 | none=>cases h
 | some t=>rfl
def m43:GModel
 | [.ptr g0 g1 g2,.agg [.own g3,.own g4,.own g5]],[⟨true,[],[.agg [.sl g6 ua,.int .i64 ub,.int .i64 uc]]⟩,⟨false,g7,b1⟩,⟨false,g8,b2⟩,⟨false,g9,b3⟩]=>bif nmEq g0 ([1]) && Nat.beq g1 0 && Nat.beq g2 0 && nmEq g3 ([2]) && nmEq g4 ([3]) && nmEq g5 ([4]) && ctsEq g6 ([.int .u8]) && ctsEq g7 ([.int .i64]) && ctsEq g8 ([.int .i64]) && ctsEq g9 ([.int .i64,.int .i64]) then some (q43 ua ub uc b1 b2 b3,[AV.agg [AV.int .i64 (v43_0 ua ub uc b1 b2 b3),AV.int .i64 (v43_1 ua ub uc b1 b2 b3)]],[some ⟨true,[],[AV.agg [AV.sl [.int .u8] (v43_2 ua ub uc b1 b2 b3),AV.int .i64 (v43_3 ua ub uc b1 b2 b3),AV.int .i64 (v43_4 ua ub uc b1 b2 b3)]]⟩,some ⟨false,[.int .i64],(v43_5 ua ub uc b1 b2 b3)⟩,some ⟨false,[.int .i64],(v43_6 ua ub uc b1 b2 b3)⟩,some ⟨false,[.int .i64,.int .i64],(v43_7 ua ub uc b1 b2 b3)⟩]) else none
 | _,_=>none
theorem k43:Known Tryz.prog 43:=⟨Tryz.f43,Tryz.func43,by kernel_rfl,by kernel_rfl⟩
theorem meets43:MeetsG Tryz.prog 43 m43:=by
 refine mg (rt:=[32]) (gs:=[]) (lvl:=0) (cf:=c43) rfl mixed k43 Tryz.func43 (by kernel_rfl) noLoop allT_nil (allG_cons meets96 (allG_cons meets97 (allG_cons meets98 allM_nil))) noI fun xs bs r bs' h K=>?_
 unfold m43 at h
 split at h
 ·rename_i g0 g1 g2 g3 g4 g5 g6 ua ub uc g7 b1 g8 b2 g9 b3
  obtain ⟨hg,h⟩:=bif_pair h
  simp only [Bool.and_eq_true] at hg
  obtain ⟨⟨⟨⟨⟨⟨⟨⟨⟨q0,q1⟩,q2⟩,q3⟩,q4⟩,q5⟩,q6⟩,q7⟩,q8⟩,q9⟩:=hg
  obtain rfl:=nE q0
  obtain rfl:=bE q1
  obtain rfl:=bE q2
  obtain rfl:=nE q3
  obtain rfl:=nE q4
  obtain rfl:=nE q5
  obtain rfl:=cE q6
  obtain rfl:=cE q7
  obtain rfl:=cE q8
  obtain rfl:=cE q9
  obtain ⟨h1,rfl,rfl⟩:=trip_inj h
  exact r43 ua ub uc b1 b2 b3 K h1
 ·cases h
def G18i40_0 {β:Type} (t0:List AV) (h3_0:Int) (h3_1:Int) (t3:Int) (t4:Int) (N:((Int × Int))→β) (K:(Int)→β) (d:β):β:=(bif decide (t4<(t0.length:Int)) then (bif decide (t4<4000) then (bif (decide (0≤t4) && decide (t4<(t0.length:Int))) then N (IntKind.i64.wrap ((BitVec.ofInt 64 (IntKind.i64.wrap (IntKind.i64.wrap (IntKind.i64.wrap (t3*131)+IntKind.i64.wrap (fI (t0.getD t4.toNat .undef) 0))+7)) &&& BitVec.ofInt 64 1073741823).toNat:Int),IntKind.i64.wrap (t4+1))
 else d)
 else K t3)
 else K t3)
def F18i40_0 (t0:List AV) (h3_0 h3_1 t3 t4:Int):Out ((Int × Int)) (Int):=G18i40_0 t0 h3_0 h3_1 t3 t4 .next .stop .fail
def R18i40_0 (t0:List AV) (h3_0 h3_1:Int):((Int × Int))→Out ((Int × Int)) (Int):=fun s:Int × Int=>F18i40_0 t0 h3_0 h3_1 s.1 s.2
def E18i40_0 (t0:List AV) (h3_0 h3_1:Int):((Int × Int))→St:=fun s:Int × Int=>⟨[(0,AV.sl [.int .u8] t0),(3,Ai s.1),(4,Ai s.2)],[([1,2],⟨true,[],[AV.agg [AV.snil,AV.snil,AV.snil]]⟩),([1,3],⟨true,[],[AV.agg [AV.snil,AV.snil,AV.snil]]⟩),([1,3,10],⟨true,[],[AV.agg [AV.snil,AV.snil,AV.snil]]⟩),([1,4],⟨true,[],[AV.agg [Ai h3_0,Ai h3_1]]⟩),([1,4,10],⟨true,[],[AV.agg [AV.snil,AV.snil,AV.snil]]⟩)]⟩
def K18i40_0 (t0:List AV) (h3_0 h3_1:Int) (k:Kont):(Int)→Option AV:=fun p:Int=>k (.exit 0) ⟨[(0,AV.sl [.int .u8] t0),(3,Ai p)],[([1,2],⟨true,[],[AV.agg [AV.snil,AV.snil,AV.snil]]⟩),([1,3],⟨true,[],[AV.agg [AV.snil,AV.snil,AV.snil]]⟩),([1,3,10],⟨true,[],[AV.agg [AV.snil,AV.snil,AV.snil]]⟩),([1,4],⟨true,[],[AV.agg [Ai h3_0,Ai h3_1]]⟩),([1,4,10],⟨true,[],[AV.agg [AV.snil,AV.snil,AV.snil]]⟩)]⟩
def l18i40_0:LModel:=fun _ π st k=>match st with
 | ⟨[(0,.sl g1 t0),(3,.int .i64 t3),(4,.int .i64 t4)],[(g2,⟨true,[],[.agg [.snil,.snil,.snil]]⟩),(g3,⟨true,[],[.agg [.snil,.snil,.snil]]⟩),(g4,⟨true,[],[.agg [.snil,.snil,.snil]]⟩),(g5,⟨true,[],[.agg [.int .i64 h3_0,.int .i64 h3_1]]⟩),(g6,⟨true,[],[.agg [.snil,.snil,.snil]]⟩)]⟩=>bif nmEq π ([8,10]) && ctsEq g1 ([.int .u8]) && nmEq g2 ([1,2]) && nmEq g3 ([1,3]) && nmEq g4 ([1,3,10]) && nmEq g5 ([1,4]) && nmEq g6 ([1,4,10]) then ro (runW (R18i40_0 t0 h3_0 h3_1) (((t0.length:Int) - t4:Int).toNat+1) (t3,t4)) none (K18i40_0 t0 h3_0 h3_1 k) else none
 | _=>none
noncomputable def c18:Cfg:=cfg Tryz.prog [(18,999,[2,3,4]),(40,0,[0,3,4]),(40,999,[2]),(40,1000,[0,3]),(40,1001,[0,3,4]),(63,999,[2,3,4])] [] [(43,.g m43),(94,.g m94)] [40,63] [(40,0,l18i40_0)]
theorem s18i40_0 (t0:List AV) (h3_0 h3_1:Int) (ce:CallE) (k:Kont) (s:Int × Int) (next:St→Option AV):stepA (codeA c18 ce [8,10] 40 0 (sub [1,1,0,1,0,0] (body Tryz.f40))) (normA [8,10] [0,3,4]) next ((E18i40_0 t0 h3_0 h3_1) s) k=G18i40_0 t0 h3_0 h3_1 s.1 s.2 (fun s=>next ((E18i40_0 t0 h3_0 h3_1) s)) (K18i40_0 t0 h3_0 h3_1 k) none:=by kernel_rfl
theorem st18i40_0 (t0:List AV) (h3_0 h3_1:Int) (ce:CallE) (k:Kont) (s:(Int × Int)) (next:St→Option AV):stepA (codeA c18 ce [8,10] 40 0 (sub [1,1,0,1,0,0] (body Tryz.f40))) (normA [8,10] [0,3,4]) next ((E18i40_0 t0 h3_0 h3_1) s) k=(R18i40_0 t0 h3_0 h3_1 s).el none (fun s=>next ((E18i40_0 t0 h3_0 h3_1) s)) (K18i40_0 t0 h3_0 h3_1 k):=(s18i40_0 t0 h3_0 h3_1 ce k s next).trans (by unfold R18i40_0;unfold F18i40_0 G18i40_0;simp only [el_cond,el_ro,el_sum,el_fail,el_next,el_stop] <;> rfl)
theorem ok18i40_0 {ce:CallE} {π:Nm}:LoopOK c18 ce π 40 0 (sub [1,1,0,1,0,0] (body Tryz.f40)):=by
 intro m hm st k r h
 obtain rfl:l18i40_0=m:=Option.some.inj hm
 unfold l18i40_0 at h
 split at h
 ·rename_i g1 t0 t3 t4 g2 g3 g4 g5 h3_0 h3_1 g6
  obtain ⟨hg,h⟩:=bif_some h
  simp only [Bool.and_eq_true] at hg
  obtain ⟨⟨⟨⟨⟨⟨q0,q1⟩,q2⟩,q3⟩,q4⟩,q5⟩,q6⟩:=hg
  obtain rfl:=nE q0
  obtain rfl:=cE q1
  obtain rfl:=nE q2
  obtain rfl:=nE q3
  obtain rfl:=nE q4
  obtain rfl:=nE q5
  obtain rfl:=nE q6
  refine ⟨(((t0.length:Int) - t4:Int).toNat+1),?_⟩
  rw [← h]
  exact loop_run (E18i40_0 t0 h3_0 h3_1) (K18i40_0 t0 h3_0 h3_1 k) (st18i40_0 t0 h3_0 h3_1 ce k) _ (t3,t4)
 ·cases h
def T18 {β:Type} (k:((List AV) × (List AV) × (List AV) × (List AV) × (List AV) × (List AV) × Int × Int)→β) (n:β) (a0:List AV):β:=(ro (runW (R18i40_0 a0 0 0) (((a0.length:Int) - 0:Int).toNat+1) (IntKind.i64.wrap (10101+(a0.length:Int)),0)) n (fun p1=>(bif q94 a0 0 p1 then (bif q94 (v94_3 a0 0 p1) (v94_4 a0 0 p1) (v94_5 a0 0 p1) then (bif q43 (v94_3 (v94_3 a0 0 p1) (v94_4 a0 0 p1) (v94_5 a0 0 p1)) (v94_4 (v94_3 a0 0 p1) (v94_4 a0 0 p1) (v94_5 a0 0 p1)) (v94_5 (v94_3 a0 0 p1) (v94_4 a0 0 p1) (v94_5 a0 0 p1)) (v94_0 a0 0 p1) (v94_1 a0 0 p1) (v94_2 a0 0 p1) then k ((v43_5 (v94_3 (v94_3 a0 0 p1) (v94_4 a0 0 p1) (v94_5 a0 0 p1)) (v94_4 (v94_3 a0 0 p1) (v94_4 a0 0 p1) (v94_5 a0 0 p1)) (v94_5 (v94_3 a0 0 p1) (v94_4 a0 0 p1) (v94_5 a0 0 p1)) (v94_0 a0 0 p1) (v94_1 a0 0 p1) (v94_2 a0 0 p1)),(v43_6 (v94_3 (v94_3 a0 0 p1) (v94_4 a0 0 p1) (v94_5 a0 0 p1)) (v94_4 (v94_3 a0 0 p1) (v94_4 a0 0 p1) (v94_5 a0 0 p1)) (v94_5 (v94_3 a0 0 p1) (v94_4 a0 0 p1) (v94_5 a0 0 p1)) (v94_0 a0 0 p1) (v94_1 a0 0 p1) (v94_2 a0 0 p1)),(v43_7 (v94_3 (v94_3 a0 0 p1) (v94_4 a0 0 p1) (v94_5 a0 0 p1)) (v94_4 (v94_3 a0 0 p1) (v94_4 a0 0 p1) (v94_5 a0 0 p1)) (v94_5 (v94_3 a0 0 p1) (v94_4 a0 0 p1) (v94_5 a0 0 p1)) (v94_0 a0 0 p1) (v94_1 a0 0 p1) (v94_2 a0 0 p1)),(v94_0 (v94_3 a0 0 p1) (v94_4 a0 0 p1) (v94_5 a0 0 p1)),(v94_1 (v94_3 a0 0 p1) (v94_4 a0 0 p1) (v94_5 a0 0 p1)),(v94_2 (v94_3 a0 0 p1) (v94_4 a0 0 p1) (v94_5 a0 0 p1)),(v43_0 (v94_3 (v94_3 a0 0 p1) (v94_4 a0 0 p1) (v94_5 a0 0 p1)) (v94_4 (v94_3 a0 0 p1) (v94_4 a0 0 p1) (v94_5 a0 0 p1)) (v94_5 (v94_3 a0 0 p1) (v94_4 a0 0 p1) (v94_5 a0 0 p1)) (v94_0 a0 0 p1) (v94_1 a0 0 p1) (v94_2 a0 0 p1)),(v43_1 (v94_3 (v94_3 a0 0 p1) (v94_4 a0 0 p1) (v94_5 a0 0 p1)) (v94_4 (v94_3 a0 0 p1) (v94_4 a0 0 p1) (v94_5 a0 0 p1)) (v94_5 (v94_3 a0 0 p1) (v94_4 a0 0 p1) (v94_5 a0 0 p1)) (v94_0 a0 0 p1) (v94_1 a0 0 p1) (v94_2 a0 0 p1)))
 else n)
 else n)
 else n)))
abbrev W18 (a0:List AV):Option ((List AV) × (List AV) × (List AV) × (List AV) × (List AV) × (List AV) × Int × Int):=T18 some none a0
theorem n18 {β:Type} (k:((List AV) × (List AV) × (List AV) × (List AV) × (List AV) × (List AV) × Int × Int)→β) (n:β) (a0:List AV):T18 k n a0=oe k n (W18 a0):=by
 unfold W18 T18
 simp only [oe_cond,oe_ro,oe_sum,oe_some,oe_none]
def q18 (a0:List AV):Bool:=(W18 a0).isSome
def v18_0 (a0:List AV):List AV:=oe (fun t=>t.1) [] (W18 a0)
def v18_1 (a0:List AV):List AV:=oe (fun t=>t.2.1) [] (W18 a0)
def v18_2 (a0:List AV):List AV:=oe (fun t=>t.2.2.1) [] (W18 a0)
def v18_3 (a0:List AV):List AV:=oe (fun t=>t.2.2.2.1) [] (W18 a0)
def v18_4 (a0:List AV):List AV:=oe (fun t=>t.2.2.2.2.1) [] (W18 a0)
def v18_5 (a0:List AV):List AV:=oe (fun t=>t.2.2.2.2.2.1) [] (W18 a0)
def v18_6 (a0:List AV):Int:=oe (fun t=>t.2.2.2.2.2.2.1) 0 (W18 a0)
def v18_7 (a0:List AV):Int:=oe (fun t=>t.2.2.2.2.2.2.2) 0 (W18 a0)
theorem e18 (a0:List AV):funA c18 2 18 [AV.sl [.int .u8] a0]=T18 (fun t=>some (AV.tup [AV.agg [AV.fl [.int .i64] t.1,AV.fl [.int .i64] t.2.1,AV.fl [.int .i64,.int .i64] t.2.2.1],AV.agg [AV.fl [.int .i64] t.2.2.2.1,AV.fl [.int .i64] t.2.2.2.2.1,AV.fl [.int .i64,.int .i64] t.2.2.2.2.2.1],AV.agg [Ai t.2.2.2.2.2.2.1,Ai t.2.2.2.2.2.2.2]])) none a0:=by kernel_rfl
theorem r18 (a0:List AV) (h:q18 a0=true):funA c18 2 18 [AV.sl [.int .u8] a0]=some (AV.tup [AV.agg [AV.fl [.int .i64] (v18_0 a0),AV.fl [.int .i64] (v18_1 a0),AV.fl [.int .i64,.int .i64] (v18_2 a0)],AV.agg [AV.fl [.int .i64] (v18_3 a0),AV.fl [.int .i64] (v18_4 a0),AV.fl [.int .i64,.int .i64] (v18_5 a0)],AV.agg [AV.int .i64 (v18_6 a0),AV.int .i64 (v18_7 a0)]]):=by
 refine ((e18 a0).trans (n18 _ _ a0)).trans ?_
 unfold q18 at h
 unfold v18_0 v18_1 v18_2 v18_3 v18_4 v18_5 v18_6 v18_7
 generalize W18 a0=o at *
 cases o with
 | none=>cases h
 | some t=>rfl
def m18:TModel
 | [.sl g0 a0]=>bif ctsEq g0 ([.int .u8]) then some (q18 a0,AV.tup [AV.agg [AV.fl [.int .i64] (v18_0 a0),AV.fl [.int .i64] (v18_1 a0),AV.fl [.int .i64,.int .i64] (v18_2 a0)],AV.agg [AV.fl [.int .i64] (v18_3 a0),AV.fl [.int .i64] (v18_4 a0),AV.fl [.int .i64,.int .i64] (v18_5 a0)],AV.agg [AV.int .i64 (v18_6 a0),AV.int .i64 (v18_7 a0)]]) else none
 | _=>none
theorem k18:Known Tryz.prog 18:=⟨Tryz.f18,Tryz.func18,by kernel_rfl,by kernel_rfl⟩
theorem i18_63:InlK Tryz.prog [(18,999,[2,3,4]),(40,0,[0,3,4]),(40,999,[2]),(40,1000,[0,3]),(40,1001,[0,3,4]),(63,999,[2,3,4])] [] [(43,.g m43),(94,.g m94)] [40,63] [(40,0,l18i40_0)] 63:=⟨⟨Tryz.f63,Tryz.func63,by kernel_rfl,by kernel_rfl⟩,Tryz.f63,[],Tryz.func63,by kernel_rfl,fun ce π=>noLoop⟩
theorem i18_40:InlK Tryz.prog [(18,999,[2,3,4]),(40,0,[0,3,4]),(40,999,[2]),(40,1000,[0,3]),(40,1001,[0,3,4]),(63,999,[2,3,4])] [] [(43,.g m43),(94,.g m94)] [40,63] [(40,0,l18i40_0)] 40:=⟨⟨Tryz.f40,Tryz.func40,by kernel_rfl,by kernel_rfl⟩,Tryz.f40,[(0,sub [1,1,0,1,0,0] (body Tryz.f40))],Tryz.func40,by kernel_rfl,fun ce π=>(loops_cons (ok18i40_0 (ce:=ce) (π:=π)) noLoop)⟩
theorem meets18:Meets Tryz.prog 18 m18:=by
 refine mt (lvl:=2) (cf:=c18) rfl mixed k18 Tryz.func18 (by kernel_rfl) noLoop allT_nil (allG_cons meets43 (allG_cons meets94 allM_nil)) (allI_cons i18_40 (allI_cons i18_63 noI)) fun xs r h=>?_
 unfold m18 at h
 split at h
 ·rename_i g0 a0
  obtain ⟨hg,h⟩:=bif_pair h
  have q0:=hg
  obtain rfl:=cE q0
  obtain ⟨h1,rfl⟩:=pair_inj h
  exact r18 a0 h1
 ·cases h
noncomputable def c141:Cfg:=cfg Tryz.prog [(141,999,[4])] [] [] [] []
def v141_0 (a0:Int) (a1 a2:AV):Bool:=(bif decide (a0<fI a1 0) then true else decide (a0 > fI a2 0))
theorem e141 (a0:Int) (a1 a2:AV):funA c141 0 141 [Ai a0,AV.rptr [.int .i64] a1 0,AV.rptr [.int .i64] a2 0]=(bif decide (a0<fI a1 0) then some (AV.bool true)
 else some (AV.bool (decide (a0 > fI a2 0)))):=by kernel_rfl
def m141:TModel
 | [.int .i64 a0,.rptr g0 a1 g1,.rptr g2 a2 g3]=>bif ctsEq g0 ([.int .i64]) && Nat.beq g1 0 && ctsEq g2 ([.int .i64]) && Nat.beq g3 0 then some (true,AV.bool (v141_0 a0 a1 a2)) else none
 | _=>none
theorem k141:Known Tryz.prog 141:=⟨Tryz.f141,Tryz.func141,by kernel_rfl,by kernel_rfl⟩
theorem meets141:Meets Tryz.prog 141 m141:=by
 refine mt (lvl:=0) (cf:=c141) rfl mixed k141 Tryz.func141 (by kernel_rfl) noLoop allT_nil allM_nil noI fun xs r h=>?_
 unfold m141 at h
 split at h
 ·rename_i a0 g0 a1 g1 g2 a2 g3
  obtain ⟨hg,h⟩:=bif_pair h
  simp only [Bool.and_eq_true] at hg
  obtain ⟨⟨⟨q0,q1⟩,q2⟩,q3⟩:=hg
  obtain rfl:=cE q0
  obtain rfl:=bE q1
  obtain rfl:=cE q2
  obtain rfl:=bE q3
  obtain ⟨h1,rfl⟩:=pair_inj h
  exact (e141 a0 a1 a2).trans (of_tt (brT (fun b=>some (AV.bool (bif b then true else decide (a0 > fI a2 0)))) (fun _=>rfl) (fun _=>rfl)))
 ·cases h
def G162_0 {β:Type} (t0:List AV) (t1_0:AV) (t1_1:AV) (t7:Int) (t8:Int) (N:(Int)→β) (K:(Unit ⊕ Int)→β) (d:β):β:=(bif decide (t8<t7) then (bif (decide (0≤t8) && decide (t8<(t0.length:Int))) then (bif (v141_0 (fI (t0.getD t8.toNat .undef) 0) t1_0 t1_1) then K (.inr t8)
 else N (IntKind.i64.wrap (t8+1)))
 else d)
 else K (.inl ()))
def F162_0 (t0:List AV) (t1_0 t1_1:AV) (t7 t8:Int):Out (Int) (Unit ⊕ Int):=G162_0 t0 t1_0 t1_1 t7 t8 .next .stop .fail
def R162_0 (t0:List AV) (t1_0 t1_1:AV) (t7:Int):(Int)→Out (Int) (Unit ⊕ Int):=fun s:Int=>F162_0 t0 t1_0 t1_1 t7 s
def E162_0 (t0:List AV) (t1_0 t1_1:AV) (t7:Int):(Int)→St:=fun s:Int=>⟨[(0,AV.sl [.int .i64] t0),(1,AV.fn 141 [AV.rptr [.int .i64] t1_0 0,AV.rptr [.int .i64] t1_1 0]),(7,Ai t7),(8,Ai s)],[]⟩
def K162_0 (t0:List AV) (t1_0 t1_1:AV) (t7:Int) (k:Kont):(Unit ⊕ Int)→Option AV:=sumE (fun _:Unit=>k (.exit 0) ⟨[],[]⟩) (fun p:Int=>k .ret ⟨[(4,Ai p)],[]⟩)
def l162_0:LModel:=fun _ _ st k=>match st with
 | ⟨[(0,.sl g0 t0),(1,.fn g1 [.rptr g2 t1_0 g3,.rptr g4 t1_1 g5]),(7,.int .i64 t7),(8,.int .i64 t8)],[]⟩=>bif ctsEq g0 ([.int .i64]) && Nat.beq g1 141 && ctsEq g2 ([.int .i64]) && Nat.beq g3 0 && ctsEq g4 ([.int .i64]) && Nat.beq g5 0 then ro (runW (R162_0 t0 t1_0 t1_1 t7) ((t7 - t8:Int).toNat+1) t8) none (K162_0 t0 t1_0 t1_1 t7 k) else none
 | _=>none
noncomputable def c162:Cfg:=cfg Tryz.prog [(162,0,[0,1,7,8]),(162,999,[4]),(162,1000,[]),(162,1001,[0,1,7,8])] [(141,m141)] [] [] [(162,0,l162_0)]
theorem s162_0 (t0:List AV) (t1_0 t1_1:AV) (t7:Int) (ce:CallE) (k:Kont) (s:Int) (next:St→Option AV):stepA (codeA c162 ce [] 162 0 (sub [1,0,1,0,0] (body Tryz.f162))) (normA [] [0,1,7,8]) next ((E162_0 t0 t1_0 t1_1 t7) s) k=G162_0 t0 t1_0 t1_1 t7 s (fun s=>next ((E162_0 t0 t1_0 t1_1 t7) s)) (K162_0 t0 t1_0 t1_1 t7 k) none:=by kernel_rfl
theorem st162_0 (t0:List AV) (t1_0 t1_1:AV) (t7:Int) (ce:CallE) (k:Kont) (s:Int) (next:St→Option AV):stepA (codeA c162 ce [] 162 0 (sub [1,0,1,0,0] (body Tryz.f162))) (normA [] [0,1,7,8]) next ((E162_0 t0 t1_0 t1_1 t7) s) k=(R162_0 t0 t1_0 t1_1 t7 s).el none (fun s=>next ((E162_0 t0 t1_0 t1_1 t7) s)) (K162_0 t0 t1_0 t1_1 t7 k):=(s162_0 t0 t1_0 t1_1 t7 ce k s next).trans (by unfold R162_0;unfold F162_0 G162_0;simp only [el_cond,el_ro,el_sum,el_fail,el_next,el_stop] <;> rfl)
theorem ok162_0 {ce:CallE}:LoopOK c162 ce [] 162 0 (sub [1,0,1,0,0] (body Tryz.f162)):=by
 intro m hm st k r h
 obtain rfl:l162_0=m:=Option.some.inj hm
 unfold l162_0 at h
 split at h
 ·rename_i g0 t0 g1 g2 t1_0 g3 g4 t1_1 g5 t7 t8
  obtain ⟨hg,h⟩:=bif_some h
  simp only [Bool.and_eq_true] at hg
  obtain ⟨⟨⟨⟨⟨q0,q1⟩,q2⟩,q3⟩,q4⟩,q5⟩:=hg
  obtain rfl:=cE q0
  obtain rfl:=bE q1
  obtain rfl:=cE q2
  obtain rfl:=bE q3
  obtain rfl:=cE q4
  obtain rfl:=bE q5
  refine ⟨((t7 - t8:Int).toNat+1),?_⟩
  rw [← h]
  exact loop_run (E162_0 t0 t1_0 t1_1 t7) (K162_0 t0 t1_0 t1_1 t7 k) (st162_0 t0 t1_0 t1_1 t7 ce k) _ t8
 ·cases h
def q162 (a0:List AV) (ya yb:AV):Bool:=(ro (runW (R162_0 a0 ya yb (a0.length:Int)) (((a0.length:Int) - 0:Int).toNat+1) 0) false (sumE (fun _=>true) (fun p28=>true)))
def v162_0 (a0:List AV) (ya yb:AV):Int:=(ro (runW (R162_0 a0 ya yb (a0.length:Int)) (((a0.length:Int) - 0:Int).toNat+1) 0) 0 (sumE (fun _=>(-1)) (fun p28=>p28)))
theorem e162 (a0:List AV) (ya yb:AV):funA c162 0 162 [AV.sl [.int .i64] a0,AV.fn 141 [AV.rptr [.int .i64] ya 0,AV.rptr [.int .i64] yb 0]]=(ro (runW (R162_0 a0 ya yb (a0.length:Int)) (((a0.length:Int) - 0:Int).toNat+1) 0) none (sumE (fun _=>some (Ai (-1))) (fun p28=>some (Ai p28)))):=by kernel_rfl
def m162:TModel
 | [.sl g0 a0,.fn g1 [.rptr g2 ya g3,.rptr g4 yb g5]]=>bif ctsEq g0 ([.int .i64]) && Nat.beq g1 141 && ctsEq g2 ([.int .i64]) && Nat.beq g3 0 && ctsEq g4 ([.int .i64]) && Nat.beq g5 0 then some (q162 a0 ya yb,AV.int .i64 (v162_0 a0 ya yb)) else none
 | _=>none
theorem k162:Known Tryz.prog 162:=⟨Tryz.f162,Tryz.func162,by kernel_rfl,by kernel_rfl⟩
theorem meets162:Meets Tryz.prog 162 m162:=by
 refine mt (lvl:=0) (cf:=c162) rfl mixed k162 Tryz.func162 (by kernel_rfl) (loops_cons ok162_0 noLoop) (allT_cons meets141 allT_nil) allM_nil noI fun xs r h=>?_
 unfold m162 at h
 split at h
 ·rename_i g0 a0 g1 g2 ya g3 g4 yb g5
  obtain ⟨hg,h⟩:=bif_pair h
  simp only [Bool.and_eq_true] at hg
  obtain ⟨⟨⟨⟨⟨q0,q1⟩,q2⟩,q3⟩,q4⟩,q5⟩:=hg
  obtain rfl:=cE q0
  obtain rfl:=bE q1
  obtain rfl:=cE q2
  obtain rfl:=bE q3
  obtain rfl:=cE q4
  obtain rfl:=bE q5
  obtain ⟨h1,rfl⟩:=pair_inj h
  exact (e162 a0 ya yb).trans ((brO (fun o:Option (Unit ⊕ Int)=>some (Ai (ro o 0 (sumE (fun _=>(-1)) (fun p28=>p28))))) (brS (fun o:Unit ⊕ Int=>some (Ai ((sumE (fun _=>(-1)) (fun p28=>p28)) o))) (fun _=>(fun _=>rfl)) (fun p28=>(fun _=>rfl)))) h1)
 ·cases h
noncomputable def c140:Cfg:=cfg Tryz.prog [(140,999,[4])] [(162,m162)] [] [] []
def q140 (a0:List AV) (ya yb:AV):Bool:=q162 a0 ya yb
def v140_0 (a0:List AV) (ya yb:AV):Bool:=decide ((v162_0 a0 ya yb) ≥ 0)
theorem e140 (a0:List AV) (ya yb:AV):funA c140 0 140 [AV.sl [.int .i64] a0,AV.fn 141 [AV.rptr [.int .i64] ya 0,AV.rptr [.int .i64] yb 0]]=(bif q162 a0 ya yb then some (AV.bool (decide ((v162_0 a0 ya yb) ≥ 0)))
 else none):=by kernel_rfl
def m140:TModel
 | [.sl g0 a0,.fn g1 [.rptr g2 ya g3,.rptr g4 yb g5]]=>bif ctsEq g0 ([.int .i64]) && Nat.beq g1 141 && ctsEq g2 ([.int .i64]) && Nat.beq g3 0 && ctsEq g4 ([.int .i64]) && Nat.beq g5 0 then some (q140 a0 ya yb,AV.bool (v140_0 a0 ya yb)) else none
 | _=>none
theorem k140:Known Tryz.prog 140:=⟨Tryz.f140,Tryz.func140,by kernel_rfl,by kernel_rfl⟩
theorem meets140:Meets Tryz.prog 140 m140:=by
 refine mt (lvl:=0) (cf:=c140) rfl mixed k140 Tryz.func140 (by kernel_rfl) noLoop (allT_cons meets162 allT_nil) allM_nil noI fun xs r h=>?_
 unfold m140 at h
 split at h
 ·rename_i g0 a0 g1 g2 ya g3 g4 yb g5
  obtain ⟨hg,h⟩:=bif_pair h
  simp only [Bool.and_eq_true] at hg
  obtain ⟨⟨⟨⟨⟨q0,q1⟩,q2⟩,q3⟩,q4⟩,q5⟩:=hg
  obtain rfl:=cE q0
  obtain rfl:=bE q1
  obtain rfl:=cE q2
  obtain rfl:=bE q3
  obtain rfl:=cE q4
  obtain rfl:=bE q5
  obtain ⟨h1,rfl⟩:=pair_inj h
  exact (e140 a0 ya yb).trans ((brL1 (fun _=>rfl)) h1)
 ·cases h
noncomputable def c106:Cfg:=cfg Tryz.prog [(106,999,[6])] [(140,m140)] [] [] []
def q106 (a0:List AV) (a1 a2:Int):Bool:=q140 a0 (AV.int .i64 a1) (AV.int .i64 a2)
def v106_0 (a0:List AV) (a1 a2:Int):Bool := !(v140_0 a0 (AV.int .i64 a1) (AV.int .i64 a2))
theorem e106 (a0:List AV) (a1 a2:Int):funA c106 0 106 [AV.sl [.int .i64] a0,Ai a1,Ai a2]=(bif q140 a0 (Ai a1) (Ai a2) then some (AV.bool (!(v140_0 a0 (Ai a1) (Ai a2))))
 else none):=by kernel_rfl
def m106:TModel
 | [.sl g0 a0,.int .i64 a1,.int .i64 a2]=>bif ctsEq g0 ([.int .i64]) then some (q106 a0 a1 a2,AV.bool (v106_0 a0 a1 a2)) else none
 | _=>none
theorem k106:Known Tryz.prog 106:=⟨Tryz.f106,Tryz.func106,by kernel_rfl,by kernel_rfl⟩
theorem meets106:Meets Tryz.prog 106 m106:=by
 refine mt (lvl:=0) (cf:=c106) rfl mixed k106 Tryz.func106 (by kernel_rfl) noLoop (allT_cons meets140 allT_nil) allM_nil noI fun xs r h=>?_
 unfold m106 at h
 split at h
 ·rename_i g0 a0 a1 a2
  obtain ⟨hg,h⟩:=bif_pair h
  have q0:=hg
  obtain rfl:=cE q0
  obtain ⟨h1,rfl⟩:=pair_inj h
  exact (e106 a0 a1 a2).trans ((brL1 (fun _=>rfl)) h1)
 ·cases h
noncomputable def c79:Cfg:=cfg Tryz.prog [(79,999,[2])] [(106,m106)] [] [] []
def q79 (a0:List AV):Bool:=(bif decide ((a0.length:Int)≤64) then q106 a0 (-999) 999 else true)
def v79_0 (a0:List AV):Bool:=(bif decide ((a0.length:Int)≤64) then (v106_0 a0 (-999) 999) else false)
theorem e79 (a0:List AV):funA c79 0 79 [AV.sl [.int .i64] a0]=(bif decide ((a0.length:Int)≤64) then (bif q106 a0 (-999) 999 then some (AV.bool (v106_0 a0 (-999) 999))
 else none)
 else some (AV.bool false)):=by kernel_rfl
def m79:TModel
 | [.sl g0 a0]=>bif ctsEq g0 ([.int .i64]) then some (q79 a0,AV.bool (v79_0 a0)) else none
 | _=>none
theorem k79:Known Tryz.prog 79:=⟨Tryz.f79,Tryz.func79,by kernel_rfl,by kernel_rfl⟩
theorem meets79:Meets Tryz.prog 79 m79:=by
 refine mt (lvl:=0) (cf:=c79) rfl mixed k79 Tryz.func79 (by kernel_rfl) noLoop (allT_cons meets106 allT_nil) allM_nil noI fun xs r h=>?_
 unfold m79 at h
 split at h
 ·rename_i g0 a0
  obtain ⟨hg,h⟩:=bif_pair h
  have q0:=hg
  obtain rfl:=cE q0
  obtain ⟨h1,rfl⟩:=pair_inj h
  exact (e79 a0).trans ((br (fun b=>some (AV.bool (bif b then (v106_0 a0 (-999) 999) else false))) (brL1 (fun _=>rfl)) (fun _=>rfl)) h1)
 ·cases h
def G83_0 {β:Type} (t0:List AV) (t1:Int) (t7:Int) (t8:Int) (N:(Int)→β) (K:(Unit ⊕ Int)→β) (d:β):β:=(bif decide (t8<t7) then (bif (decide (0≤t8) && decide (t8<(t0.length:Int))) then (bif decide (t1=fI (t0.getD t8.toNat .undef) 0) then K (.inr t8)
 else N (IntKind.i64.wrap (t8+1)))
 else d)
 else K (.inl ()))
def F83_0 (t0:List AV) (t1 t7 t8:Int):Out (Int) (Unit ⊕ Int):=G83_0 t0 t1 t7 t8 .next .stop .fail
def R83_0 (t0:List AV) (t1 t7:Int):(Int)→Out (Int) (Unit ⊕ Int):=fun s:Int=>F83_0 t0 t1 t7 s
def E83_0 (t0:List AV) (t1 t7:Int):(Int)→St:=fun s:Int=>⟨[(0,AV.sl [.int .i64] t0),(1,Ai t1),(7,Ai t7),(8,Ai s)],[]⟩
def K83_0 (t0:List AV) (t1 t7:Int) (k:Kont):(Unit ⊕ Int)→Option AV:=sumE (fun _:Unit=>k (.exit 0) ⟨[],[]⟩) (fun p:Int=>k .ret ⟨[(4,Ai p)],[]⟩)
def l83_0:LModel:=fun _ _ st k=>match st with
 | ⟨[(0,.sl g0 t0),(1,.int .i64 t1),(7,.int .i64 t7),(8,.int .i64 t8)],[]⟩=>bif ctsEq g0 ([.int .i64]) then ro (runW (R83_0 t0 t1 t7) ((t7 - t8:Int).toNat+1) t8) none (K83_0 t0 t1 t7 k) else none
 | _=>none
noncomputable def c83:Cfg:=cfg Tryz.prog [(83,0,[0,1,7,8]),(83,999,[4]),(83,1000,[]),(83,1001,[0,1,7,8])] [] [] [] [(83,0,l83_0)]
theorem s83_0 (t0:List AV) (t1 t7:Int) (ce:CallE) (k:Kont) (s:Int) (next:St→Option AV):stepA (codeA c83 ce [] 83 0 (sub [1,0,1,0,0] (body Tryz.f83))) (normA [] [0,1,7,8]) next ((E83_0 t0 t1 t7) s) k=G83_0 t0 t1 t7 s (fun s=>next ((E83_0 t0 t1 t7) s)) (K83_0 t0 t1 t7 k) none:=by kernel_rfl
theorem st83_0 (t0:List AV) (t1 t7:Int) (ce:CallE) (k:Kont) (s:Int) (next:St→Option AV):stepA (codeA c83 ce [] 83 0 (sub [1,0,1,0,0] (body Tryz.f83))) (normA [] [0,1,7,8]) next ((E83_0 t0 t1 t7) s) k=(R83_0 t0 t1 t7 s).el none (fun s=>next ((E83_0 t0 t1 t7) s)) (K83_0 t0 t1 t7 k):=(s83_0 t0 t1 t7 ce k s next).trans (by unfold R83_0;unfold F83_0 G83_0;simp only [el_cond,el_ro,el_sum,el_fail,el_next,el_stop] <;> rfl)
theorem ok83_0 {ce:CallE}:LoopOK c83 ce [] 83 0 (sub [1,0,1,0,0] (body Tryz.f83)):=by
 intro m hm st k r h
 obtain rfl:l83_0=m:=Option.some.inj hm
 unfold l83_0 at h
 split at h
 ·rename_i g0 t0 t1 t7 t8
  obtain ⟨hg,h⟩:=bif_some h
  have q0:=hg
  obtain rfl:=cE q0
  refine ⟨((t7 - t8:Int).toNat+1),?_⟩
  rw [← h]
  exact loop_run (E83_0 t0 t1 t7) (K83_0 t0 t1 t7 k) (st83_0 t0 t1 t7 ce k) _ t8
 ·cases h
def q83 (a0:List AV) (a1:Int):Bool:=(ro (runW (R83_0 a0 a1 (a0.length:Int)) (((a0.length:Int) - 0:Int).toNat+1) 0) false (sumE (fun _=>true) (fun p30=>true)))
def v83_0 (a0:List AV) (a1:Int):Int:=(ro (runW (R83_0 a0 a1 (a0.length:Int)) (((a0.length:Int) - 0:Int).toNat+1) 0) 0 (sumE (fun _=>(-1)) (fun p30=>p30)))
theorem e83 (a0:List AV) (a1:Int):funA c83 0 83 [AV.sl [.int .i64] a0,Ai a1]=(ro (runW (R83_0 a0 a1 (a0.length:Int)) (((a0.length:Int) - 0:Int).toNat+1) 0) none (sumE (fun _=>some (Ai (-1))) (fun p30=>some (Ai p30)))):=by kernel_rfl
def m83:TModel
 | [.sl g0 a0,.int .i64 a1]=>bif ctsEq g0 ([.int .i64]) then some (q83 a0 a1,AV.int .i64 (v83_0 a0 a1)) else none
 | _=>none
theorem k83:Known Tryz.prog 83:=⟨Tryz.f83,Tryz.func83,by kernel_rfl,by kernel_rfl⟩
theorem meets83:Meets Tryz.prog 83 m83:=by
 refine mt (lvl:=0) (cf:=c83) rfl mixed k83 Tryz.func83 (by kernel_rfl) (loops_cons ok83_0 noLoop) allT_nil allM_nil noI fun xs r h=>?_
 unfold m83 at h
 split at h
 ·rename_i g0 a0 a1
  obtain ⟨hg,h⟩:=bif_pair h
  have q0:=hg
  obtain rfl:=cE q0
  obtain ⟨h1,rfl⟩:=pair_inj h
  exact (e83 a0 a1).trans ((brO (fun o:Option (Unit ⊕ Int)=>some (Ai (ro o 0 (sumE (fun _=>(-1)) (fun p30=>p30))))) (brS (fun o:Unit ⊕ Int=>some (Ai ((sumE (fun _=>(-1)) (fun p30=>p30)) o))) (fun _=>(fun _=>rfl)) (fun p30=>(fun _=>rfl)))) h1)
 ·cases h
noncomputable def c48:Cfg:=cfg Tryz.prog [(48,999,[4])] [(83,m83)] [] [] []
def q48 (a0:List AV) (a1:Int):Bool:=q83 a0 a1
def v48_0 (a0:List AV) (a1:Int):Bool:=decide ((v83_0 a0 a1) ≥ 0)
theorem e48 (a0:List AV) (a1:Int):funA c48 0 48 [AV.sl [.int .i64] a0,Ai a1]=(bif q83 a0 a1 then some (AV.bool (decide ((v83_0 a0 a1) ≥ 0)))
 else none):=by kernel_rfl
def m48:TModel
 | [.sl g0 a0,.int .i64 a1]=>bif ctsEq g0 ([.int .i64]) then some (q48 a0 a1,AV.bool (v48_0 a0 a1)) else none
 | _=>none
theorem k48:Known Tryz.prog 48:=⟨Tryz.f48,Tryz.func48,by kernel_rfl,by kernel_rfl⟩
theorem meets48:Meets Tryz.prog 48 m48:=by
 refine mt (lvl:=0) (cf:=c48) rfl mixed k48 Tryz.func48 (by kernel_rfl) noLoop (allT_cons meets83 allT_nil) allM_nil noI fun xs r h=>?_
 unfold m48 at h
 split at h
 ·rename_i g0 a0 a1
  obtain ⟨hg,h⟩:=bif_pair h
  have q0:=hg
  obtain rfl:=cE q0
  obtain ⟨h1,rfl⟩:=pair_inj h
  exact (e48 a0 a1).trans ((brL1 (fun _=>rfl)) h1)
 ·cases h
noncomputable def c107:Cfg:=cfg Tryz.prog [(107,999,[2])] [] [] [] []
def v107_0 (a0:Int):Bool:=(bif decide (a0 ≥ (-1000)) then decide (a0≤1000) else false)
theorem e107 (a0:Int):funA c107 0 107 [Ai a0]=(bif decide (a0 ≥ (-1000)) then some (AV.bool (decide (a0≤1000)))
 else some (AV.bool false)):=by kernel_rfl
def m107:TModel
 | [.int .i64 a0]=>some (true,AV.bool (v107_0 a0))
 | _=>none
theorem k107:Known Tryz.prog 107:=⟨Tryz.f107,Tryz.func107,by kernel_rfl,by kernel_rfl⟩
theorem meets107:Meets Tryz.prog 107 m107:=by
 refine mt (lvl:=0) (cf:=c107) rfl mixed k107 Tryz.func107 (by kernel_rfl) noLoop allT_nil allM_nil noI fun xs r h=>?_
 unfold m107 at h
 split at h
 ·rename_i a0
  obtain ⟨h1,rfl⟩:=pair_inj h
  exact (e107 a0).trans (of_tt (brT (fun b=>some (AV.bool (bif b then decide (a0≤1000) else false))) (fun _=>rfl) (fun _=>rfl)))
 ·cases h
end
end Go.Proofs.YtbmfgibbjchijaaGreat
