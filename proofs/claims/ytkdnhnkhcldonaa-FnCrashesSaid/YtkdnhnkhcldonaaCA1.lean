import Derived.Test.YtkdnhnkhcldonaaINS8
import Derived.Test.YtkdnhnkhcldonaaGL8
import Derived.Test.YtkdnhnkhcldonaaProg
import Derived.KernelRfl
namespace Go.Proofs.Ytkdnhnkhcldonaa
open Go Go.Proofs.VE
set_option linter.unusedVariables false
set_option linter.unusedSimpArgs false
set_option maxRecDepth 100000
set_option maxHeartbeats 4000000
theorem mixed:Try.prog.follows .mixedOrders=true:=by kernel_rfl
noncomputable section
noncomputable def c5:Cfg:=cfg Try.prog [(5,999,[2])] [] [] [] []
def q5 (a0:List AV):Bool:=true
def v5_0 (a0:List AV):Bool:=decide ((a0.length:Int) > 1048576)
theorem e5 (a0:List AV):funA c5 0 5 [AV.sl [.int .u8] a0]=some (AV.bool (decide ((a0.length:Int) > 1048576))):=by kernel_rfl
def m5:TModel
 | [.sl g0 a0]=>bif ctsEq g0 ([.int .u8]) then some (true,AV.bool (v5_0 a0)) else none
 | _=>none
theorem k5:Known Try.prog 5:=⟨Try.f5,Try.func5,by kernel_rfl,by kernel_rfl⟩
theorem meets5:Meets Try.prog 5 m5:=by
 refine meet (f:=Try.f5) (l:=[]) (hs:=[(5,999,[2])]) (ts:=[]) (ws:=[]) (is:=[]) (ls:=[]) (lvl:=0) mixed k5 Try.func5 (by kernel_rfl) noLoop allT_nil allM_nil noI fun w xs us r hl hv h=>?_
 unfold m5 at h
 split at h
 ·rename_i g0 a0
  obtain ⟨hg,h⟩:=bif_pair h
  have q0:=hg
  obtain rfl:=ctsEq_eq _ _ q0
  obtain ⟨h1,rfl⟩:=pair_inj h
  exact (e5 a0).trans (of_tt (fun _=>rfl))
 ·cases h
noncomputable def c94:Cfg:=cfg Try.prog [(94,999,[2])] [] [] [] []
def q94 (ua:List AV) (ub uc:Int):Bool:=(bif decide (ub<(ua.length:Int)) then (decide (0≤ub) && decide (ub<(ua.length:Int))) else true)
def v94_0 (ua:List AV) (ub uc:Int):Int:=hid (fun (ua:List AV) (ub:Int) (uc:Int)=>(bif decide (ub<(ua.length:Int)) then IntKind.i64.wrap ((BitVec.ofInt 64 (IntKind.i64.wrap (IntKind.i64.wrap ((BitVec.ofInt 64 (IntKind.i64.wrap ((BitVec.ofInt 64 (Int.fdiv (IntKind.i64.wrap (IntKind.i64.wrap (uc*6364136223846793005)+1442695040888963407)) (2 ^ 33)) ^^^ BitVec.ofInt 64 (Int.fdiv (IntKind.i64.wrap (IntKind.i64.wrap (uc*6364136223846793005)+1442695040888963407)) (2 ^ 45))).toNat:Int)) &&& BitVec.ofInt 64 255).toNat:Int)+IntKind.i64.wrap (fI (ua.getD ub.toNat .undef) 0))) &&& BitVec.ofInt 64 255).toNat:Int) else IntKind.i64.wrap ((BitVec.ofInt 64 (IntKind.i64.wrap ((BitVec.ofInt 64 (Int.fdiv (IntKind.i64.wrap (IntKind.i64.wrap (uc*6364136223846793005)+1442695040888963407)) (2 ^ 33)) ^^^ BitVec.ofInt 64 (Int.fdiv (IntKind.i64.wrap (IntKind.i64.wrap (uc*6364136223846793005)+1442695040888963407)) (2 ^ 45))).toNat:Int)) &&& BitVec.ofInt 64 255).toNat:Int))) ua ub uc
def v94_1 (ua:List AV) (ub uc:Int):List AV:=ua
def v94_2 (ua:List AV) (ub uc:Int):Int:=hid (fun (ua:List AV) (ub:Int) (uc:Int)=>(bif decide (ub<(ua.length:Int)) then IntKind.i64.wrap (ub+1) else ub)) ua ub uc
def v94_3 (ua:List AV) (ub uc:Int):Int:=hid (fun (ua:List AV) (ub:Int) (uc:Int)=>IntKind.i64.wrap (IntKind.i64.wrap (uc*6364136223846793005)+1442695040888963407)) ua ub uc
theorem e94 (ua:List AV) (ub uc:Int) (K:List AV→List (Option Blk)→Option AV):inlA c94 1 94 [AV.ptr [1] 0 0] [0] (canH 1 [⟨true,[],[AV.agg [AV.sl [.int .u8] ua,Ai ub,Ai uc]]⟩]) (keepG Try.prog 1 [3] [] K)=(bif decide (ub<(ua.length:Int)) then (bif (decide (0≤ub) && decide (ub<(ua.length:Int))) then K [Ai (IntKind.i64.wrap ((BitVec.ofInt 64 (IntKind.i64.wrap (IntKind.i64.wrap ((BitVec.ofInt 64 (IntKind.i64.wrap ((BitVec.ofInt 64 (Int.fdiv (IntKind.i64.wrap (IntKind.i64.wrap (uc*6364136223846793005)+1442695040888963407)) (2 ^ 33)) ^^^ BitVec.ofInt 64 (Int.fdiv (IntKind.i64.wrap (IntKind.i64.wrap (uc*6364136223846793005)+1442695040888963407)) (2 ^ 45))).toNat:Int)) &&& BitVec.ofInt 64 255).toNat:Int)+IntKind.i64.wrap (fI (ua.getD ub.toNat .undef) 0))) &&& BitVec.ofInt 64 255).toNat:Int))] [some ⟨true,[],[AV.agg [AV.sl [.int .u8] ua,Ai (IntKind.i64.wrap (ub+1)),Ai (IntKind.i64.wrap (IntKind.i64.wrap (uc*6364136223846793005)+1442695040888963407))]]⟩]
 else none)
 else K [Ai (IntKind.i64.wrap ((BitVec.ofInt 64 (IntKind.i64.wrap ((BitVec.ofInt 64 (Int.fdiv (IntKind.i64.wrap (IntKind.i64.wrap (uc*6364136223846793005)+1442695040888963407)) (2 ^ 33)) ^^^ BitVec.ofInt 64 (Int.fdiv (IntKind.i64.wrap (IntKind.i64.wrap (uc*6364136223846793005)+1442695040888963407)) (2 ^ 45))).toNat:Int)) &&& BitVec.ofInt 64 255).toNat:Int))] [some ⟨true,[],[AV.agg [AV.sl [.int .u8] ua,Ai ub,Ai (IntKind.i64.wrap (IntKind.i64.wrap (uc*6364136223846793005)+1442695040888963407))]]⟩]):=by kernel_rfl
theorem r94 (ua:List AV) (ub uc:Int) (K:List AV→List (Option Blk)→Option AV) (h:q94 ua ub uc=true):inlA c94 1 94 [AV.ptr [1] 0 0] [0] (canH 1 [⟨true,[],[AV.agg [AV.sl [.int .u8] ua,AV.int .i64 ub,AV.int .i64 uc]]⟩]) (keepG Try.prog 1 [3] [] K)=K [AV.int .i64 (v94_0 ua ub uc)] [some ⟨true,[],[AV.agg [AV.sl [.int .u8] (v94_1 ua ub uc),AV.int .i64 (v94_2 ua ub uc),AV.int .i64 (v94_3 ua ub uc)]]⟩]:=by
 unfold v94_0 v94_2 v94_3
 simp only [hid_eq]
 exact (e94 ua ub uc K).trans ((br (fun b=>K [AV.int .i64 (bif b then IntKind.i64.wrap ((BitVec.ofInt 64 (IntKind.i64.wrap (IntKind.i64.wrap ((BitVec.ofInt 64 (IntKind.i64.wrap ((BitVec.ofInt 64 (Int.fdiv (IntKind.i64.wrap (IntKind.i64.wrap (uc*6364136223846793005)+1442695040888963407)) (2 ^ 33)) ^^^ BitVec.ofInt 64 (Int.fdiv (IntKind.i64.wrap (IntKind.i64.wrap (uc*6364136223846793005)+1442695040888963407)) (2 ^ 45))).toNat:Int)) &&& BitVec.ofInt 64 255).toNat:Int)+IntKind.i64.wrap (fI (ua.getD ub.toNat .undef) 0))) &&& BitVec.ofInt 64 255).toNat:Int) else IntKind.i64.wrap ((BitVec.ofInt 64 (IntKind.i64.wrap ((BitVec.ofInt 64 (Int.fdiv (IntKind.i64.wrap (IntKind.i64.wrap (uc*6364136223846793005)+1442695040888963407)) (2 ^ 33)) ^^^ BitVec.ofInt 64 (Int.fdiv (IntKind.i64.wrap (IntKind.i64.wrap (uc*6364136223846793005)+1442695040888963407)) (2 ^ 45))).toNat:Int)) &&& BitVec.ofInt 64 255).toNat:Int))] [some ⟨true,[],[AV.agg [AV.sl [.int .u8] ua,AV.int .i64 (bif b then IntKind.i64.wrap (ub+1) else ub),AV.int .i64 (IntKind.i64.wrap (IntKind.i64.wrap (uc*6364136223846793005)+1442695040888963407))]]⟩]) (brL1 (fun _=>rfl)) (fun _=>rfl)) h)
def m94:GModel
 | [.ptr g0 g1 g2],[⟨true,[],[.agg [.sl g3 ua,.int .i64 ub,.int .i64 uc]]⟩]=>bif nmEq g0 ([1]) && Nat.beq g1 0 && Nat.beq g2 0 && ctsEq g3 ([.int .u8]) then some (q94 ua ub uc,[AV.int .i64 (v94_0 ua ub uc)],[some ⟨true,[],[AV.agg [AV.sl [.int .u8] (v94_1 ua ub uc),AV.int .i64 (v94_2 ua ub uc),AV.int .i64 (v94_3 ua ub uc)]]⟩]) else none
 | _,_=>none
theorem k94:Known Try.prog 94:=⟨Try.f94,Try.func94,by kernel_rfl,by kernel_rfl⟩
theorem meets94:MeetsG Try.prog 94 m94:=by
 refine meetG (rt:=[3]) (gs:=[]) (f:=Try.f94) (l:=[]) (hs:=[(94,999,[2])]) (ts:=[]) (ws:=[]) (is:=[]) (ls:=[]) (lvl:=0) mixed k94 Try.func94 (by kernel_rfl) noLoop allT_nil allM_nil noI fun C w xs us bs r bs' hl hv hh h K=>?_
 unfold m94 at h
 split at h
 ·rename_i g0 g1 g2 g3 ua ub uc
  obtain ⟨hg,h⟩:=bif_pair h
  simp only [Bool.and_eq_true] at hg
  obtain ⟨⟨⟨q0,q1⟩,q2⟩,q3⟩:=hg
  obtain rfl:=(nmEq_iff _ _).1 q0
  obtain rfl:=Nat.eq_of_beq_eq_true q1
  obtain rfl:=Nat.eq_of_beq_eq_true q2
  obtain rfl:=ctsEq_eq _ _ q3
  obtain ⟨h1,rfl,rfl⟩:=trip_inj h
  exact r94 ua ub uc K h1
 ·cases h
noncomputable def c57:Cfg:=cfg Try.prog [(57,999,[4])] [] [(94,.g m94)] [] []
def q57 (a1:Int) (ua:List AV) (ub uc:Int):Bool:=(bif decide (a1≤0) then true else (bif decide (a1≤256) then (q94 ua ub uc && !decide (a1=0)) else (q94 ua ub uc && (q94 (v94_1 ua ub uc) (v94_2 ua ub uc) (v94_3 ua ub uc) && (q94 (v94_1 (v94_1 ua ub uc) (v94_2 ua ub uc) (v94_3 ua ub uc)) (v94_2 (v94_1 ua ub uc) (v94_2 ua ub uc) (v94_3 ua ub uc)) (v94_3 (v94_1 ua ub uc) (v94_2 ua ub uc) (v94_3 ua ub uc)) && (q94 (v94_1 (v94_1 (v94_1 ua ub uc) (v94_2 ua ub uc) (v94_3 ua ub uc)) (v94_2 (v94_1 ua ub uc) (v94_2 ua ub uc) (v94_3 ua ub uc)) (v94_3 (v94_1 ua ub uc) (v94_2 ua ub uc) (v94_3 ua ub uc))) (v94_2 (v94_1 (v94_1 ua ub uc) (v94_2 ua ub uc) (v94_3 ua ub uc)) (v94_2 (v94_1 ua ub uc) (v94_2 ua ub uc) (v94_3 ua ub uc)) (v94_3 (v94_1 ua ub uc) (v94_2 ua ub uc) (v94_3 ua ub uc))) (v94_3 (v94_1 (v94_1 ua ub uc) (v94_2 ua ub uc) (v94_3 ua ub uc)) (v94_2 (v94_1 ua ub uc) (v94_2 ua ub uc) (v94_3 ua ub uc)) (v94_3 (v94_1 ua ub uc) (v94_2 ua ub uc) (v94_3 ua ub uc))) && !decide (a1=0)))))))
def v57_0 (a1:Int) (ua:List AV) (ub uc:Int):Int:=hid (fun (a1:Int) (ua:List AV) (ub:Int) (uc:Int)=>(bif decide (a1≤0) then 0 else (bif decide (a1≤256) then Int.tmod (v94_0 ua ub uc) a1 else Int.tmod (IntKind.i64.wrap (IntKind.i64.wrap (IntKind.i64.wrap (IntKind.i64.wrap ((v94_0 ua ub uc)*16777216)+IntKind.i64.wrap ((v94_0 (v94_1 ua ub uc) (v94_2 ua ub uc) (v94_3 ua ub uc))*65536))+IntKind.i64.wrap ((v94_0 (v94_1 (v94_1 ua ub uc) (v94_2 ua ub uc) (v94_3 ua ub uc)) (v94_2 (v94_1 ua ub uc) (v94_2 ua ub uc) (v94_3 ua ub uc)) (v94_3 (v94_1 ua ub uc) (v94_2 ua ub uc) (v94_3 ua ub uc)))*256))+(v94_0 (v94_1 (v94_1 (v94_1 ua ub uc) (v94_2 ua ub uc) (v94_3 ua ub uc)) (v94_2 (v94_1 ua ub uc) (v94_2 ua ub uc) (v94_3 ua ub uc)) (v94_3 (v94_1 ua ub uc) (v94_2 ua ub uc) (v94_3 ua ub uc))) (v94_2 (v94_1 (v94_1 ua ub uc) (v94_2 ua ub uc) (v94_3 ua ub uc)) (v94_2 (v94_1 ua ub uc) (v94_2 ua ub uc) (v94_3 ua ub uc)) (v94_3 (v94_1 ua ub uc) (v94_2 ua ub uc) (v94_3 ua ub uc))) (v94_3 (v94_1 (v94_1 ua ub uc) (v94_2 ua ub uc) (v94_3 ua ub uc)) (v94_2 (v94_1 ua ub uc) (v94_2 ua ub uc) (v94_3 ua ub uc)) (v94_3 (v94_1 ua ub uc) (v94_2 ua ub uc) (v94_3 ua ub uc)))))) a1))) a1 ua ub uc
def v57_1 (a1:Int) (ua:List AV) (ub uc:Int):List AV:=hid (fun (a1:Int) (ua:List AV) (ub:Int) (uc:Int)=>(bif decide (a1≤0) then ua else (bif decide (a1≤256) then (v94_1 ua ub uc) else (v94_1 (v94_1 (v94_1 (v94_1 ua ub uc) (v94_2 ua ub uc) (v94_3 ua ub uc)) (v94_2 (v94_1 ua ub uc) (v94_2 ua ub uc) (v94_3 ua ub uc)) (v94_3 (v94_1 ua ub uc) (v94_2 ua ub uc) (v94_3 ua ub uc))) (v94_2 (v94_1 (v94_1 ua ub uc) (v94_2 ua ub uc) (v94_3 ua ub uc)) (v94_2 (v94_1 ua ub uc) (v94_2 ua ub uc) (v94_3 ua ub uc)) (v94_3 (v94_1 ua ub uc) (v94_2 ua ub uc) (v94_3 ua ub uc))) (v94_3 (v94_1 (v94_1 ua ub uc) (v94_2 ua ub uc) (v94_3 ua ub uc)) (v94_2 (v94_1 ua ub uc) (v94_2 ua ub uc) (v94_3 ua ub uc)) (v94_3 (v94_1 ua ub uc) (v94_2 ua ub uc) (v94_3 ua ub uc))))))) a1 ua ub uc
def v57_2 (a1:Int) (ua:List AV) (ub uc:Int):Int:=hid (fun (a1:Int) (ua:List AV) (ub:Int) (uc:Int)=>(bif decide (a1≤0) then ub else (bif decide (a1≤256) then (v94_2 ua ub uc) else (v94_2 (v94_1 (v94_1 (v94_1 ua ub uc) (v94_2 ua ub uc) (v94_3 ua ub uc)) (v94_2 (v94_1 ua ub uc) (v94_2 ua ub uc) (v94_3 ua ub uc)) (v94_3 (v94_1 ua ub uc) (v94_2 ua ub uc) (v94_3 ua ub uc))) (v94_2 (v94_1 (v94_1 ua ub uc) (v94_2 ua ub uc) (v94_3 ua ub uc)) (v94_2 (v94_1 ua ub uc) (v94_2 ua ub uc) (v94_3 ua ub uc)) (v94_3 (v94_1 ua ub uc) (v94_2 ua ub uc) (v94_3 ua ub uc))) (v94_3 (v94_1 (v94_1 ua ub uc) (v94_2 ua ub uc) (v94_3 ua ub uc)) (v94_2 (v94_1 ua ub uc) (v94_2 ua ub uc) (v94_3 ua ub uc)) (v94_3 (v94_1 ua ub uc) (v94_2 ua ub uc) (v94_3 ua ub uc))))))) a1 ua ub uc
def v57_3 (a1:Int) (ua:List AV) (ub uc:Int):Int:=hid (fun (a1:Int) (ua:List AV) (ub:Int) (uc:Int)=>(bif decide (a1≤0) then uc else (bif decide (a1≤256) then (v94_3 ua ub uc) else (v94_3 (v94_1 (v94_1 (v94_1 ua ub uc) (v94_2 ua ub uc) (v94_3 ua ub uc)) (v94_2 (v94_1 ua ub uc) (v94_2 ua ub uc) (v94_3 ua ub uc)) (v94_3 (v94_1 ua ub uc) (v94_2 ua ub uc) (v94_3 ua ub uc))) (v94_2 (v94_1 (v94_1 ua ub uc) (v94_2 ua ub uc) (v94_3 ua ub uc)) (v94_2 (v94_1 ua ub uc) (v94_2 ua ub uc) (v94_3 ua ub uc)) (v94_3 (v94_1 ua ub uc) (v94_2 ua ub uc) (v94_3 ua ub uc))) (v94_3 (v94_1 (v94_1 ua ub uc) (v94_2 ua ub uc) (v94_3 ua ub uc)) (v94_2 (v94_1 ua ub uc) (v94_2 ua ub uc) (v94_3 ua ub uc)) (v94_3 (v94_1 ua ub uc) (v94_2 ua ub uc) (v94_3 ua ub uc))))))) a1 ua ub uc
theorem e57 (a1:Int) (ua:List AV) (ub uc:Int) (K:List AV→List (Option Blk)→Option AV):inlA c57 1 57 [AV.ptr [1] 0 0,Ai a1] [0] (canH 1 [⟨true,[],[AV.agg [AV.sl [.int .u8] ua,Ai ub,Ai uc]]⟩]) (keepG Try.prog 1 [3] [] K)=(bif decide (a1≤0) then K [Ai 0] [some ⟨true,[],[AV.agg [AV.sl [.int .u8] ua,Ai ub,Ai uc]]⟩]
 else (bif decide (a1≤256) then (bif q94 ua ub uc then (bif !decide (a1=0) then K [Ai (Int.tmod (v94_0 ua ub uc) a1)] [some ⟨true,[],[AV.agg [AV.sl [.int .u8] (v94_1 ua ub uc),Ai (v94_2 ua ub uc),Ai (v94_3 ua ub uc)]]⟩]
 else none)
 else none)
 else (bif q94 ua ub uc then (bif q94 (v94_1 ua ub uc) (v94_2 ua ub uc) (v94_3 ua ub uc) then (bif q94 (v94_1 (v94_1 ua ub uc) (v94_2 ua ub uc) (v94_3 ua ub uc)) (v94_2 (v94_1 ua ub uc) (v94_2 ua ub uc) (v94_3 ua ub uc)) (v94_3 (v94_1 ua ub uc) (v94_2 ua ub uc) (v94_3 ua ub uc)) then (bif q94 (v94_1 (v94_1 (v94_1 ua ub uc) (v94_2 ua ub uc) (v94_3 ua ub uc)) (v94_2 (v94_1 ua ub uc) (v94_2 ua ub uc) (v94_3 ua ub uc)) (v94_3 (v94_1 ua ub uc) (v94_2 ua ub uc) (v94_3 ua ub uc))) (v94_2 (v94_1 (v94_1 ua ub uc) (v94_2 ua ub uc) (v94_3 ua ub uc)) (v94_2 (v94_1 ua ub uc) (v94_2 ua ub uc) (v94_3 ua ub uc)) (v94_3 (v94_1 ua ub uc) (v94_2 ua ub uc) (v94_3 ua ub uc))) (v94_3 (v94_1 (v94_1 ua ub uc) (v94_2 ua ub uc) (v94_3 ua ub uc)) (v94_2 (v94_1 ua ub uc) (v94_2 ua ub uc) (v94_3 ua ub uc)) (v94_3 (v94_1 ua ub uc) (v94_2 ua ub uc) (v94_3 ua ub uc))) then (bif !decide (a1=0) then K [Ai (Int.tmod (IntKind.i64.wrap (IntKind.i64.wrap (IntKind.i64.wrap (IntKind.i64.wrap ((v94_0 ua ub uc)*16777216)+IntKind.i64.wrap ((v94_0 (v94_1 ua ub uc) (v94_2 ua ub uc) (v94_3 ua ub uc))*65536))+IntKind.i64.wrap ((v94_0 (v94_1 (v94_1 ua ub uc) (v94_2 ua ub uc) (v94_3 ua ub uc)) (v94_2 (v94_1 ua ub uc) (v94_2 ua ub uc) (v94_3 ua ub uc)) (v94_3 (v94_1 ua ub uc) (v94_2 ua ub uc) (v94_3 ua ub uc)))*256))+(v94_0 (v94_1 (v94_1 (v94_1 ua ub uc) (v94_2 ua ub uc) (v94_3 ua ub uc)) (v94_2 (v94_1 ua ub uc) (v94_2 ua ub uc) (v94_3 ua ub uc)) (v94_3 (v94_1 ua ub uc) (v94_2 ua ub uc) (v94_3 ua ub uc))) (v94_2 (v94_1 (v94_1 ua ub uc) (v94_2 ua ub uc) (v94_3 ua ub uc)) (v94_2 (v94_1 ua ub uc) (v94_2 ua ub uc) (v94_3 ua ub uc)) (v94_3 (v94_1 ua ub uc) (v94_2 ua ub uc) (v94_3 ua ub uc))) (v94_3 (v94_1 (v94_1 ua ub uc) (v94_2 ua ub uc) (v94_3 ua ub uc)) (v94_2 (v94_1 ua ub uc) (v94_2 ua ub uc) (v94_3 ua ub uc)) (v94_3 (v94_1 ua ub uc) (v94_2 ua ub uc) (v94_3 ua ub uc)))))) a1)] [some ⟨true,[],[AV.agg [AV.sl [.int .u8] (v94_1 (v94_1 (v94_1 (v94_1 ua ub uc) (v94_2 ua ub uc) (v94_3 ua ub uc)) (v94_2 (v94_1 ua ub uc) (v94_2 ua ub uc) (v94_3 ua ub uc)) (v94_3 (v94_1 ua ub uc) (v94_2 ua ub uc) (v94_3 ua ub uc))) (v94_2 (v94_1 (v94_1 ua ub uc) (v94_2 ua ub uc) (v94_3 ua ub uc)) (v94_2 (v94_1 ua ub uc) (v94_2 ua ub uc) (v94_3 ua ub uc)) (v94_3 (v94_1 ua ub uc) (v94_2 ua ub uc) (v94_3 ua ub uc))) (v94_3 (v94_1 (v94_1 ua ub uc) (v94_2 ua ub uc) (v94_3 ua ub uc)) (v94_2 (v94_1 ua ub uc) (v94_2 ua ub uc) (v94_3 ua ub uc)) (v94_3 (v94_1 ua ub uc) (v94_2 ua ub uc) (v94_3 ua ub uc)))),Ai (v94_2 (v94_1 (v94_1 (v94_1 ua ub uc) (v94_2 ua ub uc) (v94_3 ua ub uc)) (v94_2 (v94_1 ua ub uc) (v94_2 ua ub uc) (v94_3 ua ub uc)) (v94_3 (v94_1 ua ub uc) (v94_2 ua ub uc) (v94_3 ua ub uc))) (v94_2 (v94_1 (v94_1 ua ub uc) (v94_2 ua ub uc) (v94_3 ua ub uc)) (v94_2 (v94_1 ua ub uc) (v94_2 ua ub uc) (v94_3 ua ub uc)) (v94_3 (v94_1 ua ub uc) (v94_2 ua ub uc) (v94_3 ua ub uc))) (v94_3 (v94_1 (v94_1 ua ub uc) (v94_2 ua ub uc) (v94_3 ua ub uc)) (v94_2 (v94_1 ua ub uc) (v94_2 ua ub uc) (v94_3 ua ub uc)) (v94_3 (v94_1 ua ub uc) (v94_2 ua ub uc) (v94_3 ua ub uc)))),Ai (v94_3 (v94_1 (v94_1 (v94_1 ua ub uc) (v94_2 ua ub uc) (v94_3 ua ub uc)) (v94_2 (v94_1 ua ub uc) (v94_2 ua ub uc) (v94_3 ua ub uc)) (v94_3 (v94_1 ua ub uc) (v94_2 ua ub uc) (v94_3 ua ub uc))) (v94_2 (v94_1 (v94_1 ua ub uc) (v94_2 ua ub uc) (v94_3 ua ub uc)) (v94_2 (v94_1 ua ub uc) (v94_2 ua ub uc) (v94_3 ua ub uc)) (v94_3 (v94_1 ua ub uc) (v94_2 ua ub uc) (v94_3 ua ub uc))) (v94_3 (v94_1 (v94_1 ua ub uc) (v94_2 ua ub uc) (v94_3 ua ub uc)) (v94_2 (v94_1 ua ub uc) (v94_2 ua ub uc) (v94_3 ua ub uc)) (v94_3 (v94_1 ua ub uc) (v94_2 ua ub uc) (v94_3 ua ub uc))))]]⟩]
 else none)
 else none)
 else none)
 else none)
 else none))):=by kernel_rfl
theorem r57 (a1:Int) (ua:List AV) (ub uc:Int) (K:List AV→List (Option Blk)→Option AV) (h:q57 a1 ua ub uc=true):inlA c57 1 57 [AV.ptr [1] 0 0,AV.int .i64 a1] [0] (canH 1 [⟨true,[],[AV.agg [AV.sl [.int .u8] ua,AV.int .i64 ub,AV.int .i64 uc]]⟩]) (keepG Try.prog 1 [3] [] K)=K [AV.int .i64 (v57_0 a1 ua ub uc)] [some ⟨true,[],[AV.agg [AV.sl [.int .u8] (v57_1 a1 ua ub uc),AV.int .i64 (v57_2 a1 ua ub uc),AV.int .i64 (v57_3 a1 ua ub uc)]]⟩]:=by
 unfold v57_0 v57_1 v57_2 v57_3
 simp only [hid_eq]
 exact (e57 a1 ua ub uc K).trans ((br (fun b=>K [AV.int .i64 (bif b then 0 else (bif decide (a1≤256) then Int.tmod (v94_0 ua ub uc) a1 else Int.tmod (IntKind.i64.wrap (IntKind.i64.wrap (IntKind.i64.wrap (IntKind.i64.wrap ((v94_0 ua ub uc)*16777216)+IntKind.i64.wrap ((v94_0 (v94_1 ua ub uc) (v94_2 ua ub uc) (v94_3 ua ub uc))*65536))+IntKind.i64.wrap ((v94_0 (v94_1 (v94_1 ua ub uc) (v94_2 ua ub uc) (v94_3 ua ub uc)) (v94_2 (v94_1 ua ub uc) (v94_2 ua ub uc) (v94_3 ua ub uc)) (v94_3 (v94_1 ua ub uc) (v94_2 ua ub uc) (v94_3 ua ub uc)))*256))+(v94_0 (v94_1 (v94_1 (v94_1 ua ub uc) (v94_2 ua ub uc) (v94_3 ua ub uc)) (v94_2 (v94_1 ua ub uc) (v94_2 ua ub uc) (v94_3 ua ub uc)) (v94_3 (v94_1 ua ub uc) (v94_2 ua ub uc) (v94_3 ua ub uc))) (v94_2 (v94_1 (v94_1 ua ub uc) (v94_2 ua ub uc) (v94_3 ua ub uc)) (v94_2 (v94_1 ua ub uc) (v94_2 ua ub uc) (v94_3 ua ub uc)) (v94_3 (v94_1 ua ub uc) (v94_2 ua ub uc) (v94_3 ua ub uc))) (v94_3 (v94_1 (v94_1 ua ub uc) (v94_2 ua ub uc) (v94_3 ua ub uc)) (v94_2 (v94_1 ua ub uc) (v94_2 ua ub uc) (v94_3 ua ub uc)) (v94_3 (v94_1 ua ub uc) (v94_2 ua ub uc) (v94_3 ua ub uc)))))) a1))] [some ⟨true,[],[AV.agg [AV.sl [.int .u8] (bif b then ua else (bif decide (a1≤256) then (v94_1 ua ub uc) else (v94_1 (v94_1 (v94_1 (v94_1 ua ub uc) (v94_2 ua ub uc) (v94_3 ua ub uc)) (v94_2 (v94_1 ua ub uc) (v94_2 ua ub uc) (v94_3 ua ub uc)) (v94_3 (v94_1 ua ub uc) (v94_2 ua ub uc) (v94_3 ua ub uc))) (v94_2 (v94_1 (v94_1 ua ub uc) (v94_2 ua ub uc) (v94_3 ua ub uc)) (v94_2 (v94_1 ua ub uc) (v94_2 ua ub uc) (v94_3 ua ub uc)) (v94_3 (v94_1 ua ub uc) (v94_2 ua ub uc) (v94_3 ua ub uc))) (v94_3 (v94_1 (v94_1 ua ub uc) (v94_2 ua ub uc) (v94_3 ua ub uc)) (v94_2 (v94_1 ua ub uc) (v94_2 ua ub uc) (v94_3 ua ub uc)) (v94_3 (v94_1 ua ub uc) (v94_2 ua ub uc) (v94_3 ua ub uc)))))),AV.int .i64 (bif b then ub else (bif decide (a1≤256) then (v94_2 ua ub uc) else (v94_2 (v94_1 (v94_1 (v94_1 ua ub uc) (v94_2 ua ub uc) (v94_3 ua ub uc)) (v94_2 (v94_1 ua ub uc) (v94_2 ua ub uc) (v94_3 ua ub uc)) (v94_3 (v94_1 ua ub uc) (v94_2 ua ub uc) (v94_3 ua ub uc))) (v94_2 (v94_1 (v94_1 ua ub uc) (v94_2 ua ub uc) (v94_3 ua ub uc)) (v94_2 (v94_1 ua ub uc) (v94_2 ua ub uc) (v94_3 ua ub uc)) (v94_3 (v94_1 ua ub uc) (v94_2 ua ub uc) (v94_3 ua ub uc))) (v94_3 (v94_1 (v94_1 ua ub uc) (v94_2 ua ub uc) (v94_3 ua ub uc)) (v94_2 (v94_1 ua ub uc) (v94_2 ua ub uc) (v94_3 ua ub uc)) (v94_3 (v94_1 ua ub uc) (v94_2 ua ub uc) (v94_3 ua ub uc)))))),AV.int .i64 (bif b then uc else (bif decide (a1≤256) then (v94_3 ua ub uc) else (v94_3 (v94_1 (v94_1 (v94_1 ua ub uc) (v94_2 ua ub uc) (v94_3 ua ub uc)) (v94_2 (v94_1 ua ub uc) (v94_2 ua ub uc) (v94_3 ua ub uc)) (v94_3 (v94_1 ua ub uc) (v94_2 ua ub uc) (v94_3 ua ub uc))) (v94_2 (v94_1 (v94_1 ua ub uc) (v94_2 ua ub uc) (v94_3 ua ub uc)) (v94_2 (v94_1 ua ub uc) (v94_2 ua ub uc) (v94_3 ua ub uc)) (v94_3 (v94_1 ua ub uc) (v94_2 ua ub uc) (v94_3 ua ub uc))) (v94_3 (v94_1 (v94_1 ua ub uc) (v94_2 ua ub uc) (v94_3 ua ub uc)) (v94_2 (v94_1 ua ub uc) (v94_2 ua ub uc) (v94_3 ua ub uc)) (v94_3 (v94_1 ua ub uc) (v94_2 ua ub uc) (v94_3 ua ub uc))))))]]⟩]) (fun _=>rfl) (br (fun b=>K [AV.int .i64 (bif b then Int.tmod (v94_0 ua ub uc) a1 else Int.tmod (IntKind.i64.wrap (IntKind.i64.wrap (IntKind.i64.wrap (IntKind.i64.wrap ((v94_0 ua ub uc)*16777216)+IntKind.i64.wrap ((v94_0 (v94_1 ua ub uc) (v94_2 ua ub uc) (v94_3 ua ub uc))*65536))+IntKind.i64.wrap ((v94_0 (v94_1 (v94_1 ua ub uc) (v94_2 ua ub uc) (v94_3 ua ub uc)) (v94_2 (v94_1 ua ub uc) (v94_2 ua ub uc) (v94_3 ua ub uc)) (v94_3 (v94_1 ua ub uc) (v94_2 ua ub uc) (v94_3 ua ub uc)))*256))+(v94_0 (v94_1 (v94_1 (v94_1 ua ub uc) (v94_2 ua ub uc) (v94_3 ua ub uc)) (v94_2 (v94_1 ua ub uc) (v94_2 ua ub uc) (v94_3 ua ub uc)) (v94_3 (v94_1 ua ub uc) (v94_2 ua ub uc) (v94_3 ua ub uc))) (v94_2 (v94_1 (v94_1 ua ub uc) (v94_2 ua ub uc) (v94_3 ua ub uc)) (v94_2 (v94_1 ua ub uc) (v94_2 ua ub uc) (v94_3 ua ub uc)) (v94_3 (v94_1 ua ub uc) (v94_2 ua ub uc) (v94_3 ua ub uc))) (v94_3 (v94_1 (v94_1 ua ub uc) (v94_2 ua ub uc) (v94_3 ua ub uc)) (v94_2 (v94_1 ua ub uc) (v94_2 ua ub uc) (v94_3 ua ub uc)) (v94_3 (v94_1 ua ub uc) (v94_2 ua ub uc) (v94_3 ua ub uc)))))) a1)] [some ⟨true,[],[AV.agg [AV.sl [.int .u8] (bif b then (v94_1 ua ub uc) else (v94_1 (v94_1 (v94_1 (v94_1 ua ub uc) (v94_2 ua ub uc) (v94_3 ua ub uc)) (v94_2 (v94_1 ua ub uc) (v94_2 ua ub uc) (v94_3 ua ub uc)) (v94_3 (v94_1 ua ub uc) (v94_2 ua ub uc) (v94_3 ua ub uc))) (v94_2 (v94_1 (v94_1 ua ub uc) (v94_2 ua ub uc) (v94_3 ua ub uc)) (v94_2 (v94_1 ua ub uc) (v94_2 ua ub uc) (v94_3 ua ub uc)) (v94_3 (v94_1 ua ub uc) (v94_2 ua ub uc) (v94_3 ua ub uc))) (v94_3 (v94_1 (v94_1 ua ub uc) (v94_2 ua ub uc) (v94_3 ua ub uc)) (v94_2 (v94_1 ua ub uc) (v94_2 ua ub uc) (v94_3 ua ub uc)) (v94_3 (v94_1 ua ub uc) (v94_2 ua ub uc) (v94_3 ua ub uc))))),AV.int .i64 (bif b then (v94_2 ua ub uc) else (v94_2 (v94_1 (v94_1 (v94_1 ua ub uc) (v94_2 ua ub uc) (v94_3 ua ub uc)) (v94_2 (v94_1 ua ub uc) (v94_2 ua ub uc) (v94_3 ua ub uc)) (v94_3 (v94_1 ua ub uc) (v94_2 ua ub uc) (v94_3 ua ub uc))) (v94_2 (v94_1 (v94_1 ua ub uc) (v94_2 ua ub uc) (v94_3 ua ub uc)) (v94_2 (v94_1 ua ub uc) (v94_2 ua ub uc) (v94_3 ua ub uc)) (v94_3 (v94_1 ua ub uc) (v94_2 ua ub uc) (v94_3 ua ub uc))) (v94_3 (v94_1 (v94_1 ua ub uc) (v94_2 ua ub uc) (v94_3 ua ub uc)) (v94_2 (v94_1 ua ub uc) (v94_2 ua ub uc) (v94_3 ua ub uc)) (v94_3 (v94_1 ua ub uc) (v94_2 ua ub uc) (v94_3 ua ub uc))))),AV.int .i64 (bif b then (v94_3 ua ub uc) else (v94_3 (v94_1 (v94_1 (v94_1 ua ub uc) (v94_2 ua ub uc) (v94_3 ua ub uc)) (v94_2 (v94_1 ua ub uc) (v94_2 ua ub uc) (v94_3 ua ub uc)) (v94_3 (v94_1 ua ub uc) (v94_2 ua ub uc) (v94_3 ua ub uc))) (v94_2 (v94_1 (v94_1 ua ub uc) (v94_2 ua ub uc) (v94_3 ua ub uc)) (v94_2 (v94_1 ua ub uc) (v94_2 ua ub uc) (v94_3 ua ub uc)) (v94_3 (v94_1 ua ub uc) (v94_2 ua ub uc) (v94_3 ua ub uc))) (v94_3 (v94_1 (v94_1 ua ub uc) (v94_2 ua ub uc) (v94_3 ua ub uc)) (v94_2 (v94_1 ua ub uc) (v94_2 ua ub uc) (v94_3 ua ub uc)) (v94_3 (v94_1 ua ub uc) (v94_2 ua ub uc) (v94_3 ua ub uc)))))]]⟩]) (brL (brL1 (fun _=>rfl))) (brL (brL (brL (brL (brL1 (fun _=>rfl)))))))) h)
def m57:GModel
 | [.ptr g0 g1 g2,.int .i64 a1],[⟨true,[],[.agg [.sl g3 ua,.int .i64 ub,.int .i64 uc]]⟩]=>bif nmEq g0 ([1]) && Nat.beq g1 0 && Nat.beq g2 0 && ctsEq g3 ([.int .u8]) then some (q57 a1 ua ub uc,[AV.int .i64 (v57_0 a1 ua ub uc)],[some ⟨true,[],[AV.agg [AV.sl [.int .u8] (v57_1 a1 ua ub uc),AV.int .i64 (v57_2 a1 ua ub uc),AV.int .i64 (v57_3 a1 ua ub uc)]]⟩]) else none
 | _,_=>none
theorem k57:Known Try.prog 57:=⟨Try.f57,Try.func57,by kernel_rfl,by kernel_rfl⟩
theorem meets57:MeetsG Try.prog 57 m57:=by
 refine meetG (rt:=[3]) (gs:=[]) (f:=Try.f57) (l:=[]) (hs:=[(57,999,[4])]) (ts:=[]) (ws:=[(94,.g m94)]) (is:=[]) (ls:=[]) (lvl:=0) mixed k57 Try.func57 (by kernel_rfl) noLoop allT_nil (allG_cons meets94 allM_nil) noI fun C w xs us bs r bs' hl hv hh h K=>?_
 unfold m57 at h
 split at h
 ·rename_i g0 g1 g2 a1 g3 ua ub uc
  obtain ⟨hg,h⟩:=bif_pair h
  simp only [Bool.and_eq_true] at hg
  obtain ⟨⟨⟨q0,q1⟩,q2⟩,q3⟩:=hg
  obtain rfl:=(nmEq_iff _ _).1 q0
  obtain rfl:=Nat.eq_of_beq_eq_true q1
  obtain rfl:=Nat.eq_of_beq_eq_true q2
  obtain rfl:=ctsEq_eq _ _ q3
  obtain ⟨h1,rfl,rfl⟩:=trip_inj h
  exact r57 a1 ua ub uc K h1
 ·cases h
noncomputable def c60:Cfg:=cfg Try.prog [(60,999,[4])] [] [(57,.g m57)] [] []
def q60 (ua:List AV) (ub uc:Int) (b1:List AV):Bool:=(q57 (b1.length:Int) ua ub uc && (decide (0≤(v57_0 (b1.length:Int) ua ub uc)) && decide ((v57_0 (b1.length:Int) ua ub uc)<(b1.length:Int))))
def v60_0 (ua:List AV) (ub uc:Int) (b1:List AV):Int:=fI (b1.getD (v57_0 (b1.length:Int) ua ub uc).toNat .undef) 0
def v60_1 (ua:List AV) (ub uc:Int) (b1:List AV):List AV:=(v57_1 (b1.length:Int) ua ub uc)
def v60_2 (ua:List AV) (ub uc:Int) (b1:List AV):Int:=(v57_2 (b1.length:Int) ua ub uc)
def v60_3 (ua:List AV) (ub uc:Int) (b1:List AV):Int:=(v57_3 (b1.length:Int) ua ub uc)
def v60_4 (ua:List AV) (ub uc:Int) (b1:List AV):List AV:=b1
theorem e60 (ua:List AV) (ub uc:Int) (b1:List AV) (K:List AV→List (Option Blk)→Option AV):inlA c60 1 60 [AV.ptr [1] 0 0,AV.own [2]] [0] (canH 1 [⟨true,[],[AV.agg [AV.sl [.int .u8] ua,Ai ub,Ai uc]]⟩,⟨false,[.int .i64],b1⟩]) (keepG Try.prog 2 [3] [] K)=(bif q57 (b1.length:Int) ua ub uc then (bif (decide (0≤(v57_0 (b1.length:Int) ua ub uc)) && decide ((v57_0 (b1.length:Int) ua ub uc)<(b1.length:Int))) then K [Ai (fI (b1.getD (v57_0 (b1.length:Int) ua ub uc).toNat .undef) 0)] [some ⟨true,[],[AV.agg [AV.sl [.int .u8] (v57_1 (b1.length:Int) ua ub uc),Ai (v57_2 (b1.length:Int) ua ub uc),Ai (v57_3 (b1.length:Int) ua ub uc)]]⟩,some ⟨false,[.int .i64],b1⟩]
 else none)
 else none):=by kernel_rfl
theorem r60 (ua:List AV) (ub uc:Int) (b1:List AV) (K:List AV→List (Option Blk)→Option AV) (h:q60 ua ub uc b1=true):inlA c60 1 60 [AV.ptr [1] 0 0,AV.own [2]] [0] (canH 1 [⟨true,[],[AV.agg [AV.sl [.int .u8] ua,AV.int .i64 ub,AV.int .i64 uc]]⟩,⟨false,[.int .i64],b1⟩]) (keepG Try.prog 2 [3] [] K)=K [AV.int .i64 (v60_0 ua ub uc b1)] [some ⟨true,[],[AV.agg [AV.sl [.int .u8] (v60_1 ua ub uc b1),AV.int .i64 (v60_2 ua ub uc b1),AV.int .i64 (v60_3 ua ub uc b1)]]⟩,some ⟨false,[.int .i64],(v60_4 ua ub uc b1)⟩]:=(e60 ua ub uc b1 K).trans ((brL (brL1 (fun _=>rfl))) h)
def m60:GModel
 | [.ptr g0 g1 g2,.own g3],[⟨true,[],[.agg [.sl g4 ua,.int .i64 ub,.int .i64 uc]]⟩,⟨false,g5,b1⟩]=>bif nmEq g0 ([1]) && Nat.beq g1 0 && Nat.beq g2 0 && nmEq g3 ([2]) && ctsEq g4 ([.int .u8]) && ctsEq g5 ([.int .i64]) then some (q60 ua ub uc b1,[AV.int .i64 (v60_0 ua ub uc b1)],[some ⟨true,[],[AV.agg [AV.sl [.int .u8] (v60_1 ua ub uc b1),AV.int .i64 (v60_2 ua ub uc b1),AV.int .i64 (v60_3 ua ub uc b1)]]⟩,some ⟨false,[.int .i64],(v60_4 ua ub uc b1)⟩]) else none
 | _,_=>none
theorem k60:Known Try.prog 60:=⟨Try.f60,Try.func60,by kernel_rfl,by kernel_rfl⟩
theorem meets60:MeetsG Try.prog 60 m60:=by
 refine meetG (rt:=[3]) (gs:=[]) (f:=Try.f60) (l:=[]) (hs:=[(60,999,[4])]) (ts:=[]) (ws:=[(57,.g m57)]) (is:=[]) (ls:=[]) (lvl:=0) mixed k60 Try.func60 (by kernel_rfl) noLoop allT_nil (allG_cons meets57 allM_nil) noI fun C w xs us bs r bs' hl hv hh h K=>?_
 unfold m60 at h
 split at h
 ·rename_i g0 g1 g2 g3 g4 ua ub uc g5 b1
  obtain ⟨hg,h⟩:=bif_pair h
  simp only [Bool.and_eq_true] at hg
  obtain ⟨⟨⟨⟨⟨q0,q1⟩,q2⟩,q3⟩,q4⟩,q5⟩:=hg
  obtain rfl:=(nmEq_iff _ _).1 q0
  obtain rfl:=Nat.eq_of_beq_eq_true q1
  obtain rfl:=Nat.eq_of_beq_eq_true q2
  obtain rfl:=(nmEq_iff _ _).1 q3
  obtain rfl:=ctsEq_eq _ _ q4
  obtain rfl:=ctsEq_eq _ _ q5
  obtain ⟨h1,rfl,rfl⟩:=trip_inj h
  exact r60 ua ub uc b1 K h1
 ·cases h
def F61_0 (t6 t7:Int) (h0 h1_0:List AV) (h1_1 h1_2:Int):Out ((Int × (List AV) × (List AV) × Int × Int)) (((List AV) × (List AV) × Int × Int)):=(bif decide (t7 > 0) then (bif q57 t6 h1_0 h1_1 h1_2 then (bif !decide (3=0) then (bif (decide ((h0.length+([AV.int .i64 (IntKind.i64.wrap ((v57_0 t6 h1_0 h1_1 h1_2) - IntKind.i64.wrap (Int.tdiv t6 3)))]).length)*8≤140737488355328) && decide ((h0.length+([AV.int .i64 (IntKind.i64.wrap ((v57_0 t6 h1_0 h1_1 h1_2) - IntKind.i64.wrap (Int.tdiv t6 3)))]).length)≤140737488355328)) then .next (IntKind.i64.wrap (t7 - 1),h0++([AV.int .i64 (IntKind.i64.wrap ((v57_0 t6 h1_0 h1_1 h1_2) - IntKind.i64.wrap (Int.tdiv t6 3)))]),(v57_1 t6 h1_0 h1_1 h1_2),(v57_2 t6 h1_0 h1_1 h1_2),(v57_3 t6 h1_0 h1_1 h1_2))
 else .fail)
 else .fail)
 else .fail)
 else .stop (h0,h1_0,h1_1,h1_2))
def R61_0 (t6:Int):((Int × (List AV) × (List AV) × Int × Int))→Out ((Int × (List AV) × (List AV) × Int × Int)) (((List AV) × (List AV) × Int × Int)):=fun s:Int × (List AV) × (List AV) × Int × Int=>F61_0 t6 s.1 s.2.1 s.2.2.1 s.2.2.2.1 s.2.2.2.2
def E61_0 (t6:Int):((Int × (List AV) × (List AV) × Int × Int))→St:=fun s:Int × (List AV) × (List AV) × Int × Int=>⟨[(0,AV.ptr [1] 0 0),(5,AV.own [0,5,0]),(6,Ai t6),(7,Ai s.1)],[([0,5,0],⟨false,[.int .i64],s.2.1⟩),([1],⟨true,[],[AV.agg [AV.sl [.int .u8] s.2.2.1,Ai s.2.2.2.1,Ai s.2.2.2.2]]⟩)]⟩
def K61_0 (k:Kont):(((List AV) × (List AV) × Int × Int))→Option AV:=fun p:(List AV) × (List AV) × Int × Int=>k (.exit 0) ⟨[(5,AV.own [0,5,0])],[([0,5,0],⟨false,[.int .i64],p.1⟩),([1],⟨true,[],[AV.agg [AV.sl [.int .u8] p.2.1,Ai p.2.2.1,Ai p.2.2.2]]⟩)]⟩
def l61_0:LModel:=fun _ _ st k=>match st with
 | ⟨[(0,.ptr g0 g1 g2),(5,.own g3),(6,.int .i64 t6),(7,.int .i64 t7)],[(g4,⟨false,g5,h0⟩),(g6,⟨true,[],[.agg [.sl g7 h1_0,.int .i64 h1_1,.int .i64 h1_2]]⟩)]⟩=>bif nmEq g0 ([1]) && Nat.beq g1 0 && Nat.beq g2 0 && nmEq g3 ([0,5,0]) && nmEq g4 ([0,5,0]) && ctsEq g5 ([.int .i64]) && nmEq g6 ([1]) && ctsEq g7 ([.int .u8]) then ro (runW (R61_0 t6) ((t7 - 0:Int).toNat+1) (t7,h0,h1_0,h1_1,h1_2)) none (K61_0 k) else none
 | _=>none
noncomputable def c61:Cfg:=cfg Try.prog [(61,0,[0,5,6,7]),(61,999,[4]),(61,1000,[5]),(61,1001,[0,5,6,7])] [] [(57,.g m57),(60,.g m60)] [] [(61,0,l61_0)]
theorem s61_0 (ce:CallE) (t6 t7:Int) (h0 h1_0:List AV) (h1_1 h1_2:Int) (next:St→Option AV) (k:Kont):stepA (codeA c61 ce [0] 61 0 (sub [1,1,1,0,1,0,0] (body Try.f61))) (normA [0] [0,5,6,7]) next ⟨[(0,AV.ptr [1] 0 0),(5,AV.own [0,5,0]),(6,Ai t6),(7,Ai t7)],[([0,5,0],⟨false,[.int .i64],h0⟩),([1],⟨true,[],[AV.agg [AV.sl [.int .u8] h1_0,Ai h1_1,Ai h1_2]]⟩)]⟩ k=(bif decide (t7 > 0) then (bif q57 t6 h1_0 h1_1 h1_2 then (bif !decide (3=0) then (bif (decide ((h0.length+([Ai (IntKind.i64.wrap ((v57_0 t6 h1_0 h1_1 h1_2) - IntKind.i64.wrap (Int.tdiv t6 3)))]).length)*8≤140737488355328) && decide ((h0.length+([Ai (IntKind.i64.wrap ((v57_0 t6 h1_0 h1_1 h1_2) - IntKind.i64.wrap (Int.tdiv t6 3)))]).length)≤140737488355328)) then next ⟨[(0,AV.ptr [1] 0 0),(5,AV.own [0,5,0]),(6,Ai t6),(7,Ai (IntKind.i64.wrap (t7 - 1)))],[([0,5,0],⟨false,[.int .i64],h0++([Ai (IntKind.i64.wrap ((v57_0 t6 h1_0 h1_1 h1_2) - IntKind.i64.wrap (Int.tdiv t6 3)))])⟩),([1],⟨true,[],[AV.agg [AV.sl [.int .u8] (v57_1 t6 h1_0 h1_1 h1_2),Ai (v57_2 t6 h1_0 h1_1 h1_2),Ai (v57_3 t6 h1_0 h1_1 h1_2)]]⟩)]⟩
 else none)
 else none)
 else none)
 else k (.exit 0) ⟨[(5,AV.own [0,5,0])],[([0,5,0],⟨false,[.int .i64],h0⟩),([1],⟨true,[],[AV.agg [AV.sl [.int .u8] h1_0,Ai h1_1,Ai h1_2]]⟩)]⟩):=by kernel_rfl
theorem st61_0 (t6:Int) (ce:CallE) (k:Kont) (s:(Int × (List AV) × (List AV) × Int × Int)) (next:St→Option AV):stepA (codeA c61 ce [0] 61 0 (sub [1,1,1,0,1,0,0] (body Try.f61))) (normA [0] [0,5,6,7]) next ((E61_0 t6) s) k=(R61_0 t6 s).el none (fun s=>next ((E61_0 t6) s)) (K61_0 k):=(s61_0 ce t6 s.1 s.2.1 s.2.2.1 s.2.2.2.1 s.2.2.2.2 next k).trans (by unfold R61_0;unfold F61_0;simp only [el_cond,el_ro,el_sum,el_fail,el_next,el_stop] <;> rfl)
theorem ok61_0 {ce:CallE}:LoopOK c61 ce [0] 61 0 (sub [1,1,1,0,1,0,0] (body Try.f61)):=by
 intro m hm st k r h
 obtain rfl:l61_0=m:=Option.some.inj hm
 unfold l61_0 at h
 split at h
 ·rename_i g0 g1 g2 g3 t6 t7 g4 g5 h0 g6 g7 h1_0 h1_1 h1_2
  obtain ⟨hg,h⟩:=bif_some h
  simp only [Bool.and_eq_true] at hg
  obtain ⟨⟨⟨⟨⟨⟨⟨q0,q1⟩,q2⟩,q3⟩,q4⟩,q5⟩,q6⟩,q7⟩:=hg
  obtain rfl:=(nmEq_iff _ _).1 q0
  obtain rfl:=Nat.eq_of_beq_eq_true q1
  obtain rfl:=Nat.eq_of_beq_eq_true q2
  obtain rfl:=(nmEq_iff _ _).1 q3
  obtain rfl:=(nmEq_iff _ _).1 q4
  obtain rfl:=ctsEq_eq _ _ q5
  obtain rfl:=(nmEq_iff _ _).1 q6
  obtain rfl:=ctsEq_eq _ _ q7
  refine ⟨((t7 - 0:Int).toNat+1),?_⟩
  rw [← h]
  exact loop_run (E61_0 t6) (K61_0 k) (st61_0 t6 ce k) _ (t7,h0,h1_0,h1_1,h1_2)
 ·cases h
def q61 (a1:Int) (ua:List AV) (ub uc:Int):Bool:=(q60 ua ub uc ([AV.int .i64 3,AV.int .i64 10,AV.int .i64 30,AV.int .i64 1000]) && (q57 (IntKind.i64.wrap (a1+1)) (v60_1 ua ub uc ([AV.int .i64 3,AV.int .i64 10,AV.int .i64 30,AV.int .i64 1000])) (v60_2 ua ub uc ([AV.int .i64 3,AV.int .i64 10,AV.int .i64 30,AV.int .i64 1000])) (v60_3 ua ub uc ([AV.int .i64 3,AV.int .i64 10,AV.int .i64 30,AV.int .i64 1000])) && (ro (runW (R61_0 (v60_0 ua ub uc ([AV.int .i64 3,AV.int .i64 10,AV.int .i64 30,AV.int .i64 1000]))) (((v57_0 (IntKind.i64.wrap (a1+1)) (v60_1 ua ub uc ([AV.int .i64 3,AV.int .i64 10,AV.int .i64 30,AV.int .i64 1000])) (v60_2 ua ub uc ([AV.int .i64 3,AV.int .i64 10,AV.int .i64 30,AV.int .i64 1000])) (v60_3 ua ub uc ([AV.int .i64 3,AV.int .i64 10,AV.int .i64 30,AV.int .i64 1000]))) - 0:Int).toNat+1) ((v57_0 (IntKind.i64.wrap (a1+1)) (v60_1 ua ub uc ([AV.int .i64 3,AV.int .i64 10,AV.int .i64 30,AV.int .i64 1000])) (v60_2 ua ub uc ([AV.int .i64 3,AV.int .i64 10,AV.int .i64 30,AV.int .i64 1000])) (v60_3 ua ub uc ([AV.int .i64 3,AV.int .i64 10,AV.int .i64 30,AV.int .i64 1000]))),([]:List AV),(v57_1 (IntKind.i64.wrap (a1+1)) (v60_1 ua ub uc ([AV.int .i64 3,AV.int .i64 10,AV.int .i64 30,AV.int .i64 1000])) (v60_2 ua ub uc ([AV.int .i64 3,AV.int .i64 10,AV.int .i64 30,AV.int .i64 1000])) (v60_3 ua ub uc ([AV.int .i64 3,AV.int .i64 10,AV.int .i64 30,AV.int .i64 1000]))),(v57_2 (IntKind.i64.wrap (a1+1)) (v60_1 ua ub uc ([AV.int .i64 3,AV.int .i64 10,AV.int .i64 30,AV.int .i64 1000])) (v60_2 ua ub uc ([AV.int .i64 3,AV.int .i64 10,AV.int .i64 30,AV.int .i64 1000])) (v60_3 ua ub uc ([AV.int .i64 3,AV.int .i64 10,AV.int .i64 30,AV.int .i64 1000]))),(v57_3 (IntKind.i64.wrap (a1+1)) (v60_1 ua ub uc ([AV.int .i64 3,AV.int .i64 10,AV.int .i64 30,AV.int .i64 1000])) (v60_2 ua ub uc ([AV.int .i64 3,AV.int .i64 10,AV.int .i64 30,AV.int .i64 1000])) (v60_3 ua ub uc ([AV.int .i64 3,AV.int .i64 10,AV.int .i64 30,AV.int .i64 1000]))))) false (fun p2=>true))))
def v61_0 (a1:Int) (ua:List AV) (ub uc:Int):List AV:=(ro (runW (R61_0 (v60_0 ua ub uc ([AV.int .i64 3,AV.int .i64 10,AV.int .i64 30,AV.int .i64 1000]))) (((v57_0 (IntKind.i64.wrap (a1+1)) (v60_1 ua ub uc ([AV.int .i64 3,AV.int .i64 10,AV.int .i64 30,AV.int .i64 1000])) (v60_2 ua ub uc ([AV.int .i64 3,AV.int .i64 10,AV.int .i64 30,AV.int .i64 1000])) (v60_3 ua ub uc ([AV.int .i64 3,AV.int .i64 10,AV.int .i64 30,AV.int .i64 1000]))) - 0:Int).toNat+1) ((v57_0 (IntKind.i64.wrap (a1+1)) (v60_1 ua ub uc ([AV.int .i64 3,AV.int .i64 10,AV.int .i64 30,AV.int .i64 1000])) (v60_2 ua ub uc ([AV.int .i64 3,AV.int .i64 10,AV.int .i64 30,AV.int .i64 1000])) (v60_3 ua ub uc ([AV.int .i64 3,AV.int .i64 10,AV.int .i64 30,AV.int .i64 1000]))),([]:List AV),(v57_1 (IntKind.i64.wrap (a1+1)) (v60_1 ua ub uc ([AV.int .i64 3,AV.int .i64 10,AV.int .i64 30,AV.int .i64 1000])) (v60_2 ua ub uc ([AV.int .i64 3,AV.int .i64 10,AV.int .i64 30,AV.int .i64 1000])) (v60_3 ua ub uc ([AV.int .i64 3,AV.int .i64 10,AV.int .i64 30,AV.int .i64 1000]))),(v57_2 (IntKind.i64.wrap (a1+1)) (v60_1 ua ub uc ([AV.int .i64 3,AV.int .i64 10,AV.int .i64 30,AV.int .i64 1000])) (v60_2 ua ub uc ([AV.int .i64 3,AV.int .i64 10,AV.int .i64 30,AV.int .i64 1000])) (v60_3 ua ub uc ([AV.int .i64 3,AV.int .i64 10,AV.int .i64 30,AV.int .i64 1000]))),(v57_3 (IntKind.i64.wrap (a1+1)) (v60_1 ua ub uc ([AV.int .i64 3,AV.int .i64 10,AV.int .i64 30,AV.int .i64 1000])) (v60_2 ua ub uc ([AV.int .i64 3,AV.int .i64 10,AV.int .i64 30,AV.int .i64 1000])) (v60_3 ua ub uc ([AV.int .i64 3,AV.int .i64 10,AV.int .i64 30,AV.int .i64 1000]))))) [] (fun p2=>p2.1))
def v61_1 (a1:Int) (ua:List AV) (ub uc:Int):List AV:=(ro (runW (R61_0 (v60_0 ua ub uc ([AV.int .i64 3,AV.int .i64 10,AV.int .i64 30,AV.int .i64 1000]))) (((v57_0 (IntKind.i64.wrap (a1+1)) (v60_1 ua ub uc ([AV.int .i64 3,AV.int .i64 10,AV.int .i64 30,AV.int .i64 1000])) (v60_2 ua ub uc ([AV.int .i64 3,AV.int .i64 10,AV.int .i64 30,AV.int .i64 1000])) (v60_3 ua ub uc ([AV.int .i64 3,AV.int .i64 10,AV.int .i64 30,AV.int .i64 1000]))) - 0:Int).toNat+1) ((v57_0 (IntKind.i64.wrap (a1+1)) (v60_1 ua ub uc ([AV.int .i64 3,AV.int .i64 10,AV.int .i64 30,AV.int .i64 1000])) (v60_2 ua ub uc ([AV.int .i64 3,AV.int .i64 10,AV.int .i64 30,AV.int .i64 1000])) (v60_3 ua ub uc ([AV.int .i64 3,AV.int .i64 10,AV.int .i64 30,AV.int .i64 1000]))),([]:List AV),(v57_1 (IntKind.i64.wrap (a1+1)) (v60_1 ua ub uc ([AV.int .i64 3,AV.int .i64 10,AV.int .i64 30,AV.int .i64 1000])) (v60_2 ua ub uc ([AV.int .i64 3,AV.int .i64 10,AV.int .i64 30,AV.int .i64 1000])) (v60_3 ua ub uc ([AV.int .i64 3,AV.int .i64 10,AV.int .i64 30,AV.int .i64 1000]))),(v57_2 (IntKind.i64.wrap (a1+1)) (v60_1 ua ub uc ([AV.int .i64 3,AV.int .i64 10,AV.int .i64 30,AV.int .i64 1000])) (v60_2 ua ub uc ([AV.int .i64 3,AV.int .i64 10,AV.int .i64 30,AV.int .i64 1000])) (v60_3 ua ub uc ([AV.int .i64 3,AV.int .i64 10,AV.int .i64 30,AV.int .i64 1000]))),(v57_3 (IntKind.i64.wrap (a1+1)) (v60_1 ua ub uc ([AV.int .i64 3,AV.int .i64 10,AV.int .i64 30,AV.int .i64 1000])) (v60_2 ua ub uc ([AV.int .i64 3,AV.int .i64 10,AV.int .i64 30,AV.int .i64 1000])) (v60_3 ua ub uc ([AV.int .i64 3,AV.int .i64 10,AV.int .i64 30,AV.int .i64 1000]))))) [] (fun p2=>p2.2.1))
def v61_2 (a1:Int) (ua:List AV) (ub uc:Int):Int:=(ro (runW (R61_0 (v60_0 ua ub uc ([AV.int .i64 3,AV.int .i64 10,AV.int .i64 30,AV.int .i64 1000]))) (((v57_0 (IntKind.i64.wrap (a1+1)) (v60_1 ua ub uc ([AV.int .i64 3,AV.int .i64 10,AV.int .i64 30,AV.int .i64 1000])) (v60_2 ua ub uc ([AV.int .i64 3,AV.int .i64 10,AV.int .i64 30,AV.int .i64 1000])) (v60_3 ua ub uc ([AV.int .i64 3,AV.int .i64 10,AV.int .i64 30,AV.int .i64 1000]))) - 0:Int).toNat+1) ((v57_0 (IntKind.i64.wrap (a1+1)) (v60_1 ua ub uc ([AV.int .i64 3,AV.int .i64 10,AV.int .i64 30,AV.int .i64 1000])) (v60_2 ua ub uc ([AV.int .i64 3,AV.int .i64 10,AV.int .i64 30,AV.int .i64 1000])) (v60_3 ua ub uc ([AV.int .i64 3,AV.int .i64 10,AV.int .i64 30,AV.int .i64 1000]))),([]:List AV),(v57_1 (IntKind.i64.wrap (a1+1)) (v60_1 ua ub uc ([AV.int .i64 3,AV.int .i64 10,AV.int .i64 30,AV.int .i64 1000])) (v60_2 ua ub uc ([AV.int .i64 3,AV.int .i64 10,AV.int .i64 30,AV.int .i64 1000])) (v60_3 ua ub uc ([AV.int .i64 3,AV.int .i64 10,AV.int .i64 30,AV.int .i64 1000]))),(v57_2 (IntKind.i64.wrap (a1+1)) (v60_1 ua ub uc ([AV.int .i64 3,AV.int .i64 10,AV.int .i64 30,AV.int .i64 1000])) (v60_2 ua ub uc ([AV.int .i64 3,AV.int .i64 10,AV.int .i64 30,AV.int .i64 1000])) (v60_3 ua ub uc ([AV.int .i64 3,AV.int .i64 10,AV.int .i64 30,AV.int .i64 1000]))),(v57_3 (IntKind.i64.wrap (a1+1)) (v60_1 ua ub uc ([AV.int .i64 3,AV.int .i64 10,AV.int .i64 30,AV.int .i64 1000])) (v60_2 ua ub uc ([AV.int .i64 3,AV.int .i64 10,AV.int .i64 30,AV.int .i64 1000])) (v60_3 ua ub uc ([AV.int .i64 3,AV.int .i64 10,AV.int .i64 30,AV.int .i64 1000]))))) 0 (fun p2=>p2.2.2.1))
def v61_3 (a1:Int) (ua:List AV) (ub uc:Int):Int:=(ro (runW (R61_0 (v60_0 ua ub uc ([AV.int .i64 3,AV.int .i64 10,AV.int .i64 30,AV.int .i64 1000]))) (((v57_0 (IntKind.i64.wrap (a1+1)) (v60_1 ua ub uc ([AV.int .i64 3,AV.int .i64 10,AV.int .i64 30,AV.int .i64 1000])) (v60_2 ua ub uc ([AV.int .i64 3,AV.int .i64 10,AV.int .i64 30,AV.int .i64 1000])) (v60_3 ua ub uc ([AV.int .i64 3,AV.int .i64 10,AV.int .i64 30,AV.int .i64 1000]))) - 0:Int).toNat+1) ((v57_0 (IntKind.i64.wrap (a1+1)) (v60_1 ua ub uc ([AV.int .i64 3,AV.int .i64 10,AV.int .i64 30,AV.int .i64 1000])) (v60_2 ua ub uc ([AV.int .i64 3,AV.int .i64 10,AV.int .i64 30,AV.int .i64 1000])) (v60_3 ua ub uc ([AV.int .i64 3,AV.int .i64 10,AV.int .i64 30,AV.int .i64 1000]))),([]:List AV),(v57_1 (IntKind.i64.wrap (a1+1)) (v60_1 ua ub uc ([AV.int .i64 3,AV.int .i64 10,AV.int .i64 30,AV.int .i64 1000])) (v60_2 ua ub uc ([AV.int .i64 3,AV.int .i64 10,AV.int .i64 30,AV.int .i64 1000])) (v60_3 ua ub uc ([AV.int .i64 3,AV.int .i64 10,AV.int .i64 30,AV.int .i64 1000]))),(v57_2 (IntKind.i64.wrap (a1+1)) (v60_1 ua ub uc ([AV.int .i64 3,AV.int .i64 10,AV.int .i64 30,AV.int .i64 1000])) (v60_2 ua ub uc ([AV.int .i64 3,AV.int .i64 10,AV.int .i64 30,AV.int .i64 1000])) (v60_3 ua ub uc ([AV.int .i64 3,AV.int .i64 10,AV.int .i64 30,AV.int .i64 1000]))),(v57_3 (IntKind.i64.wrap (a1+1)) (v60_1 ua ub uc ([AV.int .i64 3,AV.int .i64 10,AV.int .i64 30,AV.int .i64 1000])) (v60_2 ua ub uc ([AV.int .i64 3,AV.int .i64 10,AV.int .i64 30,AV.int .i64 1000])) (v60_3 ua ub uc ([AV.int .i64 3,AV.int .i64 10,AV.int .i64 30,AV.int .i64 1000]))))) 0 (fun p2=>p2.2.2.2))
theorem e61 (a1:Int) (ua:List AV) (ub uc:Int) (K:List AV→List (Option Blk)→Option AV):inlA c61 1 61 [AV.ptr [1] 0 0,Ai a1] [0] (canH 1 [⟨true,[],[AV.agg [AV.sl [.int .u8] ua,Ai ub,Ai uc]]⟩]) (keepG Try.prog 1 [24] [] K)=(bif q60 ua ub uc ([Ai 3,Ai 10,Ai 30,Ai 1000]) then (bif q57 (IntKind.i64.wrap (a1+1)) (v60_1 ua ub uc ([Ai 3,Ai 10,Ai 30,Ai 1000])) (v60_2 ua ub uc ([Ai 3,Ai 10,Ai 30,Ai 1000])) (v60_3 ua ub uc ([Ai 3,Ai 10,Ai 30,Ai 1000])) then (ro (runW (R61_0 (v60_0 ua ub uc ([Ai 3,Ai 10,Ai 30,Ai 1000]))) (((v57_0 (IntKind.i64.wrap (a1+1)) (v60_1 ua ub uc ([Ai 3,Ai 10,Ai 30,Ai 1000])) (v60_2 ua ub uc ([Ai 3,Ai 10,Ai 30,Ai 1000])) (v60_3 ua ub uc ([Ai 3,Ai 10,Ai 30,Ai 1000]))) - 0:Int).toNat+1) ((v57_0 (IntKind.i64.wrap (a1+1)) (v60_1 ua ub uc ([Ai 3,Ai 10,Ai 30,Ai 1000])) (v60_2 ua ub uc ([Ai 3,Ai 10,Ai 30,Ai 1000])) (v60_3 ua ub uc ([Ai 3,Ai 10,Ai 30,Ai 1000]))),([]:List AV),(v57_1 (IntKind.i64.wrap (a1+1)) (v60_1 ua ub uc ([Ai 3,Ai 10,Ai 30,Ai 1000])) (v60_2 ua ub uc ([Ai 3,Ai 10,Ai 30,Ai 1000])) (v60_3 ua ub uc ([Ai 3,Ai 10,Ai 30,Ai 1000]))),(v57_2 (IntKind.i64.wrap (a1+1)) (v60_1 ua ub uc ([Ai 3,Ai 10,Ai 30,Ai 1000])) (v60_2 ua ub uc ([Ai 3,Ai 10,Ai 30,Ai 1000])) (v60_3 ua ub uc ([Ai 3,Ai 10,Ai 30,Ai 1000]))),(v57_3 (IntKind.i64.wrap (a1+1)) (v60_1 ua ub uc ([Ai 3,Ai 10,Ai 30,Ai 1000])) (v60_2 ua ub uc ([Ai 3,Ai 10,Ai 30,Ai 1000])) (v60_3 ua ub uc ([Ai 3,Ai 10,Ai 30,Ai 1000]))))) none (fun p2=>K [AV.fl [.int .i64] p2.1] [some ⟨true,[],[AV.agg [AV.sl [.int .u8] p2.2.1,Ai p2.2.2.1,Ai p2.2.2.2]]⟩]))
 else none)
 else none):=by kernel_rfl
theorem r61 (a1:Int) (ua:List AV) (ub uc:Int) (K:List AV→List (Option Blk)→Option AV) (h:q61 a1 ua ub uc=true):inlA c61 1 61 [AV.ptr [1] 0 0,AV.int .i64 a1] [0] (canH 1 [⟨true,[],[AV.agg [AV.sl [.int .u8] ua,AV.int .i64 ub,AV.int .i64 uc]]⟩]) (keepG Try.prog 1 [24] [] K)=K [AV.fl [.int .i64] (v61_0 a1 ua ub uc)] [some ⟨true,[],[AV.agg [AV.sl [.int .u8] (v61_1 a1 ua ub uc),AV.int .i64 (v61_2 a1 ua ub uc),AV.int .i64 (v61_3 a1 ua ub uc)]]⟩]:=(e61 a1 ua ub uc K).trans ((brL (brL (brO (fun o:Option (((List AV) × (List AV) × Int × Int))=>K [AV.fl [.int .i64] (ro o [] (fun p2=>p2.1))] [some ⟨true,[],[AV.agg [AV.sl [.int .u8] (ro o [] (fun p2=>p2.2.1)),AV.int .i64 (ro o 0 (fun p2=>p2.2.2.1)),AV.int .i64 (ro o 0 (fun p2=>p2.2.2.2))]]⟩]) (fun p2=>(fun _=>rfl))))) h)
def m61:GModel
 | [.ptr g0 g1 g2,.int .i64 a1],[⟨true,[],[.agg [.sl g3 ua,.int .i64 ub,.int .i64 uc]]⟩]=>bif nmEq g0 ([1]) && Nat.beq g1 0 && Nat.beq g2 0 && ctsEq g3 ([.int .u8]) then some (q61 a1 ua ub uc,[AV.fl [.int .i64] (v61_0 a1 ua ub uc)],[some ⟨true,[],[AV.agg [AV.sl [.int .u8] (v61_1 a1 ua ub uc),AV.int .i64 (v61_2 a1 ua ub uc),AV.int .i64 (v61_3 a1 ua ub uc)]]⟩]) else none
 | _,_=>none
theorem k61:Known Try.prog 61:=⟨Try.f61,Try.func61,by kernel_rfl,by kernel_rfl⟩
theorem meets61:MeetsG Try.prog 61 m61:=by
 refine meetG (rt:=[24]) (gs:=[]) (f:=Try.f61) (l:=[(0,sub [1,1,1,0,1,0,0] (body Try.f61))]) (hs:=[(61,0,[0,5,6,7]),(61,999,[4]),(61,1000,[5]),(61,1001,[0,5,6,7])]) (ts:=[]) (ws:=[(57,.g m57),(60,.g m60)]) (is:=[]) (ls:=[(61,0,l61_0)]) (lvl:=0) mixed k61 Try.func61 (by kernel_rfl) (loops_cons ok61_0 noLoop) allT_nil (allG_cons meets57 (allG_cons meets60 allM_nil)) noI fun C w xs us bs r bs' hl hv hh h K=>?_
 unfold m61 at h
 split at h
 ·rename_i g0 g1 g2 a1 g3 ua ub uc
  obtain ⟨hg,h⟩:=bif_pair h
  simp only [Bool.and_eq_true] at hg
  obtain ⟨⟨⟨q0,q1⟩,q2⟩,q3⟩:=hg
  obtain rfl:=(nmEq_iff _ _).1 q0
  obtain rfl:=Nat.eq_of_beq_eq_true q1
  obtain rfl:=Nat.eq_of_beq_eq_true q2
  obtain rfl:=ctsEq_eq _ _ q3
  obtain ⟨h1,rfl,rfl⟩:=trip_inj h
  exact r61 a1 ua ub uc K h1
 ·cases h
noncomputable def c52:Cfg:=cfg Try.prog [(52,999,[6])] [] [] [] []
def q52 (a0 a1 a2:Int):Bool:=true
def v52_0 (a0 a1 a2:Int):Bool:=(bif decide (a0 ≥ a1) then decide (a0≤a2) else false)
theorem e52 (a0 a1 a2:Int):funA c52 0 52 [Ai a0,Ai a1,Ai a2]=(bif decide (a0 ≥ a1) then some (AV.bool (decide (a0≤a2)))
 else some (AV.bool false)):=by kernel_rfl
def m52:TModel
 | [.int .i64 a0,.int .i64 a1,.int .i64 a2]=>some (true,AV.bool (v52_0 a0 a1 a2))
 | _=>none
theorem k52:Known Try.prog 52:=⟨Try.f52,Try.func52,by kernel_rfl,by kernel_rfl⟩
theorem meets52:Meets Try.prog 52 m52:=by
 refine meet (f:=Try.f52) (l:=[]) (hs:=[(52,999,[6])]) (ts:=[]) (ws:=[]) (is:=[]) (ls:=[]) (lvl:=0) mixed k52 Try.func52 (by kernel_rfl) noLoop allT_nil allM_nil noI fun w xs us r hl hv h=>?_
 unfold m52 at h
 split at h
 ·rename_i a0 a1 a2
  obtain ⟨h1,rfl⟩:=pair_inj h
  exact (e52 a0 a1 a2).trans (of_tt (brT (fun b=>some (AV.bool (bif b then decide (a0≤a2) else false))) (fun _=>rfl) (fun _=>rfl)))
 ·cases h
def F36_0 (t0:List AV) (t3:Int):Out (Int) (Unit ⊕ Unit):=(bif decide (t3<(t0.length:Int)) then (bif (decide (0≤t3) && decide (t3<(t0.length:Int))) then (bif !(v52_0 (fI (t0.getD t3.toNat .undef) 0) (-999) 999) then .stop (.inr ())
 else .next (IntKind.i64.wrap (t3+1)))
 else .fail)
 else .stop (.inl ()))
def R36_0 (t0:List AV):(Int)→Out (Int) (Unit ⊕ Unit):=fun s:Int=>F36_0 t0 s
def E36_0 (t0:List AV):(Int)→St:=fun s:Int=>⟨[(0,AV.sl [.int .i64] t0),(3,Ai s)],[]⟩
def K36_0 (t0:List AV) (k:Kont):(Unit ⊕ Unit)→Option AV:=sumE (fun _:Unit=>k (.exit 0) ⟨[(0,AV.sl [.int .i64] t0)],[]⟩) (fun _:Unit=>k .ret ⟨[(2,AV.bool false)],[]⟩)
def l36_0:LModel:=fun _ _ st k=>match st with
 | ⟨[(0,.sl g0 t0),(3,.int .i64 t3)],[]⟩=>bif ctsEq g0 ([.int .i64]) then ro (runW (R36_0 t0) (((t0.length:Int) - t3:Int).toNat+1) t3) none (K36_0 t0 k) else none
 | _=>none
noncomputable def c36:Cfg:=cfg Try.prog [(36,0,[0,3]),(36,999,[2]),(36,1000,[0]),(36,1001,[0,3])] [(52,m52)] [] [] [(36,0,l36_0)]
theorem s36_0 (ce:CallE) (t0:List AV) (t3:Int) (next:St→Option AV) (k:Kont):stepA (codeA c36 ce [] 36 0 (sub [1,0,1,0,0] (body Try.f36))) (normA [] [0,3]) next ⟨[(0,AV.sl [.int .i64] t0),(3,Ai t3)],[]⟩ k=(bif decide (t3<(t0.length:Int)) then (bif (decide (0≤t3) && decide (t3<(t0.length:Int))) then (bif !(v52_0 (fI (t0.getD t3.toNat .undef) 0) (-999) 999) then k .ret ⟨[(2,AV.bool false)],[]⟩
 else next ⟨[(0,AV.sl [.int .i64] t0),(3,Ai (IntKind.i64.wrap (t3+1)))],[]⟩)
 else none)
 else k (.exit 0) ⟨[(0,AV.sl [.int .i64] t0)],[]⟩):=by kernel_rfl
theorem st36_0 (t0:List AV) (ce:CallE) (k:Kont) (s:Int) (next:St→Option AV):stepA (codeA c36 ce [] 36 0 (sub [1,0,1,0,0] (body Try.f36))) (normA [] [0,3]) next ((E36_0 t0) s) k=(R36_0 t0 s).el none (fun s=>next ((E36_0 t0) s)) (K36_0 t0 k):=(s36_0 ce t0 s next k).trans (by unfold R36_0;unfold F36_0;simp only [el_cond,el_ro,el_sum,el_fail,el_next,el_stop] <;> rfl)
theorem ok36_0 {ce:CallE}:LoopOK c36 ce [] 36 0 (sub [1,0,1,0,0] (body Try.f36)):=by
 intro m hm st k r h
 obtain rfl:l36_0=m:=Option.some.inj hm
 unfold l36_0 at h
 split at h
 ·rename_i g0 t0 t3
  obtain ⟨hg,h⟩:=bif_some h
  have q0:=hg
  obtain rfl:=ctsEq_eq _ _ q0
  refine ⟨(((t0.length:Int) - t3:Int).toNat+1),?_⟩
  rw [← h]
  exact loop_run (E36_0 t0) (K36_0 t0 k) (st36_0 t0 ce k) _ t3
 ·cases h
def q36 (a0:List AV):Bool:=(ro (runW (R36_0 a0) (((a0.length:Int) - 0:Int).toNat+1) 0) false (sumE (fun _=>true) (fun _=>true)))
def v36_0 (a0:List AV):Bool:=(ro (runW (R36_0 a0) (((a0.length:Int) - 0:Int).toNat+1) 0) false (sumE (fun _=>decide ((a0.length:Int)≤64)) (fun _=>false)))
theorem e36 (a0:List AV):funA c36 0 36 [AV.sl [.int .i64] a0]=(ro (runW (R36_0 a0) (((a0.length:Int) - 0:Int).toNat+1) 0) none (sumE (fun _=>some (AV.bool (decide ((a0.length:Int)≤64)))) (fun _=>some (AV.bool false)))):=by kernel_rfl
def m36:TModel
 | [.sl g0 a0]=>bif ctsEq g0 ([.int .i64]) then some (q36 a0,AV.bool (v36_0 a0)) else none
 | _=>none
theorem k36:Known Try.prog 36:=⟨Try.f36,Try.func36,by kernel_rfl,by kernel_rfl⟩
theorem meets36:Meets Try.prog 36 m36:=by
 refine meet (f:=Try.f36) (l:=[(0,sub [1,0,1,0,0] (body Try.f36))]) (hs:=[(36,0,[0,3]),(36,999,[2]),(36,1000,[0]),(36,1001,[0,3])]) (ts:=[(52,m52)]) (ws:=[]) (is:=[]) (ls:=[(36,0,l36_0)]) (lvl:=0) mixed k36 Try.func36 (by kernel_rfl) (loops_cons ok36_0 noLoop) (allT_cons meets52 allT_nil) allM_nil noI fun w xs us r hl hv h=>?_
 unfold m36 at h
 split at h
 ·rename_i g0 a0
  obtain ⟨hg,h⟩:=bif_pair h
  have q0:=hg
  obtain rfl:=ctsEq_eq _ _ q0
  obtain ⟨h1,rfl⟩:=pair_inj h
  exact (e36 a0).trans ((brO (fun o:Option (Unit ⊕ Unit)=>some (AV.bool (ro o false (sumE (fun _=>decide ((a0.length:Int)≤64)) (fun _=>false))))) (brS (fun o:Unit ⊕ Unit=>some (AV.bool ((sumE (fun _=>decide ((a0.length:Int)≤64)) (fun _=>false)) o))) (fun _=>(fun _=>rfl)) (fun _=>(fun _=>rfl)))) h1)
 ·cases h
def F35_0_s0 (t0 h0:List AV) (t4:Int):Out (Int ⊕ (Int × (List AV))) (Unit ⊕ ((List AV))):=(bif decide (t4<(t0.length:Int)) then (bif (decide ((([AV.int .i64 t4]).length)*8≤140737488355328) && decide ((([AV.int .i64 t4]).length)≤140737488355328)) then .next (.inr (IntKind.i64.wrap (t4+1),[AV.int .i64 t4]))
 else .fail)
 else .stop (.inl ()))
def F35_0_s1 (t0 h0:List AV) (t4:Int) (h1:List AV):Out (Int ⊕ (Int × (List AV))) (Unit ⊕ ((List AV))):=(bif decide (t4<(t0.length:Int)) then (bif (decide ((h1.length+([AV.int .i64 t4]).length)*8≤140737488355328) && decide ((h1.length+([AV.int .i64 t4]).length)≤140737488355328)) then .next (.inr (IntKind.i64.wrap (t4+1),h1++([AV.int .i64 t4])))
 else .fail)
 else .stop (.inr h1))
def R35_0 (t0 h0:List AV):(Int ⊕ (Int × (List AV)))→Out (Int ⊕ (Int × (List AV))) (Unit ⊕ ((List AV))):=sumE (fun s:Int=>F35_0_s0 t0 h0 s) (fun s:Int × (List AV)=>F35_0_s1 t0 h0 s.1 s.2)
def E35_0 (t0 h0:List AV):(Int ⊕ (Int × (List AV)))→St:=sumE (fun s:Int=>⟨[(0,AV.sl [.int .i64] t0),(2,AV.ptr [0,2] 0 0),(3,AV.ptr [0,3] 0 0),(4,Ai s)],[([0,0,3],⟨false,[.int .i64],h0⟩),([0,2],⟨true,[],[AV.agg [AV.snil,AV.snil,AV.snil]]⟩),([0,3],⟨true,[],[AV.agg [AV.own [0,0,3],AV.snil,AV.snil]]⟩)]⟩) (fun s:Int × (List AV)=>⟨[(0,AV.sl [.int .i64] t0),(2,AV.ptr [0,2] 0 0),(3,AV.ptr [0,3] 0 0),(4,Ai s.1)],[([0,0,3],⟨false,[.int .i64],h0⟩),([0,1,3],⟨false,[.int .i64],s.2⟩),([0,2],⟨true,[],[AV.agg [AV.snil,AV.snil,AV.snil]]⟩),([0,3],⟨true,[],[AV.agg [AV.own [0,0,3],AV.own [0,1,3],AV.snil]]⟩)]⟩)
def K35_0 (h0:List AV) (k:Kont):(Unit ⊕ ((List AV)))→Option AV:=sumE (fun _:Unit=>k (.exit 0) ⟨[(2,AV.ptr [0,2] 0 0),(3,AV.ptr [0,3] 0 0)],[([0,0,3],⟨false,[.int .i64],h0⟩),([0,2],⟨true,[],[AV.agg [AV.snil,AV.snil,AV.snil]]⟩),([0,3],⟨true,[],[AV.agg [AV.own [0,0,3],AV.snil,AV.snil]]⟩)]⟩) (fun p:(List AV)=>k (.exit 0) ⟨[(2,AV.ptr [0,2] 0 0),(3,AV.ptr [0,3] 0 0)],[([0,0,3],⟨false,[.int .i64],h0⟩),([0,1,3],⟨false,[.int .i64],p⟩),([0,2],⟨true,[],[AV.agg [AV.snil,AV.snil,AV.snil]]⟩),([0,3],⟨true,[],[AV.agg [AV.own [0,0,3],AV.own [0,1,3],AV.snil]]⟩)]⟩)
def l35_0:LModel:=fun _ _ st k=>match st with
 | ⟨[(0,.sl g0 t0),(2,.ptr g1 g2 g3),(3,.ptr g4 g5 g6),(4,.int .i64 t4)],[(g7,⟨false,g8,h0⟩),(g9,⟨true,[],[.agg [.snil,.snil,.snil]]⟩),(g10,⟨true,[],[.agg [.own g11,.snil,.snil]]⟩)]⟩=>bif ctsEq g0 ([.int .i64]) && nmEq g1 ([0,2]) && Nat.beq g2 0 && Nat.beq g3 0 && nmEq g4 ([0,3]) && Nat.beq g5 0 && Nat.beq g6 0 && nmEq g7 ([0,0,3]) && ctsEq g8 ([.int .i64]) && nmEq g9 ([0,2]) && nmEq g10 ([0,3]) && nmEq g11 ([0,0,3]) then ro (runW (R35_0 t0 h0) (((t0.length:Int) - t4:Int).toNat+1) (.inl t4)) none (K35_0 h0 k) else none
 | ⟨[(0,.sl g0 t0),(2,.ptr g1 g2 g3),(3,.ptr g4 g5 g6),(4,.int .i64 t4)],[(g7,⟨false,g8,h0⟩),(g9,⟨false,g10,h1⟩),(g11,⟨true,[],[.agg [.snil,.snil,.snil]]⟩),(g12,⟨true,[],[.agg [.own g13,.own g14,.snil]]⟩)]⟩=>bif ctsEq g0 ([.int .i64]) && nmEq g1 ([0,2]) && Nat.beq g2 0 && Nat.beq g3 0 && nmEq g4 ([0,3]) && Nat.beq g5 0 && Nat.beq g6 0 && nmEq g7 ([0,0,3]) && ctsEq g8 ([.int .i64]) && nmEq g9 ([0,1,3]) && ctsEq g10 ([.int .i64]) && nmEq g11 ([0,2]) && nmEq g12 ([0,3]) && nmEq g13 ([0,0,3]) && nmEq g14 ([0,1,3]) then ro (runW (R35_0 t0 h0) (((t0.length:Int) - t4:Int).toNat+1) (.inr (t4,h1))) none (K35_0 h0 k) else none
 | _=>none
noncomputable def c35:Cfg:=cfg Try.prog [(35,0,[0,2,3,4]),(35,999,[2]),(35,1000,[2,3]),(35,1001,[0,2,3,4])] [(36,m36)] [] [] [(35,0,l35_0)]
theorem s35_0_s0 (ce:CallE) (t0:List AV) (t4:Int) (h0:List AV) (next:St→Option AV) (k:Kont):stepA (codeA c35 ce [] 35 0 (sub [1,1,1,0,1,0,0] (body Try.f35))) (normA [] [0,2,3,4]) next ⟨[(0,AV.sl [.int .i64] t0),(2,AV.ptr [0,2] 0 0),(3,AV.ptr [0,3] 0 0),(4,Ai t4)],[([0,0,3],⟨false,[.int .i64],h0⟩),([0,2],⟨true,[],[AV.agg [AV.snil,AV.snil,AV.snil]]⟩),([0,3],⟨true,[],[AV.agg [AV.own [0,0,3],AV.snil,AV.snil]]⟩)]⟩ k=(bif decide (t4<(t0.length:Int)) then (bif (decide ((([Ai t4]).length)*8≤140737488355328) && decide ((([Ai t4]).length)≤140737488355328)) then next ⟨[(0,AV.sl [.int .i64] t0),(2,AV.ptr [0,2] 0 0),(3,AV.ptr [0,3] 0 0),(4,Ai (IntKind.i64.wrap (t4+1)))],[([0,0,3],⟨false,[.int .i64],h0⟩),([0,1,3],⟨false,[.int .i64],[Ai t4]⟩),([0,2],⟨true,[],[AV.agg [AV.snil,AV.snil,AV.snil]]⟩),([0,3],⟨true,[],[AV.agg [AV.own [0,0,3],AV.own [0,1,3],AV.snil]]⟩)]⟩
 else none)
 else k (.exit 0) ⟨[(2,AV.ptr [0,2] 0 0),(3,AV.ptr [0,3] 0 0)],[([0,0,3],⟨false,[.int .i64],h0⟩),([0,2],⟨true,[],[AV.agg [AV.snil,AV.snil,AV.snil]]⟩),([0,3],⟨true,[],[AV.agg [AV.own [0,0,3],AV.snil,AV.snil]]⟩)]⟩):=by kernel_rfl
theorem s35_0_s1 (ce:CallE) (t0:List AV) (t4:Int) (h0 h1:List AV) (next:St→Option AV) (k:Kont):stepA (codeA c35 ce [] 35 0 (sub [1,1,1,0,1,0,0] (body Try.f35))) (normA [] [0,2,3,4]) next ⟨[(0,AV.sl [.int .i64] t0),(2,AV.ptr [0,2] 0 0),(3,AV.ptr [0,3] 0 0),(4,Ai t4)],[([0,0,3],⟨false,[.int .i64],h0⟩),([0,1,3],⟨false,[.int .i64],h1⟩),([0,2],⟨true,[],[AV.agg [AV.snil,AV.snil,AV.snil]]⟩),([0,3],⟨true,[],[AV.agg [AV.own [0,0,3],AV.own [0,1,3],AV.snil]]⟩)]⟩ k=(bif decide (t4<(t0.length:Int)) then (bif (decide ((h1.length+([Ai t4]).length)*8≤140737488355328) && decide ((h1.length+([Ai t4]).length)≤140737488355328)) then next ⟨[(0,AV.sl [.int .i64] t0),(2,AV.ptr [0,2] 0 0),(3,AV.ptr [0,3] 0 0),(4,Ai (IntKind.i64.wrap (t4+1)))],[([0,0,3],⟨false,[.int .i64],h0⟩),([0,1,3],⟨false,[.int .i64],h1++([Ai t4])⟩),([0,2],⟨true,[],[AV.agg [AV.snil,AV.snil,AV.snil]]⟩),([0,3],⟨true,[],[AV.agg [AV.own [0,0,3],AV.own [0,1,3],AV.snil]]⟩)]⟩
 else none)
 else k (.exit 0) ⟨[(2,AV.ptr [0,2] 0 0),(3,AV.ptr [0,3] 0 0)],[([0,0,3],⟨false,[.int .i64],h0⟩),([0,1,3],⟨false,[.int .i64],h1⟩),([0,2],⟨true,[],[AV.agg [AV.snil,AV.snil,AV.snil]]⟩),([0,3],⟨true,[],[AV.agg [AV.own [0,0,3],AV.own [0,1,3],AV.snil]]⟩)]⟩):=by kernel_rfl
theorem st35_0 (t0 h0:List AV) (ce:CallE) (k:Kont) (s:Int ⊕ (Int × (List AV))) (next:St→Option AV):stepA (codeA c35 ce [] 35 0 (sub [1,1,1,0,1,0,0] (body Try.f35))) (normA [] [0,2,3,4]) next ((E35_0 t0 h0) s) k=(R35_0 t0 h0 s).el none (fun s=>next ((E35_0 t0 h0) s)) (K35_0 h0 k):=(match s with | .inl s=>(s35_0_s0 ce t0 s h0 next k).trans (by unfold R35_0;unfold F35_0_s0;simp only [el_cond,el_ro,el_sum,el_fail,el_next,el_stop] <;> rfl) | .inr s=>(s35_0_s1 ce t0 s.1 h0 s.2 next k).trans (by unfold R35_0;unfold F35_0_s1;simp only [el_cond,el_ro,el_sum,el_fail,el_next,el_stop] <;> rfl))
theorem ok35_0 {ce:CallE}:LoopOK c35 ce [] 35 0 (sub [1,1,1,0,1,0,0] (body Try.f35)):=by
 intro m hm st k r h
 obtain rfl:l35_0=m:=Option.some.inj hm
 unfold l35_0 at h
 split at h
 ·rename_i g0 t0 g1 g2 g3 g4 g5 g6 t4 g7 g8 h0 g9 g10 g11
  obtain ⟨hg,h⟩:=bif_some h
  simp only [Bool.and_eq_true] at hg
  obtain ⟨⟨⟨⟨⟨⟨⟨⟨⟨⟨⟨q0,q1⟩,q2⟩,q3⟩,q4⟩,q5⟩,q6⟩,q7⟩,q8⟩,q9⟩,q10⟩,q11⟩:=hg
  obtain rfl:=ctsEq_eq _ _ q0
  obtain rfl:=(nmEq_iff _ _).1 q1
  obtain rfl:=Nat.eq_of_beq_eq_true q2
  obtain rfl:=Nat.eq_of_beq_eq_true q3
  obtain rfl:=(nmEq_iff _ _).1 q4
  obtain rfl:=Nat.eq_of_beq_eq_true q5
  obtain rfl:=Nat.eq_of_beq_eq_true q6
  obtain rfl:=(nmEq_iff _ _).1 q7
  obtain rfl:=ctsEq_eq _ _ q8
  obtain rfl:=(nmEq_iff _ _).1 q9
  obtain rfl:=(nmEq_iff _ _).1 q10
  obtain rfl:=(nmEq_iff _ _).1 q11
  refine ⟨(((t0.length:Int) - t4:Int).toNat+1),?_⟩
  rw [← h]
  exact loop_run (E35_0 t0 h0) (K35_0 h0 k) (st35_0 t0 h0 ce k) _ (.inl t4)
 ·rename_i g0 t0 g1 g2 g3 g4 g5 g6 t4 g7 g8 h0 g9 g10 h1 g11 g12 g13 g14
  obtain ⟨hg,h⟩:=bif_some h
  simp only [Bool.and_eq_true] at hg
  obtain ⟨⟨⟨⟨⟨⟨⟨⟨⟨⟨⟨⟨⟨⟨q0,q1⟩,q2⟩,q3⟩,q4⟩,q5⟩,q6⟩,q7⟩,q8⟩,q9⟩,q10⟩,q11⟩,q12⟩,q13⟩,q14⟩:=hg
  obtain rfl:=ctsEq_eq _ _ q0
  obtain rfl:=(nmEq_iff _ _).1 q1
  obtain rfl:=Nat.eq_of_beq_eq_true q2
  obtain rfl:=Nat.eq_of_beq_eq_true q3
  obtain rfl:=(nmEq_iff _ _).1 q4
  obtain rfl:=Nat.eq_of_beq_eq_true q5
  obtain rfl:=Nat.eq_of_beq_eq_true q6
  obtain rfl:=(nmEq_iff _ _).1 q7
  obtain rfl:=ctsEq_eq _ _ q8
  obtain rfl:=(nmEq_iff _ _).1 q9
  obtain rfl:=ctsEq_eq _ _ q10
  obtain rfl:=(nmEq_iff _ _).1 q11
  obtain rfl:=(nmEq_iff _ _).1 q12
  obtain rfl:=(nmEq_iff _ _).1 q13
  obtain rfl:=(nmEq_iff _ _).1 q14
  refine ⟨(((t0.length:Int) - t4:Int).toNat+1),?_⟩
  rw [← h]
  exact loop_run (E35_0 t0 h0) (K35_0 h0 k) (st35_0 t0 h0 ce k) _ (.inr (t4,h1))
 ·cases h
def q35 (a0:List AV):Bool:=(q36 a0 && (bif !(v36_0 a0) then true else ((decide ((([]:List AV).length+a0.length)*8≤140737488355328) && decide ((([]:List AV).length+a0.length)≤140737488355328)) && (ro (runW (R35_0 a0 (([]:List AV)++a0)) (((a0.length:Int) - 0:Int).toNat+1) (.inl 0)) false (sumE (fun _=>true) (fun p6=>true))))))
def v35_0 (a0:List AV):List AV:=(bif !(v36_0 a0) then ([]:List AV) else ([]:List AV)++a0)
def v35_1 (a0:List AV):List AV:=(bif !(v36_0 a0) then ([]:List AV) else (ro (runW (R35_0 a0 (([]:List AV)++a0)) (((a0.length:Int) - 0:Int).toNat+1) (.inl 0)) [] (sumE (fun _=>([]:List AV)) (fun p6=>p6))))
def v35_2 (a0:List AV):List AV:=([]:List AV)
theorem e35 (a0:List AV):funA c35 0 35 [AV.sl [.int .i64] a0]=(bif q36 a0 then (bif !(v36_0 a0) then some (AV.agg [AV.fl [.int .i64] ([]:List AV),AV.fl [.int .i64] ([]:List AV),AV.fl [.int .i64,.int .i64] ([]:List AV)])
 else (bif (decide ((([]:List AV).length+a0.length)*8≤140737488355328) && decide ((([]:List AV).length+a0.length)≤140737488355328)) then (ro (runW (R35_0 a0 (([]:List AV)++a0)) (((a0.length:Int) - 0:Int).toNat+1) (.inl 0)) none (sumE (fun _=>some (AV.agg [AV.fl [.int .i64] (([]:List AV)++a0),AV.fl [.int .i64] ([]:List AV),AV.fl [.int .i64,.int .i64] ([]:List AV)])) (fun p6=>some (AV.agg [AV.fl [.int .i64] (([]:List AV)++a0),AV.fl [.int .i64] p6,AV.fl [.int .i64,.int .i64] ([]:List AV)]))))
 else none))
 else none):=by kernel_rfl
def m35:TModel
 | [.sl g0 a0]=>bif ctsEq g0 ([.int .i64]) then some (q35 a0,AV.agg [AV.fl [.int .i64] (v35_0 a0),AV.fl [.int .i64] (v35_1 a0),AV.fl [.int .i64,.int .i64] (v35_2 a0)]) else none
 | _=>none
theorem k35:Known Try.prog 35:=⟨Try.f35,Try.func35,by kernel_rfl,by kernel_rfl⟩
theorem meets35:Meets Try.prog 35 m35:=by
 refine meet (f:=Try.f35) (l:=[(0,sub [1,1,1,0,1,0,0] (body Try.f35))]) (hs:=[(35,0,[0,2,3,4]),(35,999,[2]),(35,1000,[2,3]),(35,1001,[0,2,3,4])]) (ts:=[(36,m36)]) (ws:=[]) (is:=[]) (ls:=[(35,0,l35_0)]) (lvl:=0) mixed k35 Try.func35 (by kernel_rfl) (loops_cons ok35_0 noLoop) (allT_cons meets36 allT_nil) allM_nil noI fun w xs us r hl hv h=>?_
 unfold m35 at h
 split at h
 ·rename_i g0 a0
  obtain ⟨hg,h⟩:=bif_pair h
  have q0:=hg
  obtain rfl:=ctsEq_eq _ _ q0
  obtain ⟨h1,rfl⟩:=pair_inj h
  exact (e35 a0).trans ((brL (br (fun b=>some (AV.agg [AV.fl [.int .i64] (bif b then ([]:List AV) else ([]:List AV)++a0),AV.fl [.int .i64] (bif b then ([]:List AV) else (ro (runW (R35_0 a0 (([]:List AV)++a0)) (((a0.length:Int) - 0:Int).toNat+1) (.inl 0)) [] (sumE (fun _=>([]:List AV)) (fun p6=>p6)))),AV.fl [.int .i64,.int .i64] ([]:List AV)])) (fun _=>rfl) (brL (brO (fun o:Option (Unit ⊕ ((List AV)))=>some (AV.agg [AV.fl [.int .i64] (([]:List AV)++a0),AV.fl [.int .i64] (ro o [] (sumE (fun _=>([]:List AV)) (fun p6=>p6))),AV.fl [.int .i64,.int .i64] ([]:List AV)])) (brS (fun o:Unit ⊕ ((List AV))=>some (AV.agg [AV.fl [.int .i64] (([]:List AV)++a0),AV.fl [.int .i64] ((sumE (fun _=>([]:List AV)) (fun p6=>p6)) o),AV.fl [.int .i64,.int .i64] ([]:List AV)])) (fun _=>(fun _=>rfl)) (fun p6=>(fun _=>rfl))))))) h1)
 ·cases h
noncomputable def c63:Cfg:=cfg Try.prog [(63,999,[4])] [] [(57,.g m57)] [] []
def q63 (a1:Int) (ua:List AV) (ub uc:Int):Bool:=q57 a1 ua ub uc
def v63_0 (a1:Int) (ua:List AV) (ub uc:Int):Bool:=decide ((v57_0 a1 ua ub uc)=0)
def v63_1 (a1:Int) (ua:List AV) (ub uc:Int):List AV:=(v57_1 a1 ua ub uc)
def v63_2 (a1:Int) (ua:List AV) (ub uc:Int):Int:=(v57_2 a1 ua ub uc)
def v63_3 (a1:Int) (ua:List AV) (ub uc:Int):Int:=(v57_3 a1 ua ub uc)
theorem e63 (a1:Int) (ua:List AV) (ub uc:Int) (K:List AV→List (Option Blk)→Option AV):inlA c63 1 63 [AV.ptr [1] 0 0,Ai a1] [0] (canH 1 [⟨true,[],[AV.agg [AV.sl [.int .u8] ua,Ai ub,Ai uc]]⟩]) (keepG Try.prog 1 [4] [] K)=(bif q57 a1 ua ub uc then K [AV.bool (decide ((v57_0 a1 ua ub uc)=0))] [some ⟨true,[],[AV.agg [AV.sl [.int .u8] (v57_1 a1 ua ub uc),Ai (v57_2 a1 ua ub uc),Ai (v57_3 a1 ua ub uc)]]⟩]
 else none):=by kernel_rfl
theorem r63 (a1:Int) (ua:List AV) (ub uc:Int) (K:List AV→List (Option Blk)→Option AV) (h:q63 a1 ua ub uc=true):inlA c63 1 63 [AV.ptr [1] 0 0,AV.int .i64 a1] [0] (canH 1 [⟨true,[],[AV.agg [AV.sl [.int .u8] ua,AV.int .i64 ub,AV.int .i64 uc]]⟩]) (keepG Try.prog 1 [4] [] K)=K [AV.bool (v63_0 a1 ua ub uc)] [some ⟨true,[],[AV.agg [AV.sl [.int .u8] (v63_1 a1 ua ub uc),AV.int .i64 (v63_2 a1 ua ub uc),AV.int .i64 (v63_3 a1 ua ub uc)]]⟩]:=(e63 a1 ua ub uc K).trans ((brL1 (fun _=>rfl)) h)
def m63:GModel
 | [.ptr g0 g1 g2,.int .i64 a1],[⟨true,[],[.agg [.sl g3 ua,.int .i64 ub,.int .i64 uc]]⟩]=>bif nmEq g0 ([1]) && Nat.beq g1 0 && Nat.beq g2 0 && ctsEq g3 ([.int .u8]) then some (q63 a1 ua ub uc,[AV.bool (v63_0 a1 ua ub uc)],[some ⟨true,[],[AV.agg [AV.sl [.int .u8] (v63_1 a1 ua ub uc),AV.int .i64 (v63_2 a1 ua ub uc),AV.int .i64 (v63_3 a1 ua ub uc)]]⟩]) else none
 | _,_=>none
theorem k63:Known Try.prog 63:=⟨Try.f63,Try.func63,by kernel_rfl,by kernel_rfl⟩
theorem meets63:MeetsG Try.prog 63 m63:=by
 refine meetG (rt:=[4]) (gs:=[]) (f:=Try.f63) (l:=[]) (hs:=[(63,999,[4])]) (ts:=[]) (ws:=[(57,.g m57)]) (is:=[]) (ls:=[]) (lvl:=0) mixed k63 Try.func63 (by kernel_rfl) noLoop allT_nil (allG_cons meets57 allM_nil) noI fun C w xs us bs r bs' hl hv hh h K=>?_
 unfold m63 at h
 split at h
 ·rename_i g0 g1 g2 a1 g3 ua ub uc
  obtain ⟨hg,h⟩:=bif_pair h
  simp only [Bool.and_eq_true] at hg
  obtain ⟨⟨⟨q0,q1⟩,q2⟩,q3⟩:=hg
  obtain rfl:=(nmEq_iff _ _).1 q0
  obtain rfl:=Nat.eq_of_beq_eq_true q1
  obtain rfl:=Nat.eq_of_beq_eq_true q2
  obtain rfl:=ctsEq_eq _ _ q3
  obtain ⟨h1,rfl,rfl⟩:=trip_inj h
  exact r63 a1 ua ub uc K h1
 ·cases h
noncomputable def c44:Cfg:=cfg Try.prog [(44,999,[4])] [] [(57,.g m57),(60,.g m60),(63,.g m63)] [] []
def q44 (ua:List AV) (ub uc:Int) (b1 b2 b3:List AV):Bool:=(bif decide ((b1.length:Int) > 0) then (q63 4 ua ub uc && (bif !(v63_0 4 ua ub uc) then (q57 (b1.length:Int) (v63_1 4 ua ub uc) (v63_2 4 ua ub uc) (v63_3 4 ua ub uc) && ((decide (0≤(v57_0 (b1.length:Int) (v63_1 4 ua ub uc) (v63_2 4 ua ub uc) (v63_3 4 ua ub uc))) && decide ((v57_0 (b1.length:Int) (v63_1 4 ua ub uc) (v63_2 4 ua ub uc) (v63_3 4 ua ub uc))<(b1.length:Int))) && q57 3 (v57_1 (b1.length:Int) (v63_1 4 ua ub uc) (v63_2 4 ua ub uc) (v63_3 4 ua ub uc)) (v57_2 (b1.length:Int) (v63_1 4 ua ub uc) (v63_2 4 ua ub uc) (v63_3 4 ua ub uc)) (v57_3 (b1.length:Int) (v63_1 4 ua ub uc) (v63_2 4 ua ub uc) (v63_3 4 ua ub uc)))) else q60 (v63_1 4 ua ub uc) (v63_2 4 ua ub uc) (v63_3 4 ua ub uc) ([AV.int .i64 0,AV.int .i64 3,AV.int .i64 (-2),AV.int .i64 (-1000),AV.int .i64 1000,AV.int .i64 50]))) else q60 ua ub uc ([AV.int .i64 0,AV.int .i64 3,AV.int .i64 (-2),AV.int .i64 (-1000),AV.int .i64 1000,AV.int .i64 50]))
def v44_0 (ua:List AV) (ub uc:Int) (b1 b2 b3:List AV):Int:=(bif decide ((b1.length:Int) > 0) then (bif !(v63_0 4 ua ub uc) then IntKind.i64.wrap (IntKind.i64.wrap (fI (b1.getD (v57_0 (b1.length:Int) (v63_1 4 ua ub uc) (v63_2 4 ua ub uc) (v63_3 4 ua ub uc)).toNat .undef) 0+(v57_0 3 (v57_1 (b1.length:Int) (v63_1 4 ua ub uc) (v63_2 4 ua ub uc) (v63_3 4 ua ub uc)) (v57_2 (b1.length:Int) (v63_1 4 ua ub uc) (v63_2 4 ua ub uc) (v63_3 4 ua ub uc)) (v57_3 (b1.length:Int) (v63_1 4 ua ub uc) (v63_2 4 ua ub uc) (v63_3 4 ua ub uc)))) - 1) else (v60_0 (v63_1 4 ua ub uc) (v63_2 4 ua ub uc) (v63_3 4 ua ub uc) ([AV.int .i64 0,AV.int .i64 3,AV.int .i64 (-2),AV.int .i64 (-1000),AV.int .i64 1000,AV.int .i64 50]))) else (v60_0 ua ub uc ([AV.int .i64 0,AV.int .i64 3,AV.int .i64 (-2),AV.int .i64 (-1000),AV.int .i64 1000,AV.int .i64 50])))
def v44_1 (ua:List AV) (ub uc:Int) (b1 b2 b3:List AV):List AV:=(bif decide ((b1.length:Int) > 0) then (bif !(v63_0 4 ua ub uc) then (v57_1 3 (v57_1 (b1.length:Int) (v63_1 4 ua ub uc) (v63_2 4 ua ub uc) (v63_3 4 ua ub uc)) (v57_2 (b1.length:Int) (v63_1 4 ua ub uc) (v63_2 4 ua ub uc) (v63_3 4 ua ub uc)) (v57_3 (b1.length:Int) (v63_1 4 ua ub uc) (v63_2 4 ua ub uc) (v63_3 4 ua ub uc))) else (v60_1 (v63_1 4 ua ub uc) (v63_2 4 ua ub uc) (v63_3 4 ua ub uc) ([AV.int .i64 0,AV.int .i64 3,AV.int .i64 (-2),AV.int .i64 (-1000),AV.int .i64 1000,AV.int .i64 50]))) else (v60_1 ua ub uc ([AV.int .i64 0,AV.int .i64 3,AV.int .i64 (-2),AV.int .i64 (-1000),AV.int .i64 1000,AV.int .i64 50])))
def v44_2 (ua:List AV) (ub uc:Int) (b1 b2 b3:List AV):Int:=(bif decide ((b1.length:Int) > 0) then (bif !(v63_0 4 ua ub uc) then (v57_2 3 (v57_1 (b1.length:Int) (v63_1 4 ua ub uc) (v63_2 4 ua ub uc) (v63_3 4 ua ub uc)) (v57_2 (b1.length:Int) (v63_1 4 ua ub uc) (v63_2 4 ua ub uc) (v63_3 4 ua ub uc)) (v57_3 (b1.length:Int) (v63_1 4 ua ub uc) (v63_2 4 ua ub uc) (v63_3 4 ua ub uc))) else (v60_2 (v63_1 4 ua ub uc) (v63_2 4 ua ub uc) (v63_3 4 ua ub uc) ([AV.int .i64 0,AV.int .i64 3,AV.int .i64 (-2),AV.int .i64 (-1000),AV.int .i64 1000,AV.int .i64 50]))) else (v60_2 ua ub uc ([AV.int .i64 0,AV.int .i64 3,AV.int .i64 (-2),AV.int .i64 (-1000),AV.int .i64 1000,AV.int .i64 50])))
def v44_3 (ua:List AV) (ub uc:Int) (b1 b2 b3:List AV):Int:=(bif decide ((b1.length:Int) > 0) then (bif !(v63_0 4 ua ub uc) then (v57_3 3 (v57_1 (b1.length:Int) (v63_1 4 ua ub uc) (v63_2 4 ua ub uc) (v63_3 4 ua ub uc)) (v57_2 (b1.length:Int) (v63_1 4 ua ub uc) (v63_2 4 ua ub uc) (v63_3 4 ua ub uc)) (v57_3 (b1.length:Int) (v63_1 4 ua ub uc) (v63_2 4 ua ub uc) (v63_3 4 ua ub uc))) else (v60_3 (v63_1 4 ua ub uc) (v63_2 4 ua ub uc) (v63_3 4 ua ub uc) ([AV.int .i64 0,AV.int .i64 3,AV.int .i64 (-2),AV.int .i64 (-1000),AV.int .i64 1000,AV.int .i64 50]))) else (v60_3 ua ub uc ([AV.int .i64 0,AV.int .i64 3,AV.int .i64 (-2),AV.int .i64 (-1000),AV.int .i64 1000,AV.int .i64 50])))
def v44_4 (ua:List AV) (ub uc:Int) (b1 b2 b3:List AV):List AV:=b1
def v44_5 (ua:List AV) (ub uc:Int) (b1 b2 b3:List AV):List AV:=b2
def v44_6 (ua:List AV) (ub uc:Int) (b1 b2 b3:List AV):List AV:=b3
theorem e44 (ua:List AV) (ub uc:Int) (b1 b2 b3:List AV) (K:List AV→List (Option Blk)→Option AV):inlA c44 1 44 [AV.ptr [1] 0 0,AV.agg [AV.own [2],AV.own [3],AV.own [4]]] [0] (canH 1 [⟨true,[],[AV.agg [AV.sl [.int .u8] ua,Ai ub,Ai uc]]⟩,⟨false,[.int .i64],b1⟩,⟨false,[.int .i64],b2⟩,⟨false,[.int .i64,.int .i64],b3⟩]) (keepG Try.prog 4 [3] [] K)=(bif decide ((b1.length:Int) > 0) then (bif q63 4 ua ub uc then (bif !(v63_0 4 ua ub uc) then (bif q57 (b1.length:Int) (v63_1 4 ua ub uc) (v63_2 4 ua ub uc) (v63_3 4 ua ub uc) then (bif (decide (0≤(v57_0 (b1.length:Int) (v63_1 4 ua ub uc) (v63_2 4 ua ub uc) (v63_3 4 ua ub uc))) && decide ((v57_0 (b1.length:Int) (v63_1 4 ua ub uc) (v63_2 4 ua ub uc) (v63_3 4 ua ub uc))<(b1.length:Int))) then (bif q57 3 (v57_1 (b1.length:Int) (v63_1 4 ua ub uc) (v63_2 4 ua ub uc) (v63_3 4 ua ub uc)) (v57_2 (b1.length:Int) (v63_1 4 ua ub uc) (v63_2 4 ua ub uc) (v63_3 4 ua ub uc)) (v57_3 (b1.length:Int) (v63_1 4 ua ub uc) (v63_2 4 ua ub uc) (v63_3 4 ua ub uc)) then K [Ai (IntKind.i64.wrap (IntKind.i64.wrap (fI (b1.getD (v57_0 (b1.length:Int) (v63_1 4 ua ub uc) (v63_2 4 ua ub uc) (v63_3 4 ua ub uc)).toNat .undef) 0+(v57_0 3 (v57_1 (b1.length:Int) (v63_1 4 ua ub uc) (v63_2 4 ua ub uc) (v63_3 4 ua ub uc)) (v57_2 (b1.length:Int) (v63_1 4 ua ub uc) (v63_2 4 ua ub uc) (v63_3 4 ua ub uc)) (v57_3 (b1.length:Int) (v63_1 4 ua ub uc) (v63_2 4 ua ub uc) (v63_3 4 ua ub uc)))) - 1))] [some ⟨true,[],[AV.agg [AV.sl [.int .u8] (v57_1 3 (v57_1 (b1.length:Int) (v63_1 4 ua ub uc) (v63_2 4 ua ub uc) (v63_3 4 ua ub uc)) (v57_2 (b1.length:Int) (v63_1 4 ua ub uc) (v63_2 4 ua ub uc) (v63_3 4 ua ub uc)) (v57_3 (b1.length:Int) (v63_1 4 ua ub uc) (v63_2 4 ua ub uc) (v63_3 4 ua ub uc))),Ai (v57_2 3 (v57_1 (b1.length:Int) (v63_1 4 ua ub uc) (v63_2 4 ua ub uc) (v63_3 4 ua ub uc)) (v57_2 (b1.length:Int) (v63_1 4 ua ub uc) (v63_2 4 ua ub uc) (v63_3 4 ua ub uc)) (v57_3 (b1.length:Int) (v63_1 4 ua ub uc) (v63_2 4 ua ub uc) (v63_3 4 ua ub uc))),Ai (v57_3 3 (v57_1 (b1.length:Int) (v63_1 4 ua ub uc) (v63_2 4 ua ub uc) (v63_3 4 ua ub uc)) (v57_2 (b1.length:Int) (v63_1 4 ua ub uc) (v63_2 4 ua ub uc) (v63_3 4 ua ub uc)) (v57_3 (b1.length:Int) (v63_1 4 ua ub uc) (v63_2 4 ua ub uc) (v63_3 4 ua ub uc)))]]⟩,some ⟨false,[.int .i64],b1⟩,some ⟨false,[.int .i64],b2⟩,some ⟨false,[.int .i64,.int .i64],b3⟩]
 else none)
 else none)
 else none)
 else (bif q60 (v63_1 4 ua ub uc) (v63_2 4 ua ub uc) (v63_3 4 ua ub uc) ([Ai 0,Ai 3,Ai (-2),Ai (-1000),Ai 1000,Ai 50]) then K [Ai (v60_0 (v63_1 4 ua ub uc) (v63_2 4 ua ub uc) (v63_3 4 ua ub uc) ([Ai 0,Ai 3,Ai (-2),Ai (-1000),Ai 1000,Ai 50]))] [some ⟨true,[],[AV.agg [AV.sl [.int .u8] (v60_1 (v63_1 4 ua ub uc) (v63_2 4 ua ub uc) (v63_3 4 ua ub uc) ([Ai 0,Ai 3,Ai (-2),Ai (-1000),Ai 1000,Ai 50])),Ai (v60_2 (v63_1 4 ua ub uc) (v63_2 4 ua ub uc) (v63_3 4 ua ub uc) ([Ai 0,Ai 3,Ai (-2),Ai (-1000),Ai 1000,Ai 50])),Ai (v60_3 (v63_1 4 ua ub uc) (v63_2 4 ua ub uc) (v63_3 4 ua ub uc) ([Ai 0,Ai 3,Ai (-2),Ai (-1000),Ai 1000,Ai 50]))]]⟩,some ⟨false,[.int .i64],b1⟩,some ⟨false,[.int .i64],b2⟩,some ⟨false,[.int .i64,.int .i64],b3⟩]
 else none))
 else none)
 else (bif q60 ua ub uc ([Ai 0,Ai 3,Ai (-2),Ai (-1000),Ai 1000,Ai 50]) then K [Ai (v60_0 ua ub uc ([Ai 0,Ai 3,Ai (-2),Ai (-1000),Ai 1000,Ai 50]))] [some ⟨true,[],[AV.agg [AV.sl [.int .u8] (v60_1 ua ub uc ([Ai 0,Ai 3,Ai (-2),Ai (-1000),Ai 1000,Ai 50])),Ai (v60_2 ua ub uc ([Ai 0,Ai 3,Ai (-2),Ai (-1000),Ai 1000,Ai 50])),Ai (v60_3 ua ub uc ([Ai 0,Ai 3,Ai (-2),Ai (-1000),Ai 1000,Ai 50]))]]⟩,some ⟨false,[.int .i64],b1⟩,some ⟨false,[.int .i64],b2⟩,some ⟨false,[.int .i64,.int .i64],b3⟩]
 else none)):=by kernel_rfl
theorem r44 (ua:List AV) (ub uc:Int) (b1 b2 b3:List AV) (K:List AV→List (Option Blk)→Option AV) (h:q44 ua ub uc b1 b2 b3=true):inlA c44 1 44 [AV.ptr [1] 0 0,AV.agg [AV.own [2],AV.own [3],AV.own [4]]] [0] (canH 1 [⟨true,[],[AV.agg [AV.sl [.int .u8] ua,AV.int .i64 ub,AV.int .i64 uc]]⟩,⟨false,[.int .i64],b1⟩,⟨false,[.int .i64],b2⟩,⟨false,[.int .i64,.int .i64],b3⟩]) (keepG Try.prog 4 [3] [] K)=K [AV.int .i64 (v44_0 ua ub uc b1 b2 b3)] [some ⟨true,[],[AV.agg [AV.sl [.int .u8] (v44_1 ua ub uc b1 b2 b3),AV.int .i64 (v44_2 ua ub uc b1 b2 b3),AV.int .i64 (v44_3 ua ub uc b1 b2 b3)]]⟩,some ⟨false,[.int .i64],(v44_4 ua ub uc b1 b2 b3)⟩,some ⟨false,[.int .i64],(v44_5 ua ub uc b1 b2 b3)⟩,some ⟨false,[.int .i64,.int .i64],(v44_6 ua ub uc b1 b2 b3)⟩]:=(e44 ua ub uc b1 b2 b3 K).trans ((br (fun b=>K [AV.int .i64 (bif b then (bif !(v63_0 4 ua ub uc) then IntKind.i64.wrap (IntKind.i64.wrap (fI (b1.getD (v57_0 (b1.length:Int) (v63_1 4 ua ub uc) (v63_2 4 ua ub uc) (v63_3 4 ua ub uc)).toNat .undef) 0+(v57_0 3 (v57_1 (b1.length:Int) (v63_1 4 ua ub uc) (v63_2 4 ua ub uc) (v63_3 4 ua ub uc)) (v57_2 (b1.length:Int) (v63_1 4 ua ub uc) (v63_2 4 ua ub uc) (v63_3 4 ua ub uc)) (v57_3 (b1.length:Int) (v63_1 4 ua ub uc) (v63_2 4 ua ub uc) (v63_3 4 ua ub uc)))) - 1) else (v60_0 (v63_1 4 ua ub uc) (v63_2 4 ua ub uc) (v63_3 4 ua ub uc) ([AV.int .i64 0,AV.int .i64 3,AV.int .i64 (-2),AV.int .i64 (-1000),AV.int .i64 1000,AV.int .i64 50]))) else (v60_0 ua ub uc ([AV.int .i64 0,AV.int .i64 3,AV.int .i64 (-2),AV.int .i64 (-1000),AV.int .i64 1000,AV.int .i64 50])))] [some ⟨true,[],[AV.agg [AV.sl [.int .u8] (bif b then (bif !(v63_0 4 ua ub uc) then (v57_1 3 (v57_1 (b1.length:Int) (v63_1 4 ua ub uc) (v63_2 4 ua ub uc) (v63_3 4 ua ub uc)) (v57_2 (b1.length:Int) (v63_1 4 ua ub uc) (v63_2 4 ua ub uc) (v63_3 4 ua ub uc)) (v57_3 (b1.length:Int) (v63_1 4 ua ub uc) (v63_2 4 ua ub uc) (v63_3 4 ua ub uc))) else (v60_1 (v63_1 4 ua ub uc) (v63_2 4 ua ub uc) (v63_3 4 ua ub uc) ([AV.int .i64 0,AV.int .i64 3,AV.int .i64 (-2),AV.int .i64 (-1000),AV.int .i64 1000,AV.int .i64 50]))) else (v60_1 ua ub uc ([AV.int .i64 0,AV.int .i64 3,AV.int .i64 (-2),AV.int .i64 (-1000),AV.int .i64 1000,AV.int .i64 50]))),AV.int .i64 (bif b then (bif !(v63_0 4 ua ub uc) then (v57_2 3 (v57_1 (b1.length:Int) (v63_1 4 ua ub uc) (v63_2 4 ua ub uc) (v63_3 4 ua ub uc)) (v57_2 (b1.length:Int) (v63_1 4 ua ub uc) (v63_2 4 ua ub uc) (v63_3 4 ua ub uc)) (v57_3 (b1.length:Int) (v63_1 4 ua ub uc) (v63_2 4 ua ub uc) (v63_3 4 ua ub uc))) else (v60_2 (v63_1 4 ua ub uc) (v63_2 4 ua ub uc) (v63_3 4 ua ub uc) ([AV.int .i64 0,AV.int .i64 3,AV.int .i64 (-2),AV.int .i64 (-1000),AV.int .i64 1000,AV.int .i64 50]))) else (v60_2 ua ub uc ([AV.int .i64 0,AV.int .i64 3,AV.int .i64 (-2),AV.int .i64 (-1000),AV.int .i64 1000,AV.int .i64 50]))),AV.int .i64 (bif b then (bif !(v63_0 4 ua ub uc) then (v57_3 3 (v57_1 (b1.length:Int) (v63_1 4 ua ub uc) (v63_2 4 ua ub uc) (v63_3 4 ua ub uc)) (v57_2 (b1.length:Int) (v63_1 4 ua ub uc) (v63_2 4 ua ub uc) (v63_3 4 ua ub uc)) (v57_3 (b1.length:Int) (v63_1 4 ua ub uc) (v63_2 4 ua ub uc) (v63_3 4 ua ub uc))) else (v60_3 (v63_1 4 ua ub uc) (v63_2 4 ua ub uc) (v63_3 4 ua ub uc) ([AV.int .i64 0,AV.int .i64 3,AV.int .i64 (-2),AV.int .i64 (-1000),AV.int .i64 1000,AV.int .i64 50]))) else (v60_3 ua ub uc ([AV.int .i64 0,AV.int .i64 3,AV.int .i64 (-2),AV.int .i64 (-1000),AV.int .i64 1000,AV.int .i64 50])))]]⟩,some ⟨false,[.int .i64],b1⟩,some ⟨false,[.int .i64],b2⟩,some ⟨false,[.int .i64,.int .i64],b3⟩]) (brL (br (fun b=>K [AV.int .i64 (bif b then IntKind.i64.wrap (IntKind.i64.wrap (fI (b1.getD (v57_0 (b1.length:Int) (v63_1 4 ua ub uc) (v63_2 4 ua ub uc) (v63_3 4 ua ub uc)).toNat .undef) 0+(v57_0 3 (v57_1 (b1.length:Int) (v63_1 4 ua ub uc) (v63_2 4 ua ub uc) (v63_3 4 ua ub uc)) (v57_2 (b1.length:Int) (v63_1 4 ua ub uc) (v63_2 4 ua ub uc) (v63_3 4 ua ub uc)) (v57_3 (b1.length:Int) (v63_1 4 ua ub uc) (v63_2 4 ua ub uc) (v63_3 4 ua ub uc)))) - 1) else (v60_0 (v63_1 4 ua ub uc) (v63_2 4 ua ub uc) (v63_3 4 ua ub uc) ([AV.int .i64 0,AV.int .i64 3,AV.int .i64 (-2),AV.int .i64 (-1000),AV.int .i64 1000,AV.int .i64 50])))] [some ⟨true,[],[AV.agg [AV.sl [.int .u8] (bif b then (v57_1 3 (v57_1 (b1.length:Int) (v63_1 4 ua ub uc) (v63_2 4 ua ub uc) (v63_3 4 ua ub uc)) (v57_2 (b1.length:Int) (v63_1 4 ua ub uc) (v63_2 4 ua ub uc) (v63_3 4 ua ub uc)) (v57_3 (b1.length:Int) (v63_1 4 ua ub uc) (v63_2 4 ua ub uc) (v63_3 4 ua ub uc))) else (v60_1 (v63_1 4 ua ub uc) (v63_2 4 ua ub uc) (v63_3 4 ua ub uc) ([AV.int .i64 0,AV.int .i64 3,AV.int .i64 (-2),AV.int .i64 (-1000),AV.int .i64 1000,AV.int .i64 50]))),AV.int .i64 (bif b then (v57_2 3 (v57_1 (b1.length:Int) (v63_1 4 ua ub uc) (v63_2 4 ua ub uc) (v63_3 4 ua ub uc)) (v57_2 (b1.length:Int) (v63_1 4 ua ub uc) (v63_2 4 ua ub uc) (v63_3 4 ua ub uc)) (v57_3 (b1.length:Int) (v63_1 4 ua ub uc) (v63_2 4 ua ub uc) (v63_3 4 ua ub uc))) else (v60_2 (v63_1 4 ua ub uc) (v63_2 4 ua ub uc) (v63_3 4 ua ub uc) ([AV.int .i64 0,AV.int .i64 3,AV.int .i64 (-2),AV.int .i64 (-1000),AV.int .i64 1000,AV.int .i64 50]))),AV.int .i64 (bif b then (v57_3 3 (v57_1 (b1.length:Int) (v63_1 4 ua ub uc) (v63_2 4 ua ub uc) (v63_3 4 ua ub uc)) (v57_2 (b1.length:Int) (v63_1 4 ua ub uc) (v63_2 4 ua ub uc) (v63_3 4 ua ub uc)) (v57_3 (b1.length:Int) (v63_1 4 ua ub uc) (v63_2 4 ua ub uc) (v63_3 4 ua ub uc))) else (v60_3 (v63_1 4 ua ub uc) (v63_2 4 ua ub uc) (v63_3 4 ua ub uc) ([AV.int .i64 0,AV.int .i64 3,AV.int .i64 (-2),AV.int .i64 (-1000),AV.int .i64 1000,AV.int .i64 50])))]]⟩,some ⟨false,[.int .i64],b1⟩,some ⟨false,[.int .i64],b2⟩,some ⟨false,[.int .i64,.int .i64],b3⟩]) (brL (brL (brL1 (fun _=>rfl)))) (brL1 (fun _=>rfl)))) (brL1 (fun _=>rfl))) h)
def m44:GModel
 | [.ptr g0 g1 g2,.agg [.own g3,.own g4,.own g5]],[⟨true,[],[.agg [.sl g6 ua,.int .i64 ub,.int .i64 uc]]⟩,⟨false,g7,b1⟩,⟨false,g8,b2⟩,⟨false,g9,b3⟩]=>bif nmEq g0 ([1]) && Nat.beq g1 0 && Nat.beq g2 0 && nmEq g3 ([2]) && nmEq g4 ([3]) && nmEq g5 ([4]) && ctsEq g6 ([.int .u8]) && ctsEq g7 ([.int .i64]) && ctsEq g8 ([.int .i64]) && ctsEq g9 ([.int .i64,.int .i64]) then some (q44 ua ub uc b1 b2 b3,[AV.int .i64 (v44_0 ua ub uc b1 b2 b3)],[some ⟨true,[],[AV.agg [AV.sl [.int .u8] (v44_1 ua ub uc b1 b2 b3),AV.int .i64 (v44_2 ua ub uc b1 b2 b3),AV.int .i64 (v44_3 ua ub uc b1 b2 b3)]]⟩,some ⟨false,[.int .i64],(v44_4 ua ub uc b1 b2 b3)⟩,some ⟨false,[.int .i64],(v44_5 ua ub uc b1 b2 b3)⟩,some ⟨false,[.int .i64,.int .i64],(v44_6 ua ub uc b1 b2 b3)⟩]) else none
 | _,_=>none
theorem k44:Known Try.prog 44:=⟨Try.f44,Try.func44,by kernel_rfl,by kernel_rfl⟩
theorem meets44:MeetsG Try.prog 44 m44:=by
 refine meetG (rt:=[3]) (gs:=[]) (f:=Try.f44) (l:=[]) (hs:=[(44,999,[4])]) (ts:=[]) (ws:=[(57,.g m57),(60,.g m60),(63,.g m63)]) (is:=[]) (ls:=[]) (lvl:=0) mixed k44 Try.func44 (by kernel_rfl) noLoop allT_nil (allG_cons meets57 (allG_cons meets60 (allG_cons meets63 allM_nil))) noI fun C w xs us bs r bs' hl hv hh h K=>?_
 unfold m44 at h
 split at h
 ·rename_i g0 g1 g2 g3 g4 g5 g6 ua ub uc g7 b1 g8 b2 g9 b3
  obtain ⟨hg,h⟩:=bif_pair h
  simp only [Bool.and_eq_true] at hg
  obtain ⟨⟨⟨⟨⟨⟨⟨⟨⟨q0,q1⟩,q2⟩,q3⟩,q4⟩,q5⟩,q6⟩,q7⟩,q8⟩,q9⟩:=hg
  obtain rfl:=(nmEq_iff _ _).1 q0
  obtain rfl:=Nat.eq_of_beq_eq_true q1
  obtain rfl:=Nat.eq_of_beq_eq_true q2
  obtain rfl:=(nmEq_iff _ _).1 q3
  obtain rfl:=(nmEq_iff _ _).1 q4
  obtain rfl:=(nmEq_iff _ _).1 q5
  obtain rfl:=ctsEq_eq _ _ q6
  obtain rfl:=ctsEq_eq _ _ q7
  obtain rfl:=ctsEq_eq _ _ q8
  obtain rfl:=ctsEq_eq _ _ q9
  obtain ⟨h1,rfl,rfl⟩:=trip_inj h
  exact r44 ua ub uc b1 b2 b3 K h1
 ·cases h
def F62_0 (t6:Int) (h1 h2_0:List AV) (h2_1 h2_2:Int) (h3 h4 h5:List AV):Out ((Int × (List AV) × (List AV) × Int × Int × (List AV) × (List AV) × (List AV))) (((List AV) × (List AV) × Int × Int × (List AV) × (List AV) × (List AV))):=(bif decide (t6 > 0) then (bif q44 h2_0 h2_1 h2_2 h3 h4 h5 then (bif (decide ((h1.length+([AV.int .i64 (v44_0 h2_0 h2_1 h2_2 h3 h4 h5)]).length)*8≤140737488355328) && decide ((h1.length+([AV.int .i64 (v44_0 h2_0 h2_1 h2_2 h3 h4 h5)]).length)≤140737488355328)) then .next (IntKind.i64.wrap (t6 - 1),h1++([AV.int .i64 (v44_0 h2_0 h2_1 h2_2 h3 h4 h5)]),(v44_1 h2_0 h2_1 h2_2 h3 h4 h5),(v44_2 h2_0 h2_1 h2_2 h3 h4 h5),(v44_3 h2_0 h2_1 h2_2 h3 h4 h5),(v44_4 h2_0 h2_1 h2_2 h3 h4 h5),(v44_5 h2_0 h2_1 h2_2 h3 h4 h5),(v44_6 h2_0 h2_1 h2_2 h3 h4 h5))
 else .fail)
 else .fail)
 else .stop (h1,h2_0,h2_1,h2_2,h3,h4,h5))
def R62_0:((Int × (List AV) × (List AV) × Int × Int × (List AV) × (List AV) × (List AV)))→Out ((Int × (List AV) × (List AV) × Int × Int × (List AV) × (List AV) × (List AV))) (((List AV) × (List AV) × Int × Int × (List AV) × (List AV) × (List AV))):=fun s:Int × (List AV) × (List AV) × Int × Int × (List AV) × (List AV) × (List AV)=>F62_0 s.1 s.2.1 s.2.2.1 s.2.2.2.1 s.2.2.2.2.1 s.2.2.2.2.2.1 s.2.2.2.2.2.2.1 s.2.2.2.2.2.2.2
def E62_0:((Int × (List AV) × (List AV) × Int × Int × (List AV) × (List AV) × (List AV)))→St:=fun s:Int × (List AV) × (List AV) × Int × Int × (List AV) × (List AV) × (List AV)=>⟨[(0,AV.ptr [1] 0 0),(3,AV.ptr [0,3,0] 0 0),(5,AV.own [0,5,0]),(6,Ai s.1)],[([0,3,0],⟨true,[],[AV.agg [AV.own [2],AV.own [3],AV.own [4]]]⟩),([0,5,0],⟨false,[.int .i64],s.2.1⟩),([1],⟨true,[],[AV.agg [AV.sl [.int .u8] s.2.2.1,Ai s.2.2.2.1,Ai s.2.2.2.2.1]]⟩),([2],⟨false,[.int .i64],s.2.2.2.2.2.1⟩),([3],⟨false,[.int .i64],s.2.2.2.2.2.2.1⟩),([4],⟨false,[.int .i64,.int .i64],s.2.2.2.2.2.2.2⟩)]⟩
def K62_0 (k:Kont):(((List AV) × (List AV) × Int × Int × (List AV) × (List AV) × (List AV)))→Option AV:=fun p:(List AV) × (List AV) × Int × Int × (List AV) × (List AV) × (List AV)=>k (.exit 0) ⟨[(5,AV.own [0,5,0])],[([0,3,0],⟨true,[],[AV.agg [AV.own [2],AV.own [3],AV.own [4]]]⟩),([0,5,0],⟨false,[.int .i64],p.1⟩),([1],⟨true,[],[AV.agg [AV.sl [.int .u8] p.2.1,Ai p.2.2.1,Ai p.2.2.2.1]]⟩),([2],⟨false,[.int .i64],p.2.2.2.2.1⟩),([3],⟨false,[.int .i64],p.2.2.2.2.2.1⟩),([4],⟨false,[.int .i64,.int .i64],p.2.2.2.2.2.2⟩)]⟩
def l62_0:LModel:=fun _ _ st k=>match st with
 | ⟨[(0,.ptr g0 g1 g2),(3,.ptr g3 g4 g5),(5,.own g6),(6,.int .i64 t6)],[(g7,⟨true,[],[.agg [.own g8,.own g9,.own g10]]⟩),(g11,⟨false,g12,h1⟩),(g13,⟨true,[],[.agg [.sl g14 h2_0,.int .i64 h2_1,.int .i64 h2_2]]⟩),(g15,⟨false,g16,h3⟩),(g17,⟨false,g18,h4⟩),(g19,⟨false,g20,h5⟩)]⟩=>bif nmEq g0 ([1]) && Nat.beq g1 0 && Nat.beq g2 0 && nmEq g3 ([0,3,0]) && Nat.beq g4 0 && Nat.beq g5 0 && nmEq g6 ([0,5,0]) && nmEq g7 ([0,3,0]) && nmEq g8 ([2]) && nmEq g9 ([3]) && nmEq g10 ([4]) && nmEq g11 ([0,5,0]) && ctsEq g12 ([.int .i64]) && nmEq g13 ([1]) && ctsEq g14 ([.int .u8]) && nmEq g15 ([2]) && ctsEq g16 ([.int .i64]) && nmEq g17 ([3]) && ctsEq g18 ([.int .i64]) && nmEq g19 ([4]) && ctsEq g20 ([.int .i64,.int .i64]) then ro (runW (R62_0) ((t6 - 0:Int).toNat+1) (t6,h1,h2_0,h2_1,h2_2,h3,h4,h5)) none (K62_0 k) else none
 | _=>none
noncomputable def c62:Cfg:=cfg Try.prog [(62,0,[0,3,5,6]),(62,999,[4]),(62,1000,[5]),(62,1001,[0,3,5,6])] [] [(44,.g m44),(57,.g m57)] [] [(62,0,l62_0)]
theorem s62_0 (ce:CallE) (t6:Int) (h1 h2_0:List AV) (h2_1 h2_2:Int) (h3 h4 h5:List AV) (next:St→Option AV) (k:Kont):stepA (codeA c62 ce [0] 62 0 (sub [1,1,0,1,0,0] (body Try.f62))) (normA [0] [0,3,5,6]) next ⟨[(0,AV.ptr [1] 0 0),(3,AV.ptr [0,3,0] 0 0),(5,AV.own [0,5,0]),(6,Ai t6)],[([0,3,0],⟨true,[],[AV.agg [AV.own [2],AV.own [3],AV.own [4]]]⟩),([0,5,0],⟨false,[.int .i64],h1⟩),([1],⟨true,[],[AV.agg [AV.sl [.int .u8] h2_0,Ai h2_1,Ai h2_2]]⟩),([2],⟨false,[.int .i64],h3⟩),([3],⟨false,[.int .i64],h4⟩),([4],⟨false,[.int .i64,.int .i64],h5⟩)]⟩ k=(bif decide (t6 > 0) then (bif q44 h2_0 h2_1 h2_2 h3 h4 h5 then (bif (decide ((h1.length+([Ai (v44_0 h2_0 h2_1 h2_2 h3 h4 h5)]).length)*8≤140737488355328) && decide ((h1.length+([Ai (v44_0 h2_0 h2_1 h2_2 h3 h4 h5)]).length)≤140737488355328)) then next ⟨[(0,AV.ptr [1] 0 0),(3,AV.ptr [0,3,0] 0 0),(5,AV.own [0,5,0]),(6,Ai (IntKind.i64.wrap (t6 - 1)))],[([0,3,0],⟨true,[],[AV.agg [AV.own [2],AV.own [3],AV.own [4]]]⟩),([0,5,0],⟨false,[.int .i64],h1++([Ai (v44_0 h2_0 h2_1 h2_2 h3 h4 h5)])⟩),([1],⟨true,[],[AV.agg [AV.sl [.int .u8] (v44_1 h2_0 h2_1 h2_2 h3 h4 h5),Ai (v44_2 h2_0 h2_1 h2_2 h3 h4 h5),Ai (v44_3 h2_0 h2_1 h2_2 h3 h4 h5)]]⟩),([2],⟨false,[.int .i64],(v44_4 h2_0 h2_1 h2_2 h3 h4 h5)⟩),([3],⟨false,[.int .i64],(v44_5 h2_0 h2_1 h2_2 h3 h4 h5)⟩),([4],⟨false,[.int .i64,.int .i64],(v44_6 h2_0 h2_1 h2_2 h3 h4 h5)⟩)]⟩
 else none)
 else none)
 else k (.exit 0) ⟨[(5,AV.own [0,5,0])],[([0,3,0],⟨true,[],[AV.agg [AV.own [2],AV.own [3],AV.own [4]]]⟩),([0,5,0],⟨false,[.int .i64],h1⟩),([1],⟨true,[],[AV.agg [AV.sl [.int .u8] h2_0,Ai h2_1,Ai h2_2]]⟩),([2],⟨false,[.int .i64],h3⟩),([3],⟨false,[.int .i64],h4⟩),([4],⟨false,[.int .i64,.int .i64],h5⟩)]⟩):=by kernel_rfl
theorem st62_0 (ce:CallE) (k:Kont) (s:(Int × (List AV) × (List AV) × Int × Int × (List AV) × (List AV) × (List AV))) (next:St→Option AV):stepA (codeA c62 ce [0] 62 0 (sub [1,1,0,1,0,0] (body Try.f62))) (normA [0] [0,3,5,6]) next (E62_0 s) k=(R62_0 s).el none (fun s=>next (E62_0 s)) (K62_0 k):=(s62_0 ce s.1 s.2.1 s.2.2.1 s.2.2.2.1 s.2.2.2.2.1 s.2.2.2.2.2.1 s.2.2.2.2.2.2.1 s.2.2.2.2.2.2.2 next k).trans (by unfold R62_0;unfold F62_0;simp only [el_cond,el_ro,el_sum,el_fail,el_next,el_stop] <;> rfl)
theorem ok62_0 {ce:CallE}:LoopOK c62 ce [0] 62 0 (sub [1,1,0,1,0,0] (body Try.f62)):=by
 intro m hm st k r h
 obtain rfl:l62_0=m:=Option.some.inj hm
 unfold l62_0 at h
 split at h
 ·rename_i g0 g1 g2 g3 g4 g5 g6 t6 g7 g8 g9 g10 g11 g12 h1 g13 g14 h2_0 h2_1 h2_2 g15 g16 h3 g17 g18 h4 g19 g20 h5
  obtain ⟨hg,h⟩:=bif_some h
  simp only [Bool.and_eq_true] at hg
  obtain ⟨⟨⟨⟨⟨⟨⟨⟨⟨⟨⟨⟨⟨⟨⟨⟨⟨⟨⟨⟨q0,q1⟩,q2⟩,q3⟩,q4⟩,q5⟩,q6⟩,q7⟩,q8⟩,q9⟩,q10⟩,q11⟩,q12⟩,q13⟩,q14⟩,q15⟩,q16⟩,q17⟩,q18⟩,q19⟩,q20⟩:=hg
  obtain rfl:=(nmEq_iff _ _).1 q0
  obtain rfl:=Nat.eq_of_beq_eq_true q1
  obtain rfl:=Nat.eq_of_beq_eq_true q2
  obtain rfl:=(nmEq_iff _ _).1 q3
  obtain rfl:=Nat.eq_of_beq_eq_true q4
  obtain rfl:=Nat.eq_of_beq_eq_true q5
  obtain rfl:=(nmEq_iff _ _).1 q6
  obtain rfl:=(nmEq_iff _ _).1 q7
  obtain rfl:=(nmEq_iff _ _).1 q8
  obtain rfl:=(nmEq_iff _ _).1 q9
  obtain rfl:=(nmEq_iff _ _).1 q10
  obtain rfl:=(nmEq_iff _ _).1 q11
  obtain rfl:=ctsEq_eq _ _ q12
  obtain rfl:=(nmEq_iff _ _).1 q13
  obtain rfl:=ctsEq_eq _ _ q14
  obtain rfl:=(nmEq_iff _ _).1 q15
  obtain rfl:=ctsEq_eq _ _ q16
  obtain rfl:=(nmEq_iff _ _).1 q17
  obtain rfl:=ctsEq_eq _ _ q18
  obtain rfl:=(nmEq_iff _ _).1 q19
  obtain rfl:=ctsEq_eq _ _ q20
  refine ⟨((t6 - 0:Int).toNat+1),?_⟩
  rw [← h]
  exact loop_run E62_0 (K62_0 k) (st62_0 ce k) _ (t6,h1,h2_0,h2_1,h2_2,h3,h4,h5)
 ·cases h
def q62 (ua:List AV) (ub uc:Int) (b1 b2 b3:List AV):Bool:=(q57 5 ua ub uc && (ro (runW (R62_0) (((v57_0 5 ua ub uc) - 0:Int).toNat+1) ((v57_0 5 ua ub uc),([]:List AV),(v57_1 5 ua ub uc),(v57_2 5 ua ub uc),(v57_3 5 ua ub uc),b1,b2,b3)) false (fun p7=>true)))
def v62_0 (ua:List AV) (ub uc:Int) (b1 b2 b3:List AV):List AV:=(ro (runW (R62_0) (((v57_0 5 ua ub uc) - 0:Int).toNat+1) ((v57_0 5 ua ub uc),([]:List AV),(v57_1 5 ua ub uc),(v57_2 5 ua ub uc),(v57_3 5 ua ub uc),b1,b2,b3)) [] (fun p7=>p7.1))
def v62_1 (ua:List AV) (ub uc:Int) (b1 b2 b3:List AV):List AV:=(ro (runW (R62_0) (((v57_0 5 ua ub uc) - 0:Int).toNat+1) ((v57_0 5 ua ub uc),([]:List AV),(v57_1 5 ua ub uc),(v57_2 5 ua ub uc),(v57_3 5 ua ub uc),b1,b2,b3)) [] (fun p7=>p7.2.1))
def v62_2 (ua:List AV) (ub uc:Int) (b1 b2 b3:List AV):Int:=(ro (runW (R62_0) (((v57_0 5 ua ub uc) - 0:Int).toNat+1) ((v57_0 5 ua ub uc),([]:List AV),(v57_1 5 ua ub uc),(v57_2 5 ua ub uc),(v57_3 5 ua ub uc),b1,b2,b3)) 0 (fun p7=>p7.2.2.1))
def v62_3 (ua:List AV) (ub uc:Int) (b1 b2 b3:List AV):Int:=(ro (runW (R62_0) (((v57_0 5 ua ub uc) - 0:Int).toNat+1) ((v57_0 5 ua ub uc),([]:List AV),(v57_1 5 ua ub uc),(v57_2 5 ua ub uc),(v57_3 5 ua ub uc),b1,b2,b3)) 0 (fun p7=>p7.2.2.2.1))
def v62_4 (ua:List AV) (ub uc:Int) (b1 b2 b3:List AV):List AV:=(ro (runW (R62_0) (((v57_0 5 ua ub uc) - 0:Int).toNat+1) ((v57_0 5 ua ub uc),([]:List AV),(v57_1 5 ua ub uc),(v57_2 5 ua ub uc),(v57_3 5 ua ub uc),b1,b2,b3)) [] (fun p7=>p7.2.2.2.2.1))
def v62_5 (ua:List AV) (ub uc:Int) (b1 b2 b3:List AV):List AV:=(ro (runW (R62_0) (((v57_0 5 ua ub uc) - 0:Int).toNat+1) ((v57_0 5 ua ub uc),([]:List AV),(v57_1 5 ua ub uc),(v57_2 5 ua ub uc),(v57_3 5 ua ub uc),b1,b2,b3)) [] (fun p7=>p7.2.2.2.2.2.1))
def v62_6 (ua:List AV) (ub uc:Int) (b1 b2 b3:List AV):List AV:=(ro (runW (R62_0) (((v57_0 5 ua ub uc) - 0:Int).toNat+1) ((v57_0 5 ua ub uc),([]:List AV),(v57_1 5 ua ub uc),(v57_2 5 ua ub uc),(v57_3 5 ua ub uc),b1,b2,b3)) [] (fun p7=>p7.2.2.2.2.2.2))
theorem e62 (ua:List AV) (ub uc:Int) (b1 b2 b3:List AV) (K:List AV→List (Option Blk)→Option AV):inlA c62 1 62 [AV.ptr [1] 0 0,AV.agg [AV.own [2],AV.own [3],AV.own [4]]] [0] (canH 1 [⟨true,[],[AV.agg [AV.sl [.int .u8] ua,Ai ub,Ai uc]]⟩,⟨false,[.int .i64],b1⟩,⟨false,[.int .i64],b2⟩,⟨false,[.int .i64,.int .i64],b3⟩]) (keepG Try.prog 4 [24] [] K)=(bif q57 5 ua ub uc then (ro (runW (R62_0) (((v57_0 5 ua ub uc) - 0:Int).toNat+1) ((v57_0 5 ua ub uc),([]:List AV),(v57_1 5 ua ub uc),(v57_2 5 ua ub uc),(v57_3 5 ua ub uc),b1,b2,b3)) none (fun p7=>K [AV.fl [.int .i64] p7.1] [some ⟨true,[],[AV.agg [AV.sl [.int .u8] p7.2.1,Ai p7.2.2.1,Ai p7.2.2.2.1]]⟩,some ⟨false,[.int .i64],p7.2.2.2.2.1⟩,some ⟨false,[.int .i64],p7.2.2.2.2.2.1⟩,some ⟨false,[.int .i64,.int .i64],p7.2.2.2.2.2.2⟩]))
 else none):=by kernel_rfl
theorem r62 (ua:List AV) (ub uc:Int) (b1 b2 b3:List AV) (K:List AV→List (Option Blk)→Option AV) (h:q62 ua ub uc b1 b2 b3=true):inlA c62 1 62 [AV.ptr [1] 0 0,AV.agg [AV.own [2],AV.own [3],AV.own [4]]] [0] (canH 1 [⟨true,[],[AV.agg [AV.sl [.int .u8] ua,AV.int .i64 ub,AV.int .i64 uc]]⟩,⟨false,[.int .i64],b1⟩,⟨false,[.int .i64],b2⟩,⟨false,[.int .i64,.int .i64],b3⟩]) (keepG Try.prog 4 [24] [] K)=K [AV.fl [.int .i64] (v62_0 ua ub uc b1 b2 b3)] [some ⟨true,[],[AV.agg [AV.sl [.int .u8] (v62_1 ua ub uc b1 b2 b3),AV.int .i64 (v62_2 ua ub uc b1 b2 b3),AV.int .i64 (v62_3 ua ub uc b1 b2 b3)]]⟩,some ⟨false,[.int .i64],(v62_4 ua ub uc b1 b2 b3)⟩,some ⟨false,[.int .i64],(v62_5 ua ub uc b1 b2 b3)⟩,some ⟨false,[.int .i64,.int .i64],(v62_6 ua ub uc b1 b2 b3)⟩]:=(e62 ua ub uc b1 b2 b3 K).trans ((brL (brO (fun o:Option (((List AV) × (List AV) × Int × Int × (List AV) × (List AV) × (List AV)))=>K [AV.fl [.int .i64] (ro o [] (fun p7=>p7.1))] [some ⟨true,[],[AV.agg [AV.sl [.int .u8] (ro o [] (fun p7=>p7.2.1)),AV.int .i64 (ro o 0 (fun p7=>p7.2.2.1)),AV.int .i64 (ro o 0 (fun p7=>p7.2.2.2.1))]]⟩,some ⟨false,[.int .i64],(ro o [] (fun p7=>p7.2.2.2.2.1))⟩,some ⟨false,[.int .i64],(ro o [] (fun p7=>p7.2.2.2.2.2.1))⟩,some ⟨false,[.int .i64,.int .i64],(ro o [] (fun p7=>p7.2.2.2.2.2.2))⟩]) (fun p7=>(fun _=>rfl)))) h)
def m62:GModel
 | [.ptr g0 g1 g2,.agg [.own g3,.own g4,.own g5]],[⟨true,[],[.agg [.sl g6 ua,.int .i64 ub,.int .i64 uc]]⟩,⟨false,g7,b1⟩,⟨false,g8,b2⟩,⟨false,g9,b3⟩]=>bif nmEq g0 ([1]) && Nat.beq g1 0 && Nat.beq g2 0 && nmEq g3 ([2]) && nmEq g4 ([3]) && nmEq g5 ([4]) && ctsEq g6 ([.int .u8]) && ctsEq g7 ([.int .i64]) && ctsEq g8 ([.int .i64]) && ctsEq g9 ([.int .i64,.int .i64]) then some (q62 ua ub uc b1 b2 b3,[AV.fl [.int .i64] (v62_0 ua ub uc b1 b2 b3)],[some ⟨true,[],[AV.agg [AV.sl [.int .u8] (v62_1 ua ub uc b1 b2 b3),AV.int .i64 (v62_2 ua ub uc b1 b2 b3),AV.int .i64 (v62_3 ua ub uc b1 b2 b3)]]⟩,some ⟨false,[.int .i64],(v62_4 ua ub uc b1 b2 b3)⟩,some ⟨false,[.int .i64],(v62_5 ua ub uc b1 b2 b3)⟩,some ⟨false,[.int .i64,.int .i64],(v62_6 ua ub uc b1 b2 b3)⟩]) else none
 | _,_=>none
theorem k62:Known Try.prog 62:=⟨Try.f62,Try.func62,by kernel_rfl,by kernel_rfl⟩
theorem meets62:MeetsG Try.prog 62 m62:=by
 refine meetG (rt:=[24]) (gs:=[]) (f:=Try.f62) (l:=[(0,sub [1,1,0,1,0,0] (body Try.f62))]) (hs:=[(62,0,[0,3,5,6]),(62,999,[4]),(62,1000,[5]),(62,1001,[0,3,5,6])]) (ts:=[]) (ws:=[(44,.g m44),(57,.g m57)]) (is:=[]) (ls:=[(62,0,l62_0)]) (lvl:=0) mixed k62 Try.func62 (by kernel_rfl) (loops_cons ok62_0 noLoop) allT_nil (allG_cons meets44 (allG_cons meets57 allM_nil)) noI fun C w xs us bs r bs' hl hv hh h K=>?_
 unfold m62 at h
 split at h
 ·rename_i g0 g1 g2 g3 g4 g5 g6 ua ub uc g7 b1 g8 b2 g9 b3
  obtain ⟨hg,h⟩:=bif_pair h
  simp only [Bool.and_eq_true] at hg
  obtain ⟨⟨⟨⟨⟨⟨⟨⟨⟨q0,q1⟩,q2⟩,q3⟩,q4⟩,q5⟩,q6⟩,q7⟩,q8⟩,q9⟩:=hg
  obtain rfl:=(nmEq_iff _ _).1 q0
  obtain rfl:=Nat.eq_of_beq_eq_true q1
  obtain rfl:=Nat.eq_of_beq_eq_true q2
  obtain rfl:=(nmEq_iff _ _).1 q3
  obtain rfl:=(nmEq_iff _ _).1 q4
  obtain rfl:=(nmEq_iff _ _).1 q5
  obtain rfl:=ctsEq_eq _ _ q6
  obtain rfl:=ctsEq_eq _ _ q7
  obtain rfl:=ctsEq_eq _ _ q8
  obtain rfl:=ctsEq_eq _ _ q9
  obtain ⟨h1,rfl,rfl⟩:=trip_inj h
  exact r62 ua ub uc b1 b2 b3 K h1
 ·cases h
noncomputable def c28:Cfg:=cfg Try.prog [(28,999,[2,3])] [(35,m35)] [(61,.g m61),(62,.g m62),(63,.g m63)] [] []
def q28 (ua:List AV) (ub uc:Int):Bool:=(q61 12 ua ub uc && (q35 (v61_0 12 ua ub uc) && (q62 (v61_1 12 ua ub uc) (v61_2 12 ua ub uc) (v61_3 12 ua ub uc) (v35_0 (v61_0 12 ua ub uc)) (v35_1 (v61_0 12 ua ub uc)) (v35_2 (v61_0 12 ua ub uc)) && (q63 14 (v62_1 (v61_1 12 ua ub uc) (v61_2 12 ua ub uc) (v61_3 12 ua ub uc) (v35_0 (v61_0 12 ua ub uc)) (v35_1 (v61_0 12 ua ub uc)) (v35_2 (v61_0 12 ua ub uc))) (v62_2 (v61_1 12 ua ub uc) (v61_2 12 ua ub uc) (v61_3 12 ua ub uc) (v35_0 (v61_0 12 ua ub uc)) (v35_1 (v61_0 12 ua ub uc)) (v35_2 (v61_0 12 ua ub uc))) (v62_3 (v61_1 12 ua ub uc) (v61_2 12 ua ub uc) (v61_3 12 ua ub uc) (v35_0 (v61_0 12 ua ub uc)) (v35_1 (v61_0 12 ua ub uc)) (v35_2 (v61_0 12 ua ub uc))) && (bif (v63_0 14 (v62_1 (v61_1 12 ua ub uc) (v61_2 12 ua ub uc) (v61_3 12 ua ub uc) (v35_0 (v61_0 12 ua ub uc)) (v35_1 (v61_0 12 ua ub uc)) (v35_2 (v61_0 12 ua ub uc))) (v62_2 (v61_1 12 ua ub uc) (v61_2 12 ua ub uc) (v61_3 12 ua ub uc) (v35_0 (v61_0 12 ua ub uc)) (v35_1 (v61_0 12 ua ub uc)) (v35_2 (v61_0 12 ua ub uc))) (v62_3 (v61_1 12 ua ub uc) (v61_2 12 ua ub uc) (v61_3 12 ua ub uc) (v35_0 (v61_0 12 ua ub uc)) (v35_1 (v61_0 12 ua ub uc)) (v35_2 (v61_0 12 ua ub uc)))) then (decide (((v62_0 (v61_1 12 ua ub uc) (v61_2 12 ua ub uc) (v61_3 12 ua ub uc) (v35_0 (v61_0 12 ua ub uc)) (v35_1 (v61_0 12 ua ub uc)) (v35_2 (v61_0 12 ua ub uc))).length+([AV.int .i64 1001]).length)*8≤140737488355328) && decide (((v62_0 (v61_1 12 ua ub uc) (v61_2 12 ua ub uc) (v61_3 12 ua ub uc) (v35_0 (v61_0 12 ua ub uc)) (v35_1 (v61_0 12 ua ub uc)) (v35_2 (v61_0 12 ua ub uc))).length+([AV.int .i64 1001]).length)≤140737488355328)) else true)))))
def v28_0 (ua:List AV) (ub uc:Int):List AV:=(v61_0 12 ua ub uc)
def v28_1 (ua:List AV) (ub uc:Int):List AV:=(bif (v63_0 14 (v62_1 (v61_1 12 ua ub uc) (v61_2 12 ua ub uc) (v61_3 12 ua ub uc) (v35_0 (v61_0 12 ua ub uc)) (v35_1 (v61_0 12 ua ub uc)) (v35_2 (v61_0 12 ua ub uc))) (v62_2 (v61_1 12 ua ub uc) (v61_2 12 ua ub uc) (v61_3 12 ua ub uc) (v35_0 (v61_0 12 ua ub uc)) (v35_1 (v61_0 12 ua ub uc)) (v35_2 (v61_0 12 ua ub uc))) (v62_3 (v61_1 12 ua ub uc) (v61_2 12 ua ub uc) (v61_3 12 ua ub uc) (v35_0 (v61_0 12 ua ub uc)) (v35_1 (v61_0 12 ua ub uc)) (v35_2 (v61_0 12 ua ub uc)))) then (v62_0 (v61_1 12 ua ub uc) (v61_2 12 ua ub uc) (v61_3 12 ua ub uc) (v35_0 (v61_0 12 ua ub uc)) (v35_1 (v61_0 12 ua ub uc)) (v35_2 (v61_0 12 ua ub uc)))++([AV.int .i64 1001]) else (v62_0 (v61_1 12 ua ub uc) (v61_2 12 ua ub uc) (v61_3 12 ua ub uc) (v35_0 (v61_0 12 ua ub uc)) (v35_1 (v61_0 12 ua ub uc)) (v35_2 (v61_0 12 ua ub uc))))
def v28_2 (ua:List AV) (ub uc:Int):List AV:=(v63_1 14 (v62_1 (v61_1 12 ua ub uc) (v61_2 12 ua ub uc) (v61_3 12 ua ub uc) (v35_0 (v61_0 12 ua ub uc)) (v35_1 (v61_0 12 ua ub uc)) (v35_2 (v61_0 12 ua ub uc))) (v62_2 (v61_1 12 ua ub uc) (v61_2 12 ua ub uc) (v61_3 12 ua ub uc) (v35_0 (v61_0 12 ua ub uc)) (v35_1 (v61_0 12 ua ub uc)) (v35_2 (v61_0 12 ua ub uc))) (v62_3 (v61_1 12 ua ub uc) (v61_2 12 ua ub uc) (v61_3 12 ua ub uc) (v35_0 (v61_0 12 ua ub uc)) (v35_1 (v61_0 12 ua ub uc)) (v35_2 (v61_0 12 ua ub uc))))
def v28_3 (ua:List AV) (ub uc:Int):Int:=(v63_2 14 (v62_1 (v61_1 12 ua ub uc) (v61_2 12 ua ub uc) (v61_3 12 ua ub uc) (v35_0 (v61_0 12 ua ub uc)) (v35_1 (v61_0 12 ua ub uc)) (v35_2 (v61_0 12 ua ub uc))) (v62_2 (v61_1 12 ua ub uc) (v61_2 12 ua ub uc) (v61_3 12 ua ub uc) (v35_0 (v61_0 12 ua ub uc)) (v35_1 (v61_0 12 ua ub uc)) (v35_2 (v61_0 12 ua ub uc))) (v62_3 (v61_1 12 ua ub uc) (v61_2 12 ua ub uc) (v61_3 12 ua ub uc) (v35_0 (v61_0 12 ua ub uc)) (v35_1 (v61_0 12 ua ub uc)) (v35_2 (v61_0 12 ua ub uc))))
def v28_4 (ua:List AV) (ub uc:Int):Int:=(v63_3 14 (v62_1 (v61_1 12 ua ub uc) (v61_2 12 ua ub uc) (v61_3 12 ua ub uc) (v35_0 (v61_0 12 ua ub uc)) (v35_1 (v61_0 12 ua ub uc)) (v35_2 (v61_0 12 ua ub uc))) (v62_2 (v61_1 12 ua ub uc) (v61_2 12 ua ub uc) (v61_3 12 ua ub uc) (v35_0 (v61_0 12 ua ub uc)) (v35_1 (v61_0 12 ua ub uc)) (v35_2 (v61_0 12 ua ub uc))) (v62_3 (v61_1 12 ua ub uc) (v61_2 12 ua ub uc) (v61_3 12 ua ub uc) (v35_0 (v61_0 12 ua ub uc)) (v35_1 (v61_0 12 ua ub uc)) (v35_2 (v61_0 12 ua ub uc))))
theorem e28 (ua:List AV) (ub uc:Int) (K:List AV→List (Option Blk)→Option AV):inlA c28 1 28 [AV.ptr [1] 0 0] [0] (canH 1 [⟨true,[],[AV.agg [AV.sl [.int .u8] ua,Ai ub,Ai uc]]⟩]) (keepG Try.prog 1 [24,24] [] K)=(bif q61 12 ua ub uc then (bif q35 (v61_0 12 ua ub uc) then (bif q62 (v61_1 12 ua ub uc) (v61_2 12 ua ub uc) (v61_3 12 ua ub uc) (v35_0 (v61_0 12 ua ub uc)) (v35_1 (v61_0 12 ua ub uc)) (v35_2 (v61_0 12 ua ub uc)) then (bif q63 14 (v62_1 (v61_1 12 ua ub uc) (v61_2 12 ua ub uc) (v61_3 12 ua ub uc) (v35_0 (v61_0 12 ua ub uc)) (v35_1 (v61_0 12 ua ub uc)) (v35_2 (v61_0 12 ua ub uc))) (v62_2 (v61_1 12 ua ub uc) (v61_2 12 ua ub uc) (v61_3 12 ua ub uc) (v35_0 (v61_0 12 ua ub uc)) (v35_1 (v61_0 12 ua ub uc)) (v35_2 (v61_0 12 ua ub uc))) (v62_3 (v61_1 12 ua ub uc) (v61_2 12 ua ub uc) (v61_3 12 ua ub uc) (v35_0 (v61_0 12 ua ub uc)) (v35_1 (v61_0 12 ua ub uc)) (v35_2 (v61_0 12 ua ub uc))) then (bif (v63_0 14 (v62_1 (v61_1 12 ua ub uc) (v61_2 12 ua ub uc) (v61_3 12 ua ub uc) (v35_0 (v61_0 12 ua ub uc)) (v35_1 (v61_0 12 ua ub uc)) (v35_2 (v61_0 12 ua ub uc))) (v62_2 (v61_1 12 ua ub uc) (v61_2 12 ua ub uc) (v61_3 12 ua ub uc) (v35_0 (v61_0 12 ua ub uc)) (v35_1 (v61_0 12 ua ub uc)) (v35_2 (v61_0 12 ua ub uc))) (v62_3 (v61_1 12 ua ub uc) (v61_2 12 ua ub uc) (v61_3 12 ua ub uc) (v35_0 (v61_0 12 ua ub uc)) (v35_1 (v61_0 12 ua ub uc)) (v35_2 (v61_0 12 ua ub uc)))) then (bif (decide (((v62_0 (v61_1 12 ua ub uc) (v61_2 12 ua ub uc) (v61_3 12 ua ub uc) (v35_0 (v61_0 12 ua ub uc)) (v35_1 (v61_0 12 ua ub uc)) (v35_2 (v61_0 12 ua ub uc))).length+([Ai 1001]).length)*8≤140737488355328) && decide (((v62_0 (v61_1 12 ua ub uc) (v61_2 12 ua ub uc) (v61_3 12 ua ub uc) (v35_0 (v61_0 12 ua ub uc)) (v35_1 (v61_0 12 ua ub uc)) (v35_2 (v61_0 12 ua ub uc))).length+([Ai 1001]).length)≤140737488355328)) then K [AV.fl [.int .i64] (v61_0 12 ua ub uc),AV.fl [.int .i64] ((v62_0 (v61_1 12 ua ub uc) (v61_2 12 ua ub uc) (v61_3 12 ua ub uc) (v35_0 (v61_0 12 ua ub uc)) (v35_1 (v61_0 12 ua ub uc)) (v35_2 (v61_0 12 ua ub uc)))++([Ai 1001]))] [some ⟨true,[],[AV.agg [AV.sl [.int .u8] (v63_1 14 (v62_1 (v61_1 12 ua ub uc) (v61_2 12 ua ub uc) (v61_3 12 ua ub uc) (v35_0 (v61_0 12 ua ub uc)) (v35_1 (v61_0 12 ua ub uc)) (v35_2 (v61_0 12 ua ub uc))) (v62_2 (v61_1 12 ua ub uc) (v61_2 12 ua ub uc) (v61_3 12 ua ub uc) (v35_0 (v61_0 12 ua ub uc)) (v35_1 (v61_0 12 ua ub uc)) (v35_2 (v61_0 12 ua ub uc))) (v62_3 (v61_1 12 ua ub uc) (v61_2 12 ua ub uc) (v61_3 12 ua ub uc) (v35_0 (v61_0 12 ua ub uc)) (v35_1 (v61_0 12 ua ub uc)) (v35_2 (v61_0 12 ua ub uc)))),Ai (v63_2 14 (v62_1 (v61_1 12 ua ub uc) (v61_2 12 ua ub uc) (v61_3 12 ua ub uc) (v35_0 (v61_0 12 ua ub uc)) (v35_1 (v61_0 12 ua ub uc)) (v35_2 (v61_0 12 ua ub uc))) (v62_2 (v61_1 12 ua ub uc) (v61_2 12 ua ub uc) (v61_3 12 ua ub uc) (v35_0 (v61_0 12 ua ub uc)) (v35_1 (v61_0 12 ua ub uc)) (v35_2 (v61_0 12 ua ub uc))) (v62_3 (v61_1 12 ua ub uc) (v61_2 12 ua ub uc) (v61_3 12 ua ub uc) (v35_0 (v61_0 12 ua ub uc)) (v35_1 (v61_0 12 ua ub uc)) (v35_2 (v61_0 12 ua ub uc)))),Ai (v63_3 14 (v62_1 (v61_1 12 ua ub uc) (v61_2 12 ua ub uc) (v61_3 12 ua ub uc) (v35_0 (v61_0 12 ua ub uc)) (v35_1 (v61_0 12 ua ub uc)) (v35_2 (v61_0 12 ua ub uc))) (v62_2 (v61_1 12 ua ub uc) (v61_2 12 ua ub uc) (v61_3 12 ua ub uc) (v35_0 (v61_0 12 ua ub uc)) (v35_1 (v61_0 12 ua ub uc)) (v35_2 (v61_0 12 ua ub uc))) (v62_3 (v61_1 12 ua ub uc) (v61_2 12 ua ub uc) (v61_3 12 ua ub uc) (v35_0 (v61_0 12 ua ub uc)) (v35_1 (v61_0 12 ua ub uc)) (v35_2 (v61_0 12 ua ub uc))))]]⟩]
 else none)
 else K [AV.fl [.int .i64] (v61_0 12 ua ub uc),AV.fl [.int .i64] (v62_0 (v61_1 12 ua ub uc) (v61_2 12 ua ub uc) (v61_3 12 ua ub uc) (v35_0 (v61_0 12 ua ub uc)) (v35_1 (v61_0 12 ua ub uc)) (v35_2 (v61_0 12 ua ub uc)))] [some ⟨true,[],[AV.agg [AV.sl [.int .u8] (v63_1 14 (v62_1 (v61_1 12 ua ub uc) (v61_2 12 ua ub uc) (v61_3 12 ua ub uc) (v35_0 (v61_0 12 ua ub uc)) (v35_1 (v61_0 12 ua ub uc)) (v35_2 (v61_0 12 ua ub uc))) (v62_2 (v61_1 12 ua ub uc) (v61_2 12 ua ub uc) (v61_3 12 ua ub uc) (v35_0 (v61_0 12 ua ub uc)) (v35_1 (v61_0 12 ua ub uc)) (v35_2 (v61_0 12 ua ub uc))) (v62_3 (v61_1 12 ua ub uc) (v61_2 12 ua ub uc) (v61_3 12 ua ub uc) (v35_0 (v61_0 12 ua ub uc)) (v35_1 (v61_0 12 ua ub uc)) (v35_2 (v61_0 12 ua ub uc)))),Ai (v63_2 14 (v62_1 (v61_1 12 ua ub uc) (v61_2 12 ua ub uc) (v61_3 12 ua ub uc) (v35_0 (v61_0 12 ua ub uc)) (v35_1 (v61_0 12 ua ub uc)) (v35_2 (v61_0 12 ua ub uc))) (v62_2 (v61_1 12 ua ub uc) (v61_2 12 ua ub uc) (v61_3 12 ua ub uc) (v35_0 (v61_0 12 ua ub uc)) (v35_1 (v61_0 12 ua ub uc)) (v35_2 (v61_0 12 ua ub uc))) (v62_3 (v61_1 12 ua ub uc) (v61_2 12 ua ub uc) (v61_3 12 ua ub uc) (v35_0 (v61_0 12 ua ub uc)) (v35_1 (v61_0 12 ua ub uc)) (v35_2 (v61_0 12 ua ub uc)))),Ai (v63_3 14 (v62_1 (v61_1 12 ua ub uc) (v61_2 12 ua ub uc) (v61_3 12 ua ub uc) (v35_0 (v61_0 12 ua ub uc)) (v35_1 (v61_0 12 ua ub uc)) (v35_2 (v61_0 12 ua ub uc))) (v62_2 (v61_1 12 ua ub uc) (v61_2 12 ua ub uc) (v61_3 12 ua ub uc) (v35_0 (v61_0 12 ua ub uc)) (v35_1 (v61_0 12 ua ub uc)) (v35_2 (v61_0 12 ua ub uc))) (v62_3 (v61_1 12 ua ub uc) (v61_2 12 ua ub uc) (v61_3 12 ua ub uc) (v35_0 (v61_0 12 ua ub uc)) (v35_1 (v61_0 12 ua ub uc)) (v35_2 (v61_0 12 ua ub uc))))]]⟩])
 else none)
 else none)
 else none)
 else none):=by kernel_rfl
theorem r28 (ua:List AV) (ub uc:Int) (K:List AV→List (Option Blk)→Option AV) (h:q28 ua ub uc=true):inlA c28 1 28 [AV.ptr [1] 0 0] [0] (canH 1 [⟨true,[],[AV.agg [AV.sl [.int .u8] ua,AV.int .i64 ub,AV.int .i64 uc]]⟩]) (keepG Try.prog 1 [24,24] [] K)=K [AV.fl [.int .i64] (v28_0 ua ub uc),AV.fl [.int .i64] (v28_1 ua ub uc)] [some ⟨true,[],[AV.agg [AV.sl [.int .u8] (v28_2 ua ub uc),AV.int .i64 (v28_3 ua ub uc),AV.int .i64 (v28_4 ua ub uc)]]⟩]:=(e28 ua ub uc K).trans ((brL (brL (brL (brL (br (fun b=>K [AV.fl [.int .i64] (v61_0 12 ua ub uc),AV.fl [.int .i64] (bif b then (v62_0 (v61_1 12 ua ub uc) (v61_2 12 ua ub uc) (v61_3 12 ua ub uc) (v35_0 (v61_0 12 ua ub uc)) (v35_1 (v61_0 12 ua ub uc)) (v35_2 (v61_0 12 ua ub uc)))++([AV.int .i64 1001]) else (v62_0 (v61_1 12 ua ub uc) (v61_2 12 ua ub uc) (v61_3 12 ua ub uc) (v35_0 (v61_0 12 ua ub uc)) (v35_1 (v61_0 12 ua ub uc)) (v35_2 (v61_0 12 ua ub uc))))] [some ⟨true,[],[AV.agg [AV.sl [.int .u8] (v63_1 14 (v62_1 (v61_1 12 ua ub uc) (v61_2 12 ua ub uc) (v61_3 12 ua ub uc) (v35_0 (v61_0 12 ua ub uc)) (v35_1 (v61_0 12 ua ub uc)) (v35_2 (v61_0 12 ua ub uc))) (v62_2 (v61_1 12 ua ub uc) (v61_2 12 ua ub uc) (v61_3 12 ua ub uc) (v35_0 (v61_0 12 ua ub uc)) (v35_1 (v61_0 12 ua ub uc)) (v35_2 (v61_0 12 ua ub uc))) (v62_3 (v61_1 12 ua ub uc) (v61_2 12 ua ub uc) (v61_3 12 ua ub uc) (v35_0 (v61_0 12 ua ub uc)) (v35_1 (v61_0 12 ua ub uc)) (v35_2 (v61_0 12 ua ub uc)))),AV.int .i64 (v63_2 14 (v62_1 (v61_1 12 ua ub uc) (v61_2 12 ua ub uc) (v61_3 12 ua ub uc) (v35_0 (v61_0 12 ua ub uc)) (v35_1 (v61_0 12 ua ub uc)) (v35_2 (v61_0 12 ua ub uc))) (v62_2 (v61_1 12 ua ub uc) (v61_2 12 ua ub uc) (v61_3 12 ua ub uc) (v35_0 (v61_0 12 ua ub uc)) (v35_1 (v61_0 12 ua ub uc)) (v35_2 (v61_0 12 ua ub uc))) (v62_3 (v61_1 12 ua ub uc) (v61_2 12 ua ub uc) (v61_3 12 ua ub uc) (v35_0 (v61_0 12 ua ub uc)) (v35_1 (v61_0 12 ua ub uc)) (v35_2 (v61_0 12 ua ub uc)))),AV.int .i64 (v63_3 14 (v62_1 (v61_1 12 ua ub uc) (v61_2 12 ua ub uc) (v61_3 12 ua ub uc) (v35_0 (v61_0 12 ua ub uc)) (v35_1 (v61_0 12 ua ub uc)) (v35_2 (v61_0 12 ua ub uc))) (v62_2 (v61_1 12 ua ub uc) (v61_2 12 ua ub uc) (v61_3 12 ua ub uc) (v35_0 (v61_0 12 ua ub uc)) (v35_1 (v61_0 12 ua ub uc)) (v35_2 (v61_0 12 ua ub uc))) (v62_3 (v61_1 12 ua ub uc) (v61_2 12 ua ub uc) (v61_3 12 ua ub uc) (v35_0 (v61_0 12 ua ub uc)) (v35_1 (v61_0 12 ua ub uc)) (v35_2 (v61_0 12 ua ub uc))))]]⟩]) (brL1 (fun _=>rfl)) (fun _=>rfl)))))) h)
def m28:GModel
 | [.ptr g0 g1 g2],[⟨true,[],[.agg [.sl g3 ua,.int .i64 ub,.int .i64 uc]]⟩]=>bif nmEq g0 ([1]) && Nat.beq g1 0 && Nat.beq g2 0 && ctsEq g3 ([.int .u8]) then some (q28 ua ub uc,[AV.fl [.int .i64] (v28_0 ua ub uc),AV.fl [.int .i64] (v28_1 ua ub uc)],[some ⟨true,[],[AV.agg [AV.sl [.int .u8] (v28_2 ua ub uc),AV.int .i64 (v28_3 ua ub uc),AV.int .i64 (v28_4 ua ub uc)]]⟩]) else none
 | _,_=>none
theorem k28:Known Try.prog 28:=⟨Try.f28,Try.func28,by kernel_rfl,by kernel_rfl⟩
theorem meets28:MeetsG Try.prog 28 m28:=by
 refine meetG (rt:=[24,24]) (gs:=[]) (f:=Try.f28) (l:=[]) (hs:=[(28,999,[2,3])]) (ts:=[(35,m35)]) (ws:=[(61,.g m61),(62,.g m62),(63,.g m63)]) (is:=[]) (ls:=[]) (lvl:=0) mixed k28 Try.func28 (by kernel_rfl) noLoop (allT_cons meets35 allT_nil) (allG_cons meets61 (allG_cons meets62 (allG_cons meets63 allM_nil))) noI fun C w xs us bs r bs' hl hv hh h K=>?_
 unfold m28 at h
 split at h
 ·rename_i g0 g1 g2 g3 ua ub uc
  obtain ⟨hg,h⟩:=bif_pair h
  simp only [Bool.and_eq_true] at hg
  obtain ⟨⟨⟨q0,q1⟩,q2⟩,q3⟩:=hg
  obtain rfl:=(nmEq_iff _ _).1 q0
  obtain rfl:=Nat.eq_of_beq_eq_true q1
  obtain rfl:=Nat.eq_of_beq_eq_true q2
  obtain rfl:=ctsEq_eq _ _ q3
  obtain ⟨h1,rfl,rfl⟩:=trip_inj h
  exact r28 ua ub uc K h1
 ·cases h
def F6i29_0 (t0:List AV) (t3 t4:Int):Out ((Int × Int)) (Int):=(bif decide (t4<(t0.length:Int)) then (bif decide (t4<4000) then (bif (decide (0≤t4) && decide (t4<(t0.length:Int))) then .next (IntKind.i64.wrap ((BitVec.ofInt 64 (IntKind.i64.wrap (IntKind.i64.wrap (IntKind.i64.wrap (t3*131)+IntKind.i64.wrap (fI (t0.getD t4.toNat .undef) 0))+7)) &&& BitVec.ofInt 64 1073741823).toNat:Int),IntKind.i64.wrap (t4+1))
 else .fail)
 else .stop t3)
 else .stop t3)
def R6i29_0 (t0:List AV):((Int × Int))→Out ((Int × Int)) (Int):=fun s:Int × Int=>F6i29_0 t0 s.1 s.2
def l6i29_0:LModel:=fun _ _ st k=>match st with
 | ⟨[(0,.sl g0 t0),(3,.int .i64 t3),(4,.int .i64 t4)],[]⟩=>bif ctsEq g0 ([.int .u8]) then ro (runW (R6i29_0 t0) (((t0.length:Int) - t4:Int).toNat+1) (t3,t4)) none (fun p:Int=>k (.exit 0) ⟨[(0,AV.sl [.int .u8] t0),(3,AV.int .i64 p)],[]⟩) else none
 | _=>none
noncomputable def c6:Cfg:=cfg Try.prog [(6,999,[2,3]),(29,0,[0,3,4]),(29,999,[2]),(29,1000,[0,3]),(29,1001,[0,3,4])] [] [(28,.g m28)] [29] [(29,0,l6i29_0)]
theorem s6i29_0 (ce:CallE) (π:Nm) (t0:List AV) (t3:Int) (t4:Int) (next:St→Option AV) (k:Kont):stepA (codeA c6 ce π 29 0 (sub [1,1,0,1,0,0] (body Try.f29))) (normA π [0,3,4]) next ⟨[(0,AV.sl [.int .u8] t0),(3,Ai t3),(4,Ai t4)],[]⟩ k=(bif decide (t4<(t0.length:Int)) then (bif decide (t4<4000) then (bif (decide (0≤t4) && decide (t4<(t0.length:Int))) then next ⟨[(0,AV.sl [.int .u8] t0),(3,Ai (IntKind.i64.wrap ((BitVec.ofInt 64 (IntKind.i64.wrap (IntKind.i64.wrap (IntKind.i64.wrap (t3*131)+IntKind.i64.wrap (fI (t0.getD t4.toNat .undef) 0))+7)) &&& BitVec.ofInt 64 1073741823).toNat:Int))),(4,Ai (IntKind.i64.wrap (t4+1)))],[]⟩
 else none)
 else k (.exit 0) ⟨[(0,AV.sl [.int .u8] t0),(3,Ai t3)],[]⟩)
 else k (.exit 0) ⟨[(0,AV.sl [.int .u8] t0),(3,Ai t3)],[]⟩):=by kernel_rfl
theorem st6i29_0 (t0:List AV) (ce:CallE) (π:Nm) (k:Kont) (s:(Int × Int)) (next:St→Option AV):stepA (codeA c6 ce π 29 0 (sub [1,1,0,1,0,0] (body Try.f29))) (normA π [0,3,4]) next ((fun s:Int × Int=>⟨[(0,AV.sl [.int .u8] t0),(3,Ai s.1),(4,Ai s.2)],[]⟩) s) k=(R6i29_0 t0 s).el none (fun s=>next ((fun s:Int × Int=>⟨[(0,AV.sl [.int .u8] t0),(3,Ai s.1),(4,Ai s.2)],[]⟩) s)) (fun p:Int=>k (.exit 0) ⟨[(0,AV.sl [.int .u8] t0),(3,Ai p)],[]⟩):=(s6i29_0 ce π t0 s.1 s.2 next k).trans (by unfold R6i29_0;unfold F6i29_0;simp only [el_cond,el_ro,el_sum,el_fail,el_next,el_stop] <;> rfl)
theorem ok6i29_0 {ce:CallE} {π:Nm}:LoopOK c6 ce π 29 0 (sub [1,1,0,1,0,0] (body Try.f29)):=by
 intro m hm st k r h
 obtain rfl:l6i29_0=m:=Option.some.inj hm
 unfold l6i29_0 at h
 split at h
 ·rename_i g0 t0 t3 t4
  obtain ⟨hg,h⟩:=bif_some h
  have q0:=hg
  obtain rfl:=ctsEq_eq _ _ q0
  refine ⟨(((t0.length:Int) - t4:Int).toNat+1),?_⟩
  rw [← h]
  exact loop_run (fun s:Int × Int=>⟨[(0,AV.sl [.int .u8] t0),(3,Ai s.1),(4,Ai s.2)],[]⟩) (fun p:Int=>k (.exit 0) ⟨[(0,AV.sl [.int .u8] t0),(3,Ai p)],[]⟩) (st6i29_0 t0 ce π k) _ (t3,t4)
 ·cases h
def q6 (a0:List AV):Bool:=(ro (runW (R6i29_0 a0) (((a0.length:Int) - 0:Int).toNat+1) (IntKind.i64.wrap (10101+(a0.length:Int)),0)) false (fun p1=>q28 a0 0 p1))
def v6_0 (a0:List AV):List AV:=(ro (runW (R6i29_0 a0) (((a0.length:Int) - 0:Int).toNat+1) (IntKind.i64.wrap (10101+(a0.length:Int)),0)) [] (fun p1=>(v28_0 a0 0 p1)))
def v6_1 (a0:List AV):List AV:=(ro (runW (R6i29_0 a0) (((a0.length:Int) - 0:Int).toNat+1) (IntKind.i64.wrap (10101+(a0.length:Int)),0)) [] (fun p1=>(v28_1 a0 0 p1)))
theorem e6 (a0:List AV):funA c6 1 6 [AV.sl [.int .u8] a0]=(ro (runW (R6i29_0 a0) (((a0.length:Int) - 0:Int).toNat+1) (IntKind.i64.wrap (10101+(a0.length:Int)),0)) none (fun p1=>(bif q28 a0 0 p1 then some (AV.tup [AV.fl [.int .i64] (v28_0 a0 0 p1),AV.fl [.int .i64] (v28_1 a0 0 p1)])
 else none))):=by kernel_rfl
def m6:TModel
 | [.sl g0 a0]=>bif ctsEq g0 ([.int .u8]) then some (q6 a0,AV.tup [AV.fl [.int .i64] (v6_0 a0),AV.fl [.int .i64] (v6_1 a0)]) else none
 | _=>none
theorem k6:Known Try.prog 6:=⟨Try.f6,Try.func6,by kernel_rfl,by kernel_rfl⟩
theorem i6_29:InlK Try.prog [(6,999,[2,3]),(29,0,[0,3,4]),(29,999,[2]),(29,1000,[0,3]),(29,1001,[0,3,4])] [] [(28,.g m28)] [29] [(29,0,l6i29_0)] 29:=⟨⟨Try.f29,Try.func29,by kernel_rfl,by kernel_rfl⟩,Try.f29,[(0,sub [1,1,0,1,0,0] (body Try.f29))],Try.func29,by kernel_rfl,fun ce π=>(loops_cons (ok6i29_0 (ce:=ce) (π:=π)) noLoop)⟩
theorem meets6:Meets Try.prog 6 m6:=by
 refine meet (f:=Try.f6) (l:=[]) (hs:=[(6,999,[2,3]),(29,0,[0,3,4]),(29,999,[2]),(29,1000,[0,3]),(29,1001,[0,3,4])]) (ts:=[]) (ws:=[(28,.g m28)]) (is:=[29]) (ls:=[(29,0,l6i29_0)]) (lvl:=1) mixed k6 Try.func6 (by kernel_rfl) noLoop allT_nil (allG_cons meets28 allM_nil) (allI_cons i6_29 noI) fun w xs us r hl hv h=>?_
 unfold m6 at h
 split at h
 ·rename_i g0 a0
  obtain ⟨hg,h⟩:=bif_pair h
  have q0:=hg
  obtain rfl:=ctsEq_eq _ _ q0
  obtain ⟨h1,rfl⟩:=pair_inj h
  exact (e6 a0).trans ((brO (fun o:Option (Int)=>some (AV.tup [AV.fl [.int .i64] (ro o [] (fun p1=>(v28_0 a0 0 p1))),AV.fl [.int .i64] (ro o [] (fun p1=>(v28_1 a0 0 p1)))])) (fun p1=>(brL1 (fun _=>rfl)))) h1)
 ·cases h
noncomputable def c96:Cfg:=cfg Try.prog [(96,999,[4])] [] [] [] []
def q96 (a0:Int) (a1 a2:AV):Bool:=true
def v96_0 (a0:Int) (a1 a2:AV):Bool:=(bif decide (a0<fI a1 0) then true else decide (a0 > fI a2 0))
theorem e96 (a0:Int) (a1 a2:AV):funA c96 0 96 [Ai a0,AV.rptr [.int .i64] a1 0,AV.rptr [.int .i64] a2 0]=(bif decide (a0<fI a1 0) then some (AV.bool true)
 else some (AV.bool (decide (a0 > fI a2 0)))):=by kernel_rfl
def m96:TModel
 | [.int .i64 a0,.rptr g0 a1 g1,.rptr g2 a2 g3]=>bif ctsEq g0 ([.int .i64]) && Nat.beq g1 0 && ctsEq g2 ([.int .i64]) && Nat.beq g3 0 then some (true,AV.bool (v96_0 a0 a1 a2)) else none
 | _=>none
theorem k96:Known Try.prog 96:=⟨Try.f96,Try.func96,by kernel_rfl,by kernel_rfl⟩
theorem meets96:Meets Try.prog 96 m96:=by
 refine meet (f:=Try.f96) (l:=[]) (hs:=[(96,999,[4])]) (ts:=[]) (ws:=[]) (is:=[]) (ls:=[]) (lvl:=0) mixed k96 Try.func96 (by kernel_rfl) noLoop allT_nil allM_nil noI fun w xs us r hl hv h=>?_
 unfold m96 at h
 split at h
 ·rename_i a0 g0 a1 g1 g2 a2 g3
  obtain ⟨hg,h⟩:=bif_pair h
  simp only [Bool.and_eq_true] at hg
  obtain ⟨⟨⟨q0,q1⟩,q2⟩,q3⟩:=hg
  obtain rfl:=ctsEq_eq _ _ q0
  obtain rfl:=Nat.eq_of_beq_eq_true q1
  obtain rfl:=ctsEq_eq _ _ q2
  obtain rfl:=Nat.eq_of_beq_eq_true q3
  obtain ⟨h1,rfl⟩:=pair_inj h
  exact (e96 a0 a1 a2).trans (of_tt (brT (fun b=>some (AV.bool (bif b then true else decide (a0 > fI a2 0)))) (fun _=>rfl) (fun _=>rfl)))
 ·cases h
def F111_0 (t0:List AV) (t1_0 t1_1:AV) (t7 t8:Int):Out (Int) (Unit ⊕ Int):=(bif decide (t8<t7) then (bif (decide (0≤t8) && decide (t8<(t0.length:Int))) then (bif (v96_0 (fI (t0.getD t8.toNat .undef) 0) t1_0 t1_1) then .stop (.inr t8)
 else .next (IntKind.i64.wrap (t8+1)))
 else .fail)
 else .stop (.inl ()))
def R111_0 (t0:List AV) (t1_0 t1_1:AV) (t7:Int):(Int)→Out (Int) (Unit ⊕ Int):=fun s:Int=>F111_0 t0 t1_0 t1_1 t7 s
def E111_0 (t0:List AV) (t1_0 t1_1:AV) (t7:Int):(Int)→St:=fun s:Int=>⟨[(0,AV.sl [.int .i64] t0),(1,AV.fn 96 [AV.rptr [.int .i64] t1_0 0,AV.rptr [.int .i64] t1_1 0]),(7,Ai t7),(8,Ai s)],[]⟩
def K111_0 (k:Kont):(Unit ⊕ Int)→Option AV:=sumE (fun _:Unit=>k (.exit 0) ⟨[],[]⟩) (fun p:Int=>k .ret ⟨[(4,Ai p)],[]⟩)
def l111_0:LModel:=fun _ _ st k=>match st with
 | ⟨[(0,.sl g0 t0),(1,.fn g1 [.rptr g2 t1_0 g3,.rptr g4 t1_1 g5]),(7,.int .i64 t7),(8,.int .i64 t8)],[]⟩=>bif ctsEq g0 ([.int .i64]) && Nat.beq g1 96 && ctsEq g2 ([.int .i64]) && Nat.beq g3 0 && ctsEq g4 ([.int .i64]) && Nat.beq g5 0 then ro (runW (R111_0 t0 t1_0 t1_1 t7) ((t7 - t8:Int).toNat+1) t8) none (K111_0 k) else none
 | _=>none
noncomputable def c111:Cfg:=cfg Try.prog [(111,0,[0,1,7,8]),(111,999,[4]),(111,1000,[]),(111,1001,[0,1,7,8])] [(96,m96)] [] [] [(111,0,l111_0)]
theorem s111_0 (ce:CallE) (t0:List AV) (t1_0 t1_1:AV) (t7 t8:Int) (next:St→Option AV) (k:Kont):stepA (codeA c111 ce [] 111 0 (sub [1,0,1,0,0] (body Try.f111))) (normA [] [0,1,7,8]) next ⟨[(0,AV.sl [.int .i64] t0),(1,AV.fn 96 [AV.rptr [.int .i64] t1_0 0,AV.rptr [.int .i64] t1_1 0]),(7,Ai t7),(8,Ai t8)],[]⟩ k=(bif decide (t8<t7) then (bif (decide (0≤t8) && decide (t8<(t0.length:Int))) then (bif (v96_0 (fI (t0.getD t8.toNat .undef) 0) t1_0 t1_1) then k .ret ⟨[(4,Ai t8)],[]⟩
 else next ⟨[(0,AV.sl [.int .i64] t0),(1,AV.fn 96 [AV.rptr [.int .i64] t1_0 0,AV.rptr [.int .i64] t1_1 0]),(7,Ai t7),(8,Ai (IntKind.i64.wrap (t8+1)))],[]⟩)
 else none)
 else k (.exit 0) ⟨[],[]⟩):=by kernel_rfl
theorem st111_0 (t0:List AV) (t1_0 t1_1:AV) (t7:Int) (ce:CallE) (k:Kont) (s:Int) (next:St→Option AV):stepA (codeA c111 ce [] 111 0 (sub [1,0,1,0,0] (body Try.f111))) (normA [] [0,1,7,8]) next ((E111_0 t0 t1_0 t1_1 t7) s) k=(R111_0 t0 t1_0 t1_1 t7 s).el none (fun s=>next ((E111_0 t0 t1_0 t1_1 t7) s)) (K111_0 k):=(s111_0 ce t0 t1_0 t1_1 t7 s next k).trans (by unfold R111_0;unfold F111_0;simp only [el_cond,el_ro,el_sum,el_fail,el_next,el_stop] <;> rfl)
theorem ok111_0 {ce:CallE}:LoopOK c111 ce [] 111 0 (sub [1,0,1,0,0] (body Try.f111)):=by
 intro m hm st k r h
 obtain rfl:l111_0=m:=Option.some.inj hm
 unfold l111_0 at h
 split at h
 ·rename_i g0 t0 g1 g2 t1_0 g3 g4 t1_1 g5 t7 t8
  obtain ⟨hg,h⟩:=bif_some h
  simp only [Bool.and_eq_true] at hg
  obtain ⟨⟨⟨⟨⟨q0,q1⟩,q2⟩,q3⟩,q4⟩,q5⟩:=hg
  obtain rfl:=ctsEq_eq _ _ q0
  obtain rfl:=Nat.eq_of_beq_eq_true q1
  obtain rfl:=ctsEq_eq _ _ q2
  obtain rfl:=Nat.eq_of_beq_eq_true q3
  obtain rfl:=ctsEq_eq _ _ q4
  obtain rfl:=Nat.eq_of_beq_eq_true q5
  refine ⟨((t7 - t8:Int).toNat+1),?_⟩
  rw [← h]
  exact loop_run (E111_0 t0 t1_0 t1_1 t7) (K111_0 k) (st111_0 t0 t1_0 t1_1 t7 ce k) _ t8
 ·cases h
def q111 (a0:List AV) (ya yb:AV):Bool:=(ro (runW (R111_0 a0 ya yb (a0.length:Int)) (((a0.length:Int) - 0:Int).toNat+1) 0) false (sumE (fun _=>true) (fun p9=>true)))
def v111_0 (a0:List AV) (ya yb:AV):Int:=(ro (runW (R111_0 a0 ya yb (a0.length:Int)) (((a0.length:Int) - 0:Int).toNat+1) 0) 0 (sumE (fun _=>(-1)) (fun p9=>p9)))
theorem e111 (a0:List AV) (ya yb:AV):funA c111 0 111 [AV.sl [.int .i64] a0,AV.fn 96 [AV.rptr [.int .i64] ya 0,AV.rptr [.int .i64] yb 0]]=(ro (runW (R111_0 a0 ya yb (a0.length:Int)) (((a0.length:Int) - 0:Int).toNat+1) 0) none (sumE (fun _=>some (Ai (-1))) (fun p9=>some (Ai p9)))):=by kernel_rfl
def m111:TModel
 | [.sl g0 a0,.fn g1 [.rptr g2 ya g3,.rptr g4 yb g5]]=>bif ctsEq g0 ([.int .i64]) && Nat.beq g1 96 && ctsEq g2 ([.int .i64]) && Nat.beq g3 0 && ctsEq g4 ([.int .i64]) && Nat.beq g5 0 then some (q111 a0 ya yb,AV.int .i64 (v111_0 a0 ya yb)) else none
 | _=>none
theorem k111:Known Try.prog 111:=⟨Try.f111,Try.func111,by kernel_rfl,by kernel_rfl⟩
theorem meets111:Meets Try.prog 111 m111:=by
 refine meet (f:=Try.f111) (l:=[(0,sub [1,0,1,0,0] (body Try.f111))]) (hs:=[(111,0,[0,1,7,8]),(111,999,[4]),(111,1000,[]),(111,1001,[0,1,7,8])]) (ts:=[(96,m96)]) (ws:=[]) (is:=[]) (ls:=[(111,0,l111_0)]) (lvl:=0) mixed k111 Try.func111 (by kernel_rfl) (loops_cons ok111_0 noLoop) (allT_cons meets96 allT_nil) allM_nil noI fun w xs us r hl hv h=>?_
 unfold m111 at h
 split at h
 ·rename_i g0 a0 g1 g2 ya g3 g4 yb g5
  obtain ⟨hg,h⟩:=bif_pair h
  simp only [Bool.and_eq_true] at hg
  obtain ⟨⟨⟨⟨⟨q0,q1⟩,q2⟩,q3⟩,q4⟩,q5⟩:=hg
  obtain rfl:=ctsEq_eq _ _ q0
  obtain rfl:=Nat.eq_of_beq_eq_true q1
  obtain rfl:=ctsEq_eq _ _ q2
  obtain rfl:=Nat.eq_of_beq_eq_true q3
  obtain rfl:=ctsEq_eq _ _ q4
  obtain rfl:=Nat.eq_of_beq_eq_true q5
  obtain ⟨h1,rfl⟩:=pair_inj h
  exact (e111 a0 ya yb).trans ((brO (fun o:Option (Unit ⊕ Int)=>some (Ai (ro o 0 (sumE (fun _=>(-1)) (fun p9=>p9))))) (brS (fun o:Unit ⊕ Int=>some (Ai ((sumE (fun _=>(-1)) (fun p9=>p9)) o))) (fun _=>(fun _=>rfl)) (fun p9=>(fun _=>rfl)))) h1)
 ·cases h
noncomputable def c95:Cfg:=cfg Try.prog [(95,999,[4])] [(111,m111)] [] [] []
def q95 (a0:List AV) (ya yb:AV):Bool:=q111 a0 ya yb
def v95_0 (a0:List AV) (ya yb:AV):Bool:=decide ((v111_0 a0 ya yb) ≥ 0)
theorem e95 (a0:List AV) (ya yb:AV):funA c95 0 95 [AV.sl [.int .i64] a0,AV.fn 96 [AV.rptr [.int .i64] ya 0,AV.rptr [.int .i64] yb 0]]=(bif q111 a0 ya yb then some (AV.bool (decide ((v111_0 a0 ya yb) ≥ 0)))
 else none):=by kernel_rfl
def m95:TModel
 | [.sl g0 a0,.fn g1 [.rptr g2 ya g3,.rptr g4 yb g5]]=>bif ctsEq g0 ([.int .i64]) && Nat.beq g1 96 && ctsEq g2 ([.int .i64]) && Nat.beq g3 0 && ctsEq g4 ([.int .i64]) && Nat.beq g5 0 then some (q95 a0 ya yb,AV.bool (v95_0 a0 ya yb)) else none
 | _=>none
theorem k95:Known Try.prog 95:=⟨Try.f95,Try.func95,by kernel_rfl,by kernel_rfl⟩
theorem meets95:Meets Try.prog 95 m95:=by
 refine meet (f:=Try.f95) (l:=[]) (hs:=[(95,999,[4])]) (ts:=[(111,m111)]) (ws:=[]) (is:=[]) (ls:=[]) (lvl:=0) mixed k95 Try.func95 (by kernel_rfl) noLoop (allT_cons meets111 allT_nil) allM_nil noI fun w xs us r hl hv h=>?_
 unfold m95 at h
 split at h
 ·rename_i g0 a0 g1 g2 ya g3 g4 yb g5
  obtain ⟨hg,h⟩:=bif_pair h
  simp only [Bool.and_eq_true] at hg
  obtain ⟨⟨⟨⟨⟨q0,q1⟩,q2⟩,q3⟩,q4⟩,q5⟩:=hg
  obtain rfl:=ctsEq_eq _ _ q0
  obtain rfl:=Nat.eq_of_beq_eq_true q1
  obtain rfl:=ctsEq_eq _ _ q2
  obtain rfl:=Nat.eq_of_beq_eq_true q3
  obtain rfl:=ctsEq_eq _ _ q4
  obtain rfl:=Nat.eq_of_beq_eq_true q5
  obtain ⟨h1,rfl⟩:=pair_inj h
  exact (e95 a0 ya yb).trans ((brL1 (fun _=>rfl)) h1)
 ·cases h
noncomputable def c64:Cfg:=cfg Try.prog [(64,999,[6])] [(95,m95)] [] [] []
def q64 (a0:List AV) (a1 a2:Int):Bool:=q95 a0 (AV.int .i64 a1) (AV.int .i64 a2)
def v64_0 (a0:List AV) (a1 a2:Int):Bool := !(v95_0 a0 (AV.int .i64 a1) (AV.int .i64 a2))
theorem e64 (a0:List AV) (a1 a2:Int):funA c64 0 64 [AV.sl [.int .i64] a0,Ai a1,Ai a2]=(bif q95 a0 (Ai a1) (Ai a2) then some (AV.bool (!(v95_0 a0 (Ai a1) (Ai a2))))
 else none):=by kernel_rfl
def m64:TModel
 | [.sl g0 a0,.int .i64 a1,.int .i64 a2]=>bif ctsEq g0 ([.int .i64]) then some (q64 a0 a1 a2,AV.bool (v64_0 a0 a1 a2)) else none
 | _=>none
theorem k64:Known Try.prog 64:=⟨Try.f64,Try.func64,by kernel_rfl,by kernel_rfl⟩
theorem meets64:Meets Try.prog 64 m64:=by
 refine meet (f:=Try.f64) (l:=[]) (hs:=[(64,999,[6])]) (ts:=[(95,m95)]) (ws:=[]) (is:=[]) (ls:=[]) (lvl:=0) mixed k64 Try.func64 (by kernel_rfl) noLoop (allT_cons meets95 allT_nil) allM_nil noI fun w xs us r hl hv h=>?_
 unfold m64 at h
 split at h
 ·rename_i g0 a0 a1 a2
  obtain ⟨hg,h⟩:=bif_pair h
  have q0:=hg
  obtain rfl:=ctsEq_eq _ _ q0
  obtain ⟨h1,rfl⟩:=pair_inj h
  exact (e64 a0 a1 a2).trans ((brL1 (fun _=>rfl)) h1)
 ·cases h
noncomputable def c30:Cfg:=cfg Try.prog [(30,999,[2])] [(64,m64)] [] [] []
def q30 (a0:List AV):Bool:=(bif decide ((a0.length:Int)≤64) then q64 a0 (-999) 999 else true)
def v30_0 (a0:List AV):Bool:=(bif decide ((a0.length:Int)≤64) then (v64_0 a0 (-999) 999) else false)
theorem e30 (a0:List AV):funA c30 0 30 [AV.sl [.int .i64] a0]=(bif decide ((a0.length:Int)≤64) then (bif q64 a0 (-999) 999 then some (AV.bool (v64_0 a0 (-999) 999))
 else none)
 else some (AV.bool false)):=by kernel_rfl
def m30:TModel
 | [.sl g0 a0]=>bif ctsEq g0 ([.int .i64]) then some (q30 a0,AV.bool (v30_0 a0)) else none
 | _=>none
theorem k30:Known Try.prog 30:=⟨Try.f30,Try.func30,by kernel_rfl,by kernel_rfl⟩
theorem meets30:Meets Try.prog 30 m30:=by
 refine meet (f:=Try.f30) (l:=[]) (hs:=[(30,999,[2])]) (ts:=[(64,m64)]) (ws:=[]) (is:=[]) (ls:=[]) (lvl:=0) mixed k30 Try.func30 (by kernel_rfl) noLoop (allT_cons meets64 allT_nil) allM_nil noI fun w xs us r hl hv h=>?_
 unfold m30 at h
 split at h
 ·rename_i g0 a0
  obtain ⟨hg,h⟩:=bif_pair h
  have q0:=hg
  obtain rfl:=ctsEq_eq _ _ q0
  obtain ⟨h1,rfl⟩:=pair_inj h
  exact (e30 a0).trans ((br (fun b=>some (AV.bool (bif b then (v64_0 a0 (-999) 999) else false))) (brL1 (fun _=>rfl)) (fun _=>rfl)) h1)
 ·cases h
noncomputable def c31:Cfg:=cfg Try.prog [(31,999,[2])] [(64,m64)] [] [] []
def q31 (a0:List AV):Bool:=(bif decide ((a0.length:Int)≤60) then q64 a0 (-1000) 1000 else true)
def v31_0 (a0:List AV):Bool:=(bif decide ((a0.length:Int)≤60) then (v64_0 a0 (-1000) 1000) else false)
theorem e31 (a0:List AV):funA c31 0 31 [AV.sl [.int .i64] a0]=(bif decide ((a0.length:Int)≤60) then (bif q64 a0 (-1000) 1000 then some (AV.bool (v64_0 a0 (-1000) 1000))
 else none)
 else some (AV.bool false)):=by kernel_rfl
def m31:TModel
 | [.sl g0 a0]=>bif ctsEq g0 ([.int .i64]) then some (q31 a0,AV.bool (v31_0 a0)) else none
 | _=>none
theorem k31:Known Try.prog 31:=⟨Try.f31,Try.func31,by kernel_rfl,by kernel_rfl⟩
theorem meets31:Meets Try.prog 31 m31:=by
 refine meet (f:=Try.f31) (l:=[]) (hs:=[(31,999,[2])]) (ts:=[(64,m64)]) (ws:=[]) (is:=[]) (ls:=[]) (lvl:=0) mixed k31 Try.func31 (by kernel_rfl) noLoop (allT_cons meets64 allT_nil) allM_nil noI fun w xs us r hl hv h=>?_
 unfold m31 at h
 split at h
 ·rename_i g0 a0
  obtain ⟨hg,h⟩:=bif_pair h
  have q0:=hg
  obtain rfl:=ctsEq_eq _ _ q0
  obtain ⟨h1,rfl⟩:=pair_inj h
  exact (e31 a0).trans ((br (fun b=>some (AV.bool (bif b then (v64_0 a0 (-1000) 1000) else false))) (brL1 (fun _=>rfl)) (fun _=>rfl)) h1)
 ·cases h
noncomputable def c65:Cfg:=cfg Try.prog [(65,999,[2])] [] [] [] []
def q65 (a0:List AV):Bool:=decide (a0.length*8≤140737488355328) && decide (a0.length≤140737488355328)
def v65_0 (a0:List AV):List AV:=a0
theorem e65 (a0:List AV):funA c65 0 65 [AV.sl [.int .i64] a0]=(bif decide (0<a0.length) then (bif (decide ((([]:List AV).length+a0.length)*8≤140737488355328) && decide ((([]:List AV).length+a0.length)≤140737488355328)) then some (AV.fl [.int .i64] (([]:List AV)++a0))
 else none)
 else none):=by kernel_rfl
theorem e65n (b:Bool):funA c65 0 65 [AV.sle b [.int .i64]]=some (AV.fl [.int .i64] []):=by cases b <;> kernel_rfl
def m65:TModel
 | [.sl g0 a0]=>bif ctsEq g0 [.int .i64] then some (q65 a0,AV.fl [.int .i64] (v65_0 a0)) else none
 | _=>none
theorem k65:Known Try.prog 65:=⟨Try.f65,Try.func65,by kernel_rfl,by kernel_rfl⟩
theorem meets65:Meets Try.prog 65 m65:=by
 refine meet_nil (f:=Try.f65) (l:=[]) (hs:=[(65,999,[2])]) (ts:=[]) (ws:=[]) (is:=[]) (ls:=[]) (lvl:=0) (tys:=[.int .i64]) mixed k65 Try.func65 (by kernel_rfl) noLoop allT_nil allM_nil noI (fun xs r h=>?_) (fun b r h=>?_) (fun ys r h0 h=>?_)
 ·unfold m65 at h
  split at h
  ·rename_i g0 a0
   obtain ⟨hg,h⟩:=bif_pair h
   obtain rfl:=ctsEq_eq _ _ hg
   exact ⟨a0,rfl⟩
  ·cases h
 ·obtain ⟨hg,h⟩:=bif_pair (g:=ctsEq [.int .i64] [.int .i64]) h
  obtain ⟨_,rfl⟩:=pair_inj h
  exact e65n b
 ·obtain ⟨hg,h⟩:=bif_pair (g:=ctsEq [.int .i64] [.int .i64]) h
  obtain ⟨hq,rfl⟩:=pair_inj h
  refine (e65 ys).trans ?_
  unfold q65 at hq
  have e:([]:List AV).length+ys.length=ys.length:=by simp
  rw [e,hq,decide_eq_true h0]
  rfl
def F32_0_s0 (t13:Int) (h0:List AV) (t14:Int):Out (Int ⊕ (Int × (List AV))) (Unit ⊕ ((List AV))):=(bif decide (t14<t13) then (bif (decide ((([AV.int .i64 t14]).length)*8≤140737488355328) && decide ((([AV.int .i64 t14]).length)≤140737488355328)) then .next (.inr (IntKind.i64.wrap (t14+1),[AV.int .i64 t14]))
 else .fail)
 else .stop (.inl ()))
def F32_0_s1 (t13:Int) (h0:List AV) (t14:Int) (h1:List AV):Out (Int ⊕ (Int × (List AV))) (Unit ⊕ ((List AV))):=(bif decide (t14<t13) then (bif (decide ((h1.length+([AV.int .i64 t14]).length)*8≤140737488355328) && decide ((h1.length+([AV.int .i64 t14]).length)≤140737488355328)) then .next (.inr (IntKind.i64.wrap (t14+1),h1++([AV.int .i64 t14])))
 else .fail)
 else .stop (.inr h1))
def R32_0 (t13:Int) (h0:List AV):(Int ⊕ (Int × (List AV)))→Out (Int ⊕ (Int × (List AV))) (Unit ⊕ ((List AV))):=sumE (fun s:Int=>F32_0_s0 t13 h0 s) (fun s:Int × (List AV)=>F32_0_s1 t13 h0 s.1 s.2)
def E32_0 (t13:Int) (h0:List AV):(Int ⊕ (Int × (List AV)))→St:=sumE (fun s:Int=>⟨[(2,AV.ptr [0,2] 0 0),(3,AV.ptr [0,3] 0 0),(13,Ai t13),(14,Ai s)],[([0,0,3],⟨false,[.int .i64],h0⟩),([0,2],⟨true,[],[AV.agg [AV.snil,AV.snil,AV.snil]]⟩),([0,3],⟨true,[],[AV.agg [AV.own [0,0,3],AV.snil,AV.snil]]⟩)]⟩) (fun s:Int × (List AV)=>⟨[(2,AV.ptr [0,2] 0 0),(3,AV.ptr [0,3] 0 0),(13,Ai t13),(14,Ai s.1)],[([0,0,3],⟨false,[.int .i64],h0⟩),([0,1,3],⟨false,[.int .i64],s.2⟩),([0,2],⟨true,[],[AV.agg [AV.snil,AV.snil,AV.snil]]⟩),([0,3],⟨true,[],[AV.agg [AV.own [0,0,3],AV.own [0,1,3],AV.snil]]⟩)]⟩)
def K32_0 (h0:List AV) (k:Kont):(Unit ⊕ ((List AV)))→Option AV:=sumE (fun _:Unit=>k (.exit 0) ⟨[(2,AV.ptr [0,2] 0 0),(3,AV.ptr [0,3] 0 0)],[([0,0,3],⟨false,[.int .i64],h0⟩),([0,2],⟨true,[],[AV.agg [AV.snil,AV.snil,AV.snil]]⟩),([0,3],⟨true,[],[AV.agg [AV.own [0,0,3],AV.snil,AV.snil]]⟩)]⟩) (fun p:(List AV)=>k (.exit 0) ⟨[(2,AV.ptr [0,2] 0 0),(3,AV.ptr [0,3] 0 0)],[([0,0,3],⟨false,[.int .i64],h0⟩),([0,1,3],⟨false,[.int .i64],p⟩),([0,2],⟨true,[],[AV.agg [AV.snil,AV.snil,AV.snil]]⟩),([0,3],⟨true,[],[AV.agg [AV.own [0,0,3],AV.own [0,1,3],AV.snil]]⟩)]⟩)
def l32_0:LModel:=fun _ _ st k=>match st with
 | ⟨[(2,.ptr g0 g1 g2),(3,.ptr g3 g4 g5),(13,.int .i64 t13),(14,.int .i64 t14)],[(g6,⟨false,g7,h0⟩),(g8,⟨true,[],[.agg [.snil,.snil,.snil]]⟩),(g9,⟨true,[],[.agg [.own g10,.snil,.snil]]⟩)]⟩=>bif nmEq g0 ([0,2]) && Nat.beq g1 0 && Nat.beq g2 0 && nmEq g3 ([0,3]) && Nat.beq g4 0 && Nat.beq g5 0 && nmEq g6 ([0,0,3]) && ctsEq g7 ([.int .i64]) && nmEq g8 ([0,2]) && nmEq g9 ([0,3]) && nmEq g10 ([0,0,3]) then ro (runW (R32_0 t13 h0) ((t13 - t14:Int).toNat+1) (.inl t14)) none (K32_0 h0 k) else none
 | ⟨[(2,.ptr g0 g1 g2),(3,.ptr g3 g4 g5),(13,.int .i64 t13),(14,.int .i64 t14)],[(g6,⟨false,g7,h0⟩),(g8,⟨false,g9,h1⟩),(g10,⟨true,[],[.agg [.snil,.snil,.snil]]⟩),(g11,⟨true,[],[.agg [.own g12,.own g13,.snil]]⟩)]⟩=>bif nmEq g0 ([0,2]) && Nat.beq g1 0 && Nat.beq g2 0 && nmEq g3 ([0,3]) && Nat.beq g4 0 && Nat.beq g5 0 && nmEq g6 ([0,0,3]) && ctsEq g7 ([.int .i64]) && nmEq g8 ([0,1,3]) && ctsEq g9 ([.int .i64]) && nmEq g10 ([0,2]) && nmEq g11 ([0,3]) && nmEq g12 ([0,0,3]) && nmEq g13 ([0,1,3]) then ro (runW (R32_0 t13 h0) ((t13 - t14:Int).toNat+1) (.inr (t14,h1))) none (K32_0 h0 k) else none
 | _=>none
noncomputable def c32:Cfg:=cfg Try.prog [(32,0,[2,3,13,14]),(32,999,[2]),(32,1000,[2,3]),(32,1001,[2,3,13,14])] [(30,m30),(65,m65)] [] [] [(32,0,l32_0)]
theorem s32_0_s0 (ce:CallE) (t13 t14:Int) (h0:List AV) (next:St→Option AV) (k:Kont):stepA (codeA c32 ce [] 32 0 (sub [1,1,1,0,1,0,0] (body Try.f32))) (normA [] [2,3,13,14]) next ⟨[(2,AV.ptr [0,2] 0 0),(3,AV.ptr [0,3] 0 0),(13,Ai t13),(14,Ai t14)],[([0,0,3],⟨false,[.int .i64],h0⟩),([0,2],⟨true,[],[AV.agg [AV.snil,AV.snil,AV.snil]]⟩),([0,3],⟨true,[],[AV.agg [AV.own [0,0,3],AV.snil,AV.snil]]⟩)]⟩ k=(bif decide (t14<t13) then (bif (decide ((([Ai t14]).length)*8≤140737488355328) && decide ((([Ai t14]).length)≤140737488355328)) then next ⟨[(2,AV.ptr [0,2] 0 0),(3,AV.ptr [0,3] 0 0),(13,Ai t13),(14,Ai (IntKind.i64.wrap (t14+1)))],[([0,0,3],⟨false,[.int .i64],h0⟩),([0,1,3],⟨false,[.int .i64],[Ai t14]⟩),([0,2],⟨true,[],[AV.agg [AV.snil,AV.snil,AV.snil]]⟩),([0,3],⟨true,[],[AV.agg [AV.own [0,0,3],AV.own [0,1,3],AV.snil]]⟩)]⟩
 else none)
 else k (.exit 0) ⟨[(2,AV.ptr [0,2] 0 0),(3,AV.ptr [0,3] 0 0)],[([0,0,3],⟨false,[.int .i64],h0⟩),([0,2],⟨true,[],[AV.agg [AV.snil,AV.snil,AV.snil]]⟩),([0,3],⟨true,[],[AV.agg [AV.own [0,0,3],AV.snil,AV.snil]]⟩)]⟩):=by kernel_rfl
theorem s32_0_s1 (ce:CallE) (t13 t14:Int) (h0 h1:List AV) (next:St→Option AV) (k:Kont):stepA (codeA c32 ce [] 32 0 (sub [1,1,1,0,1,0,0] (body Try.f32))) (normA [] [2,3,13,14]) next ⟨[(2,AV.ptr [0,2] 0 0),(3,AV.ptr [0,3] 0 0),(13,Ai t13),(14,Ai t14)],[([0,0,3],⟨false,[.int .i64],h0⟩),([0,1,3],⟨false,[.int .i64],h1⟩),([0,2],⟨true,[],[AV.agg [AV.snil,AV.snil,AV.snil]]⟩),([0,3],⟨true,[],[AV.agg [AV.own [0,0,3],AV.own [0,1,3],AV.snil]]⟩)]⟩ k=(bif decide (t14<t13) then (bif (decide ((h1.length+([Ai t14]).length)*8≤140737488355328) && decide ((h1.length+([Ai t14]).length)≤140737488355328)) then next ⟨[(2,AV.ptr [0,2] 0 0),(3,AV.ptr [0,3] 0 0),(13,Ai t13),(14,Ai (IntKind.i64.wrap (t14+1)))],[([0,0,3],⟨false,[.int .i64],h0⟩),([0,1,3],⟨false,[.int .i64],h1++([Ai t14])⟩),([0,2],⟨true,[],[AV.agg [AV.snil,AV.snil,AV.snil]]⟩),([0,3],⟨true,[],[AV.agg [AV.own [0,0,3],AV.own [0,1,3],AV.snil]]⟩)]⟩
 else none)
 else k (.exit 0) ⟨[(2,AV.ptr [0,2] 0 0),(3,AV.ptr [0,3] 0 0)],[([0,0,3],⟨false,[.int .i64],h0⟩),([0,1,3],⟨false,[.int .i64],h1⟩),([0,2],⟨true,[],[AV.agg [AV.snil,AV.snil,AV.snil]]⟩),([0,3],⟨true,[],[AV.agg [AV.own [0,0,3],AV.own [0,1,3],AV.snil]]⟩)]⟩):=by kernel_rfl
theorem st32_0 (t13:Int) (h0:List AV) (ce:CallE) (k:Kont) (s:Int ⊕ (Int × (List AV))) (next:St→Option AV):stepA (codeA c32 ce [] 32 0 (sub [1,1,1,0,1,0,0] (body Try.f32))) (normA [] [2,3,13,14]) next ((E32_0 t13 h0) s) k=(R32_0 t13 h0 s).el none (fun s=>next ((E32_0 t13 h0) s)) (K32_0 h0 k):=(match s with | .inl s=>(s32_0_s0 ce t13 s h0 next k).trans (by unfold R32_0;unfold F32_0_s0;simp only [el_cond,el_ro,el_sum,el_fail,el_next,el_stop] <;> rfl) | .inr s=>(s32_0_s1 ce t13 s.1 h0 s.2 next k).trans (by unfold R32_0;unfold F32_0_s1;simp only [el_cond,el_ro,el_sum,el_fail,el_next,el_stop] <;> rfl))
theorem ok32_0 {ce:CallE}:LoopOK c32 ce [] 32 0 (sub [1,1,1,0,1,0,0] (body Try.f32)):=by
 intro m hm st k r h
 obtain rfl:l32_0=m:=Option.some.inj hm
 unfold l32_0 at h
 split at h
 ·rename_i g0 g1 g2 g3 g4 g5 t13 t14 g6 g7 h0 g8 g9 g10
  obtain ⟨hg,h⟩:=bif_some h
  simp only [Bool.and_eq_true] at hg
  obtain ⟨⟨⟨⟨⟨⟨⟨⟨⟨⟨q0,q1⟩,q2⟩,q3⟩,q4⟩,q5⟩,q6⟩,q7⟩,q8⟩,q9⟩,q10⟩:=hg
  obtain rfl:=(nmEq_iff _ _).1 q0
  obtain rfl:=Nat.eq_of_beq_eq_true q1
  obtain rfl:=Nat.eq_of_beq_eq_true q2
  obtain rfl:=(nmEq_iff _ _).1 q3
  obtain rfl:=Nat.eq_of_beq_eq_true q4
  obtain rfl:=Nat.eq_of_beq_eq_true q5
  obtain rfl:=(nmEq_iff _ _).1 q6
  obtain rfl:=ctsEq_eq _ _ q7
  obtain rfl:=(nmEq_iff _ _).1 q8
  obtain rfl:=(nmEq_iff _ _).1 q9
  obtain rfl:=(nmEq_iff _ _).1 q10
  refine ⟨((t13 - t14:Int).toNat+1),?_⟩
  rw [← h]
  exact loop_run (E32_0 t13 h0) (K32_0 h0 k) (st32_0 t13 h0 ce k) _ (.inl t14)
 ·rename_i g0 g1 g2 g3 g4 g5 t13 t14 g6 g7 h0 g8 g9 h1 g10 g11 g12 g13
  obtain ⟨hg,h⟩:=bif_some h
  simp only [Bool.and_eq_true] at hg
  obtain ⟨⟨⟨⟨⟨⟨⟨⟨⟨⟨⟨⟨⟨q0,q1⟩,q2⟩,q3⟩,q4⟩,q5⟩,q6⟩,q7⟩,q8⟩,q9⟩,q10⟩,q11⟩,q12⟩,q13⟩:=hg
  obtain rfl:=(nmEq_iff _ _).1 q0
  obtain rfl:=Nat.eq_of_beq_eq_true q1
  obtain rfl:=Nat.eq_of_beq_eq_true q2
  obtain rfl:=(nmEq_iff _ _).1 q3
  obtain rfl:=Nat.eq_of_beq_eq_true q4
  obtain rfl:=Nat.eq_of_beq_eq_true q5
  obtain rfl:=(nmEq_iff _ _).1 q6
  obtain rfl:=ctsEq_eq _ _ q7
  obtain rfl:=(nmEq_iff _ _).1 q8
  obtain rfl:=ctsEq_eq _ _ q9
  obtain rfl:=(nmEq_iff _ _).1 q10
  obtain rfl:=(nmEq_iff _ _).1 q11
  obtain rfl:=(nmEq_iff _ _).1 q12
  obtain rfl:=(nmEq_iff _ _).1 q13
  refine ⟨((t13 - t14:Int).toNat+1),?_⟩
  rw [← h]
  exact loop_run (E32_0 t13 h0) (K32_0 h0 k) (st32_0 t13 h0 ce k) _ (.inr (t14,h1))
 ·cases h
def q32 (a0:List AV):Bool:=(q30 a0 && (bif !(v30_0 a0) then true else (q65 a0 && (ro (runW (R32_0 (a0.length:Int) (v65_0 a0)) (((a0.length:Int) - 0:Int).toNat+1) (.inl 0)) false (sumE (fun _=>true) (fun p11=>true))))))
def v32_0 (a0:List AV):List AV:=(bif !(v30_0 a0) then ([]:List AV) else (v65_0 a0))
def v32_1 (a0:List AV):List AV:=(bif !(v30_0 a0) then ([]:List AV) else (ro (runW (R32_0 (a0.length:Int) (v65_0 a0)) (((a0.length:Int) - 0:Int).toNat+1) (.inl 0)) [] (sumE (fun _=>([]:List AV)) (fun p11=>p11))))
def v32_2 (a0:List AV):List AV:=([]:List AV)
theorem e32 (a0:List AV):funA c32 0 32 [AV.sl [.int .i64] a0]=(bif q30 a0 then (bif !(v30_0 a0) then some (AV.agg [AV.fl [.int .i64] ([]:List AV),AV.fl [.int .i64] ([]:List AV),AV.fl [.int .i64,.int .i64] ([]:List AV)])
 else (bif q65 a0 then (ro (runW (R32_0 (a0.length:Int) (v65_0 a0)) (((a0.length:Int) - 0:Int).toNat+1) (.inl 0)) none (sumE (fun _=>some (AV.agg [AV.fl [.int .i64] (v65_0 a0),AV.fl [.int .i64] ([]:List AV),AV.fl [.int .i64,.int .i64] ([]:List AV)])) (fun p11=>some (AV.agg [AV.fl [.int .i64] (v65_0 a0),AV.fl [.int .i64] p11,AV.fl [.int .i64,.int .i64] ([]:List AV)]))))
 else none))
 else none):=by kernel_rfl
def m32:TModel
 | [.sl g0 a0]=>bif ctsEq g0 ([.int .i64]) then some (q32 a0,AV.agg [AV.fl [.int .i64] (v32_0 a0),AV.fl [.int .i64] (v32_1 a0),AV.fl [.int .i64,.int .i64] (v32_2 a0)]) else none
 | _=>none
theorem k32:Known Try.prog 32:=⟨Try.f32,Try.func32,by kernel_rfl,by kernel_rfl⟩
theorem meets32:Meets Try.prog 32 m32:=by
 refine meet (f:=Try.f32) (l:=[(0,sub [1,1,1,0,1,0,0] (body Try.f32))]) (hs:=[(32,0,[2,3,13,14]),(32,999,[2]),(32,1000,[2,3]),(32,1001,[2,3,13,14])]) (ts:=[(30,m30),(65,m65)]) (ws:=[]) (is:=[]) (ls:=[(32,0,l32_0)]) (lvl:=0) mixed k32 Try.func32 (by kernel_rfl) (loops_cons ok32_0 noLoop) (allT_cons meets30 (allT_cons meets65 allT_nil)) allM_nil noI fun w xs us r hl hv h=>?_
 unfold m32 at h
 split at h
 ·rename_i g0 a0
  obtain ⟨hg,h⟩:=bif_pair h
  have q0:=hg
  obtain rfl:=ctsEq_eq _ _ q0
  obtain ⟨h1,rfl⟩:=pair_inj h
  exact (e32 a0).trans ((brL (br (fun b=>some (AV.agg [AV.fl [.int .i64] (bif b then ([]:List AV) else (v65_0 a0)),AV.fl [.int .i64] (bif b then ([]:List AV) else (ro (runW (R32_0 (a0.length:Int) (v65_0 a0)) (((a0.length:Int) - 0:Int).toNat+1) (.inl 0)) [] (sumE (fun _=>([]:List AV)) (fun p11=>p11)))),AV.fl [.int .i64,.int .i64] ([]:List AV)])) (fun _=>rfl) (brL (brO (fun o:Option (Unit ⊕ ((List AV)))=>some (AV.agg [AV.fl [.int .i64] (v65_0 a0),AV.fl [.int .i64] (ro o [] (sumE (fun _=>([]:List AV)) (fun p11=>p11))),AV.fl [.int .i64,.int .i64] ([]:List AV)])) (brS (fun o:Unit ⊕ ((List AV))=>some (AV.agg [AV.fl [.int .i64] (v65_0 a0),AV.fl [.int .i64] ((sumE (fun _=>([]:List AV)) (fun p11=>p11)) o),AV.fl [.int .i64,.int .i64] ([]:List AV)])) (fun _=>(fun _=>rfl)) (fun p11=>(fun _=>rfl))))))) h1)
 ·cases h
def F68_0 (t1:Int) (t9:List AV) (t10 t11:Int):Out (Int) (Unit ⊕ (Int × Int × Int)):=(bif decide (t11<t10) then (bif (decide (0≤t11) && decide (t11<(t9.length:Int))) then (bif decide (fI (t9.getD t11.toNat .undef) 0=t1) then .stop (.inr (fI (t9.getD t11.toNat .undef) 1,fI (t9.getD t11.toNat .undef) 0,fI (t9.getD t11.toNat .undef) 1))
 else .next (IntKind.i64.wrap (t11+1)))
 else .fail)
 else .stop (.inl ()))
def R68_0 (t1:Int) (t9:List AV) (t10:Int):(Int)→Out (Int) (Unit ⊕ (Int × Int × Int)):=fun s:Int=>F68_0 t1 t9 t10 s
def E68_0 (t1:Int) (t9:List AV) (t10:Int):(Int)→St:=fun s:Int=>⟨[(1,Ai t1),(9,AV.sl [.int .i64,.int .i64] t9),(10,Ai t10),(11,Ai s)],[]⟩
def K68_0 (k:Kont):(Unit ⊕ (Int × Int × Int))→Option AV:=sumE (fun _:Unit=>k (.exit 0) ⟨[],[]⟩) (fun p:Int × Int × Int=>k .ret ⟨[(4,Ai p.1),(5,AV.bool true)],[([1,7],⟨true,[],[AV.agg [Ai p.2.1,Ai p.2.2]]⟩)]⟩)
def l68_0:LModel:=fun _ _ st k=>match st with
 | ⟨[(1,.int .i64 t1),(9,.sl g0 t9),(10,.int .i64 t10),(11,.int .i64 t11)],[]⟩=>bif ctsEq g0 ([.int .i64,.int .i64]) then ro (runW (R68_0 t1 t9 t10) ((t10 - t11:Int).toNat+1) t11) none (K68_0 k) else none
 | _=>none
noncomputable def c68:Cfg:=cfg Try.prog [(68,0,[1,9,10,11]),(68,999,[4,5]),(68,1000,[]),(68,1001,[1,9,10,11])] [] [] [] [(68,0,l68_0)]
theorem s68_0 (ce:CallE) (t1:Int) (t9:List AV) (t10 t11:Int) (next:St→Option AV) (k:Kont):stepA (codeA c68 ce [] 68 0 (sub [1,0,1,0,0] (body Try.f68))) (normA [] [1,9,10,11]) next ⟨[(1,Ai t1),(9,AV.sl [.int .i64,.int .i64] t9),(10,Ai t10),(11,Ai t11)],[]⟩ k=(bif decide (t11<t10) then (bif (decide (0≤t11) && decide (t11<(t9.length:Int))) then (bif decide (fI (t9.getD t11.toNat .undef) 0=t1) then k .ret ⟨[(4,Ai (fI (t9.getD t11.toNat .undef) 1)),(5,AV.bool true)],[([1,7],⟨true,[],[AV.agg [Ai (fI (t9.getD t11.toNat .undef) 0),Ai (fI (t9.getD t11.toNat .undef) 1)]]⟩)]⟩
 else next ⟨[(1,Ai t1),(9,AV.sl [.int .i64,.int .i64] t9),(10,Ai t10),(11,Ai (IntKind.i64.wrap (t11+1)))],[]⟩)
 else none)
 else k (.exit 0) ⟨[],[]⟩):=by kernel_rfl
theorem st68_0 (t1:Int) (t9:List AV) (t10:Int) (ce:CallE) (k:Kont) (s:Int) (next:St→Option AV):stepA (codeA c68 ce [] 68 0 (sub [1,0,1,0,0] (body Try.f68))) (normA [] [1,9,10,11]) next ((E68_0 t1 t9 t10) s) k=(R68_0 t1 t9 t10 s).el none (fun s=>next ((E68_0 t1 t9 t10) s)) (K68_0 k):=(s68_0 ce t1 t9 t10 s next k).trans (by unfold R68_0;unfold F68_0;simp only [el_cond,el_ro,el_sum,el_fail,el_next,el_stop] <;> rfl)
theorem ok68_0 {ce:CallE}:LoopOK c68 ce [] 68 0 (sub [1,0,1,0,0] (body Try.f68)):=by
 intro m hm st k r h
 obtain rfl:l68_0=m:=Option.some.inj hm
 unfold l68_0 at h
 split at h
 ·rename_i t1 g0 t9 t10 t11
  obtain ⟨hg,h⟩:=bif_some h
  have q0:=hg
  obtain rfl:=ctsEq_eq _ _ q0
  refine ⟨((t10 - t11:Int).toNat+1),?_⟩
  rw [← h]
  exact loop_run (E68_0 t1 t9 t10) (K68_0 k) (st68_0 t1 t9 t10 ce k) _ t11
 ·cases h
def q68 (xa xb xc:List AV) (a1:Int):Bool:=(ro (runW (R68_0 a1 xc (xc.length:Int)) (((xc.length:Int) - 0:Int).toNat+1) 0) false (sumE (fun _=>true) (fun p13=>true)))
def v68_0 (xa xb xc:List AV) (a1:Int):Int:=(ro (runW (R68_0 a1 xc (xc.length:Int)) (((xc.length:Int) - 0:Int).toNat+1) 0) 0 (sumE (fun _=>0) (fun p13=>p13.1)))
def v68_1 (xa xb xc:List AV) (a1:Int):Bool:=(ro (runW (R68_0 a1 xc (xc.length:Int)) (((xc.length:Int) - 0:Int).toNat+1) 0) false (sumE (fun _=>false) (fun p13=>true)))
theorem e68 (xa xb xc:List AV) (a1:Int):funA c68 0 68 [AV.agg [AV.sl [.int .i64] xa,AV.sl [.int .i64] xb,AV.sl [.int .i64,.int .i64] xc],Ai a1]=(ro (runW (R68_0 a1 xc (xc.length:Int)) (((xc.length:Int) - 0:Int).toNat+1) 0) none (sumE (fun _=>some (AV.tup [Ai 0,AV.bool false])) (fun p13=>some (AV.tup [Ai p13.1,AV.bool true])))):=by kernel_rfl
def m68:TModel
 | [.agg [.sl g0 xa,.sl g1 xb,.sl g2 xc],.int .i64 a1]=>bif ctsEq g0 ([.int .i64]) && ctsEq g1 ([.int .i64]) && ctsEq g2 ([.int .i64,.int .i64]) then some (q68 xa xb xc a1,AV.tup [AV.int .i64 (v68_0 xa xb xc a1),AV.bool (v68_1 xa xb xc a1)]) else none
 | _=>none
theorem k68:Known Try.prog 68:=⟨Try.f68,Try.func68,by kernel_rfl,by kernel_rfl⟩
theorem meets68:Meets Try.prog 68 m68:=by
 refine meet (f:=Try.f68) (l:=[(0,sub [1,0,1,0,0] (body Try.f68))]) (hs:=[(68,0,[1,9,10,11]),(68,999,[4,5]),(68,1000,[]),(68,1001,[1,9,10,11])]) (ts:=[]) (ws:=[]) (is:=[]) (ls:=[(68,0,l68_0)]) (lvl:=0) mixed k68 Try.func68 (by kernel_rfl) (loops_cons ok68_0 noLoop) allT_nil allM_nil noI fun w xs us r hl hv h=>?_
 unfold m68 at h
 split at h
 ·rename_i g0 xa g1 xb g2 xc a1
  obtain ⟨hg,h⟩:=bif_pair h
  simp only [Bool.and_eq_true] at hg
  obtain ⟨⟨q0,q1⟩,q2⟩:=hg
  obtain rfl:=ctsEq_eq _ _ q0
  obtain rfl:=ctsEq_eq _ _ q1
  obtain rfl:=ctsEq_eq _ _ q2
  obtain ⟨h1,rfl⟩:=pair_inj h
  exact (e68 xa xb xc a1).trans ((brO (fun o:Option (Unit ⊕ (Int × Int × Int))=>some (AV.tup [Ai (ro o 0 (sumE (fun _=>0) (fun p13=>p13.1))),AV.bool (ro o false (sumE (fun _=>false) (fun p13=>true)))])) (brS (fun o:Unit ⊕ (Int × Int × Int)=>some (AV.tup [Ai ((sumE (fun _=>0) (fun p13=>p13.1)) o),AV.bool ((sumE (fun _=>false) (fun p13=>true)) o)])) (fun _=>(fun _=>rfl)) (fun p13=>(fun _=>rfl)))) h1)
 ·cases h
noncomputable def c66:Cfg:=cfg Try.prog [(66,999,[4])] [(68,m68)] [] [] []
def q66 (xa xb xc:List AV) (a1:Int):Bool:=q68 xa xb xc a1
def v66_0 (xa xb xc:List AV) (a1:Int):Bool:=(v68_1 xa xb xc a1)
theorem e66 (xa xb xc:List AV) (a1:Int):funA c66 0 66 [AV.agg [AV.sl [.int .i64] xa,AV.sl [.int .i64] xb,AV.sl [.int .i64,.int .i64] xc],Ai a1]=(bif q68 xa xb xc a1 then some (AV.bool (v68_1 xa xb xc a1))
 else none):=by kernel_rfl
def m66:TModel
 | [.agg [.sl g0 xa,.sl g1 xb,.sl g2 xc],.int .i64 a1]=>bif ctsEq g0 ([.int .i64]) && ctsEq g1 ([.int .i64]) && ctsEq g2 ([.int .i64,.int .i64]) then some (q66 xa xb xc a1,AV.bool (v66_0 xa xb xc a1)) else none
 | _=>none
theorem k66:Known Try.prog 66:=⟨Try.f66,Try.func66,by kernel_rfl,by kernel_rfl⟩
theorem meets66:Meets Try.prog 66 m66:=by
 refine meet (f:=Try.f66) (l:=[]) (hs:=[(66,999,[4])]) (ts:=[(68,m68)]) (ws:=[]) (is:=[]) (ls:=[]) (lvl:=0) mixed k66 Try.func66 (by kernel_rfl) noLoop (allT_cons meets68 allT_nil) allM_nil noI fun w xs us r hl hv h=>?_
 unfold m66 at h
 split at h
 ·rename_i g0 xa g1 xb g2 xc a1
  obtain ⟨hg,h⟩:=bif_pair h
  simp only [Bool.and_eq_true] at hg
  obtain ⟨⟨q0,q1⟩,q2⟩:=hg
  obtain rfl:=ctsEq_eq _ _ q0
  obtain rfl:=ctsEq_eq _ _ q1
  obtain rfl:=ctsEq_eq _ _ q2
  obtain ⟨h1,rfl⟩:=pair_inj h
  exact (e66 xa xb xc a1).trans ((brL1 (fun _=>rfl)) h1)
 ·cases h
def F67_0 (t1 t7:Int) (t14:List AV) (t15 t6 t16:Int):Out ((Int × Int)) (Int ⊕ (Int × Int × Int × Int)):=(bif decide (t16<t15) then (bif (decide (0≤t16) && decide (t16<(t14.length:Int))) then (bif decide (fI (t14.getD t16.toNat .undef) 0≤t1) then (bif decide (fI (t14.getD t16.toNat .undef) 0 ≥ t1) then .stop (.inr (fI (t14.getD t16.toNat .undef) 1,fI (t14.getD t16.toNat .undef) 1,fI (t14.getD t16.toNat .undef) 0,fI (t14.getD t16.toNat .undef) 1))
 else .next (fI (t14.getD t16.toNat .undef) 1,IntKind.i64.wrap (t16+1)))
 else (bif decide (fI (t14.getD t16.toNat .undef) 0 ≥ t1) then .stop (.inr (t6,fI (t14.getD t16.toNat .undef) 1,fI (t14.getD t16.toNat .undef) 0,fI (t14.getD t16.toNat .undef) 1))
 else .next (t6,IntKind.i64.wrap (t16+1))))
 else .fail)
 else .stop (.inl t6))
def R67_0 (t1 t7:Int) (t14:List AV) (t15:Int):((Int × Int))→Out ((Int × Int)) (Int ⊕ (Int × Int × Int × Int)):=fun s:Int × Int=>F67_0 t1 t7 t14 t15 s.1 s.2
def E67_0 (t1 t7:Int) (t14:List AV) (t15:Int):((Int × Int))→St:=fun s:Int × Int=>⟨[(1,Ai t1),(6,Ai s.1),(7,Ai t7),(14,AV.sl [.int .i64,.int .i64] t14),(15,Ai t15),(16,Ai s.2)],[]⟩
def K67_0 (t7:Int) (k:Kont):(Int ⊕ (Int × Int × Int × Int))→Option AV:=sumE (fun p:Int=>k (.exit 0) ⟨[(6,Ai p),(7,Ai t7)],[]⟩) (fun p:Int × Int × Int × Int=>k .ret ⟨[(4,Ai p.1),(5,Ai p.2.1)],[([1,9],⟨true,[],[AV.agg [Ai p.2.2.1,Ai p.2.2.2]]⟩)]⟩)
def l67_0:LModel:=fun _ _ st k=>match st with
 | ⟨[(1,.int .i64 t1),(6,.int .i64 t6),(7,.int .i64 t7),(14,.sl g0 t14),(15,.int .i64 t15),(16,.int .i64 t16)],[]⟩=>bif ctsEq g0 ([.int .i64,.int .i64]) then ro (runW (R67_0 t1 t7 t14 t15) ((t15 - t16:Int).toNat+1) (t6,t16)) none (K67_0 t7 k) else none
 | _=>none
noncomputable def c67:Cfg:=cfg Try.prog [(67,0,[1,6,7,14,15,16]),(67,999,[4,5]),(67,1000,[6,7]),(67,1001,[1,6,7,14,15,16])] [] [] [] [(67,0,l67_0)]
theorem s67_0 (ce:CallE) (t1 t6 t7:Int) (t14:List AV) (t15 t16:Int) (next:St→Option AV) (k:Kont):stepA (codeA c67 ce [] 67 0 (sub [1,1,0,1,0,0] (body Try.f67))) (normA [] [1,6,7,14,15,16]) next ⟨[(1,Ai t1),(6,Ai t6),(7,Ai t7),(14,AV.sl [.int .i64,.int .i64] t14),(15,Ai t15),(16,Ai t16)],[]⟩ k=(bif decide (t16<t15) then (bif (decide (0≤t16) && decide (t16<(t14.length:Int))) then (bif decide (fI (t14.getD t16.toNat .undef) 0≤t1) then (bif decide (fI (t14.getD t16.toNat .undef) 0 ≥ t1) then k .ret ⟨[(4,Ai (fI (t14.getD t16.toNat .undef) 1)),(5,Ai (fI (t14.getD t16.toNat .undef) 1))],[([1,9],⟨true,[],[AV.agg [Ai (fI (t14.getD t16.toNat .undef) 0),Ai (fI (t14.getD t16.toNat .undef) 1)]]⟩)]⟩
 else next ⟨[(1,Ai t1),(6,Ai (fI (t14.getD t16.toNat .undef) 1)),(7,Ai t7),(14,AV.sl [.int .i64,.int .i64] t14),(15,Ai t15),(16,Ai (IntKind.i64.wrap (t16+1)))],[]⟩)
 else (bif decide (fI (t14.getD t16.toNat .undef) 0 ≥ t1) then k .ret ⟨[(4,Ai t6),(5,Ai (fI (t14.getD t16.toNat .undef) 1))],[([1,9],⟨true,[],[AV.agg [Ai (fI (t14.getD t16.toNat .undef) 0),Ai (fI (t14.getD t16.toNat .undef) 1)]]⟩)]⟩
 else next ⟨[(1,Ai t1),(6,Ai t6),(7,Ai t7),(14,AV.sl [.int .i64,.int .i64] t14),(15,Ai t15),(16,Ai (IntKind.i64.wrap (t16+1)))],[]⟩))
 else none)
 else k (.exit 0) ⟨[(6,Ai t6),(7,Ai t7)],[]⟩):=by kernel_rfl
theorem st67_0 (t1 t7:Int) (t14:List AV) (t15:Int) (ce:CallE) (k:Kont) (s:(Int × Int)) (next:St→Option AV):stepA (codeA c67 ce [] 67 0 (sub [1,1,0,1,0,0] (body Try.f67))) (normA [] [1,6,7,14,15,16]) next ((E67_0 t1 t7 t14 t15) s) k=(R67_0 t1 t7 t14 t15 s).el none (fun s=>next ((E67_0 t1 t7 t14 t15) s)) (K67_0 t7 k):=(s67_0 ce t1 s.1 t7 t14 t15 s.2 next k).trans (by unfold R67_0;unfold F67_0;simp only [el_cond,el_ro,el_sum,el_fail,el_next,el_stop] <;> rfl)
theorem ok67_0 {ce:CallE}:LoopOK c67 ce [] 67 0 (sub [1,1,0,1,0,0] (body Try.f67)):=by
 intro m hm st k r h
 obtain rfl:l67_0=m:=Option.some.inj hm
 unfold l67_0 at h
 split at h
 ·rename_i t1 t6 t7 g0 t14 t15 t16
  obtain ⟨hg,h⟩:=bif_some h
  have q0:=hg
  obtain rfl:=ctsEq_eq _ _ q0
  refine ⟨((t15 - t16:Int).toNat+1),?_⟩
  rw [← h]
  exact loop_run (E67_0 t1 t7 t14 t15) (K67_0 t7 k) (st67_0 t1 t7 t14 t15 ce k) _ (t6,t16)
 ·cases h
def q67 (xa xb xc:List AV) (a1:Int):Bool:=(ro (runW (R67_0 a1 (xa.length:Int) xc (xc.length:Int)) (((xc.length:Int) - 0:Int).toNat+1) (0,0)) false (sumE (fun p14=>true) (fun p15=>true)))
def v67_0 (xa xb xc:List AV) (a1:Int):Int:=(ro (runW (R67_0 a1 (xa.length:Int) xc (xc.length:Int)) (((xc.length:Int) - 0:Int).toNat+1) (0,0)) 0 (sumE (fun p14=>p14) (fun p15=>p15.1)))
def v67_1 (xa xb xc:List AV) (a1:Int):Int:=(ro (runW (R67_0 a1 (xa.length:Int) xc (xc.length:Int)) (((xc.length:Int) - 0:Int).toNat+1) (0,0)) 0 (sumE (fun p14=>(xa.length:Int)) (fun p15=>p15.2.1)))
theorem e67 (xa xb xc:List AV) (a1:Int):funA c67 0 67 [AV.agg [AV.sl [.int .i64] xa,AV.sl [.int .i64] xb,AV.sl [.int .i64,.int .i64] xc],Ai a1]=(ro (runW (R67_0 a1 (xa.length:Int) xc (xc.length:Int)) (((xc.length:Int) - 0:Int).toNat+1) (0,0)) none (sumE (fun p14=>some (AV.tup [Ai p14,Ai (xa.length:Int)])) (fun p15=>some (AV.tup [Ai p15.1,Ai p15.2.1])))):=by kernel_rfl
def m67:TModel
 | [.agg [.sl g0 xa,.sl g1 xb,.sl g2 xc],.int .i64 a1]=>bif ctsEq g0 ([.int .i64]) && ctsEq g1 ([.int .i64]) && ctsEq g2 ([.int .i64,.int .i64]) then some (q67 xa xb xc a1,AV.tup [AV.int .i64 (v67_0 xa xb xc a1),AV.int .i64 (v67_1 xa xb xc a1)]) else none
 | _=>none
theorem k67:Known Try.prog 67:=⟨Try.f67,Try.func67,by kernel_rfl,by kernel_rfl⟩
theorem meets67:Meets Try.prog 67 m67:=by
 refine meet (f:=Try.f67) (l:=[(0,sub [1,1,0,1,0,0] (body Try.f67))]) (hs:=[(67,0,[1,6,7,14,15,16]),(67,999,[4,5]),(67,1000,[6,7]),(67,1001,[1,6,7,14,15,16])]) (ts:=[]) (ws:=[]) (is:=[]) (ls:=[(67,0,l67_0)]) (lvl:=0) mixed k67 Try.func67 (by kernel_rfl) (loops_cons ok67_0 noLoop) allT_nil allM_nil noI fun w xs us r hl hv h=>?_
 unfold m67 at h
 split at h
 ·rename_i g0 xa g1 xb g2 xc a1
  obtain ⟨hg,h⟩:=bif_pair h
  simp only [Bool.and_eq_true] at hg
  obtain ⟨⟨q0,q1⟩,q2⟩:=hg
  obtain rfl:=ctsEq_eq _ _ q0
  obtain rfl:=ctsEq_eq _ _ q1
  obtain rfl:=ctsEq_eq _ _ q2
  obtain ⟨h1,rfl⟩:=pair_inj h
  exact (e67 xa xb xc a1).trans ((brO (fun o:Option (Int ⊕ (Int × Int × Int × Int))=>some (AV.tup [Ai (ro o 0 (sumE (fun p14=>p14) (fun p15=>p15.1))),Ai (ro o 0 (sumE (fun p14=>(xa.length:Int)) (fun p15=>p15.2.1)))])) (brS (fun o:Int ⊕ (Int × Int × Int × Int)=>some (AV.tup [Ai ((sumE (fun p14=>p14) (fun p15=>p15.1)) o),Ai ((sumE (fun p14=>(xa.length:Int)) (fun p15=>p15.2.1)) o)])) (fun p14=>(fun _=>rfl)) (fun p15=>(fun _=>rfl)))) h1)
 ·cases h
noncomputable def c97:Cfg:=cfg Try.prog [(97,999,[2])] [] [] [] []
def q97 (a0:List AV):Bool:=decide (a0.length*16≤140737488355328) && decide (a0.length≤140737488355328)
def v97_0 (a0:List AV):List AV:=a0
theorem e97 (a0:List AV):funA c97 0 97 [AV.sl [.int .i64,.int .i64] a0]=(bif decide (0<a0.length) then (bif (decide ((([]:List AV).length+a0.length)*16≤140737488355328) && decide ((([]:List AV).length+a0.length)≤140737488355328)) then some (AV.fl [.int .i64,.int .i64] (([]:List AV)++a0))
 else none)
 else none):=by kernel_rfl
theorem e97n (b:Bool):funA c97 0 97 [AV.sle b [.int .i64,.int .i64]]=some (AV.fl [.int .i64,.int .i64] []):=by cases b <;> kernel_rfl
def m97:TModel
 | [.sl g0 a0]=>bif ctsEq g0 [.int .i64,.int .i64] then some (q97 a0,AV.fl [.int .i64,.int .i64] (v97_0 a0)) else none
 | _=>none
theorem k97:Known Try.prog 97:=⟨Try.f97,Try.func97,by kernel_rfl,by kernel_rfl⟩
theorem meets97:Meets Try.prog 97 m97:=by
 refine meet_nil (f:=Try.f97) (l:=[]) (hs:=[(97,999,[2])]) (ts:=[]) (ws:=[]) (is:=[]) (ls:=[]) (lvl:=0) (tys:=[.int .i64,.int .i64]) mixed k97 Try.func97 (by kernel_rfl) noLoop allT_nil allM_nil noI (fun xs r h=>?_) (fun b r h=>?_) (fun ys r h0 h=>?_)
 ·unfold m97 at h
  split at h
  ·rename_i g0 a0
   obtain ⟨hg,h⟩:=bif_pair h
   obtain rfl:=ctsEq_eq _ _ hg
   exact ⟨a0,rfl⟩
  ·cases h
 ·obtain ⟨hg,h⟩:=bif_pair (g:=ctsEq [.int .i64,.int .i64] [.int .i64,.int .i64]) h
  obtain ⟨_,rfl⟩:=pair_inj h
  exact e97n b
 ·obtain ⟨hg,h⟩:=bif_pair (g:=ctsEq [.int .i64,.int .i64] [.int .i64,.int .i64]) h
  obtain ⟨hq,rfl⟩:=pair_inj h
  refine (e97 ys).trans ?_
  unfold q97 at hq
  have e:([]:List AV).length+ys.length=ys.length:=by simp
  rw [e,hq,decide_eq_true h0]
  rfl
noncomputable def c69:Cfg:=cfg Try.prog [(69,999,[2])] [(65,m65),(97,m97)] [] [] []
def q69 (xa xb xc:List AV):Bool:=(q65 xa && (q65 xb && q97 xc))
def v69_0 (xa xb xc:List AV):List AV:=(v65_0 xa)
def v69_1 (xa xb xc:List AV):List AV:=(v65_0 xb)
def v69_2 (xa xb xc:List AV):List AV:=(v97_0 xc)
theorem e69 (xa xb xc:List AV):funA c69 0 69 [AV.agg [AV.sl [.int .i64] xa,AV.sl [.int .i64] xb,AV.sl [.int .i64,.int .i64] xc]]=(bif q65 xa then (bif q65 xb then (bif q97 xc then some (AV.agg [AV.fl [.int .i64] (v65_0 xa),AV.fl [.int .i64] (v65_0 xb),AV.fl [.int .i64,.int .i64] (v97_0 xc)])
 else none)
 else none)
 else none):=by kernel_rfl
def m69:TModel
 | [.agg [.sl g0 xa,.sl g1 xb,.sl g2 xc]]=>bif ctsEq g0 ([.int .i64]) && ctsEq g1 ([.int .i64]) && ctsEq g2 ([.int .i64,.int .i64]) then some (q69 xa xb xc,AV.agg [AV.fl [.int .i64] (v69_0 xa xb xc),AV.fl [.int .i64] (v69_1 xa xb xc),AV.fl [.int .i64,.int .i64] (v69_2 xa xb xc)]) else none
 | _=>none
theorem k69:Known Try.prog 69:=⟨Try.f69,Try.func69,by kernel_rfl,by kernel_rfl⟩
theorem meets69:Meets Try.prog 69 m69:=by
 refine meet (f:=Try.f69) (l:=[]) (hs:=[(69,999,[2])]) (ts:=[(65,m65),(97,m97)]) (ws:=[]) (is:=[]) (ls:=[]) (lvl:=0) mixed k69 Try.func69 (by kernel_rfl) noLoop (allT_cons meets65 (allT_cons meets97 allT_nil)) allM_nil noI fun w xs us r hl hv h=>?_
 unfold m69 at h
 split at h
 ·rename_i g0 xa g1 xb g2 xc
  obtain ⟨hg,h⟩:=bif_pair h
  simp only [Bool.and_eq_true] at hg
  obtain ⟨⟨q0,q1⟩,q2⟩:=hg
  obtain rfl:=ctsEq_eq _ _ q0
  obtain rfl:=ctsEq_eq _ _ q1
  obtain rfl:=ctsEq_eq _ _ q2
  obtain ⟨h1,rfl⟩:=pair_inj h
  exact (e69 xa xb xc).trans ((brL (brL (brL1 (fun _=>rfl)))) h1)
 ·cases h
noncomputable def c98:Cfg:=cfg Try.prog [(98,999,[8,9,10]),(98,1000,[1,2])] [] [] [] []
def q98 (a0:List AV) (a1 a2 a3:Int):Bool:=((decide (0≤a1) && decide (a1<(a0.length:Int))) && (bif decide (fI (a0.getD a1.toNat .undef) 0<a3) then true else (decide (0≤a2) && decide (a2<(a0.length:Int)))))
def v98_0 (a0:List AV) (a1 a2 a3:Int):Int:=(bif decide (fI (a0.getD a1.toNat .undef) 0<a3) then IntKind.i64.wrap (a1+1) else (bif decide (fI (a0.getD a2.toNat .undef) 0 ≥ a3) then a1 else IntKind.i64.wrap (a1+1)))
def v98_1 (a0:List AV) (a1 a2 a3:Int):Int:=(bif decide (fI (a0.getD a1.toNat .undef) 0<a3) then a2 else IntKind.i64.wrap (a2 - 1))
def v98_2 (a0:List AV) (a1 a2 a3:Int):Bool:=(bif decide (fI (a0.getD a1.toNat .undef) 0<a3) then false else (bif decide (fI (a0.getD a2.toNat .undef) 0 ≥ a3) then false else true))
theorem e98 (a0:List AV) (a1 a2 a3:Int):funA c98 0 98 [AV.sl [.int .i64] a0,Ai a1,Ai a2,Ai a3]=(bif (decide (0≤a1) && decide (a1<(a0.length:Int))) then (bif decide (fI (a0.getD a1.toNat .undef) 0<a3) then some (AV.tup [Ai (IntKind.i64.wrap (a1+1)),Ai a2,AV.bool false])
 else (bif (decide (0≤a2) && decide (a2<(a0.length:Int))) then (bif decide (fI (a0.getD a2.toNat .undef) 0 ≥ a3) then some (AV.tup [Ai a1,Ai (IntKind.i64.wrap (a2 - 1)),AV.bool false])
 else some (AV.tup [Ai (IntKind.i64.wrap (a1+1)),Ai (IntKind.i64.wrap (a2 - 1)),AV.bool true]))
 else none))
 else none):=by kernel_rfl
def m98:TModel
 | [.sl g0 a0,.int .i64 a1,.int .i64 a2,.int .i64 a3]=>bif ctsEq g0 ([.int .i64]) then some (q98 a0 a1 a2 a3,AV.tup [AV.int .i64 (v98_0 a0 a1 a2 a3),AV.int .i64 (v98_1 a0 a1 a2 a3),AV.bool (v98_2 a0 a1 a2 a3)]) else none
 | _=>none
theorem k98:Known Try.prog 98:=⟨Try.f98,Try.func98,by kernel_rfl,by kernel_rfl⟩
theorem meets98:Meets Try.prog 98 m98:=by
 refine meet (f:=Try.f98) (l:=[]) (hs:=[(98,999,[8,9,10]),(98,1000,[1,2])]) (ts:=[]) (ws:=[]) (is:=[]) (ls:=[]) (lvl:=0) mixed k98 Try.func98 (by kernel_rfl) noLoop allT_nil allM_nil noI fun w xs us r hl hv h=>?_
 unfold m98 at h
 split at h
 ·rename_i g0 a0 a1 a2 a3
  obtain ⟨hg,h⟩:=bif_pair h
  have q0:=hg
  obtain rfl:=ctsEq_eq _ _ q0
  obtain ⟨h1,rfl⟩:=pair_inj h
  exact (e98 a0 a1 a2 a3).trans ((brL (br (fun b=>some (AV.tup [Ai (bif b then IntKind.i64.wrap (a1+1) else (bif decide (fI (a0.getD a2.toNat .undef) 0 ≥ a3) then a1 else IntKind.i64.wrap (a1+1))),Ai (bif b then a2 else IntKind.i64.wrap (a2 - 1)),AV.bool (bif b then false else (bif decide (fI (a0.getD a2.toNat .undef) 0 ≥ a3) then false else true))])) (fun _=>rfl) (brL1 (brT (fun b=>some (AV.tup [Ai (bif b then a1 else IntKind.i64.wrap (a1+1)),Ai (IntKind.i64.wrap (a2 - 1)),AV.bool (bif b then false else true)])) (fun _=>rfl) (fun _=>rfl))))) h1)
 ·cases h
def F70_0 (t3 t12 t13:Int) (h0 h1:List AV):Out ((Int × Int × (List AV) × (List AV))) ((Int × (List AV) × (List AV))):=(bif decide (t12≤t13) then (bif q98 h0 t12 t13 t3 then (bif (v98_2 h0 t12 t13 t3) then (bif (decide (0≤t13) && decide (t13<(h0.length:Int))) then (bif (decide (0≤t12) && decide (t12<(h0.length:Int))) then (bif (decide (0≤t12) && decide (t12<(h0.length:Int))) then (bif (decide (0≤t13) && decide (t13<((h0.set t12.toNat (AV.agg [AV.int .i64 (fI (h0.getD t13.toNat .undef) 0)])).length:Int))) then (bif (decide ((h1.length+([AV.agg [AV.int .i64 t12,AV.int .i64 t13]]).length)*16≤140737488355328) && decide ((h1.length+([AV.agg [AV.int .i64 t12,AV.int .i64 t13]]).length)≤140737488355328)) then .next ((v98_0 h0 t12 t13 t3),(v98_1 h0 t12 t13 t3),(h0.set t12.toNat (AV.agg [AV.int .i64 (fI (h0.getD t13.toNat .undef) 0)])).set t13.toNat (AV.agg [AV.int .i64 (fI (h0.getD t12.toNat .undef) 0)]),h1++([AV.agg [AV.int .i64 t12,AV.int .i64 t13]]))
 else .fail)
 else .fail)
 else .fail)
 else .fail)
 else .fail)
 else .next ((v98_0 h0 t12 t13 t3),(v98_1 h0 t12 t13 t3),h0,h1))
 else .fail)
 else .stop (t12,h0,h1))
def R70_0 (t3:Int):((Int × Int × (List AV) × (List AV)))→Out ((Int × Int × (List AV) × (List AV))) ((Int × (List AV) × (List AV))):=fun s:Int × Int × (List AV) × (List AV)=>F70_0 t3 s.1 s.2.1 s.2.2.1 s.2.2.2
def E70_0 (t3:Int):((Int × Int × (List AV) × (List AV)))→St:=fun s:Int × Int × (List AV) × (List AV)=>⟨[(3,Ai t3),(10,AV.own [0,10]),(11,AV.own [0,11]),(12,Ai s.1),(13,Ai s.2.1)],[([0,10],⟨false,[.int .i64],s.2.2.1⟩),([0,11],⟨false,[.int .i64,.int .i64],s.2.2.2⟩)]⟩
def K70_0 (k:Kont):((Int × (List AV) × (List AV)))→Option AV:=fun p:Int × (List AV) × (List AV)=>k (.exit 0) ⟨[(11,AV.own [0,11]),(12,Ai p.1)],[([0,10],⟨false,[.int .i64],p.2.1⟩),([0,11],⟨false,[.int .i64,.int .i64],p.2.2⟩)]⟩
def l70_0:LModel:=fun _ _ st k=>match st with
 | ⟨[(3,.int .i64 t3),(10,.own g0),(11,.own g1),(12,.int .i64 t12),(13,.int .i64 t13)],[(g2,⟨false,g3,h0⟩),(g4,⟨false,g5,h1⟩)]⟩=>bif nmEq g0 ([0,10]) && nmEq g1 ([0,11]) && nmEq g2 ([0,10]) && ctsEq g3 ([.int .i64]) && nmEq g4 ([0,11]) && ctsEq g5 ([.int .i64,.int .i64]) then ro (runW (R70_0 t3) ((t13 - t12+1:Int).toNat+1) (t12,t13,h0,h1)) none (K70_0 k) else none
 | _=>none
noncomputable def c70:Cfg:=cfg Try.prog [(70,0,[3,10,11,12,13]),(70,999,[8,9]),(70,1000,[11,12]),(70,1001,[3,10,11,12,13])] [(65,m65),(98,m98)] [] [] [(70,0,l70_0)]
theorem s70_0 (ce:CallE) (t3 t12 t13:Int) (h0 h1:List AV) (next:St→Option AV) (k:Kont):stepA (codeA c70 ce [] 70 0 (sub [1,1,1,1,0,0,0] (body Try.f70))) (normA [] [3,10,11,12,13]) next ⟨[(3,Ai t3),(10,AV.own [0,10]),(11,AV.own [0,11]),(12,Ai t12),(13,Ai t13)],[([0,10],⟨false,[.int .i64],h0⟩),([0,11],⟨false,[.int .i64,.int .i64],h1⟩)]⟩ k=(bif decide (t12≤t13) then (bif q98 h0 t12 t13 t3 then (bif (v98_2 h0 t12 t13 t3) then (bif (decide (0≤t13) && decide (t13<(h0.length:Int))) then (bif (decide (0≤t12) && decide (t12<(h0.length:Int))) then (bif (decide (0≤t12) && decide (t12<(h0.length:Int))) then (bif (decide (0≤t13) && decide (t13<((h0.set t12.toNat (AV.agg [Ai (fI (h0.getD t13.toNat .undef) 0)])).length:Int))) then (bif (decide ((h1.length+([AV.agg [Ai t12,Ai t13]]).length)*16≤140737488355328) && decide ((h1.length+([AV.agg [Ai t12,Ai t13]]).length)≤140737488355328)) then next ⟨[(3,Ai t3),(10,AV.own [0,10]),(11,AV.own [0,11]),(12,Ai (v98_0 h0 t12 t13 t3)),(13,Ai (v98_1 h0 t12 t13 t3))],[([0,10],⟨false,[.int .i64],(h0.set t12.toNat (AV.agg [Ai (fI (h0.getD t13.toNat .undef) 0)])).set t13.toNat (AV.agg [Ai (fI (h0.getD t12.toNat .undef) 0)])⟩),([0,11],⟨false,[.int .i64,.int .i64],h1++([AV.agg [Ai t12,Ai t13]])⟩)]⟩
 else none)
 else none)
 else none)
 else none)
 else none)
 else next ⟨[(3,Ai t3),(10,AV.own [0,10]),(11,AV.own [0,11]),(12,Ai (v98_0 h0 t12 t13 t3)),(13,Ai (v98_1 h0 t12 t13 t3))],[([0,10],⟨false,[.int .i64],h0⟩),([0,11],⟨false,[.int .i64,.int .i64],h1⟩)]⟩)
 else none)
 else k (.exit 0) ⟨[(11,AV.own [0,11]),(12,Ai t12)],[([0,10],⟨false,[.int .i64],h0⟩),([0,11],⟨false,[.int .i64,.int .i64],h1⟩)]⟩):=by kernel_rfl
theorem st70_0 (t3:Int) (ce:CallE) (k:Kont) (s:(Int × Int × (List AV) × (List AV))) (next:St→Option AV):stepA (codeA c70 ce [] 70 0 (sub [1,1,1,1,0,0,0] (body Try.f70))) (normA [] [3,10,11,12,13]) next ((E70_0 t3) s) k=(R70_0 t3 s).el none (fun s=>next ((E70_0 t3) s)) (K70_0 k):=(s70_0 ce t3 s.1 s.2.1 s.2.2.1 s.2.2.2 next k).trans (by unfold R70_0;unfold F70_0;simp only [el_cond,el_ro,el_sum,el_fail,el_next,el_stop] <;> rfl)
theorem ok70_0 {ce:CallE}:LoopOK c70 ce [] 70 0 (sub [1,1,1,1,0,0,0] (body Try.f70)):=by
 intro m hm st k r h
 obtain rfl:l70_0=m:=Option.some.inj hm
 unfold l70_0 at h
 split at h
 ·rename_i t3 g0 g1 t12 t13 g2 g3 h0 g4 g5 h1
  obtain ⟨hg,h⟩:=bif_some h
  simp only [Bool.and_eq_true] at hg
  obtain ⟨⟨⟨⟨⟨q0,q1⟩,q2⟩,q3⟩,q4⟩,q5⟩:=hg
  obtain rfl:=(nmEq_iff _ _).1 q0
  obtain rfl:=(nmEq_iff _ _).1 q1
  obtain rfl:=(nmEq_iff _ _).1 q2
  obtain rfl:=ctsEq_eq _ _ q3
  obtain rfl:=(nmEq_iff _ _).1 q4
  obtain rfl:=ctsEq_eq _ _ q5
  refine ⟨((t13 - t12+1:Int).toNat+1),?_⟩
  rw [← h]
  exact loop_run (E70_0 t3) (K70_0 k) (st70_0 t3 ce k) _ (t12,t13,h0,h1)
 ·cases h
def q70 (a0:List AV) (a1 a2 a3:Int):Bool:=(bif decide (a1<0) then true else (bif decide (a1 > a2) then true else (bif decide (a2 > (a0.length:Int)) then true else (q65 a0 && (ro (runW (R70_0 a3) (((IntKind.i64.wrap (a2 - 1)) - a1+1:Int).toNat+1) (a1,IntKind.i64.wrap (a2 - 1),(v65_0 a0),([]:List AV))) false (fun p16=>true))))))
def v70_0 (a0:List AV) (a1 a2 a3:Int):List AV:=(bif decide (a1<0) then ([]:List AV) else (bif decide (a1 > a2) then ([]:List AV) else (bif decide (a2 > (a0.length:Int)) then ([]:List AV) else (ro (runW (R70_0 a3) (((IntKind.i64.wrap (a2 - 1)) - a1+1:Int).toNat+1) (a1,IntKind.i64.wrap (a2 - 1),(v65_0 a0),([]:List AV))) [] (fun p16=>p16.2.2)))))
def v70_1 (a0:List AV) (a1 a2 a3:Int):Int:=(bif decide (a1<0) then 0 else (bif decide (a1 > a2) then 0 else (bif decide (a2 > (a0.length:Int)) then 0 else (ro (runW (R70_0 a3) (((IntKind.i64.wrap (a2 - 1)) - a1+1:Int).toNat+1) (a1,IntKind.i64.wrap (a2 - 1),(v65_0 a0),([]:List AV))) 0 (fun p16=>p16.1)))))
theorem e70 (a0:List AV) (a1 a2 a3:Int):funA c70 0 70 [AV.sl [.int .i64] a0,Ai a1,Ai a2,Ai a3]=(bif decide (a1<0) then some (AV.tup [AV.fl [.int .i64,.int .i64] ([]:List AV),Ai 0])
 else (bif decide (a1 > a2) then some (AV.tup [AV.fl [.int .i64,.int .i64] ([]:List AV),Ai 0])
 else (bif decide (a2 > (a0.length:Int)) then some (AV.tup [AV.fl [.int .i64,.int .i64] ([]:List AV),Ai 0])
 else (bif q65 a0 then (ro (runW (R70_0 a3) (((IntKind.i64.wrap (a2 - 1)) - a1+1:Int).toNat+1) (a1,IntKind.i64.wrap (a2 - 1),(v65_0 a0),([]:List AV))) none (fun p16=>some (AV.tup [AV.fl [.int .i64,.int .i64] p16.2.2,Ai p16.1])))
 else none)))):=by kernel_rfl
def m70:TModel
 | [.sl g0 a0,.int .i64 a1,.int .i64 a2,.int .i64 a3]=>bif ctsEq g0 ([.int .i64]) then some (q70 a0 a1 a2 a3,AV.tup [AV.fl [.int .i64,.int .i64] (v70_0 a0 a1 a2 a3),AV.int .i64 (v70_1 a0 a1 a2 a3)]) else none
 | _=>none
theorem k70:Known Try.prog 70:=⟨Try.f70,Try.func70,by kernel_rfl,by kernel_rfl⟩
theorem meets70:Meets Try.prog 70 m70:=by
 refine meet (f:=Try.f70) (l:=[(0,sub [1,1,1,1,0,0,0] (body Try.f70))]) (hs:=[(70,0,[3,10,11,12,13]),(70,999,[8,9]),(70,1000,[11,12]),(70,1001,[3,10,11,12,13])]) (ts:=[(65,m65),(98,m98)]) (ws:=[]) (is:=[]) (ls:=[(70,0,l70_0)]) (lvl:=0) mixed k70 Try.func70 (by kernel_rfl) (loops_cons ok70_0 noLoop) (allT_cons meets65 (allT_cons meets98 allT_nil)) allM_nil noI fun w xs us r hl hv h=>?_
 unfold m70 at h
 split at h
 ·rename_i g0 a0 a1 a2 a3
  obtain ⟨hg,h⟩:=bif_pair h
  have q0:=hg
  obtain rfl:=ctsEq_eq _ _ q0
  obtain ⟨h1,rfl⟩:=pair_inj h
  exact (e70 a0 a1 a2 a3).trans ((br (fun b=>some (AV.tup [AV.fl [.int .i64,.int .i64] (bif b then ([]:List AV) else (bif decide (a1 > a2) then ([]:List AV) else (bif decide (a2 > (a0.length:Int)) then ([]:List AV) else (ro (runW (R70_0 a3) (((IntKind.i64.wrap (a2 - 1)) - a1+1:Int).toNat+1) (a1,IntKind.i64.wrap (a2 - 1),(v65_0 a0),([]:List AV))) [] (fun p16=>p16.2.2))))),Ai (bif b then 0 else (bif decide (a1 > a2) then 0 else (bif decide (a2 > (a0.length:Int)) then 0 else (ro (runW (R70_0 a3) (((IntKind.i64.wrap (a2 - 1)) - a1+1:Int).toNat+1) (a1,IntKind.i64.wrap (a2 - 1),(v65_0 a0),([]:List AV))) 0 (fun p16=>p16.1)))))])) (fun _=>rfl) (br (fun b=>some (AV.tup [AV.fl [.int .i64,.int .i64] (bif b then ([]:List AV) else (bif decide (a2 > (a0.length:Int)) then ([]:List AV) else (ro (runW (R70_0 a3) (((IntKind.i64.wrap (a2 - 1)) - a1+1:Int).toNat+1) (a1,IntKind.i64.wrap (a2 - 1),(v65_0 a0),([]:List AV))) [] (fun p16=>p16.2.2)))),Ai (bif b then 0 else (bif decide (a2 > (a0.length:Int)) then 0 else (ro (runW (R70_0 a3) (((IntKind.i64.wrap (a2 - 1)) - a1+1:Int).toNat+1) (a1,IntKind.i64.wrap (a2 - 1),(v65_0 a0),([]:List AV))) 0 (fun p16=>p16.1))))])) (fun _=>rfl) (br (fun b=>some (AV.tup [AV.fl [.int .i64,.int .i64] (bif b then ([]:List AV) else (ro (runW (R70_0 a3) (((IntKind.i64.wrap (a2 - 1)) - a1+1:Int).toNat+1) (a1,IntKind.i64.wrap (a2 - 1),(v65_0 a0),([]:List AV))) [] (fun p16=>p16.2.2))),Ai (bif b then 0 else (ro (runW (R70_0 a3) (((IntKind.i64.wrap (a2 - 1)) - a1+1:Int).toNat+1) (a1,IntKind.i64.wrap (a2 - 1),(v65_0 a0),([]:List AV))) 0 (fun p16=>p16.1)))])) (fun _=>rfl) (brL (brO (fun o:Option ((Int × (List AV) × (List AV)))=>some (AV.tup [AV.fl [.int .i64,.int .i64] (ro o [] (fun p16=>p16.2.2)),Ai (ro o 0 (fun p16=>p16.1))])) (fun p16=>(fun _=>rfl))))))) h1)
 ·cases h
end
end Go.Proofs.Ytkdnhnkhcldonaa
