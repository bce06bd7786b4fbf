import Derived.Test.YtkdnhnkhcldonaaVEy
import Derived.Test.YtkdnhnkhcldonaaGL8
import Derived.Test.YtkdnhnkhcldonaaProg
import Derived.KernelRfl
namespace Go.Proofs.Ytkdnhnkhcldonaa
open Go Go.Proofs.VE
set_option linter.unusedVariables false
set_option linter.unusedSimpArgs false
set_option maxRecDepth 100000
set_option maxHeartbeats 4000000
theorem mixed:Try.prog.follows .mixedOrders=true:=by kernel_rfl
noncomputable section
noncomputable def c5:Cfg:=cfg Try.prog [(5,999,[2])] [] [] [] []
def q5 (a0:List AV):Bool:=true
def v5_0 (a0:List AV):Bool:=decide ((a0.length:Int) > 1048576)
theorem e5 (a0:List AV):funA c5 0 5 [AV.sl [.int .u8] a0]=some (AV.bool (decide ((a0.length:Int) > 1048576))):=by kernel_rfl
def m5:TModel
 | [.sl g0 a0]=>bif ctsEq g0 ([.int .u8]) then some (true,AV.bool (v5_0 a0)) else none
 | _=>none
theorem k5:Known Try.prog 5:=⟨Try.f5,Try.func5,by kernel_rfl,by kernel_rfl⟩
theorem meets5:Meets Try.prog 5 m5:=by
 refine meet (f:=Try.f5) (l:=[]) (hs:=[(5,999,[2])]) (ts:=[]) (ws:=[]) (is:=[]) (ls:=[]) (lvl:=0) mixed k5 Try.func5 (by kernel_rfl) noLoop allT_nil allM_nil noI fun w xs us r hl hv h=>?_
 unfold m5 at h
 split at h
 ·rename_i g0 a0
  obtain ⟨hg,h⟩:=bif_pair h
  have q0:=hg
  obtain rfl:=ctsEq_eq _ _ q0
  obtain ⟨h1,rfl⟩:=pair_inj h
  exact (e5 a0).trans (of_tt (fun _=>rfl))
 ·cases h
noncomputable def c94:Cfg:=cfg Try.prog [(94,999,[2])] [] [] [] []
def q94 (ua:List AV) (ub uc:Int):Bool:=(bif decide (ub<(ua.length:Int)) then (decide (0≤ub) && decide (ub<(ua.length:Int))) else true)
def v94_0 (ua:List AV) (ub uc:Int):Int:=hid (fun (ua:List AV) (ub:Int) (uc:Int)=>(bif decide (ub<(ua.length:Int)) then IntKind.i64.wrap ((BitVec.ofInt 64 (IntKind.i64.wrap (IntKind.i64.wrap ((BitVec.ofInt 64 (IntKind.i64.wrap ((BitVec.ofInt 64 (Int.fdiv (IntKind.i64.wrap (IntKind.i64.wrap (uc*6364136223846793005)+1442695040888963407)) (2 ^ 33)) ^^^ BitVec.ofInt 64 (Int.fdiv (IntKind.i64.wrap (IntKind.i64.wrap (uc*6364136223846793005)+1442695040888963407)) (2 ^ 45))).toNat:Int)) &&& BitVec.ofInt 64 255).toNat:Int)+IntKind.i64.wrap (fI (ua.getD ub.toNat .undef) 0))) &&& BitVec.ofInt 64 255).toNat:Int) else IntKind.i64.wrap ((BitVec.ofInt 64 (IntKind.i64.wrap ((BitVec.ofInt 64 (Int.fdiv (IntKind.i64.wrap (IntKind.i64.wrap (uc*6364136223846793005)+1442695040888963407)) (2 ^ 33)) ^^^ BitVec.ofInt 64 (Int.fdiv (IntKind.i64.wrap (IntKind.i64.wrap (uc*6364136223846793005)+1442695040888963407)) (2 ^ 45))).toNat:Int)) &&& BitVec.ofInt 64 255).toNat:Int))) ua ub uc
def v94_1 (ua:List AV) (ub uc:Int):List AV:=ua
def v94_2 (ua:List AV) (ub uc:Int):Int:=hid (fun (ua:List AV) (ub:Int) (uc:Int)=>(bif decide (ub<(ua.length:Int)) then IntKind.i64.wrap (ub+1) else ub)) ua ub uc
def v94_3 (ua:List AV) (ub uc:Int):Int:=hid (fun (ua:List AV) (ub:Int) (uc:Int)=>IntKind.i64.wrap (IntKind.i64.wrap (uc*6364136223846793005)+1442695040888963407)) ua ub uc
theorem e94 (ua:List AV) (ub uc:Int) (K:List AV→List (Option Blk)→Option AV):inlA c94 1 94 [AV.ptr [1] 0 0] [0] (canH 1 [⟨true,[],[AV.agg [AV.sl [.int .u8] ua,Ai ub,Ai uc]]⟩]) (keepG Try.prog 1 [3] [] K)=(bif decide (ub<(ua.length:Int)) then (bif (decide (0≤ub) && decide (ub<(ua.length:Int))) then K [Ai (IntKind.i64.wrap ((BitVec.ofInt 64 (IntKind.i64.wrap (IntKind.i64.wrap ((BitVec.ofInt 64 (IntKind.i64.wrap ((BitVec.ofInt 64 (Int.fdiv (IntKind.i64.wrap (IntKind.i64.wrap (uc*6364136223846793005)+1442695040888963407)) (2 ^ 33)) ^^^ BitVec.ofInt 64 (Int.fdiv (IntKind.i64.wrap (IntKind.i64.wrap (uc*6364136223846793005)+1442695040888963407)) (2 ^ 45))).toNat:Int)) &&& BitVec.ofInt 64 255).toNat:Int)+IntKind.i64.wrap (fI (ua.getD ub.toNat .undef) 0))) &&& BitVec.ofInt 64 255).toNat:Int))] [some ⟨true,[],[AV.agg [AV.sl [.int .u8] ua,Ai (IntKind.i64.wrap (ub+1)),Ai (IntKind.i64.wrap (IntKind.i64.wrap (uc*6364136223846793005)+1442695040888963407))]]⟩]
 else none)
 else K [Ai (IntKind.i64.wrap ((BitVec.ofInt 64 (IntKind.i64.wrap ((BitVec.ofInt 64 (Int.fdiv (IntKind.i64.wrap (IntKind.i64.wrap (uc*6364136223846793005)+1442695040888963407)) (2 ^ 33)) ^^^ BitVec.ofInt 64 (Int.fdiv (IntKind.i64.wrap (IntKind.i64.wrap (uc*6364136223846793005)+1442695040888963407)) (2 ^ 45))).toNat:Int)) &&& BitVec.ofInt 64 255).toNat:Int))] [some ⟨true,[],[AV.agg [AV.sl [.int .u8] ua,Ai ub,Ai (IntKind.i64.wrap (IntKind.i64.wrap (uc*6364136223846793005)+1442695040888963407))]]⟩]):=by kernel_rfl
theorem r94 (ua:List AV) (ub uc:Int) (K:List AV→List (Option Blk)→Option AV) (h:q94 ua ub uc=true):inlA c94 1 94 [AV.ptr [1] 0 0] [0] (canH 1 [⟨true,[],[AV.agg [AV.sl [.int .u8] ua,AV.int .i64 ub,AV.int .i64 uc]]⟩]) (keepG Try.prog 1 [3] [] K)=K [AV.int .i64 (v94_0 ua ub uc)] [some ⟨true,[],[AV.agg [AV.sl [.int .u8] (v94_1 ua ub uc),AV.int .i64 (v94_2 ua ub uc),AV.int .i64 (v94_3 ua ub uc)]]⟩]:=by
 unfold v94_0 v94_2 v94_3
 simp only [hid_eq]
 exact (e94 ua ub uc K).trans ((br (fun b=>K [AV.int .i64 (bif b then IntKind.i64.wrap ((BitVec.ofInt 64 (IntKind.i64.wrap (IntKind.i64.wrap ((BitVec.ofInt 64 (IntKind.i64.wrap ((BitVec.ofInt 64 (Int.fdiv (IntKind.i64.wrap (IntKind.i64.wrap (uc*6364136223846793005)+1442695040888963407)) (2 ^ 33)) ^^^ BitVec.ofInt 64 (Int.fdiv (IntKind.i64.wrap (IntKind.i64.wrap (uc*6364136223846793005)+1442695040888963407)) (2 ^ 45))).toNat:Int)) &&& BitVec.ofInt 64 255).toNat:Int)+IntKind.i64.wrap (fI (ua.getD ub.toNat .undef) 0))) &&& BitVec.ofInt 64 255).toNat:Int) else IntKind.i64.wrap ((BitVec.ofInt 64 (IntKind.i64.wrap ((BitVec.ofInt 64 (Int.fdiv (IntKind.i64.wrap (IntKind.i64.wrap (uc*6364136223846793005)+1442695040888963407)) (2 ^ 33)) ^^^ BitVec.ofInt 64 (Int.fdiv (IntKind.i64.wrap (IntKind.i64.wrap (uc*6364136223846793005)+1442695040888963407)) (2 ^ 45))).toNat:Int)) &&& BitVec.ofInt 64 255).toNat:Int))] [some ⟨true,[],[AV.agg [AV.sl [.int .u8] ua,AV.int .i64 (bif b then IntKind.i64.wrap (ub+1) else ub),AV.int .i64 (IntKind.i64.wrap (IntKind.i64.wrap (uc*6364136223846793005)+1442695040888963407))]]⟩]) (brL1 (fun _=>rfl)) (fun _=>rfl)) h)
def m94:GModel
 | [.ptr g0 g1 g2],[⟨true,[],[.agg [.sl g3 ua,.int .i64 ub,.int .i64 uc]]⟩]=>bif nmEq g0 ([1]) && Nat.beq g1 0 && Nat.beq g2 0 && ctsEq g3 ([.int .u8]) then some (q94 ua ub uc,[AV.int .i64 (v94_0 ua ub uc)],[some ⟨true,[],[AV.agg [AV.sl [.int .u8] (v94_1 ua ub uc),AV.int .i64 (v94_2 ua ub uc),AV.int .i64 (v94_3 ua ub uc)]]⟩]) else none
 | _,_=>none
theorem k94:Known Try.prog 94:=⟨Try.f94,Try.func94,by kernel_rfl,by kernel_rfl⟩
theorem meets94:MeetsG Try.prog 94 m94:=by
 refine meetG (rt:=[3]) (gs:=[]) (f:=Try.f94) (l:=[]) (hs:=[(94,999,[2])]) (ts:=[]) (ws:=[]) (is:=[]) (ls:=[]) (lvl:=0) mixed k94 Try.func94 (by kernel_rfl) noLoop allT_nil allM_nil noI fun C w xs us bs r bs' hl hv hh h K=>?_
 unfold m94 at h
 split at h
 ·rename_i g0 g1 g2 g3 ua ub uc
  obtain ⟨hg,h⟩:=bif_pair h
  simp only [Bool.and_eq_true] at hg
  obtain ⟨⟨⟨q0,q1⟩,q2⟩,q3⟩:=hg
  obtain rfl:=(nmEq_iff _ _).1 q0
  obtain rfl:=Nat.eq_of_beq_eq_true q1
  obtain rfl:=Nat.eq_of_beq_eq_true q2
  obtain rfl:=ctsEq_eq _ _ q3
  obtain ⟨h1,rfl,rfl⟩:=trip_inj h
  exact r94 ua ub uc K h1
 ·cases h
noncomputable def c57:Cfg:=cfg Try.prog [(57,999,[4])] [] [(94,.g m94)] [] []
def q57 (a1:Int) (ua:List AV) (ub uc:Int):Bool:=(bif decide (a1≤0) then true else (bif decide (a1≤256) then (q94 ua ub uc && !decide (a1=0)) else (q94 ua ub uc && (q94 (v94_1 ua ub uc) (v94_2 ua ub uc) (v94_3 ua ub uc) && (q94 (v94_1 (v94_1 ua ub uc) (v94_2 ua ub uc) (v94_3 ua ub uc)) (v94_2 (v94_1 ua ub uc) (v94_2 ua ub uc) (v94_3 ua ub uc)) (v94_3 (v94_1 ua ub uc) (v94_2 ua ub uc) (v94_3 ua ub uc)) && (q94 (v94_1 (v94_1 (v94_1 ua ub uc) (v94_2 ua ub uc) (v94_3 ua ub uc)) (v94_2 (v94_1 ua ub uc) (v94_2 ua ub uc) (v94_3 ua ub uc)) (v94_3 (v94_1 ua ub uc) (v94_2 ua ub uc) (v94_3 ua ub uc))) (v94_2 (v94_1 (v94_1 ua ub uc) (v94_2 ua ub uc) (v94_3 ua ub uc)) (v94_2 (v94_1 ua ub uc) (v94_2 ua ub uc) (v94_3 ua ub uc)) (v94_3 (v94_1 ua ub uc) (v94_2 ua ub uc) (v94_3 ua ub uc))) (v94_3 (v94_1 (v94_1 ua ub uc) (v94_2 ua ub uc) (v94_3 ua ub uc)) (v94_2 (v94_1 ua ub uc) (v94_2 ua ub uc) (v94_3 ua ub uc)) (v94_3 (v94_1 ua ub uc) (v94_2 ua ub uc) (v94_3 ua ub uc))) && !decide (a1=0)))))))
def v57_0 (a1:Int) (ua:List AV) (ub uc:Int):Int:=hid (fun (a1:Int) (ua:List AV) (ub:Int) (uc:Int)=>(bif decide (a1≤0) then 0 else (bif decide (a1≤256) then Int.tmod (v94_0 ua ub uc) a1 else Int.tmod (IntKind.i64.wrap (IntKind.i64.wrap (IntKind.i64.wrap (IntKind.i64.wrap ((v94_0 ua ub uc)*16777216)+IntKind.i64.wrap ((v94_0 (v94_1 ua ub uc) (v94_2 ua ub uc) (v94_3 ua ub uc))*65536))+IntKind.i64.wrap ((v94_0 (v94_1 (v94_1 ua ub uc) (v94_2 ua ub uc) (v94_3 ua ub uc)) (v94_2 (v94_1 ua ub uc) (v94_2 ua ub uc) (v94_3 ua ub uc)) (v94_3 (v94_1 ua ub uc) (v94_2 ua ub uc) (v94_3 ua ub uc)))*256))+(v94_0 (v94_1 (v94_1 (v94_1 ua ub uc) (v94_2 ua ub uc) (v94_3 ua ub uc)) (v94_2 (v94_1 ua ub uc) (v94_2 ua ub uc) (v94_3 ua ub uc)) (v94_3 (v94_1 ua ub uc) (v94_2 ua ub uc) (v94_3 ua ub uc))) (v94_2 (v94_1 (v94_1 ua ub uc) (v94_2 ua ub uc) (v94_3 ua ub uc)) (v94_2 (v94_1 ua ub uc) (v94_2 ua ub uc) (v94_3 ua ub uc)) (v94_3 (v94_1 ua ub uc) (v94_2 ua ub uc) (v94_3 ua ub uc))) (v94_3 (v94_1 (v94_1 ua ub uc) (v94_2 ua ub uc) (v94_3 ua ub uc)) (v94_2 (v94_1 ua ub uc) (v94_2 ua ub uc) (v94_3 ua ub uc)) (v94_3 (v94_1 ua ub uc) (v94_2 ua ub uc) (v94_3 ua ub uc)))))) a1))) a1 ua ub uc
def v57_1 (a1:Int) (ua:List AV) (ub uc:Int):List AV:=hid (fun (a1:Int) (ua:List AV) (ub:Int) (uc:Int)=>(bif decide (a1≤0) then ua else (bif decide (a1≤256) then (v94_1 ua ub uc) else (v94_1 (v94_1 (v94_1 (v94_1 ua ub uc) (v94_2 ua ub uc) (v94_3 ua ub uc)) (v94_2 (v94_1 ua ub uc) (v94_2 ua ub uc) (v94_3 ua ub uc)) (v94_3 (v94_1 ua ub uc) (v94_2 ua ub uc) (v94_3 ua ub uc))) (v94_2 (v94_1 (v94_1 ua ub uc) (v94_2 ua ub uc) (v94_3 ua ub uc)) (v94_2 (v94_1 ua ub uc) (v94_2 ua ub uc) (v94_3 ua ub uc)) (v94_3 (v94_1 ua ub uc) (v94_2 ua ub uc) (v94_3 ua ub uc))) (v94_3 (v94_1 (v94_1 ua ub uc) (v94_2 ua ub uc) (v94_3 ua ub uc)) (v94_2 (v94_1 ua ub uc) (v94_2 ua ub uc) (v94_3 ua ub uc)) (v94_3 (v94_1 ua ub uc) (v94_2 ua ub uc) (v94_3 ua ub uc))))))) a1 ua ub uc
def v57_2 (a1:Int) (ua:List AV) (ub uc:Int):Int:=hid (fun (a1:Int) (ua:List AV) (ub:Int) (uc:Int)=>(bif decide (a1≤0) then ub else (bif decide (a1≤256) then (v94_2 ua ub uc) else (v94_2 (v94_1 (v94_1 (v94_1 ua ub uc) (v94_2 ua ub uc) (v94_3 ua ub uc)) (v94_2 (v94_1 ua ub uc) (v94_2 ua ub uc) (v94_3 ua ub uc)) (v94_3 (v94_1 ua ub uc) (v94_2 ua ub uc) (v94_3 ua ub uc))) (v94_2 (v94_1 (v94_1 ua ub uc) (v94_2 ua ub uc) (v94_3 ua ub uc)) (v94_2 (v94_1 ua ub uc) (v94_2 ua ub uc) (v94_3 ua ub uc)) (v94_3 (v94_1 ua ub uc) (v94_2 ua ub uc) (v94_3 ua ub uc))) (v94_3 (v94_1 (v94_1 ua ub uc) (v94_2 ua ub uc) (v94_3 ua ub uc)) (v94_2 (v94_1 ua ub uc) (v94_2 ua ub uc) (v94_3 ua ub uc)) (v94_3 (v94_1 ua ub uc) (v94_2 ua ub uc) (v94_3 ua ub uc))))))) a1 ua ub uc
def v57_3 (a1:Int) (ua:List AV) (ub uc:Int):Int:=hid (fun (a1:Int) (ua:List AV) (ub:Int) (uc:Int)=>(bif decide (a1≤0) then uc else (bif decide (a1≤256) then (v94_3 ua ub uc) else (v94_3 (v94_1 (v94_1 (v94_1 ua ub uc) (v94_2 ua ub uc) (v94_3 ua ub uc)) (v94_2 (v94_1 ua ub uc) (v94_2 ua ub uc) (v94_3 ua ub uc)) (v94_3 (v94_1 ua ub uc) (v94_2 ua ub uc) (v94_3 ua ub uc))) (v94_2 (v94_1 (v94_1 ua ub uc) (v94_2 ua ub uc) (v94_3 ua ub uc)) (v94_2 (v94_1 ua ub uc) (v94_2 ua ub uc) (v94_3 ua ub uc)) (v94_3 (v94_1 ua ub uc) (v94_2 ua ub uc) (v94_3 ua ub uc))) (v94_3 (v94_1 (v94_1 ua ub uc) (v94_2 ua ub uc) (v94_3 ua ub uc)) (v94_2 (v94_1 ua ub uc) (v94_2 ua ub uc) (v94_3 ua ub uc)) (v94_3 (v94_1 ua ub uc) (v94_2 ua ub uc) (v94_3 ua ub uc))))))) a1 ua ub uc
theorem e57 (a1:Int) (ua:List AV) (ub uc:Int) (K:List AV→List (Option Blk)→Option AV):inlA c57 1 57 [AV.ptr [1] 0 0,Ai a1] [0] (canH 1 [⟨true,[],[AV.agg [AV.sl [.int .u8] ua,Ai ub,Ai uc]]⟩]) (keepG Try.prog 1 [3] [] K)=(bif decide (a1≤0) then K [Ai 0] [some ⟨true,[],[AV.agg [AV.sl [.int .u8] ua,Ai ub,Ai uc]]⟩]
 else (bif decide (a1≤256) then (bif q94 ua ub uc then (bif !decide (a1=0) then K [Ai (Int.tmod (v94_0 ua ub uc) a1)] [some ⟨true,[],[AV.agg [AV.sl [.int .u8] (v94_1 ua ub uc),Ai (v94_2 ua ub uc),Ai (v94_3 ua ub uc)]]⟩]
 else none)
 else none)
 else (bif q94 ua ub uc then (bif q94 (v94_1 ua ub uc) (v94_2 ua ub uc) (v94_3 ua ub uc) then (bif q94 (v94_1 (v94_1 ua ub uc) (v94_2 ua ub uc) (v94_3 ua ub uc)) (v94_2 (v94_1 ua ub uc) (v94_2 ua ub uc) (v94_3 ua ub uc)) (v94_3 (v94_1 ua ub uc) (v94_2 ua ub uc) (v94_3 ua ub uc)) then (bif q94 (v94_1 (v94_1 (v94_1 ua ub uc) (v94_2 ua ub uc) (v94_3 ua ub uc)) (v94_2 (v94_1 ua ub uc) (v94_2 ua ub uc) (v94_3 ua ub uc)) (v94_3 (v94_1 ua ub uc) (v94_2 ua ub uc) (v94_3 ua ub uc))) (v94_2 (v94_1 (v94_1 ua ub uc) (v94_2 ua ub uc) (v94_3 ua ub uc)) (v94_2 (v94_1 ua ub uc) (v94_2 ua ub uc) (v94_3 ua ub uc)) (v94_3 (v94_1 ua ub uc) (v94_2 ua ub uc) (v94_3 ua ub uc))) (v94_3 (v94_1 (v94_1 ua ub uc) (v94_2 ua ub uc) (v94_3 ua ub uc)) (v94_2 (v94_1 ua ub uc) (v94_2 ua ub uc) (v94_3 ua ub uc)) (v94_3 (v94_1 ua ub uc) (v94_2 ua ub uc) (v94_3 ua ub uc))) then (bif !decide (a1=0) then K [Ai (Int.tmod (IntKind.i64.wrap (IntKind.i64.wrap (IntKind.i64.wrap (IntKind.i64.wrap ((v94_0 ua ub uc)*16777216)+IntKind.i64.wrap ((v94_0 (v94_1 ua ub uc) (v94_2 ua ub uc) (v94_3 ua ub uc))*65536))+IntKind.i64.wrap ((v94_0 (v94_1 (v94_1 ua ub uc) (v94_2 ua ub uc) (v94_3 ua ub uc)) (v94_2 (v94_1 ua ub uc) (v94_2 ua ub uc) (v94_3 ua ub uc)) (v94_3 (v94_1 ua ub uc) (v94_2 ua ub uc) (v94_3 ua ub uc)))*256))+(v94_0 (v94_1 (v94_1 (v94_1 ua ub uc) (v94_2 ua ub uc) (v94_3 ua ub uc)) (v94_2 (v94_1 ua ub uc) (v94_2 ua ub uc) (v94_3 ua ub uc)) (v94_3 (v94_1 ua ub uc) (v94_2 ua ub uc) (v94_3 ua ub uc))) (v94_2 (v94_1 (v94_1 ua ub uc) (v94_2 ua ub uc) (v94_3 ua ub uc)) (v94_2 (v94_1 ua ub uc) (v94_2 ua ub uc) (v94_3 ua ub uc)) (v94_3 (v94_1 ua ub uc) (v94_2 ua ub uc) (v94_3 ua ub uc))) (v94_3 (v94_1 (v94_1 ua ub uc) (v94_2 ua ub uc) (v94_3 ua ub uc)) (v94_2 (v94_1 ua ub uc) (v94_2 ua ub uc) (v94_3 ua ub uc)) (v94_3 (v94_1 ua ub uc) (v94_2 ua ub uc) (v94_3 ua ub uc)))))) a1)] [some ⟨true,[],[AV.agg [AV.sl [.int .u8] (v94_1 (v94_1 (v94_1 (v94_1 ua ub uc) (v94_2 ua ub uc) (v94_3 ua ub uc)) (v94_2 (v94_1 ua ub uc) (v94_2 ua ub uc) (v94_3 ua ub uc)) (v94_3 (v94_1 ua ub uc) (v94_2 ua ub uc) (v94_3 ua ub uc))) (v94_2 (v94_1 (v94_1 ua ub uc) (v94_2 ua ub uc) (v94_3 ua ub uc)) (v94_2 (v94_1 ua ub uc) (v94_2 ua ub uc) (v94_3 ua ub uc)) (v94_3 (v94_1 ua ub uc) (v94_2 ua ub uc) (v94_3 ua ub uc))) (v94_3 (v94_1 (v94_1 ua ub uc) (v94_2 ua ub uc) (v94_3 ua ub uc)) (v94_2 (v94_1 ua ub uc) (v94_2 ua ub uc) (v94_3 ua ub uc)) (v94_3 (v94_1 ua ub uc) (v94_2 ua ub uc) (v94_3 ua ub uc)))),Ai (v94_2 (v94_1 (v94_1 (v94_1 ua ub uc) (v94_2 ua ub uc) (v94_3 ua ub uc)) (v94_2 (v94_1 ua ub uc) (v94_2 ua ub uc) (v94_3 ua ub uc)) (v94_3 (v94_1 ua ub uc) (v94_2 ua ub uc) (v94_3 ua ub uc))) (v94_2 (v94_1 (v94_1 ua ub uc) (v94_2 ua ub uc) (v94_3 ua ub uc)) (v94_2 (v94_1 ua ub uc) (v94_2 ua ub uc) (v94_3 ua ub uc)) (v94_3 (v94_1 ua ub uc) (v94_2 ua ub uc) (v94_3 ua ub uc))) (v94_3 (v94_1 (v94_1 ua ub uc) (v94_2 ua ub uc) (v94_3 ua ub uc)) (v94_2 (v94_1 ua ub uc) (v94_2 ua ub uc) (v94_3 ua ub uc)) (v94_3 (v94_1 ua ub uc) (v94_2 ua ub uc) (v94_3 ua ub uc)))),Ai (v94_3 (v94_1 (v94_1 (v94_1 ua ub uc) (v94_2 ua ub uc) (v94_3 ua ub uc)) (v94_2 (v94_1 ua ub uc) (v94_2 ua ub uc) (v94_3 ua ub uc)) (v94_3 (v94_1 ua ub uc) (v94_2 ua ub uc) (v94_3 ua ub uc))) (v94_2 (v94_1 (v94_1 ua ub uc) (v94_2 ua ub uc) (v94_3 ua ub uc)) (v94_2 (v94_1 ua ub uc) (v94_2 ua ub uc) (v94_3 ua ub uc)) (v94_3 (v94_1 ua ub uc) (v94_2 ua ub uc) (v94_3 ua ub uc))) (v94_3 (v94_1 (v94_1 ua ub uc) (v94_2 ua ub uc) (v94_3 ua ub uc)) (v94_2 (v94_1 ua ub uc) (v94_2 ua ub uc) (v94_3 ua ub uc)) (v94_3 (v94_1 ua ub uc) (v94_2 ua ub uc) (v94_3 ua ub uc))))]]⟩]
 else none)
 else none)
 else none)
 else none)
 else none))):=by kernel_rfl
theorem r57 (a1:Int) (ua:List AV) (ub uc:Int) (K:List AV→List (Option Blk)→Option AV) (h:q57 a1 ua ub uc=true):inlA c57 1 57 [AV.ptr [1] 0 0,AV.int .i64 a1] [0] (canH 1 [⟨true,[],[AV.agg [AV.sl [.int .u8] ua,AV.int .i64 ub,AV.int .i64 uc]]⟩]) (keepG Try.prog 1 [3] [] K)=K [AV.int .i64 (v57_0 a1 ua ub uc)] [some ⟨true,[],[AV.agg [AV.sl [.int .u8] (v57_1 a1 ua ub uc),AV.int .i64 (v57_2 a1 ua ub uc),AV.int .i64 (v57_3 a1 ua ub uc)]]⟩]:=by
 unfold v57_0 v57_1 v57_2 v57_3
 simp only [hid_eq]
 exact (e57 a1 ua ub uc K).trans ((br (fun b=>K [AV.int .i64 (bif b then 0 else (bif decide (a1≤256) then Int.tmod (v94_0 ua ub uc) a1 else Int.tmod (IntKind.i64.wrap (IntKind.i64.wrap (IntKind.i64.wrap (IntKind.i64.wrap ((v94_0 ua ub uc)*16777216)+IntKind.i64.wrap ((v94_0 (v94_1 ua ub uc) (v94_2 ua ub uc) (v94_3 ua ub uc))*65536))+IntKind.i64.wrap ((v94_0 (v94_1 (v94_1 ua ub uc) (v94_2 ua ub uc) (v94_3 ua ub uc)) (v94_2 (v94_1 ua ub uc) (v94_2 ua ub uc) (v94_3 ua ub uc)) (v94_3 (v94_1 ua ub uc) (v94_2 ua ub uc) (v94_3 ua ub uc)))*256))+(v94_0 (v94_1 (v94_1 (v94_1 ua ub uc) (v94_2 ua ub uc) (v94_3 ua ub uc)) (v94_2 (v94_1 ua ub uc) (v94_2 ua ub uc) (v94_3 ua ub uc)) (v94_3 (v94_1 ua ub uc) (v94_2 ua ub uc) (v94_3 ua ub uc))) (v94_2 (v94_1 (v94_1 ua ub uc) (v94_2 ua ub uc) (v94_3 ua ub uc)) (v94_2 (v94_1 ua ub uc) (v94_2 ua ub uc) (v94_3 ua ub uc)) (v94_3 (v94_1 ua ub uc) (v94_2 ua ub uc) (v94_3 ua ub uc))) (v94_3 (v94_1 (v94_1 ua ub uc) (v94_2 ua ub uc) (v94_3 ua ub uc)) (v94_2 (v94_1 ua ub uc) (v94_2 ua ub uc) (v94_3 ua ub uc)) (v94_3 (v94_1 ua ub uc) (v94_2 ua ub uc) (v94_3 ua ub uc)))))) a1))] [some ⟨true,[],[AV.agg [AV.sl [.int .u8] (bif b then ua else (bif decide (a1≤256) then (v94_1 ua ub uc) else (v94_1 (v94_1 (v94_1 (v94_1 ua ub uc) (v94_2 ua ub uc) (v94_3 ua ub uc)) (v94_2 (v94_1 ua ub uc) (v94_2 ua ub uc) (v94_3 ua ub uc)) (v94_3 (v94_1 ua ub uc) (v94_2 ua ub uc) (v94_3 ua ub uc))) (v94_2 (v94_1 (v94_1 ua ub uc) (v94_2 ua ub uc) (v94_3 ua ub uc)) (v94_2 (v94_1 ua ub uc) (v94_2 ua ub uc) (v94_3 ua ub uc)) (v94_3 (v94_1 ua ub uc) (v94_2 ua ub uc) (v94_3 ua ub uc))) (v94_3 (v94_1 (v94_1 ua ub uc) (v94_2 ua ub uc) (v94_3 ua ub uc)) (v94_2 (v94_1 ua ub uc) (v94_2 ua ub uc) (v94_3 ua ub uc)) (v94_3 (v94_1 ua ub uc) (v94_2 ua ub uc) (v94_3 ua ub uc)))))),AV.int .i64 (bif b then ub else (bif decide (a1≤256) then (v94_2 ua ub uc) else (v94_2 (v94_1 (v94_1 (v94_1 ua ub uc) (v94_2 ua ub uc) (v94_3 ua ub uc)) (v94_2 (v94_1 ua ub uc) (v94_2 ua ub uc) (v94_3 ua ub uc)) (v94_3 (v94_1 ua ub uc) (v94_2 ua ub uc) (v94_3 ua ub uc))) (v94_2 (v94_1 (v94_1 ua ub uc) (v94_2 ua ub uc) (v94_3 ua ub uc)) (v94_2 (v94_1 ua ub uc) (v94_2 ua ub uc) (v94_3 ua ub uc)) (v94_3 (v94_1 ua ub uc) (v94_2 ua ub uc) (v94_3 ua ub uc))) (v94_3 (v94_1 (v94_1 ua ub uc) (v94_2 ua ub uc) (v94_3 ua ub uc)) (v94_2 (v94_1 ua ub uc) (v94_2 ua ub uc) (v94_3 ua ub uc)) (v94_3 (v94_1 ua ub uc) (v94_2 ua ub uc) (v94_3 ua ub uc)))))),AV.int .i64 (bif b then uc else (bif decide (a1≤256) then (v94_3 ua ub uc) else (v94_3 (v94_1 (v94_1 (v94_1 ua ub uc) (v94_2 ua ub uc) (v94_3 ua ub uc)) (v94_2 (v94_1 ua ub uc) (v94_2 ua ub uc) (v94_3 ua ub uc)) (v94_3 (v94_1 ua ub uc) (v94_2 ua ub uc) (v94_3 ua ub uc))) (v94_2 (v94_1 (v94_1 ua ub uc) (v94_2 ua ub uc) (v94_3 ua ub uc)) (v94_2 (v94_1 ua ub uc) (v94_2 ua ub uc) (v94_3 ua ub uc)) (v94_3 (v94_1 ua ub uc) (v94_2 ua ub uc) (v94_3 ua ub uc))) (v94_3 (v94_1 (v94_1 ua ub uc) (v94_2 ua ub uc) (v94_3 ua ub uc)) (v94_2 (v94_1 ua ub uc) (v94_2 ua ub uc) (v94_3 ua ub uc)) (v94_3 (v94_1 ua ub uc) (v94_2 ua ub uc) (v94_3 ua ub uc))))))]]⟩]) (fun _=>rfl) (br (fun b=>K [AV.int .i64 (bif b then Int.tmod (v94_0 ua ub uc) a1 else Int.tmod (IntKind.i64.wrap (IntKind.i64.wrap (IntKind.i64.wrap (IntKind.i64.wrap ((v94_0 ua ub uc)*16777216)+IntKind.i64.wrap ((v94_0 (v94_1 ua ub uc) (v94_2 ua ub uc) (v94_3 ua ub uc))*65536))+IntKind.i64.wrap ((v94_0 (v94_1 (v94_1 ua ub uc) (v94_2 ua ub uc) (v94_3 ua ub uc)) (v94_2 (v94_1 ua ub uc) (v94_2 ua ub uc) (v94_3 ua ub uc)) (v94_3 (v94_1 ua ub uc) (v94_2 ua ub uc) (v94_3 ua ub uc)))*256))+(v94_0 (v94_1 (v94_1 (v94_1 ua ub uc) (v94_2 ua ub uc) (v94_3 ua ub uc)) (v94_2 (v94_1 ua ub uc) (v94_2 ua ub uc) (v94_3 ua ub uc)) (v94_3 (v94_1 ua ub uc) (v94_2 ua ub uc) (v94_3 ua ub uc))) (v94_2 (v94_1 (v94_1 ua ub uc) (v94_2 ua ub uc) (v94_3 ua ub uc)) (v94_2 (v94_1 ua ub uc) (v94_2 ua ub uc) (v94_3 ua ub uc)) (v94_3 (v94_1 ua ub uc) (v94_2 ua ub uc) (v94_3 ua ub uc))) (v94_3 (v94_1 (v94_1 ua ub uc) (v94_2 ua ub uc) (v94_3 ua ub uc)) (v94_2 (v94_1 ua ub uc) (v94_2 ua ub uc) (v94_3 ua ub uc)) (v94_3 (v94_1 ua ub uc) (v94_2 ua ub uc) (v94_3 ua ub uc)))))) a1)] [some ⟨true,[],[AV.agg [AV.sl [.int .u8] (bif b then (v94_1 ua ub uc) else (v94_1 (v94_1 (v94_1 (v94_1 ua ub uc) (v94_2 ua ub uc) (v94_3 ua ub uc)) (v94_2 (v94_1 ua ub uc) (v94_2 ua ub uc) (v94_3 ua ub uc)) (v94_3 (v94_1 ua ub uc) (v94_2 ua ub uc) (v94_3 ua ub uc))) (v94_2 (v94_1 (v94_1 ua ub uc) (v94_2 ua ub uc) (v94_3 ua ub uc)) (v94_2 (v94_1 ua ub uc) (v94_2 ua ub uc) (v94_3 ua ub uc)) (v94_3 (v94_1 ua ub uc) (v94_2 ua ub uc) (v94_3 ua ub uc))) (v94_3 (v94_1 (v94_1 ua ub uc) (v94_2 ua ub uc) (v94_3 ua ub uc)) (v94_2 (v94_1 ua ub uc) (v94_2 ua ub uc) (v94_3 ua ub uc)) (v94_3 (v94_1 ua ub uc) (v94_2 ua ub uc) (v94_3 ua ub uc))))),AV.int .i64 (bif b then (v94_2 ua ub uc) else (v94_2 (v94_1 (v94_1 (v94_1 ua ub uc) (v94_2 ua ub uc) (v94_3 ua ub uc)) (v94_2 (v94_1 ua ub uc) (v94_2 ua ub uc) (v94_3 ua ub uc)) (v94_3 (v94_1 ua ub uc) (v94_2 ua ub uc) (v94_3 ua ub uc))) (v94_2 (v94_1 (v94_1 ua ub uc) (v94_2 ua ub uc) (v94_3 ua ub uc)) (v94_2 (v94_1 ua ub uc) (v94_2 ua ub uc) (v94_3 ua ub uc)) (v94_3 (v94_1 ua ub uc) (v94_2 ua ub uc) (v94_3 ua ub uc))) (v94_3 (v94_1 (v94_1 ua ub uc) (v94_2 ua ub uc) (v94_3 ua ub uc)) (v94_2 (v94_1 ua ub uc) (v94_2 ua ub uc) (v94_3 ua ub uc)) (v94_3 (v94_1 ua ub uc) (v94_2 ua ub uc) (v94_3 ua ub uc))))),AV.int .i64 (bif b then (v94_3 ua ub uc) else (v94_3 (v94_1 (v94_1 (v94_1 ua ub uc) (v94_2 ua ub uc) (v94_3 ua ub uc)) (v94_2 (v94_1 ua ub uc) (v94_2 ua ub uc) (v94_3 ua ub uc)) (v94_3 (v94_1 ua ub uc) (v94_2 ua ub uc) (v94_3 ua ub uc))) (v94_2 (v94_1 (v94_1 ua ub uc) (v94_2 ua ub uc) (v94_3 ua ub uc)) (v94_2 (v94_1 ua ub uc) (v94_2 ua ub uc) (v94_3 ua ub uc)) (v94_3 (v94_1 ua ub uc) (v94_2 ua ub uc) (v94_3 ua ub uc))) (v94_3 (v94_1 (v94_1 ua ub uc) (v94_2 ua ub uc) (v94_3 ua ub uc)) (v94_2 (v94_1 ua ub uc) (v94_2 ua ub uc) (v94_3 ua ub uc)) (v94_3 (v94_1 ua ub uc) (v94_2 ua ub uc) (v94_3 ua ub uc)))))]]⟩]) (brL (brL1 (fun _=>rfl))) (brL (brL (brL (brL (brL1 (fun _=>rfl)))))))) h)
def m57:GModel
 | [.ptr g0 g1 g2,.int .i64 a1],[⟨true,[],[.agg [.sl g3 ua,.int .i64 ub,.int .i64 uc]]⟩]=>bif nmEq g0 ([1]) && Nat.beq g1 0 && Nat.beq g2 0 && ctsEq g3 ([.int .u8]) then some (q57 a1 ua ub uc,[AV.int .i64 (v57_0 a1 ua ub uc)],[some ⟨true,[],[AV.agg [AV.sl [.int .u8] (v57_1 a1 ua ub uc),AV.int .i64 (v57_2 a1 ua ub uc),AV.int .i64 (v57_3 a1 ua ub uc)]]⟩]) else none
 | _,_=>none
theorem k57:Known Try.prog 57:=⟨Try.f57,Try.func57,by kernel_rfl,by kernel_rfl⟩
theorem meets57:MeetsG Try.prog 57 m57:=by
 refine meetG (rt:=[3]) (gs:=[]) (f:=Try.f57) (l:=[]) (hs:=[(57,999,[4])]) (ts:=[]) (ws:=[(94,.g m94)]) (is:=[]) (ls:=[]) (lvl:=0) mixed k57 Try.func57 (by kernel_rfl) noLoop allT_nil (allG_cons meets94 allM_nil) noI fun C w xs us bs r bs' hl hv hh h K=>?_
 unfold m57 at h
 split at h
 ·rename_i g0 g1 g2 a1 g3 ua ub uc
  obtain ⟨hg,h⟩:=bif_pair h
  simp only [Bool.and_eq_true] at hg
  obtain ⟨⟨⟨q0,q1⟩,q2⟩,q3⟩:=hg
  obtain rfl:=(nmEq_iff _ _).1 q0
  obtain rfl:=Nat.eq_of_beq_eq_true q1
  obtain rfl:=Nat.eq_of_beq_eq_true q2
  obtain rfl:=ctsEq_eq _ _ q3
  obtain ⟨h1,rfl,rfl⟩:=trip_inj h
  exact r57 a1 ua ub uc K h1
 ·cases h
noncomputable def c60:Cfg:=cfg Try.prog [(60,999,[4])] [] [(57,.g m57)] [] []
def q60 (ua:List AV) (ub uc:Int) (b1:List AV):Bool:=(q57 (b1.length:Int) ua ub uc && (decide (0≤(v57_0 (b1.length:Int) ua ub uc)) && decide ((v57_0 (b1.length:Int) ua ub uc)<(b1.length:Int))))
def v60_0 (ua:List AV) (ub uc:Int) (b1:List AV):Int:=fI (b1.getD (v57_0 (b1.length:Int) ua ub uc).toNat .undef) 0
def v60_1 (ua:List AV) (ub uc:Int) (b1:List AV):List AV:=(v57_1 (b1.length:Int) ua ub uc)
def v60_2 (ua:List AV) (ub uc:Int) (b1:List AV):Int:=(v57_2 (b1.length:Int) ua ub uc)
def v60_3 (ua:List AV) (ub uc:Int) (b1:List AV):Int:=(v57_3 (b1.length:Int) ua ub uc)
def v60_4 (ua:List AV) (ub uc:Int) (b1:List AV):List AV:=b1
theorem e60 (ua:List AV) (ub uc:Int) (b1:List AV) (K:List AV→List (Option Blk)→Option AV):inlA c60 1 60 [AV.ptr [1] 0 0,AV.own [2]] [0] (canH 1 [⟨true,[],[AV.agg [AV.sl [.int .u8] ua,Ai ub,Ai uc]]⟩,⟨false,[.int .i64],b1⟩]) (keepG Try.prog 2 [3] [] K)=(bif q57 (b1.length:Int) ua ub uc then (bif (decide (0≤(v57_0 (b1.length:Int) ua ub uc)) && decide ((v57_0 (b1.length:Int) ua ub uc)<(b1.length:Int))) then K [Ai (fI (b1.getD (v57_0 (b1.length:Int) ua ub uc).toNat .undef) 0)] [some ⟨true,[],[AV.agg [AV.sl [.int .u8] (v57_1 (b1.length:Int) ua ub uc),Ai (v57_2 (b1.length:Int) ua ub uc),Ai (v57_3 (b1.length:Int) ua ub uc)]]⟩,some ⟨false,[.int .i64],b1⟩]
 else none)
 else none):=by kernel_rfl
theorem r60 (ua:List AV) (ub uc:Int) (b1:List AV) (K:List AV→List (Option Blk)→Option AV) (h:q60 ua ub uc b1=true):inlA c60 1 60 [AV.ptr [1] 0 0,AV.own [2]] [0] (canH 1 [⟨true,[],[AV.agg [AV.sl [.int .u8] ua,AV.int .i64 ub,AV.int .i64 uc]]⟩,⟨false,[.int .i64],b1⟩]) (keepG Try.prog 2 [3] [] K)=K [AV.int .i64 (v60_0 ua ub uc b1)] [some ⟨true,[],[AV.agg [AV.sl [.int .u8] (v60_1 ua ub uc b1),AV.int .i64 (v60_2 ua ub uc b1),AV.int .i64 (v60_3 ua ub uc b1)]]⟩,some ⟨false,[.int .i64],(v60_4 ua ub uc b1)⟩]:=(e60 ua ub uc b1 K).trans ((brL (brL1 (fun _=>rfl))) h)
def m60:GModel
 | [.ptr g0 g1 g2,.own g3],[⟨true,[],[.agg [.sl g4 ua,.int .i64 ub,.int .i64 uc]]⟩,⟨false,g5,b1⟩]=>bif nmEq g0 ([1]) && Nat.beq g1 0 && Nat.beq g2 0 && nmEq g3 ([2]) && ctsEq g4 ([.int .u8]) && ctsEq g5 ([.int .i64]) then some (q60 ua ub uc b1,[AV.int .i64 (v60_0 ua ub uc b1)],[some ⟨true,[],[AV.agg [AV.sl [.int .u8] (v60_1 ua ub uc b1),AV.int .i64 (v60_2 ua ub uc b1),AV.int .i64 (v60_3 ua ub uc b1)]]⟩,some ⟨false,[.int .i64],(v60_4 ua ub uc b1)⟩]) else none
 | _,_=>none
theorem k60:Known Try.prog 60:=⟨Try.f60,Try.func60,by kernel_rfl,by kernel_rfl⟩
theorem meets60:MeetsG Try.prog 60 m60:=by
 refine meetG (rt:=[3]) (gs:=[]) (f:=Try.f60) (l:=[]) (hs:=[(60,999,[4])]) (ts:=[]) (ws:=[(57,.g m57)]) (is:=[]) (ls:=[]) (lvl:=0) mixed k60 Try.func60 (by kernel_rfl) noLoop allT_nil (allG_cons meets57 allM_nil) noI fun C w xs us bs r bs' hl hv hh h K=>?_
 unfold m60 at h
 split at h
 ·rename_i g0 g1 g2 g3 g4 ua ub uc g5 b1
  obtain ⟨hg,h⟩:=bif_pair h
  simp only [Bool.and_eq_true] at hg
  obtain ⟨⟨⟨⟨⟨q0,q1⟩,q2⟩,q3⟩,q4⟩,q5⟩:=hg
  obtain rfl:=(nmEq_iff _ _).1 q0
  obtain rfl:=Nat.eq_of_beq_eq_true q1
  obtain rfl:=Nat.eq_of_beq_eq_true q2
  obtain rfl:=(nmEq_iff _ _).1 q3
  obtain rfl:=ctsEq_eq _ _ q4
  obtain rfl:=ctsEq_eq _ _ q5
  obtain ⟨h1,rfl,rfl⟩:=trip_inj h
  exact r60 ua ub uc b1 K h1
 ·cases h
def F61_0 (t6 t7:Int) (h0 h1_0:List AV) (h1_1 h1_2:Int):Out ((Int × (List AV) × (List AV) × Int × Int)) (((List AV) × (List AV) × Int × Int)):=(bif decide (t7 > 0) then (bif q57 t6 h1_0 h1_1 h1_2 then (bif !decide (3=0) then (bif (decide ((h0.length+([AV.int .i64 (IntKind.i64.wrap ((v57_0 t6 h1_0 h1_1 h1_2) - IntKind.i64.wrap (Int.tdiv t6 3)))]).length)*8≤140737488355328) && decide ((h0.length+([AV.int .i64 (IntKind.i64.wrap ((v57_0 t6 h1_0 h1_1 h1_2) - IntKind.i64.wrap (Int.tdiv t6 3)))]).length)≤140737488355328)) then .next (IntKind.i64.wrap (t7 - 1),h0++([AV.int .i64 (IntKind.i64.wrap ((v57_0 t6 h1_0 h1_1 h1_2) - IntKind.i64.wrap (Int.tdiv t6 3)))]),(v57_1 t6 h1_0 h1_1 h1_2),(v57_2 t6 h1_0 h1_1 h1_2),(v57_3 t6 h1_0 h1_1 h1_2))
 else .fail)
 else .fail)
 else .fail)
 else .stop (h0,h1_0,h1_1,h1_2))
def R61_0 (t6:Int):((Int × (List AV) × (List AV) × Int × Int))→Out ((Int × (List AV) × (List AV) × Int × Int)) (((List AV) × (List AV) × Int × Int)):=fun s:Int × (List AV) × (List AV) × Int × Int=>F61_0 t6 s.1 s.2.1 s.2.2.1 s.2.2.2.1 s.2.2.2.2
def E61_0 (t6:Int):((Int × (List AV) × (List AV) × Int × Int))→St:=fun s:Int × (List AV) × (List AV) × Int × Int=>⟨[(0,AV.ptr [1] 0 0),(5,AV.own [0,5,0]),(6,Ai t6),(7,Ai s.1)],[([0,5,0],⟨false,[.int .i64],s.2.1⟩),([1],⟨true,[],[AV.agg [AV.sl [.int .u8] s.2.2.1,Ai s.2.2.2.1,Ai s.2.2.2.2]]⟩)]⟩
def K61_0 (k:Kont):(((List AV) × (List AV) × Int × Int))→Option AV:=fun p:(List AV) × (List AV) × Int × Int=>k (.exit 0) ⟨[(5,AV.own [0,5,0])],[([0,5,0],⟨false,[.int .i64],p.1⟩),([1],⟨true,[],[AV.agg [AV.sl [.int .u8] p.2.1,Ai p.2.2.1,Ai p.2.2.2]]⟩)]⟩
def l61_0:LModel:=fun _ _ st k=>match st with
 | ⟨[(0,.ptr g0 g1 g2),(5,.own g3),(6,.int .i64 t6),(7,.int .i64 t7)],[(g4,⟨false,g5,h0⟩),(g6,⟨true,[],[.agg [.sl g7 h1_0,.int .i64 h1_1,.int .i64 h1_2]]⟩)]⟩=>bif nmEq g0 ([1]) && Nat.beq g1 0 && Nat.beq g2 0 && nmEq g3 ([0,5,0]) && nmEq g4 ([0,5,0]) && ctsEq g5 ([.int .i64]) && nmEq g6 ([1]) && ctsEq g7 ([.int .u8]) then ro (runW (R61_0 t6) ((t7 - 0:Int).toNat+1) (t7,h0,h1_0,h1_1,h1_2)) none (K61_0 k) else none
 | _=>none
noncomputable def c61:Cfg:=cfg Try.prog [(61,0,[0,5,6,7]),(61,999,[4]),(61,1000,[5]),(61,1001,[0,5,6,7])] [] [(57,.g m57),(60,.g m60)] [] [(61,0,l61_0)]
theorem s61_0 (ce:CallE) (t6 t7:Int) (h0 h1_0:List AV) (h1_1 h1_2:Int) (next:St→Option AV) (k:Kont):stepA (codeA c61 ce [0] 61 0 (sub [1,1,1,0,1,0,0] (body Try.f61))) (normA [0] [0,5,6,7]) next ⟨[(0,AV.ptr [1] 0 0),(5,AV.own [0,5,0]),(6,Ai t6),(7,Ai t7)],[([0,5,0],⟨false,[.int .i64],h0⟩),([1],⟨true,[],[AV.agg [AV.sl [.int .u8] h1_0,Ai h1_1,Ai h1_2]]⟩)]⟩ k=(bif decide (t7 > 0) then (bif q57 t6 h1_0 h1_1 h1_2 then (bif !decide (3=0) then (bif (decide ((h0.length+([Ai (IntKind.i64.wrap ((v57_0 t6 h1_0 h1_1 h1_2) - IntKind.i64.wrap (Int.tdiv t6 3)))]).length)*8≤140737488355328) && decide ((h0.length+([Ai (IntKind.i64.wrap ((v57_0 t6 h1_0 h1_1 h1_2) - IntKind.i64.wrap (Int.tdiv t6 3)))]).length)≤140737488355328)) then next ⟨[(0,AV.ptr [1] 0 0),(5,AV.own [0,5,0]),(6,Ai t6),(7,Ai (IntKind.i64.wrap (t7 - 1)))],[([0,5,0],⟨false,[.int .i64],h0++([Ai (IntKind.i64.wrap ((v57_0 t6 h1_0 h1_1 h1_2) - IntKind.i64.wrap (Int.tdiv t6 3)))])⟩),([1],⟨true,[],[AV.agg [AV.sl [.int .u8] (v57_1 t6 h1_0 h1_1 h1_2),Ai (v57_2 t6 h1_0 h1_1 h1_2),Ai (v57_3 t6 h1_0 h1_1 h1_2)]]⟩)]⟩
 else none)
 else none)
 else none)
 else k (.exit 0) ⟨[(5,AV.own [0,5,0])],[([0,5,0],⟨false,[.int .i64],h0⟩),([1],⟨true,[],[AV.agg [AV.sl [.int .u8] h1_0,Ai h1_1,Ai h1_2]]⟩)]⟩):=by kernel_rfl
theorem st61_0 (t6:Int) (ce:CallE) (k:Kont) (s:(Int × (List AV) × (List AV) × Int × Int)) (next:St→Option AV):stepA (codeA c61 ce [0] 61 0 (sub [1,1,1,0,1,0,0] (body Try.f61))) (normA [0] [0,5,6,7]) next ((E61_0 t6) s) k=(R61_0 t6 s).el none (fun s=>next ((E61_0 t6) s)) (K61_0 k):=(s61_0 ce t6 s.1 s.2.1 s.2.2.1 s.2.2.2.1 s.2.2.2.2 next k).trans (by unfold R61_0;unfold F61_0;simp only [el_cond,el_ro,el_sum,el_fail,el_next,el_stop] <;> rfl)
theorem ok61_0 {ce:CallE}:LoopOK c61 ce [0] 61 0 (sub [1,1,1,0,1,0,0] (body Try.f61)):=by
 intro m hm st k r h
 obtain rfl:l61_0=m:=Option.some.inj hm
 unfold l61_0 at h
 split at h
 ·rename_i g0 g1 g2 g3 t6 t7 g4 g5 h0 g6 g7 h1_0 h1_1 h1_2
  obtain ⟨hg,h⟩:=bif_some h
  simp only [Bool.and_eq_true] at hg
  obtain ⟨⟨⟨⟨⟨⟨⟨q0,q1⟩,q2⟩,q3⟩,q4⟩,q5⟩,q6⟩,q7⟩:=hg
  obtain rfl:=(nmEq_iff _ _).1 q0
  obtain rfl:=Nat.eq_of_beq_eq_true q1
  obtain rfl:=Nat.eq_of_beq_eq_true q2
  obtain rfl:=(nmEq_iff _ _).1 q3
  obtain rfl:=(nmEq_iff _ _).1 q4
  obtain rfl:=ctsEq_eq _ _ q5
  obtain rfl:=(nmEq_iff _ _).1 q6
  obtain rfl:=ctsEq_eq _ _ q7
  refine ⟨((t7 - 0:Int).toNat+1),?_⟩
  rw [← h]
  exact loop_run (E61_0 t6) (K61_0 k) (st61_0 t6 ce k) _ (t7,h0,h1_0,h1_1,h1_2)
 ·cases h
def q61 (a1:Int) (ua:List AV) (ub uc:Int):Bool:=(q60 ua ub uc ([AV.int .i64 3,AV.int .i64 10,AV.int .i64 30,AV.int .i64 1000]) && (q57 (IntKind.i64.wrap (a1+1)) (v60_1 ua ub uc ([AV.int .i64 3,AV.int .i64 10,AV.int .i64 30,AV.int .i64 1000])) (v60_2 ua ub uc ([AV.int .i64 3,AV.int .i64 10,AV.int .i64 30,AV.int .i64 1000])) (v60_3 ua ub uc ([AV.int .i64 3,AV.int .i64 10,AV.int .i64 30,AV.int .i64 1000])) && (ro (runW (R61_0 (v60_0 ua ub uc ([AV.int .i64 3,AV.int .i64 10,AV.int .i64 30,AV.int .i64 1000]))) (((v57_0 (IntKind.i64.wrap (a1+1)) (v60_1 ua ub uc ([AV.int .i64 3,AV.int .i64 10,AV.int .i64 30,AV.int .i64 1000])) (v60_2 ua ub uc ([AV.int .i64 3,AV.int .i64 10,AV.int .i64 30,AV.int .i64 1000])) (v60_3 ua ub uc ([AV.int .i64 3,AV.int .i64 10,AV.int .i64 30,AV.int .i64 1000]))) - 0:Int).toNat+1) ((v57_0 (IntKind.i64.wrap (a1+1)) (v60_1 ua ub uc ([AV.int .i64 3,AV.int .i64 10,AV.int .i64 30,AV.int .i64 1000])) (v60_2 ua ub uc ([AV.int .i64 3,AV.int .i64 10,AV.int .i64 30,AV.int .i64 1000])) (v60_3 ua ub uc ([AV.int .i64 3,AV.int .i64 10,AV.int .i64 30,AV.int .i64 1000]))),([]:List AV),(v57_1 (IntKind.i64.wrap (a1+1)) (v60_1 ua ub uc ([AV.int .i64 3,AV.int .i64 10,AV.int .i64 30,AV.int .i64 1000])) (v60_2 ua ub uc ([AV.int .i64 3,AV.int .i64 10,AV.int .i64 30,AV.int .i64 1000])) (v60_3 ua ub uc ([AV.int .i64 3,AV.int .i64 10,AV.int .i64 30,AV.int .i64 1000]))),(v57_2 (IntKind.i64.wrap (a1+1)) (v60_1 ua ub uc ([AV.int .i64 3,AV.int .i64 10,AV.int .i64 30,AV.int .i64 1000])) (v60_2 ua ub uc ([AV.int .i64 3,AV.int .i64 10,AV.int .i64 30,AV.int .i64 1000])) (v60_3 ua ub uc ([AV.int .i64 3,AV.int .i64 10,AV.int .i64 30,AV.int .i64 1000]))),(v57_3 (IntKind.i64.wrap (a1+1)) (v60_1 ua ub uc ([AV.int .i64 3,AV.int .i64 10,AV.int .i64 30,AV.int .i64 1000])) (v60_2 ua ub uc ([AV.int .i64 3,AV.int .i64 10,AV.int .i64 30,AV.int .i64 1000])) (v60_3 ua ub uc ([AV.int .i64 3,AV.int .i64 10,AV.int .i64 30,AV.int .i64 1000]))))) false (fun p2=>true))))
def v61_0 (a1:Int) (ua:List AV) (ub uc:Int):List AV:=(ro (runW (R61_0 (v60_0 ua ub uc ([AV.int .i64 3,AV.int .i64 10,AV.int .i64 30,AV.int .i64 1000]))) (((v57_0 (IntKind.i64.wrap (a1+1)) (v60_1 ua ub uc ([AV.int .i64 3,AV.int .i64 10,AV.int .i64 30,AV.int .i64 1000])) (v60_2 ua ub uc ([AV.int .i64 3,AV.int .i64 10,AV.int .i64 30,AV.int .i64 1000])) (v60_3 ua ub uc ([AV.int .i64 3,AV.int .i64 10,AV.int .i64 30,AV.int .i64 1000]))) - 0:Int).toNat+1) ((v57_0 (IntKind.i64.wrap (a1+1)) (v60_1 ua ub uc ([AV.int .i64 3,AV.int .i64 10,AV.int .i64 30,AV.int .i64 1000])) (v60_2 ua ub uc ([AV.int .i64 3,AV.int .i64 10,AV.int .i64 30,AV.int .i64 1000])) (v60_3 ua ub uc ([AV.int .i64 3,AV.int .i64 10,AV.int .i64 30,AV.int .i64 1000]))),([]:List AV),(v57_1 (IntKind.i64.wrap (a1+1)) (v60_1 ua ub uc ([AV.int .i64 3,AV.int .i64 10,AV.int .i64 30,AV.int .i64 1000])) (v60_2 ua ub uc ([AV.int .i64 3,AV.int .i64 10,AV.int .i64 30,AV.int .i64 1000])) (v60_3 ua ub uc ([AV.int .i64 3,AV.int .i64 10,AV.int .i64 30,AV.int .i64 1000]))),(v57_2 (IntKind.i64.wrap (a1+1)) (v60_1 ua ub uc ([AV.int .i64 3,AV.int .i64 10,AV.int .i64 30,AV.int .i64 1000])) (v60_2 ua ub uc ([AV.int .i64 3,AV.int .i64 10,AV.int .i64 30,AV.int .i64 1000])) (v60_3 ua ub uc ([AV.int .i64 3,AV.int .i64 10,AV.int .i64 30,AV.int .i64 1000]))),(v57_3 (IntKind.i64.wrap (a1+1)) (v60_1 ua ub uc ([AV.int .i64 3,AV.int .i64 10,AV.int .i64 30,AV.int .i64 1000])) (v60_2 ua ub uc ([AV.int .i64 3,AV.int .i64 10,AV.int .i64 30,AV.int .i64 1000])) (v60_3 ua ub uc ([AV.int .i64 3,AV.int .i64 10,AV.int .i64 30,AV.int .i64 1000]))))) [] (fun p2=>p2.1))
def v61_1 (a1:Int) (ua:List AV) (ub uc:Int):List AV:=(ro (runW (R61_0 (v60_0 ua ub uc ([AV.int .i64 3,AV.int .i64 10,AV.int .i64 30,AV.int .i64 1000]))) (((v57_0 (IntKind.i64.wrap (a1+1)) (v60_1 ua ub uc ([AV.int .i64 3,AV.int .i64 10,AV.int .i64 30,AV.int .i64 1000])) (v60_2 ua ub uc ([AV.int .i64 3,AV.int .i64 10,AV.int .i64 30,AV.int .i64 1000])) (v60_3 ua ub uc ([AV.int .i64 3,AV.int .i64 10,AV.int .i64 30,AV.int .i64 1000]))) - 0:Int).toNat+1) ((v57_0 (IntKind.i64.wrap (a1+1)) (v60_1 ua ub uc ([AV.int .i64 3,AV.int .i64 10,AV.int .i64 30,AV.int .i64 1000])) (v60_2 ua ub uc ([AV.int .i64 3,AV.int .i64 10,AV.int .i64 30,AV.int .i64 1000])) (v60_3 ua ub uc ([AV.int .i64 3,AV.int .i64 10,AV.int .i64 30,AV.int .i64 1000]))),([]:List AV),(v57_1 (IntKind.i64.wrap (a1+1)) (v60_1 ua ub uc ([AV.int .i64 3,AV.int .i64 10,AV.int .i64 30,AV.int .i64 1000])) (v60_2 ua ub uc ([AV.int .i64 3,AV.int .i64 10,AV.int .i64 30,AV.int .i64 1000])) (v60_3 ua ub uc ([AV.int .i64 3,AV.int .i64 10,AV.int .i64 30,AV.int .i64 1000]))),(v57_2 (IntKind.i64.wrap (a1+1)) (v60_1 ua ub uc ([AV.int .i64 3,AV.int .i64 10,AV.int .i64 30,AV.int .i64 1000])) (v60_2 ua ub uc ([AV.int .i64 3,AV.int .i64 10,AV.int .i64 30,AV.int .i64 1000])) (v60_3 ua ub uc ([AV.int .i64 3,AV.int .i64 10,AV.int .i64 30,AV.int .i64 1000]))),(v57_3 (IntKind.i64.wrap (a1+1)) (v60_1 ua ub uc ([AV.int .i64 3,AV.int .i64 10,AV.int .i64 30,AV.int .i64 1000])) (v60_2 ua ub uc ([AV.int .i64 3,AV.int .i64 10,AV.int .i64 30,AV.int .i64 1000])) (v60_3 ua ub uc ([AV.int .i64 3,AV.int .i64 10,AV.int .i64 30,AV.int .i64 1000]))))) [] (fun p2=>p2.2.1))
def v61_2 (a1:Int) (ua:List AV) (ub uc:Int):Int:=(ro (runW (R61_0 (v60_0 ua ub uc ([AV.int .i64 3,AV.int .i64 10,AV.int .i64 30,AV.int .i64 1000]))) (((v57_0 (IntKind.i64.wrap (a1+1)) (v60_1 ua ub uc ([AV.int .i64 3,AV.int .i64 10,AV.int .i64 30,AV.int .i64 1000])) (v60_2 ua ub uc ([AV.int .i64 3,AV.int .i64 10,AV.int .i64 30,AV.int .i64 1000])) (v60_3 ua ub uc ([AV.int .i64 3,AV.int .i64 10,AV.int .i64 30,AV.int .i64 1000]))) - 0:Int).toNat+1) ((v57_0 (IntKind.i64.wrap (a1+1)) (v60_1 ua ub uc ([AV.int .i64 3,AV.int .i64 10,AV.int .i64 30,AV.int .i64 1000])) (v60_2 ua ub uc ([AV.int .i64 3,AV.int .i64 10,AV.int .i64 30,AV.int .i64 1000])) (v60_3 ua ub uc ([AV.int .i64 3,AV.int .i64 10,AV.int .i64 30,AV.int .i64 1000]))),([]:List AV),(v57_1 (IntKind.i64.wrap (a1+1)) (v60_1 ua ub uc ([AV.int .i64 3,AV.int .i64 10,AV.int .i64 30,AV.int .i64 1000])) (v60_2 ua ub uc ([AV.int .i64 3,AV.int .i64 10,AV.int .i64 30,AV.int .i64 1000])) (v60_3 ua ub uc ([AV.int .i64 3,AV.int .i64 10,AV.int .i64 30,AV.int .i64 1000]))),(v57_2 (IntKind.i64.wrap (a1+1)) (v60_1 ua ub uc ([AV.int .i64 3,AV.int .i64 10,AV.int .i64 30,AV.int .i64 1000])) (v60_2 ua ub uc ([AV.int .i64 3,AV.int .i64 10,AV.int .i64 30,AV.int .i64 1000])) (v60_3 ua ub uc ([AV.int .i64 3,AV.int .i64 10,AV.int .i64 30,AV.int .i64 1000]))),(v57_3 (IntKind.i64.wrap (a1+1)) (v60_1 ua ub uc ([AV.int .i64 3,AV.int .i64 10,AV.int .i64 30,AV.int .i64 1000])) (v60_2 ua ub uc ([AV.int .i64 3,AV.int .i64 10,AV.int .i64 30,AV.int .i64 1000])) (v60_3 ua ub uc ([AV.int .i64 3,AV.int .i64 10,AV.int .i64 30,AV.int .i64 1000]))))) 0 (fun p2=>p2.2.2.1))
def v61_3 (a1:Int) (ua:List AV) (ub uc:Int):Int:=(ro (runW (R61_0 (v60_0 ua ub uc ([AV.int .i64 3,AV.int .i64 10,AV.int .i64 30,AV.int .i64 1000]))) (((v57_0 (IntKind.i64.wrap (a1+1)) (v60_1 ua ub uc ([AV.int .i64 3,AV.int .i64 10,AV.int .i64 30,AV.int .i64 1000])) (v60_2 ua ub uc ([AV.int .i64 3,AV.int .i64 10,AV.int .i64 30,AV.int .i64 1000])) (v60_3 ua ub uc ([AV.int .i64 3,AV.int .i64 10,AV.int .i64 30,AV.int .i64 1000]))) - 0:Int).toNat+1) ((v57_0 (IntKind.i64.wrap (a1+1)) (v60_1 ua ub uc ([AV.int .i64 3,AV.int .i64 10,AV.int .i64 30,AV.int .i64 1000])) (v60_2 ua ub uc ([AV.int .i64 3,AV.int .i64 10,AV.int .i64 30,AV.int .i64 1000])) (v60_3 ua ub uc ([AV.int .i64 3,AV.int .i64 10,AV.int .i64 30,AV.int .i64 1000]))),([]:List AV),(v57_1 (IntKind.i64.wrap (a1+1)) (v60_1 ua ub uc ([AV.int .i64 3,AV.int .i64 10,AV.int .i64 30,AV.int .i64 1000])) (v60_2 ua ub uc ([AV.int .i64 3,AV.int .i64 10,AV.int .i64 30,AV.int .i64 1000])) (v60_3 ua ub uc ([AV.int .i64 3,AV.int .i64 10,AV.int .i64 30,AV.int .i64 1000]))),(v57_2 (IntKind.i64.wrap (a1+1)) (v60_1 ua ub uc ([AV.int .i64 3,AV.int .i64 10,AV.int .i64 30,AV.int .i64 1000])) (v60_2 ua ub uc ([AV.int .i64 3,AV.int .i64 10,AV.int .i64 30,AV.int .i64 1000])) (v60_3 ua ub uc ([AV.int .i64 3,AV.int .i64 10,AV.int .i64 30,AV.int .i64 1000]))),(v57_3 (IntKind.i64.wrap (a1+1)) (v60_1 ua ub uc ([AV.int .i64 3,AV.int .i64 10,AV.int .i64 30,AV.int .i64 1000])) (v60_2 ua ub uc ([AV.int .i64 3,AV.int .i64 10,AV.int .i64 30,AV.int .i64 1000])) (v60_3 ua ub uc ([AV.int .i64 3,AV.int .i64 10,AV.int .i64 30,AV.int .i64 1000]))))) 0 (fun p2=>p2.2.2.2))
theorem e61 (a1:Int) (ua:List AV) (ub uc:Int) (K:List AV→List (Option Blk)→Option AV):inlA c61 1 61 [AV.ptr [1] 0 0,Ai a1] [0] (canH 1 [⟨true,[],[AV.agg [AV.sl [.int .u8] ua,Ai ub,Ai uc]]⟩]) (keepG Try.prog 1 [24] [] K)=(bif q60 ua ub uc ([Ai 3,Ai 10,Ai 30,Ai 1000]) then (bif q57 (IntKind.i64.wrap (a1+1)) (v60_1 ua ub uc ([Ai 3,Ai 10,Ai 30,Ai 1000])) (v60_2 ua ub uc ([Ai 3,Ai 10,Ai 30,Ai 1000])) (v60_3 ua ub uc ([Ai 3,Ai 10,Ai 30,Ai 1000])) then (ro (runW (R61_0 (v60_0 ua ub uc ([Ai 3,Ai 10,Ai 30,Ai 1000]))) (((v57_0 (IntKind.i64.wrap (a1+1)) (v60_1 ua ub uc ([Ai 3,Ai 10,Ai 30,Ai 1000])) (v60_2 ua ub uc ([Ai 3,Ai 10,Ai 30,Ai 1000])) (v60_3 ua ub uc ([Ai 3,Ai 10,Ai 30,Ai 1000]))) - 0:Int).toNat+1) ((v57_0 (IntKind.i64.wrap (a1+1)) (v60_1 ua ub uc ([Ai 3,Ai 10,Ai 30,Ai 1000])) (v60_2 ua ub uc ([Ai 3,Ai 10,Ai 30,Ai 1000])) (v60_3 ua ub uc ([Ai 3,Ai 10,Ai 30,Ai 1000]))),([]:List AV),(v57_1 (IntKind.i64.wrap (a1+1)) (v60_1 ua ub uc ([Ai 3,Ai 10,Ai 30,Ai 1000])) (v60_2 ua ub uc ([Ai 3,Ai 10,Ai 30,Ai 1000])) (v60_3 ua ub uc ([Ai 3,Ai 10,Ai 30,Ai 1000]))),(v57_2 (IntKind.i64.wrap (a1+1)) (v60_1 ua ub uc ([Ai 3,Ai 10,Ai 30,Ai 1000])) (v60_2 ua ub uc ([Ai 3,Ai 10,Ai 30,Ai 1000])) (v60_3 ua ub uc ([Ai 3,Ai 10,Ai 30,Ai 1000]))),(v57_3 (IntKind.i64.wrap (a1+1)) (v60_1 ua ub uc ([Ai 3,Ai 10,Ai 30,Ai 1000])) (v60_2 ua ub uc ([Ai 3,Ai 10,Ai 30,Ai 1000])) (v60_3 ua ub uc ([Ai 3,Ai 10,Ai 30,Ai 1000]))))) none (fun p2=>K [AV.fl [.int .i64] p2.1] [some ⟨true,[],[AV.agg [AV.sl [.int .u8] p2.2.1,Ai p2.2.2.1,Ai p2.2.2.2]]⟩]))
 else none)
 else none):=by kernel_rfl
theorem r61 (a1:Int) (ua:List AV) (ub uc:Int) (K:List AV→List (Option Blk)→Option AV) (h:q61 a1 ua ub uc=true):inlA c61 1 61 [AV.ptr [1] 0 0,AV.int .i64 a1] [0] (canH 1 [⟨true,[],[AV.agg [AV.sl [.int .u8] ua,AV.int .i64 ub,AV.int .i64 uc]]⟩]) (keepG Try.prog 1 [24] [] K)=K [AV.fl [.int .i64] (v61_0 a1 ua ub uc)] [some ⟨true,[],[AV.agg [AV.sl [.int .u8] (v61_1 a1 ua ub uc),AV.int .i64 (v61_2 a1 ua ub uc),AV.int .i64 (v61_3 a1 ua ub uc)]]⟩]:=(e61 a1 ua ub uc K).trans ((brL (brL (brO (fun o:Option (((List AV) × (List AV) × Int × Int))=>K [AV.fl [.int .i64] (ro o [] (fun p2=>p2.1))] [some ⟨true,[],[AV.agg [AV.sl [.int .u8] (ro o [] (fun p2=>p2.2.1)),AV.int .i64 (ro o 0 (fun p2=>p2.2.2.1)),AV.int .i64 (ro o 0 (fun p2=>p2.2.2.2))]]⟩]) (fun p2=>(fun _=>rfl))))) h)
def m61:GModel
 | [.ptr g0 g1 g2,.int .i64 a1],[⟨true,[],[.agg [.sl g3 ua,.int .i64 ub,.int .i64 uc]]⟩]=>bif nmEq g0 ([1]) && Nat.beq g1 0 && Nat.beq g2 0 && ctsEq g3 ([.int .u8]) then some (q61 a1 ua ub uc,[AV.fl [.int .i64] (v61_0 a1 ua ub uc)],[some ⟨true,[],[AV.agg [AV.sl [.int .u8] (v61_1 a1 ua ub uc),AV.int .i64 (v61_2 a1 ua ub uc),AV.int .i64 (v61_3 a1 ua ub uc)]]⟩]) else none
 | _,_=>none
theorem k61:Known Try.prog 61:=⟨Try.f61,Try.func61,by kernel_rfl,by kernel_rfl⟩
theorem meets61:MeetsG Try.prog 61 m61:=by
 refine meetG (rt:=[24]) (gs:=[]) (f:=Try.f61) (l:=[(0,sub [1,1,1,0,1,0,0] (body Try.f61))]) (hs:=[(61,0,[0,5,6,7]),(61,999,[4]),(61,1000,[5]),(61,1001,[0,5,6,7])]) (ts:=[]) (ws:=[(57,.g m57),(60,.g m60)]) (is:=[]) (ls:=[(61,0,l61_0)]) (lvl:=0) mixed k61 Try.func61 (by kernel_rfl) (loops_cons ok61_0 noLoop) allT_nil (allG_cons meets57 (allG_cons meets60 allM_nil)) noI fun C w xs us bs r bs' hl hv hh h K=>?_
 unfold m61 at h
 split at h
 ·rename_i g0 g1 g2 a1 g3 ua ub uc
  obtain ⟨hg,h⟩:=bif_pair h
  simp only [Bool.and_eq_true] at hg
  obtain ⟨⟨⟨q0,q1⟩,q2⟩,q3⟩:=hg
  obtain rfl:=(nmEq_iff _ _).1 q0
  obtain rfl:=Nat.eq_of_beq_eq_true q1
  obtain rfl:=Nat.eq_of_beq_eq_true q2
  obtain rfl:=ctsEq_eq _ _ q3
  obtain ⟨h1,rfl,rfl⟩:=trip_inj h
  exact r61 a1 ua ub uc K h1
 ·cases h
noncomputable def c52:Cfg:=cfg Try.prog [(52,999,[6])] [] [] [] []
def q52 (a0 a1 a2:Int):Bool:=true
def v52_0 (a0 a1 a2:Int):Bool:=(bif decide (a0 ≥ a1) then decide (a0≤a2) else false)
theorem e52 (a0 a1 a2:Int):funA c52 0 52 [Ai a0,Ai a1,Ai a2]=(bif decide (a0 ≥ a1) then some (AV.bool (decide (a0≤a2)))
 else some (AV.bool false)):=by kernel_rfl
def m52:TModel
 | [.int .i64 a0,.int .i64 a1,.int .i64 a2]=>some (true,AV.bool (v52_0 a0 a1 a2))
 | _=>none
theorem k52:Known Try.prog 52:=⟨Try.f52,Try.func52,by kernel_rfl,by kernel_rfl⟩
theorem meets52:Meets Try.prog 52 m52:=by
 refine meet (f:=Try.f52) (l:=[]) (hs:=[(52,999,[6])]) (ts:=[]) (ws:=[]) (is:=[]) (ls:=[]) (lvl:=0) mixed k52 Try.func52 (by kernel_rfl) noLoop allT_nil allM_nil noI fun w xs us r hl hv h=>?_
 unfold m52 at h
 split at h
 ·rename_i a0 a1 a2
  obtain ⟨h1,rfl⟩:=pair_inj h
  exact (e52 a0 a1 a2).trans (of_tt (brT (fun b=>some (AV.bool (bif b then decide (a0≤a2) else false))) (fun _=>rfl) (fun _=>rfl)))
 ·cases h
def F36_0 (t0:List AV) (t3:Int):Out (Int) (Unit ⊕ Unit):=(bif decide (t3<(t0.length:Int)) then (bif (decide (0≤t3) && decide (t3<(t0.length:Int))) then (bif !(v52_0 (fI (t0.getD t3.toNat .undef) 0) (-999) 999) then .stop (.inr ())
 else .next (IntKind.i64.wrap (t3+1)))
 else .fail)
 else .stop (.inl ()))
def R36_0 (t0:List AV):(Int)→Out (Int) (Unit ⊕ Unit):=fun s:Int=>F36_0 t0 s
def E36_0 (t0:List AV):(Int)→St:=fun s:Int=>⟨[(0,AV.sl [.int .i64] t0),(3,Ai s)],[]⟩
def K36_0 (t0:List AV) (k:Kont):(Unit ⊕ Unit)→Option AV:=sumE (fun _:Unit=>k (.exit 0) ⟨[(0,AV.sl [.int .i64] t0)],[]⟩) (fun _:Unit=>k .ret ⟨[(2,AV.bool false)],[]⟩)
def l36_0:LModel:=fun _ _ st k=>match st with
 | ⟨[(0,.sl g0 t0),(3,.int .i64 t3)],[]⟩=>bif ctsEq g0 ([.int .i64]) then ro (runW (R36_0 t0) (((t0.length:Int) - t3:Int).toNat+1) t3) none (K36_0 t0 k) else none
 | _=>none
noncomputable def c36:Cfg:=cfg Try.prog [(36,0,[0,3]),(36,999,[2]),(36,1000,[0]),(36,1001,[0,3])] [(52,m52)] [] [] [(36,0,l36_0)]
theorem s36_0 (ce:CallE) (t0:List AV) (t3:Int) (next:St→Option AV) (k:Kont):stepA (codeA c36 ce [] 36 0 (sub [1,0,1,0,0] (body Try.f36))) (normA [] [0,3]) next ⟨[(0,AV.sl [.int .i64] t0),(3,Ai t3)],[]⟩ k=(bif decide (t3<(t0.length:Int)) then (bif (decide (0≤t3) && decide (t3<(t0.length:Int))) then (bif !(v52_0 (fI (t0.getD t3.toNat .undef) 0) (-999) 999) then k .ret ⟨[(2,AV.bool false)],[]⟩
 else next ⟨[(0,AV.sl [.int .i64] t0),(3,Ai (IntKind.i64.wrap (t3+1)))],[]⟩)
 else none)
 else k (.exit 0) ⟨[(0,AV.sl [.int .i64] t0)],[]⟩):=by kernel_rfl
theorem st36_0 (t0:List AV) (ce:CallE) (k:Kont) (s:Int) (next:St→Option AV):stepA (codeA c36 ce [] 36 0 (sub [1,0,1,0,0] (body Try.f36))) (normA [] [0,3]) next ((E36_0 t0) s) k=(R36_0 t0 s).el none (fun s=>next ((E36_0 t0) s)) (K36_0 t0 k):=(s36_0 ce t0 s next k).trans (by unfold R36_0;unfold F36_0;simp only [el_cond,el_ro,el_sum,el_fail,el_next,el_stop] <;> rfl)
theorem ok36_0 {ce:CallE}:LoopOK c36 ce [] 36 0 (sub [1,0,1,0,0] (body Try.f36)):=by
 intro m hm st k r h
 obtain rfl:l36_0=m:=Option.some.inj hm
 unfold l36_0 at h
 split at h
 ·rename_i g0 t0 t3
  obtain ⟨hg,h⟩:=bif_some h
  have q0:=hg
  obtain rfl:=ctsEq_eq _ _ q0
  refine ⟨(((t0.length:Int) - t3:Int).toNat+1),?_⟩
  rw [← h]
  exact loop_run (E36_0 t0) (K36_0 t0 k) (st36_0 t0 ce k) _ t3
 ·cases h
def q36 (a0:List AV):Bool:=(ro (runW (R36_0 a0) (((a0.length:Int) - 0:Int).toNat+1) 0) false (sumE (fun _=>true) (fun _=>true)))
def v36_0 (a0:List AV):Bool:=(ro (runW (R36_0 a0) (((a0.length:Int) - 0:Int).toNat+1) 0) false (sumE (fun _=>decide ((a0.length:Int)≤64)) (fun _=>false)))
theorem e36 (a0:List AV):funA c36 0 36 [AV.sl [.int .i64] a0]=(ro (runW (R36_0 a0) (((a0.length:Int) - 0:Int).toNat+1) 0) none (sumE (fun _=>some (AV.bool (decide ((a0.length:Int)≤64)))) (fun _=>some (AV.bool false)))):=by kernel_rfl
def m36:TModel
 | [.sl g0 a0]=>bif ctsEq g0 ([.int .i64]) then some (q36 a0,AV.bool (v36_0 a0)) else none
 | _=>none
theorem k36:Known Try.prog 36:=⟨Try.f36,Try.func36,by kernel_rfl,by kernel_rfl⟩
theorem meets36:Meets Try.prog 36 m36:=by
 refine meet (f:=Try.f36) (l:=[(0,sub [1,0,1,0,0] (body Try.f36))]) (hs:=[(36,0,[0,3]),(36,999,[2]),(36,1000,[0]),(36,1001,[0,3])]) (ts:=[(52,m52)]) (ws:=[]) (is:=[]) (ls:=[(36,0,l36_0)]) (lvl:=0) mixed k36 Try.func36 (by kernel_rfl) (loops_cons ok36_0 noLoop) (allT_cons meets52 allT_nil) allM_nil noI fun w xs us r hl hv h=>?_
 unfold m36 at h
 split at h
 ·rename_i g0 a0
  obtain ⟨hg,h⟩:=bif_pair h
  have q0:=hg
  obtain rfl:=ctsEq_eq _ _ q0
  obtain ⟨h1,rfl⟩:=pair_inj h
  exact (e36 a0).trans ((brO (fun o:Option (Unit ⊕ Unit)=>some (AV.bool (ro o false (sumE (fun _=>decide ((a0.length:Int)≤64)) (fun _=>false))))) (brS (fun o:Unit ⊕ Unit=>some (AV.bool ((sumE (fun _=>decide ((a0.length:Int)≤64)) (fun _=>false)) o))) (fun _=>(fun _=>rfl)) (fun _=>(fun _=>rfl)))) h1)
 ·cases h
def F35_0_s0 (t0 h0:List AV) (t4:Int):Out (Int ⊕ (Int × (List AV))) (Unit ⊕ ((List AV))):=(bif decide (t4<(t0.length:Int)) then (bif (decide ((([AV.int .i64 t4]).length)*8≤140737488355328) && decide ((([AV.int .i64 t4]).length)≤140737488355328)) then .next (.inr (IntKind.i64.wrap (t4+1),[AV.int .i64 t4]))
 else .fail)
 else .stop (.inl ()))
def F35_0_s1 (t0 h0:List AV) (t4:Int) (h1:List AV):Out (Int ⊕ (Int × (List AV))) (Unit ⊕ ((List AV))):=(bif decide (t4<(t0.length:Int)) then (bif (decide ((h1.length+([AV.int .i64 t4]).length)*8≤140737488355328) && decide ((h1.length+([AV.int .i64 t4]).length)≤140737488355328)) then .next (.inr (IntKind.i64.wrap (t4+1),h1++([AV.int .i64 t4])))
 else .fail)
 else .stop (.inr h1))
def R35_0 (t0 h0:List AV):(Int ⊕ (Int × (List AV)))→Out (Int ⊕ (Int × (List AV))) (Unit ⊕ ((List AV))):=sumE (fun s:Int=>F35_0_s0 t0 h0 s) (fun s:Int × (List AV)=>F35_0_s1 t0 h0 s.1 s.2)
def E35_0 (t0 h0:List AV):(Int ⊕ (Int × (List AV)))→St:=sumE (fun s:Int=>⟨[(0,AV.sl [.int .i64] t0),(2,AV.ptr [0,2] 0 0),(3,AV.ptr [0,3] 0 0),(4,Ai s)],[([0,0,3],⟨false,[.int .i64],h0⟩),([0,2],⟨true,[],[AV.agg [AV.snil,AV.snil,AV.snil]]⟩),([0,3],⟨true,[],[AV.agg [AV.own [0,0,3],AV.snil,AV.snil]]⟩)]⟩) (fun s:Int × (List AV)=>⟨[(0,AV.sl [.int .i64] t0),(2,AV.ptr [0,2] 0 0),(3,AV.ptr [0,3] 0 0),(4,Ai s.1)],[([0,0,3],⟨false,[.int .i64],h0⟩),([0,1,3],⟨false,[.int .i64],s.2⟩),([0,2],⟨true,[],[AV.agg [AV.snil,AV.snil,AV.snil]]⟩),([0,3],⟨true,[],[AV.agg [AV.own [0,0,3],AV.own [0,1,3],AV.snil]]⟩)]⟩)
def K35_0 (h0:List AV) (k:Kont):(Unit ⊕ ((List AV)))→Option AV:=sumE (fun _:Unit=>k (.exit 0) ⟨[(2,AV.ptr [0,2] 0 0),(3,AV.ptr [0,3] 0 0)],[([0,0,3],⟨false,[.int .i64],h0⟩),([0,2],⟨true,[],[AV.agg [AV.snil,AV.snil,AV.snil]]⟩),([0,3],⟨true,[],[AV.agg [AV.own [0,0,3],AV.snil,AV.snil]]⟩)]⟩) (fun p:(List AV)=>k (.exit 0) ⟨[(2,AV.ptr [0,2] 0 0),(3,AV.ptr [0,3] 0 0)],[([0,0,3],⟨false,[.int .i64],h0⟩),([0,1,3],⟨false,[.int .i64],p⟩),([0,2],⟨true,[],[AV.agg [AV.snil,AV.snil,AV.snil]]⟩),([0,3],⟨true,[],[AV.agg [AV.own [0,0,3],AV.own [0,1,3],AV.snil]]⟩)]⟩)
def l35_0:LModel:=fun _ _ st k=>match st with
 | ⟨[(0,.sl g0 t0),(2,.ptr g1 g2 g3),(3,.ptr g4 g5 g6),(4,.int .i64 t4)],[(g7,⟨false,g8,h0⟩),(g9,⟨true,[],[.agg [.snil,.snil,.snil]]⟩),(g10,⟨true,[],[.agg [.own g11,.snil,.snil]]⟩)]⟩=>bif ctsEq g0 ([.int .i64]) && nmEq g1 ([0,2]) && Nat.beq g2 0 && Nat.beq g3 0 && nmEq g4 ([0,3]) && Nat.beq g5 0 && Nat.beq g6 0 && nmEq g7 ([0,0,3]) && ctsEq g8 ([.int .i64]) && nmEq g9 ([0,2]) && nmEq g10 ([0,3]) && nmEq g11 ([0,0,3]) then ro (runW (R35_0 t0 h0) (((t0.length:Int) - t4:Int).toNat+1) (.inl t4)) none (K35_0 h0 k) else none
 | ⟨[(0,.sl g0 t0),(2,.ptr g1 g2 g3),(3,.ptr g4 g5 g6),(4,.int .i64 t4)],[(g7,⟨false,g8,h0⟩),(g9,⟨false,g10,h1⟩),(g11,⟨true,[],[.agg [.snil,.snil,.snil]]⟩),(g12,⟨true,[],[.agg [.own g13,.own g14,.snil]]⟩)]⟩=>bif ctsEq g0 ([.int .i64]) && nmEq g1 ([0,2]) && Nat.beq g2 0 && Nat.beq g3 0 && nmEq g4 ([0,3]) && Nat.beq g5 0 && Nat.beq g6 0 && nmEq g7 ([0,0,3]) && ctsEq g8 ([.int .i64]) && nmEq g9 ([0,1,3]) && ctsEq g10 ([.int .i64]) && nmEq g11 ([0,2]) && nmEq g12 ([0,3]) && nmEq g13 ([0,0,3]) && nmEq g14 ([0,1,3]) then ro (runW (R35_0 t0 h0) (((t0.length:Int) - t4:Int).toNat+1) (.inr (t4,h1))) none (K35_0 h0 k) else none
 | _=>none
noncomputable def c35:Cfg:=cfg Try.prog [(35,0,[0,2,3,4]),(35,999,[2]),(35,1000,[2,3]),(35,1001,[0,2,3,4])] [(36,m36)] [] [] [(35,0,l35_0)]
theorem s35_0_s0 (ce:CallE) (t0:List AV) (t4:Int) (h0:List AV) (next:St→Option AV) (k:Kont):stepA (codeA c35 ce [] 35 0 (sub [1,1,1,0,1,0,0] (body Try.f35))) (normA [] [0,2,3,4]) next ⟨[(0,AV.sl [.int .i64] t0),(2,AV.ptr [0,2] 0 0),(3,AV.ptr [0,3] 0 0),(4,Ai t4)],[([0,0,3],⟨false,[.int .i64],h0⟩),([0,2],⟨true,[],[AV.agg [AV.snil,AV.snil,AV.snil]]⟩),([0,3],⟨true,[],[AV.agg [AV.own [0,0,3],AV.snil,AV.snil]]⟩)]⟩ k=(bif decide (t4<(t0.length:Int)) then (bif (decide ((([Ai t4]).length)*8≤140737488355328) && decide ((([Ai t4]).length)≤140737488355328)) then next ⟨[(0,AV.sl [.int .i64] t0),(2,AV.ptr [0,2] 0 0),(3,AV.ptr [0,3] 0 0),(4,Ai (IntKind.i64.wrap (t4+1)))],[([0,0,3],⟨false,[.int .i64],h0⟩),([0,1,3],⟨false,[.int .i64],[Ai t4]⟩),([0,2],⟨true,[],[AV.agg [AV.snil,AV.snil,AV.snil]]⟩),([0,3],⟨true,[],[AV.agg [AV.own [0,0,3],AV.own [0,1,3],AV.snil]]⟩)]⟩
 else none)
 else k (.exit 0) ⟨[(2,AV.ptr [0,2] 0 0),(3,AV.ptr [0,3] 0 0)],[([0,0,3],⟨false,[.int .i64],h0⟩),([0,2],⟨true,[],[AV.agg [AV.snil,AV.snil,AV.snil]]⟩),([0,3],⟨true,[],[AV.agg [AV.own [0,0,3],AV.snil,AV.snil]]⟩)]⟩):=by kernel_rfl
theorem s35_0_s1 (ce:CallE) (t0:List AV) (t4:Int) (h0 h1:List AV) (next:St→Option AV) (k:Kont):stepA (codeA c35 ce [] 35 0 (sub [1,1,1,0,1,0,0] (body Try.f35))) (normA [] [0,2,3,4]) next ⟨[(0,AV.sl [.int .i64] t0),(2,AV.ptr [0,2] 0 0),(3,AV.ptr [0,3] 0 0),(4,Ai t4)],[([0,0,3],⟨false,[.int .i64],h0⟩),([0,1,3],⟨false,[.int .i64],h1⟩),([0,2],⟨true,[],[AV.agg [AV.snil,AV.snil,AV.snil]]⟩),([0,3],⟨true,[],[AV.agg [AV.own [0,0,3],AV.own [0,1,3],AV.snil]]⟩)]⟩ k=(bif decide (t4<(t0.length:Int)) then (bif (decide ((h1.length+([Ai t4]).length)*8≤140737488355328) && decide ((h1.length+([Ai t4]).length)≤140737488355328)) then next ⟨[(0,AV.sl [.int .i64] t0),(2,AV.ptr [0,2] 0 0),(3,AV.ptr [0,3] 0 0),(4,Ai (IntKind.i64.wrap (t4+1)))],[([0,0,3],⟨false,[.int .i64],h0⟩),([0,1,3],⟨false,[.int .i64],h1++([Ai t4])⟩),([0,2],⟨true,[],[AV.agg [AV.snil,AV.snil,AV.snil]]⟩),([0,3],⟨true,[],[AV.agg [AV.own [0,0,3],AV.own [0,1,3],AV.snil]]⟩)]⟩
 else none)
 else k (.exit 0) ⟨[(2,AV.ptr [0,2] 0 0),(3,AV.ptr [0,3] 0 0)],[([0,0,3],⟨false,[.int .i64],h0⟩),([0,1,3],⟨false,[.int .i64],h1⟩),([0,2],⟨true,[],[AV.agg [AV.snil,AV.snil,AV.snil]]⟩),([0,3],⟨true,[],[AV.agg [AV.own [0,0,3],AV.own [0,1,3],AV.snil]]⟩)]⟩):=by kernel_rfl
theorem st35_0 (t0 h0:List AV) (ce:CallE) (k:Kont) (s:Int ⊕ (Int × (List AV))) (next:St→Option AV):stepA (codeA c35 ce [] 35 0 (sub [1,1,1,0,1,0,0] (body Try.f35))) (normA [] [0,2,3,4]) next ((E35_0 t0 h0) s) k=(R35_0 t0 h0 s).el none (fun s=>next ((E35_0 t0 h0) s)) (K35_0 h0 k):=(match s with | .inl s=>(s35_0_s0 ce t0 s h0 next k).trans (by unfold R35_0;unfold F35_0_s0;simp only [el_cond,el_ro,el_sum,el_fail,el_next,el_stop] <;> rfl) | .inr s=>(s35_0_s1 ce t0 s.1 h0 s.2 next k).trans (by unfold R35_0;unfold F35_0_s1;simp only [el_cond,el_ro,el_sum,el_fail,el_next,el_stop] <;> rfl))
theorem ok35_0 {ce:CallE}:LoopOK c35 ce [] 35 0 (sub [1,1,1,0,1,0,0] (body Try.f35)):=by
 intro m hm st k r h
 obtain rfl:l35_0=m:=Option.some.inj hm
 unfold l35_0 at h
 split at h
 ·rename_i g0 t0 g1 g2 g3 g4 g5 g6 t4 g7 g8 h0 g9 g10 g11
  obtain ⟨hg,h⟩:=bif_some h
  simp only [Bool.and_eq_true] at hg
  obtain ⟨⟨⟨⟨⟨⟨⟨⟨⟨⟨⟨q0,q1⟩,q2⟩,q3⟩,q4⟩,q5⟩,q6⟩,q7⟩,q8⟩,q9⟩,q10⟩,q11⟩:=hg
  obtain rfl:=ctsEq_eq _ _ q0
  obtain rfl:=(nmEq_iff _ _).1 q1
  obtain rfl:=Nat.eq_of_beq_eq_true q2
  obtain rfl:=Nat.eq_of_beq_eq_true q3
  obtain rfl:=(nmEq_iff _ _).1 q4
  obtain rfl:=Nat.eq_of_beq_eq_true q5
  obtain rfl:=Nat.eq_of_beq_eq_true q6
  obtain rfl:=(nmEq_iff _ _).1 q7
  obtain rfl:=ctsEq_eq _ _ q8
  obtain rfl:=(nmEq_iff _ _).1 q9
  obtain rfl:=(nmEq_iff _ _).1 q10
  obtain rfl:=(nmEq_iff _ _).1 q11
  refine ⟨(((t0.length:Int) - t4:Int).toNat+1),?_⟩
  rw [← h]
  exact loop_run (E35_0 t0 h0) (K35_0 h0 k) (st35_0 t0 h0 ce k) _ (.inl t4)
 ·rename_i g0 t0 g1 g2 g3 g4 g5 g6 t4 g7 g8 h0 g9 g10 h1 g11 g12 g13 g14
  obtain ⟨hg,h⟩:=bif_some h
  simp only [Bool.and_eq_true] at hg
  obtain ⟨⟨⟨⟨⟨⟨⟨⟨⟨⟨⟨⟨⟨⟨q0,q1⟩,q2⟩,q3⟩,q4⟩,q5⟩,q6⟩,q7⟩,q8⟩,q9⟩,q10⟩,q11⟩,q12⟩,q13⟩,q14⟩:=hg
  obtain rfl:=ctsEq_eq _ _ q0
  obtain rfl:=(nmEq_iff _ _).1 q1
  obtain rfl:=Nat.eq_of_beq_eq_true q2
  obtain rfl:=Nat.eq_of_beq_eq_true q3
  obtain rfl:=(nmEq_iff _ _).1 q4
  obtain rfl:=Nat.eq_of_beq_eq_true q5
  obtain rfl:=Nat.eq_of_beq_eq_true q6
  obtain rfl:=(nmEq_iff _ _).1 q7
  obtain rfl:=ctsEq_eq _ _ q8
  obtain rfl:=(nmEq_iff _ _).1 q9
  obtain rfl:=ctsEq_eq _ _ q10
  obtain rfl:=(nmEq_iff _ _).1 q11
  obtain rfl:=(nmEq_iff _ _).1 q12
  obtain rfl:=(nmEq_iff _ _).1 q13
  obtain rfl:=(nmEq_iff _ _).1 q14
  refine ⟨(((t0.length:Int) - t4:Int).toNat+1),?_⟩
  rw [← h]
  exact loop_run (E35_0 t0 h0) (K35_0 h0 k) (st35_0 t0 h0 ce k) _ (.inr (t4,h1))
 ·cases h
def q35 (a0:List AV):Bool:=(q36 a0 && (bif !(v36_0 a0) then true else ((decide ((([]:List AV).length+a0.length)*8≤140737488355328) && decide ((([]:List AV).length+a0.length)≤140737488355328)) && (ro (runW (R35_0 a0 (([]:List AV)++a0)) (((a0.length:Int) - 0:Int).toNat+1) (.inl 0)) false (sumE (fun _=>true) (fun p6=>true))))))
def v35_0 (a0:List AV):List AV:=(bif !(v36_0 a0) then ([]:List AV) else ([]:List AV)++a0)
def v35_1 (a0:List AV):List AV:=(bif !(v36_0 a0) then ([]:List AV) else (ro (runW (R35_0 a0 (([]:List AV)++a0)) (((a0.length:Int) - 0:Int).toNat+1) (.inl 0)) [] (sumE (fun _=>([]:List AV)) (fun p6=>p6))))
def v35_2 (a0:List AV):List AV:=([]:List AV)
theorem e35 (a0:List AV):funA c35 0 35 [AV.sl [.int .i64] a0]=(bif q36 a0 then (bif !(v36_0 a0) then some (AV.agg [AV.fl [.int .i64] ([]:List AV),AV.fl [.int .i64] ([]:List AV),AV.fl [.int .i64,.int .i64] ([]:List AV)])
 else (bif (decide ((([]:List AV).length+a0.length)*8≤140737488355328) && decide ((([]:List AV).length+a0.length)≤140737488355328)) then (ro (runW (R35_0 a0 (([]:List AV)++a0)) (((a0.length:Int) - 0:Int).toNat+1) (.inl 0)) none (sumE (fun _=>some (AV.agg [AV.fl [.int .i64] (([]:List AV)++a0),AV.fl [.int .i64] ([]:List AV),AV.fl [.int .i64,.int .i64] ([]:List AV)])) (fun p6=>some (AV.agg [AV.fl [.int .i64] (([]:List AV)++a0),AV.fl [.int .i64] p6,AV.fl [.int .i64,.int .i64] ([]:List AV)]))))
 else none))
 else none):=by kernel_rfl
def m35:TModel
 | [.sl g0 a0]=>bif ctsEq g0 ([.int .i64]) then some (q35 a0,AV.agg [AV.fl [.int .i64] (v35_0 a0),AV.fl [.int .i64] (v35_1 a0),AV.fl [.int .i64,.int .i64] (v35_2 a0)]) else none
 | _=>none
theorem k35:Known Try.prog 35:=⟨Try.f35,Try.func35,by kernel_rfl,by kernel_rfl⟩
theorem meets35:Meets Try.prog 35 m35:=by
 refine meet (f:=Try.f35) (l:=[(0,sub [1,1,1,0,1,0,0] (body Try.f35))]) (hs:=[(35,0,[0,2,3,4]),(35,999,[2]),(35,1000,[2,3]),(35,1001,[0,2,3,4])]) (ts:=[(36,m36)]) (ws:=[]) (is:=[]) (ls:=[(35,0,l35_0)]) (lvl:=0) mixed k35 Try.func35 (by kernel_rfl) (loops_cons ok35_0 noLoop) (allT_cons meets36 allT_nil) allM_nil noI fun w xs us r hl hv h=>?_
 unfold m35 at h
 split at h
 ·rename_i g0 a0
  obtain ⟨hg,h⟩:=bif_pair h
  have q0:=hg
  obtain rfl:=ctsEq_eq _ _ q0
  obtain ⟨h1,rfl⟩:=pair_inj h
  exact (e35 a0).trans ((brL (br (fun b=>some (AV.agg [AV.fl [.int .i64] (bif b then ([]:List AV) else ([]:List AV)++a0),AV.fl [.int .i64] (bif b then ([]:List AV) else (ro (runW (R35_0 a0 (([]:List AV)++a0)) (((a0.length:Int) - 0:Int).toNat+1) (.inl 0)) [] (sumE (fun _=>([]:List AV)) (fun p6=>p6)))),AV.fl [.int .i64,.int .i64] ([]:List AV)])) (fun _=>rfl) (brL (brO (fun o:Option (Unit ⊕ ((List AV)))=>some (AV.agg [AV.fl [.int .i64] (([]:List AV)++a0),AV.fl [.int .i64] (ro o [] (sumE (fun _=>([]:List AV)) (fun p6=>p6))),AV.fl [.int .i64,.int .i64] ([]:List AV)])) (brS (fun o:Unit ⊕ ((List AV))=>some (AV.agg [AV.fl [.int .i64] (([]:List AV)++a0),AV.fl [.int .i64] ((sumE (fun _=>([]:List AV)) (fun p6=>p6)) o),AV.fl [.int .i64,.int .i64] ([]:List AV)])) (fun _=>(fun _=>rfl)) (fun p6=>(fun _=>rfl))))))) h1)
 ·cases h
def F107_0_s0 (t0:List AV) (t4 h0:Int) (h1:List AV) (h2:Int) (h3 h4:List AV):Out ((Int × Int × (List AV) × Int × (List AV) × (List AV)) ⊕ (Int × (List AV) × Int × (List AV) × Int × (List AV) × (List AV))) ((Int × (List AV) × Int × (List AV) × (List AV)) ⊕ ((List AV) × Int × (List AV) × Int × (List AV) × (List AV))):=(bif decide (t4<(t0.length:Int)) then (bif (decide (0≤t4) && decide (t4<(t0.length:Int))) then (bif (decide ((([AV.agg [AV.int .i64 (fI (t0.getD t4.toNat .undef) 0),AV.int .i64 t4,AV.int .i64 0,AV.int .i64 (-1)]]).length)*32≤140737488355328) && decide ((([AV.agg [AV.int .i64 (fI (t0.getD t4.toNat .undef) 0),AV.int .i64 t4,AV.int .i64 0,AV.int .i64 (-1)]]).length)≤140737488355328)) then .next (.inr (IntKind.i64.wrap (t4+1),[AV.agg [AV.int .i64 (fI (t0.getD t4.toNat .undef) 0),AV.int .i64 t4,AV.int .i64 0,AV.int .i64 (-1)]],h0,h1,h2,h3,h4))
 else .fail)
 else .fail)
 else .stop (.inl (h0,h1,h2,h3,h4)))
def F107_0_s1 (t0:List AV) (t4:Int) (h0:List AV) (h1:Int) (h2:List AV) (h3:Int) (h4 h5:List AV):Out ((Int × Int × (List AV) × Int × (List AV) × (List AV)) ⊕ (Int × (List AV) × Int × (List AV) × Int × (List AV) × (List AV))) ((Int × (List AV) × Int × (List AV) × (List AV)) ⊕ ((List AV) × Int × (List AV) × Int × (List AV) × (List AV))):=(bif decide (t4<(t0.length:Int)) then (bif (decide (0≤t4) && decide (t4<(t0.length:Int))) then (bif (decide ((h0.length+([AV.agg [AV.int .i64 (fI (t0.getD t4.toNat .undef) 0),AV.int .i64 t4,AV.int .i64 0,AV.int .i64 (-1)]]).length)*32≤140737488355328) && decide ((h0.length+([AV.agg [AV.int .i64 (fI (t0.getD t4.toNat .undef) 0),AV.int .i64 t4,AV.int .i64 0,AV.int .i64 (-1)]]).length)≤140737488355328)) then .next (.inr (IntKind.i64.wrap (t4+1),h0++([AV.agg [AV.int .i64 (fI (t0.getD t4.toNat .undef) 0),AV.int .i64 t4,AV.int .i64 0,AV.int .i64 (-1)]]),h1,h2,h3,h4,h5))
 else .fail)
 else .fail)
 else .stop (.inr (h0,h1,h2,h3,h4,h5)))
def R107_0 (t0:List AV):((Int × Int × (List AV) × Int × (List AV) × (List AV)) ⊕ (Int × (List AV) × Int × (List AV) × Int × (List AV) × (List AV)))→Out ((Int × Int × (List AV) × Int × (List AV) × (List AV)) ⊕ (Int × (List AV) × Int × (List AV) × Int × (List AV) × (List AV))) ((Int × (List AV) × Int × (List AV) × (List AV)) ⊕ ((List AV) × Int × (List AV) × Int × (List AV) × (List AV))):=sumE (fun s:Int × Int × (List AV) × Int × (List AV) × (List AV)=>F107_0_s0 t0 s.1 s.2.1 s.2.2.1 s.2.2.2.1 s.2.2.2.2.1 s.2.2.2.2.2) (fun s:Int × (List AV) × Int × (List AV) × Int × (List AV) × (List AV)=>F107_0_s1 t0 s.1 s.2.1 s.2.2.1 s.2.2.2.1 s.2.2.2.2.1 s.2.2.2.2.2.1 s.2.2.2.2.2.2)
def E107_0 (t0:List AV):((Int × Int × (List AV) × Int × (List AV) × (List AV)) ⊕ (Int × (List AV) × Int × (List AV) × Int × (List AV) × (List AV)))→St:=sumE (fun s:Int × Int × (List AV) × Int × (List AV) × (List AV)=>⟨[(0,AV.sl [.int .i64] t0),(2,AV.ptr [0,2] 0 0),(3,AV.ptr [0,3] 0 0),(4,Ai s.1)],[([0,2],⟨true,[],[AV.agg [AV.snil,Ai s.2.1,AV.snil,AV.snil,AV.snil]]⟩),([0,2,3],⟨false,[.int .i64],s.2.2.1⟩),([0,3],⟨true,[],[AV.agg [AV.snil,Ai s.2.2.2.1,AV.own [0,2,3],AV.own [0,3,3],AV.own [0,4,3]]]⟩),([0,3,3],⟨false,[.int .i64],s.2.2.2.2.1⟩),([0,4,3],⟨false,[.int .i64,.int .i64],s.2.2.2.2.2⟩)]⟩) (fun s:Int × (List AV) × Int × (List AV) × Int × (List AV) × (List AV)=>⟨[(0,AV.sl [.int .i64] t0),(2,AV.ptr [0,2] 0 0),(3,AV.ptr [0,3] 0 0),(4,Ai s.1)],[([0,0,3],⟨false,[.int .i64,.int .i64,.int .i64,.int .i64],s.2.1⟩),([0,2],⟨true,[],[AV.agg [AV.snil,Ai s.2.2.1,AV.snil,AV.snil,AV.snil]]⟩),([0,2,3],⟨false,[.int .i64],s.2.2.2.1⟩),([0,3],⟨true,[],[AV.agg [AV.own [0,0,3],Ai s.2.2.2.2.1,AV.own [0,2,3],AV.own [0,3,3],AV.own [0,4,3]]]⟩),([0,3,3],⟨false,[.int .i64],s.2.2.2.2.2.1⟩),([0,4,3],⟨false,[.int .i64,.int .i64],s.2.2.2.2.2.2⟩)]⟩)
def K107_0 (k:Kont):((Int × (List AV) × Int × (List AV) × (List AV)) ⊕ ((List AV) × Int × (List AV) × Int × (List AV) × (List AV)))→Option AV:=sumE (fun p:Int × (List AV) × Int × (List AV) × (List AV)=>k (.exit 0) ⟨[(2,AV.ptr [0,2] 0 0),(3,AV.ptr [0,3] 0 0)],[([0,2],⟨true,[],[AV.agg [AV.snil,Ai p.1,AV.snil,AV.snil,AV.snil]]⟩),([0,2,3],⟨false,[.int .i64],p.2.1⟩),([0,3],⟨true,[],[AV.agg [AV.snil,Ai p.2.2.1,AV.own [0,2,3],AV.own [0,3,3],AV.own [0,4,3]]]⟩),([0,3,3],⟨false,[.int .i64],p.2.2.2.1⟩),([0,4,3],⟨false,[.int .i64,.int .i64],p.2.2.2.2⟩)]⟩) (fun p:(List AV) × Int × (List AV) × Int × (List AV) × (List AV)=>k (.exit 0) ⟨[(2,AV.ptr [0,2] 0 0),(3,AV.ptr [0,3] 0 0)],[([0,0,3],⟨false,[.int .i64,.int .i64,.int .i64,.int .i64],p.1⟩),([0,2],⟨true,[],[AV.agg [AV.snil,Ai p.2.1,AV.snil,AV.snil,AV.snil]]⟩),([0,2,3],⟨false,[.int .i64],p.2.2.1⟩),([0,3],⟨true,[],[AV.agg [AV.own [0,0,3],Ai p.2.2.2.1,AV.own [0,2,3],AV.own [0,3,3],AV.own [0,4,3]]]⟩),([0,3,3],⟨false,[.int .i64],p.2.2.2.2.1⟩),([0,4,3],⟨false,[.int .i64,.int .i64],p.2.2.2.2.2⟩)]⟩)
def l107_0:LModel:=fun _ _ st k=>match st with
 | ⟨[(0,.sl g0 t0),(2,.ptr g1 g2 g3),(3,.ptr g4 g5 g6),(4,.int .i64 t4)],[(g7,⟨true,[],[.agg [.snil,.int .i64 h0,.snil,.snil,.snil]]⟩),(g8,⟨false,g9,h1⟩),(g10,⟨true,[],[.agg [.snil,.int .i64 h2,.own g11,.own g12,.own g13]]⟩),(g14,⟨false,g15,h3⟩),(g16,⟨false,g17,h4⟩)]⟩=>bif ctsEq g0 ([.int .i64]) && nmEq g1 ([0,2]) && Nat.beq g2 0 && Nat.beq g3 0 && nmEq g4 ([0,3]) && Nat.beq g5 0 && Nat.beq g6 0 && nmEq g7 ([0,2]) && nmEq g8 ([0,2,3]) && ctsEq g9 ([.int .i64]) && nmEq g10 ([0,3]) && nmEq g11 ([0,2,3]) && nmEq g12 ([0,3,3]) && nmEq g13 ([0,4,3]) && nmEq g14 ([0,3,3]) && ctsEq g15 ([.int .i64]) && nmEq g16 ([0,4,3]) && ctsEq g17 ([.int .i64,.int .i64]) then ro (runW (R107_0 t0) (((t0.length:Int) - t4:Int).toNat+1) (.inl (t4,h0,h1,h2,h3,h4))) none (K107_0 k) else none
 | ⟨[(0,.sl g0 t0),(2,.ptr g1 g2 g3),(3,.ptr g4 g5 g6),(4,.int .i64 t4)],[(g7,⟨false,g8,h0⟩),(g9,⟨true,[],[.agg [.snil,.int .i64 h1,.snil,.snil,.snil]]⟩),(g10,⟨false,g11,h2⟩),(g12,⟨true,[],[.agg [.own g13,.int .i64 h3,.own g14,.own g15,.own g16]]⟩),(g17,⟨false,g18,h4⟩),(g19,⟨false,g20,h5⟩)]⟩=>bif ctsEq g0 ([.int .i64]) && nmEq g1 ([0,2]) && Nat.beq g2 0 && Nat.beq g3 0 && nmEq g4 ([0,3]) && Nat.beq g5 0 && Nat.beq g6 0 && nmEq g7 ([0,0,3]) && ctsEq g8 ([.int .i64,.int .i64,.int .i64,.int .i64]) && nmEq g9 ([0,2]) && nmEq g10 ([0,2,3]) && ctsEq g11 ([.int .i64]) && nmEq g12 ([0,3]) && nmEq g13 ([0,0,3]) && nmEq g14 ([0,2,3]) && nmEq g15 ([0,3,3]) && nmEq g16 ([0,4,3]) && nmEq g17 ([0,3,3]) && ctsEq g18 ([.int .i64]) && nmEq g19 ([0,4,3]) && ctsEq g20 ([.int .i64,.int .i64]) then ro (runW (R107_0 t0) (((t0.length:Int) - t4:Int).toNat+1) (.inr (t4,h0,h1,h2,h3,h4,h5))) none (K107_0 k) else none
 | _=>none
noncomputable def c107:Cfg:=cfg Try.prog [(107,0,[0,2,3,4]),(107,999,[2]),(107,1000,[2,3]),(107,1001,[0,2,3,4])] [(35,m35),(36,m36)] [] [] [(107,0,l107_0)]
theorem s107_0_s0 (ce:CallE) (t0:List AV) (t4 h0:Int) (h1:List AV) (h2:Int) (h3 h4:List AV) (next:St→Option AV) (k:Kont):stepA (codeA c107 ce [] 107 0 (sub [1,1,1,0,1,0,0] (body Try.f107))) (normA [] [0,2,3,4]) next ⟨[(0,AV.sl [.int .i64] t0),(2,AV.ptr [0,2] 0 0),(3,AV.ptr [0,3] 0 0),(4,Ai t4)],[([0,2],⟨true,[],[AV.agg [AV.snil,Ai h0,AV.snil,AV.snil,AV.snil]]⟩),([0,2,3],⟨false,[.int .i64],h1⟩),([0,3],⟨true,[],[AV.agg [AV.snil,Ai h2,AV.own [0,2,3],AV.own [0,3,3],AV.own [0,4,3]]]⟩),([0,3,3],⟨false,[.int .i64],h3⟩),([0,4,3],⟨false,[.int .i64,.int .i64],h4⟩)]⟩ k=(bif decide (t4<(t0.length:Int)) then (bif (decide (0≤t4) && decide (t4<(t0.length:Int))) then (bif (decide ((([AV.agg [Ai (fI (t0.getD t4.toNat .undef) 0),Ai t4,Ai 0,Ai (-1)]]).length)*32≤140737488355328) && decide ((([AV.agg [Ai (fI (t0.getD t4.toNat .undef) 0),Ai t4,Ai 0,Ai (-1)]]).length)≤140737488355328)) then next ⟨[(0,AV.sl [.int .i64] t0),(2,AV.ptr [0,2] 0 0),(3,AV.ptr [0,3] 0 0),(4,Ai (IntKind.i64.wrap (t4+1)))],[([0,0,3],⟨false,[.int .i64,.int .i64,.int .i64,.int .i64],[AV.agg [Ai (fI (t0.getD t4.toNat .undef) 0),Ai t4,Ai 0,Ai (-1)]]⟩),([0,2],⟨true,[],[AV.agg [AV.snil,Ai h0,AV.snil,AV.snil,AV.snil]]⟩),([0,2,3],⟨false,[.int .i64],h1⟩),([0,3],⟨true,[],[AV.agg [AV.own [0,0,3],Ai h2,AV.own [0,2,3],AV.own [0,3,3],AV.own [0,4,3]]]⟩),([0,3,3],⟨false,[.int .i64],h3⟩),([0,4,3],⟨false,[.int .i64,.int .i64],h4⟩)]⟩
 else none)
 else none)
 else k (.exit 0) ⟨[(2,AV.ptr [0,2] 0 0),(3,AV.ptr [0,3] 0 0)],[([0,2],⟨true,[],[AV.agg [AV.snil,Ai h0,AV.snil,AV.snil,AV.snil]]⟩),([0,2,3],⟨false,[.int .i64],h1⟩),([0,3],⟨true,[],[AV.agg [AV.snil,Ai h2,AV.own [0,2,3],AV.own [0,3,3],AV.own [0,4,3]]]⟩),([0,3,3],⟨false,[.int .i64],h3⟩),([0,4,3],⟨false,[.int .i64,.int .i64],h4⟩)]⟩):=by kernel_rfl
theorem s107_0_s1 (ce:CallE) (t0:List AV) (t4:Int) (h0:List AV) (h1:Int) (h2:List AV) (h3:Int) (h4 h5:List AV) (next:St→Option AV) (k:Kont):stepA (codeA c107 ce [] 107 0 (sub [1,1,1,0,1,0,0] (body Try.f107))) (normA [] [0,2,3,4]) next ⟨[(0,AV.sl [.int .i64] t0),(2,AV.ptr [0,2] 0 0),(3,AV.ptr [0,3] 0 0),(4,Ai t4)],[([0,0,3],⟨false,[.int .i64,.int .i64,.int .i64,.int .i64],h0⟩),([0,2],⟨true,[],[AV.agg [AV.snil,Ai h1,AV.snil,AV.snil,AV.snil]]⟩),([0,2,3],⟨false,[.int .i64],h2⟩),([0,3],⟨true,[],[AV.agg [AV.own [0,0,3],Ai h3,AV.own [0,2,3],AV.own [0,3,3],AV.own [0,4,3]]]⟩),([0,3,3],⟨false,[.int .i64],h4⟩),([0,4,3],⟨false,[.int .i64,.int .i64],h5⟩)]⟩ k=(bif decide (t4<(t0.length:Int)) then (bif (decide (0≤t4) && decide (t4<(t0.length:Int))) then (bif (decide ((h0.length+([AV.agg [Ai (fI (t0.getD t4.toNat .undef) 0),Ai t4,Ai 0,Ai (-1)]]).length)*32≤140737488355328) && decide ((h0.length+([AV.agg [Ai (fI (t0.getD t4.toNat .undef) 0),Ai t4,Ai 0,Ai (-1)]]).length)≤140737488355328)) then next ⟨[(0,AV.sl [.int .i64] t0),(2,AV.ptr [0,2] 0 0),(3,AV.ptr [0,3] 0 0),(4,Ai (IntKind.i64.wrap (t4+1)))],[([0,0,3],⟨false,[.int .i64,.int .i64,.int .i64,.int .i64],h0++([AV.agg [Ai (fI (t0.getD t4.toNat .undef) 0),Ai t4,Ai 0,Ai (-1)]])⟩),([0,2],⟨true,[],[AV.agg [AV.snil,Ai h1,AV.snil,AV.snil,AV.snil]]⟩),([0,2,3],⟨false,[.int .i64],h2⟩),([0,3],⟨true,[],[AV.agg [AV.own [0,0,3],Ai h3,AV.own [0,2,3],AV.own [0,3,3],AV.own [0,4,3]]]⟩),([0,3,3],⟨false,[.int .i64],h4⟩),([0,4,3],⟨false,[.int .i64,.int .i64],h5⟩)]⟩
 else none)
 else none)
 else k (.exit 0) ⟨[(2,AV.ptr [0,2] 0 0),(3,AV.ptr [0,3] 0 0)],[([0,0,3],⟨false,[.int .i64,.int .i64,.int .i64,.int .i64],h0⟩),([0,2],⟨true,[],[AV.agg [AV.snil,Ai h1,AV.snil,AV.snil,AV.snil]]⟩),([0,2,3],⟨false,[.int .i64],h2⟩),([0,3],⟨true,[],[AV.agg [AV.own [0,0,3],Ai h3,AV.own [0,2,3],AV.own [0,3,3],AV.own [0,4,3]]]⟩),([0,3,3],⟨false,[.int .i64],h4⟩),([0,4,3],⟨false,[.int .i64,.int .i64],h5⟩)]⟩):=by kernel_rfl
theorem st107_0 (t0:List AV) (ce:CallE) (k:Kont) (s:(Int × Int × (List AV) × Int × (List AV) × (List AV)) ⊕ (Int × (List AV) × Int × (List AV) × Int × (List AV) × (List AV))) (next:St→Option AV):stepA (codeA c107 ce [] 107 0 (sub [1,1,1,0,1,0,0] (body Try.f107))) (normA [] [0,2,3,4]) next ((E107_0 t0) s) k=(R107_0 t0 s).el none (fun s=>next ((E107_0 t0) s)) (K107_0 k):=(match s with | .inl s=>(s107_0_s0 ce t0 s.1 s.2.1 s.2.2.1 s.2.2.2.1 s.2.2.2.2.1 s.2.2.2.2.2 next k).trans (by unfold R107_0;unfold F107_0_s0;simp only [el_cond,el_ro,el_sum,el_fail,el_next,el_stop] <;> rfl) | .inr s=>(s107_0_s1 ce t0 s.1 s.2.1 s.2.2.1 s.2.2.2.1 s.2.2.2.2.1 s.2.2.2.2.2.1 s.2.2.2.2.2.2 next k).trans (by unfold R107_0;unfold F107_0_s1;simp only [el_cond,el_ro,el_sum,el_fail,el_next,el_stop] <;> rfl))
theorem ok107_0 {ce:CallE}:LoopOK c107 ce [] 107 0 (sub [1,1,1,0,1,0,0] (body Try.f107)):=by
 intro m hm st k r h
 obtain rfl:l107_0=m:=Option.some.inj hm
 unfold l107_0 at h
 split at h
 ·rename_i g0 t0 g1 g2 g3 g4 g5 g6 t4 g7 h0 g8 g9 h1 g10 h2 g11 g12 g13 g14 g15 h3 g16 g17 h4
  obtain ⟨hg,h⟩:=bif_some h
  simp only [Bool.and_eq_true] at hg
  obtain ⟨⟨⟨⟨⟨⟨⟨⟨⟨⟨⟨⟨⟨⟨⟨⟨⟨q0,q1⟩,q2⟩,q3⟩,q4⟩,q5⟩,q6⟩,q7⟩,q8⟩,q9⟩,q10⟩,q11⟩,q12⟩,q13⟩,q14⟩,q15⟩,q16⟩,q17⟩:=hg
  obtain rfl:=ctsEq_eq _ _ q0
  obtain rfl:=(nmEq_iff _ _).1 q1
  obtain rfl:=Nat.eq_of_beq_eq_true q2
  obtain rfl:=Nat.eq_of_beq_eq_true q3
  obtain rfl:=(nmEq_iff _ _).1 q4
  obtain rfl:=Nat.eq_of_beq_eq_true q5
  obtain rfl:=Nat.eq_of_beq_eq_true q6
  obtain rfl:=(nmEq_iff _ _).1 q7
  obtain rfl:=(nmEq_iff _ _).1 q8
  obtain rfl:=ctsEq_eq _ _ q9
  obtain rfl:=(nmEq_iff _ _).1 q10
  obtain rfl:=(nmEq_iff _ _).1 q11
  obtain rfl:=(nmEq_iff _ _).1 q12
  obtain rfl:=(nmEq_iff _ _).1 q13
  obtain rfl:=(nmEq_iff _ _).1 q14
  obtain rfl:=ctsEq_eq _ _ q15
  obtain rfl:=(nmEq_iff _ _).1 q16
  obtain rfl:=ctsEq_eq _ _ q17
  refine ⟨(((t0.length:Int) - t4:Int).toNat+1),?_⟩
  rw [← h]
  exact loop_run (E107_0 t0) (K107_0 k) (st107_0 t0 ce k) _ (.inl (t4,h0,h1,h2,h3,h4))
 ·rename_i g0 t0 g1 g2 g3 g4 g5 g6 t4 g7 g8 h0 g9 h1 g10 g11 h2 g12 g13 h3 g14 g15 g16 g17 g18 h4 g19 g20 h5
  obtain ⟨hg,h⟩:=bif_some h
  simp only [Bool.and_eq_true] at hg
  obtain ⟨⟨⟨⟨⟨⟨⟨⟨⟨⟨⟨⟨⟨⟨⟨⟨⟨⟨⟨⟨q0,q1⟩,q2⟩,q3⟩,q4⟩,q5⟩,q6⟩,q7⟩,q8⟩,q9⟩,q10⟩,q11⟩,q12⟩,q13⟩,q14⟩,q15⟩,q16⟩,q17⟩,q18⟩,q19⟩,q20⟩:=hg
  obtain rfl:=ctsEq_eq _ _ q0
  obtain rfl:=(nmEq_iff _ _).1 q1
  obtain rfl:=Nat.eq_of_beq_eq_true q2
  obtain rfl:=Nat.eq_of_beq_eq_true q3
  obtain rfl:=(nmEq_iff _ _).1 q4
  obtain rfl:=Nat.eq_of_beq_eq_true q5
  obtain rfl:=Nat.eq_of_beq_eq_true q6
  obtain rfl:=(nmEq_iff _ _).1 q7
  obtain rfl:=ctsEq_eq _ _ q8
  obtain rfl:=(nmEq_iff _ _).1 q9
  obtain rfl:=(nmEq_iff _ _).1 q10
  obtain rfl:=ctsEq_eq _ _ q11
  obtain rfl:=(nmEq_iff _ _).1 q12
  obtain rfl:=(nmEq_iff _ _).1 q13
  obtain rfl:=(nmEq_iff _ _).1 q14
  obtain rfl:=(nmEq_iff _ _).1 q15
  obtain rfl:=(nmEq_iff _ _).1 q16
  obtain rfl:=(nmEq_iff _ _).1 q17
  obtain rfl:=ctsEq_eq _ _ q18
  obtain rfl:=(nmEq_iff _ _).1 q19
  obtain rfl:=ctsEq_eq _ _ q20
  refine ⟨(((t0.length:Int) - t4:Int).toNat+1),?_⟩
  rw [← h]
  exact loop_run (E107_0 t0) (K107_0 k) (st107_0 t0 ce k) _ (.inr (t4,h0,h1,h2,h3,h4,h5))
 ·cases h
def q107 (a0:List AV):Bool:=(q36 a0 && (bif !(v36_0 a0) then true else (q35 a0 && (ro (runW (R107_0 a0) (((a0.length:Int) - 0:Int).toNat+1) (.inl (0,0,(v35_0 a0),0,(v35_1 a0),(v35_2 a0)))) false (sumE (fun p7=>true) (fun p8=>true))))))
def v107_0 (a0:List AV):List AV:=(bif !(v36_0 a0) then ([]:List AV) else (ro (runW (R107_0 a0) (((a0.length:Int) - 0:Int).toNat+1) (.inl (0,0,(v35_0 a0),0,(v35_1 a0),(v35_2 a0)))) [] (sumE (fun p7=>([]:List AV)) (fun p8=>p8.1))))
def v107_1 (a0:List AV):Int:=(bif !(v36_0 a0) then 0 else (ro (runW (R107_0 a0) (((a0.length:Int) - 0:Int).toNat+1) (.inl (0,0,(v35_0 a0),0,(v35_1 a0),(v35_2 a0)))) 0 (sumE (fun p7=>p7.2.2.1) (fun p8=>p8.2.2.2.1))))
def v107_2 (a0:List AV):List AV:=(bif !(v36_0 a0) then ([]:List AV) else (ro (runW (R107_0 a0) (((a0.length:Int) - 0:Int).toNat+1) (.inl (0,0,(v35_0 a0),0,(v35_1 a0),(v35_2 a0)))) [] (sumE (fun p7=>p7.2.1) (fun p8=>p8.2.2.1))))
def v107_3 (a0:List AV):List AV:=(bif !(v36_0 a0) then ([]:List AV) else (ro (runW (R107_0 a0) (((a0.length:Int) - 0:Int).toNat+1) (.inl (0,0,(v35_0 a0),0,(v35_1 a0),(v35_2 a0)))) [] (sumE (fun p7=>p7.2.2.2.1) (fun p8=>p8.2.2.2.2.1))))
def v107_4 (a0:List AV):List AV:=(bif !(v36_0 a0) then ([]:List AV) else (ro (runW (R107_0 a0) (((a0.length:Int) - 0:Int).toNat+1) (.inl (0,0,(v35_0 a0),0,(v35_1 a0),(v35_2 a0)))) [] (sumE (fun p7=>p7.2.2.2.2) (fun p8=>p8.2.2.2.2.2))))
theorem e107 (a0:List AV):funA c107 0 107 [AV.sl [.int .i64] a0]=(bif q36 a0 then (bif !(v36_0 a0) then some (AV.agg [AV.fl [.int .i64,.int .i64,.int .i64,.int .i64] ([]:List AV),Ai 0,AV.fl [.int .i64] ([]:List AV),AV.fl [.int .i64] ([]:List AV),AV.fl [.int .i64,.int .i64] ([]:List AV)])
 else (bif q35 a0 then (ro (runW (R107_0 a0) (((a0.length:Int) - 0:Int).toNat+1) (.inl (0,0,(v35_0 a0),0,(v35_1 a0),(v35_2 a0)))) none (sumE (fun p7=>some (AV.agg [AV.fl [.int .i64,.int .i64,.int .i64,.int .i64] ([]:List AV),Ai p7.2.2.1,AV.fl [.int .i64] p7.2.1,AV.fl [.int .i64] p7.2.2.2.1,AV.fl [.int .i64,.int .i64] p7.2.2.2.2])) (fun p8=>some (AV.agg [AV.fl [.int .i64,.int .i64,.int .i64,.int .i64] p8.1,Ai p8.2.2.2.1,AV.fl [.int .i64] p8.2.2.1,AV.fl [.int .i64] p8.2.2.2.2.1,AV.fl [.int .i64,.int .i64] p8.2.2.2.2.2]))))
 else none))
 else none):=by kernel_rfl
def m107:TModel
 | [.sl g0 a0]=>bif ctsEq g0 ([.int .i64]) then some (q107 a0,AV.agg [AV.fl [.int .i64,.int .i64,.int .i64,.int .i64] (v107_0 a0),AV.int .i64 (v107_1 a0),AV.fl [.int .i64] (v107_2 a0),AV.fl [.int .i64] (v107_3 a0),AV.fl [.int .i64,.int .i64] (v107_4 a0)]) else none
 | _=>none
theorem k107:Known Try.prog 107:=⟨Try.f107,Try.func107,by kernel_rfl,by kernel_rfl⟩
theorem meets107:Meets Try.prog 107 m107:=by
 refine meet (f:=Try.f107) (l:=[(0,sub [1,1,1,0,1,0,0] (body Try.f107))]) (hs:=[(107,0,[0,2,3,4]),(107,999,[2]),(107,1000,[2,3]),(107,1001,[0,2,3,4])]) (ts:=[(35,m35),(36,m36)]) (ws:=[]) (is:=[]) (ls:=[(107,0,l107_0)]) (lvl:=0) mixed k107 Try.func107 (by kernel_rfl) (loops_cons ok107_0 noLoop) (allT_cons meets35 (allT_cons meets36 allT_nil)) allM_nil noI fun w xs us r hl hv h=>?_
 unfold m107 at h
 split at h
 ·rename_i g0 a0
  obtain ⟨hg,h⟩:=bif_pair h
  have q0:=hg
  obtain rfl:=ctsEq_eq _ _ q0
  obtain ⟨h1,rfl⟩:=pair_inj h
  exact (e107 a0).trans ((brL (br (fun b=>some (AV.agg [AV.fl [.int .i64,.int .i64,.int .i64,.int .i64] (bif b then ([]:List AV) else (ro (runW (R107_0 a0) (((a0.length:Int) - 0:Int).toNat+1) (.inl (0,0,(v35_0 a0),0,(v35_1 a0),(v35_2 a0)))) [] (sumE (fun p7=>([]:List AV)) (fun p8=>p8.1)))),Ai (bif b then 0 else (ro (runW (R107_0 a0) (((a0.length:Int) - 0:Int).toNat+1) (.inl (0,0,(v35_0 a0),0,(v35_1 a0),(v35_2 a0)))) 0 (sumE (fun p7=>p7.2.2.1) (fun p8=>p8.2.2.2.1)))),AV.fl [.int .i64] (bif b then ([]:List AV) else (ro (runW (R107_0 a0) (((a0.length:Int) - 0:Int).toNat+1) (.inl (0,0,(v35_0 a0),0,(v35_1 a0),(v35_2 a0)))) [] (sumE (fun p7=>p7.2.1) (fun p8=>p8.2.2.1)))),AV.fl [.int .i64] (bif b then ([]:List AV) else (ro (runW (R107_0 a0) (((a0.length:Int) - 0:Int).toNat+1) (.inl (0,0,(v35_0 a0),0,(v35_1 a0),(v35_2 a0)))) [] (sumE (fun p7=>p7.2.2.2.1) (fun p8=>p8.2.2.2.2.1)))),AV.fl [.int .i64,.int .i64] (bif b then ([]:List AV) else (ro (runW (R107_0 a0) (((a0.length:Int) - 0:Int).toNat+1) (.inl (0,0,(v35_0 a0),0,(v35_1 a0),(v35_2 a0)))) [] (sumE (fun p7=>p7.2.2.2.2) (fun p8=>p8.2.2.2.2.2))))])) (fun _=>rfl) (brL (brO (fun o:Option ((Int × (List AV) × Int × (List AV) × (List AV)) ⊕ ((List AV) × Int × (List AV) × Int × (List AV) × (List AV)))=>some (AV.agg [AV.fl [.int .i64,.int .i64,.int .i64,.int .i64] (ro o [] (sumE (fun p7=>([]:List AV)) (fun p8=>p8.1))),Ai (ro o 0 (sumE (fun p7=>p7.2.2.1) (fun p8=>p8.2.2.2.1))),AV.fl [.int .i64] (ro o [] (sumE (fun p7=>p7.2.1) (fun p8=>p8.2.2.1))),AV.fl [.int .i64] (ro o [] (sumE (fun p7=>p7.2.2.2.1) (fun p8=>p8.2.2.2.2.1))),AV.fl [.int .i64,.int .i64] (ro o [] (sumE (fun p7=>p7.2.2.2.2) (fun p8=>p8.2.2.2.2.2)))])) (brS (fun o:(Int × (List AV) × Int × (List AV) × (List AV)) ⊕ ((List AV) × Int × (List AV) × Int × (List AV) × (List AV))=>some (AV.agg [AV.fl [.int .i64,.int .i64,.int .i64,.int .i64] ((sumE (fun p7=>([]:List AV)) (fun p8=>p8.1)) o),Ai ((sumE (fun p7=>p7.2.2.1) (fun p8=>p8.2.2.2.1)) o),AV.fl [.int .i64] ((sumE (fun p7=>p7.2.1) (fun p8=>p8.2.2.1)) o),AV.fl [.int .i64] ((sumE (fun p7=>p7.2.2.2.1) (fun p8=>p8.2.2.2.2.1)) o),AV.fl [.int .i64,.int .i64] ((sumE (fun p7=>p7.2.2.2.2) (fun p8=>p8.2.2.2.2.2)) o)])) (fun p7=>(fun _=>rfl)) (fun p8=>(fun _=>rfl))))))) h1)
 ·cases h
noncomputable def c63:Cfg:=cfg Try.prog [(63,999,[4])] [] [(57,.g m57)] [] []
def q63 (a1:Int) (ua:List AV) (ub uc:Int):Bool:=q57 a1 ua ub uc
def v63_0 (a1:Int) (ua:List AV) (ub uc:Int):Bool:=decide ((v57_0 a1 ua ub uc)=0)
def v63_1 (a1:Int) (ua:List AV) (ub uc:Int):List AV:=(v57_1 a1 ua ub uc)
def v63_2 (a1:Int) (ua:List AV) (ub uc:Int):Int:=(v57_2 a1 ua ub uc)
def v63_3 (a1:Int) (ua:List AV) (ub uc:Int):Int:=(v57_3 a1 ua ub uc)
theorem e63 (a1:Int) (ua:List AV) (ub uc:Int) (K:List AV→List (Option Blk)→Option AV):inlA c63 1 63 [AV.ptr [1] 0 0,Ai a1] [0] (canH 1 [⟨true,[],[AV.agg [AV.sl [.int .u8] ua,Ai ub,Ai uc]]⟩]) (keepG Try.prog 1 [4] [] K)=(bif q57 a1 ua ub uc then K [AV.bool (decide ((v57_0 a1 ua ub uc)=0))] [some ⟨true,[],[AV.agg [AV.sl [.int .u8] (v57_1 a1 ua ub uc),Ai (v57_2 a1 ua ub uc),Ai (v57_3 a1 ua ub uc)]]⟩]
 else none):=by kernel_rfl
theorem r63 (a1:Int) (ua:List AV) (ub uc:Int) (K:List AV→List (Option Blk)→Option AV) (h:q63 a1 ua ub uc=true):inlA c63 1 63 [AV.ptr [1] 0 0,AV.int .i64 a1] [0] (canH 1 [⟨true,[],[AV.agg [AV.sl [.int .u8] ua,AV.int .i64 ub,AV.int .i64 uc]]⟩]) (keepG Try.prog 1 [4] [] K)=K [AV.bool (v63_0 a1 ua ub uc)] [some ⟨true,[],[AV.agg [AV.sl [.int .u8] (v63_1 a1 ua ub uc),AV.int .i64 (v63_2 a1 ua ub uc),AV.int .i64 (v63_3 a1 ua ub uc)]]⟩]:=(e63 a1 ua ub uc K).trans ((brL1 (fun _=>rfl)) h)
def m63:GModel
 | [.ptr g0 g1 g2,.int .i64 a1],[⟨true,[],[.agg [.sl g3 ua,.int .i64 ub,.int .i64 uc]]⟩]=>bif nmEq g0 ([1]) && Nat.beq g1 0 && Nat.beq g2 0 && ctsEq g3 ([.int .u8]) then some (q63 a1 ua ub uc,[AV.bool (v63_0 a1 ua ub uc)],[some ⟨true,[],[AV.agg [AV.sl [.int .u8] (v63_1 a1 ua ub uc),AV.int .i64 (v63_2 a1 ua ub uc),AV.int .i64 (v63_3 a1 ua ub uc)]]⟩]) else none
 | _,_=>none
theorem k63:Known Try.prog 63:=⟨Try.f63,Try.func63,by kernel_rfl,by kernel_rfl⟩
theorem meets63:MeetsG Try.prog 63 m63:=by
 refine meetG (rt:=[4]) (gs:=[]) (f:=Try.f63) (l:=[]) (hs:=[(63,999,[4])]) (ts:=[]) (ws:=[(57,.g m57)]) (is:=[]) (ls:=[]) (lvl:=0) mixed k63 Try.func63 (by kernel_rfl) noLoop allT_nil (allG_cons meets57 allM_nil) noI fun C w xs us bs r bs' hl hv hh h K=>?_
 unfold m63 at h
 split at h
 ·rename_i g0 g1 g2 a1 g3 ua ub uc
  obtain ⟨hg,h⟩:=bif_pair h
  simp only [Bool.and_eq_true] at hg
  obtain ⟨⟨⟨q0,q1⟩,q2⟩,q3⟩:=hg
  obtain rfl:=(nmEq_iff _ _).1 q0
  obtain rfl:=Nat.eq_of_beq_eq_true q1
  obtain rfl:=Nat.eq_of_beq_eq_true q2
  obtain rfl:=ctsEq_eq _ _ q3
  obtain ⟨h1,rfl,rfl⟩:=trip_inj h
  exact r63 a1 ua ub uc K h1
 ·cases h
noncomputable def c44:Cfg:=cfg Try.prog [(44,999,[4])] [] [(57,.g m57),(60,.g m60),(63,.g m63)] [] []
def q44 (ua:List AV) (ub uc:Int) (b1 b2 b3:List AV):Bool:=(bif decide ((b1.length:Int) > 0) then (q63 4 ua ub uc && (bif !(v63_0 4 ua ub uc) then (q57 (b1.length:Int) (v63_1 4 ua ub uc) (v63_2 4 ua ub uc) (v63_3 4 ua ub uc) && ((decide (0≤(v57_0 (b1.length:Int) (v63_1 4 ua ub uc) (v63_2 4 ua ub uc) (v63_3 4 ua ub uc))) && decide ((v57_0 (b1.length:Int) (v63_1 4 ua ub uc) (v63_2 4 ua ub uc) (v63_3 4 ua ub uc))<(b1.length:Int))) && q57 3 (v57_1 (b1.length:Int) (v63_1 4 ua ub uc) (v63_2 4 ua ub uc) (v63_3 4 ua ub uc)) (v57_2 (b1.length:Int) (v63_1 4 ua ub uc) (v63_2 4 ua ub uc) (v63_3 4 ua ub uc)) (v57_3 (b1.length:Int) (v63_1 4 ua ub uc) (v63_2 4 ua ub uc) (v63_3 4 ua ub uc)))) else q60 (v63_1 4 ua ub uc) (v63_2 4 ua ub uc) (v63_3 4 ua ub uc) ([AV.int .i64 0,AV.int .i64 3,AV.int .i64 (-2),AV.int .i64 (-1000),AV.int .i64 1000,AV.int .i64 50]))) else q60 ua ub uc ([AV.int .i64 0,AV.int .i64 3,AV.int .i64 (-2),AV.int .i64 (-1000),AV.int .i64 1000,AV.int .i64 50]))
def v44_0 (ua:List AV) (ub uc:Int) (b1 b2 b3:List AV):Int:=(bif decide ((b1.length:Int) > 0) then (bif !(v63_0 4 ua ub uc) then IntKind.i64.wrap (IntKind.i64.wrap (fI (b1.getD (v57_0 (b1.length:Int) (v63_1 4 ua ub uc) (v63_2 4 ua ub uc) (v63_3 4 ua ub uc)).toNat .undef) 0+(v57_0 3 (v57_1 (b1.length:Int) (v63_1 4 ua ub uc) (v63_2 4 ua ub uc) (v63_3 4 ua ub uc)) (v57_2 (b1.length:Int) (v63_1 4 ua ub uc) (v63_2 4 ua ub uc) (v63_3 4 ua ub uc)) (v57_3 (b1.length:Int) (v63_1 4 ua ub uc) (v63_2 4 ua ub uc) (v63_3 4 ua ub uc)))) - 1) else (v60_0 (v63_1 4 ua ub uc) (v63_2 4 ua ub uc) (v63_3 4 ua ub uc) ([AV.int .i64 0,AV.int .i64 3,AV.int .i64 (-2),AV.int .i64 (-1000),AV.int .i64 1000,AV.int .i64 50]))) else (v60_0 ua ub uc ([AV.int .i64 0,AV.int .i64 3,AV.int .i64 (-2),AV.int .i64 (-1000),AV.int .i64 1000,AV.int .i64 50])))
def v44_1 (ua:List AV) (ub uc:Int) (b1 b2 b3:List AV):List AV:=(bif decide ((b1.length:Int) > 0) then (bif !(v63_0 4 ua ub uc) then (v57_1 3 (v57_1 (b1.length:Int) (v63_1 4 ua ub uc) (v63_2 4 ua ub uc) (v63_3 4 ua ub uc)) (v57_2 (b1.length:Int) (v63_1 4 ua ub uc) (v63_2 4 ua ub uc) (v63_3 4 ua ub uc)) (v57_3 (b1.length:Int) (v63_1 4 ua ub uc) (v63_2 4 ua ub uc) (v63_3 4 ua ub uc))) else (v60_1 (v63_1 4 ua ub uc) (v63_2 4 ua ub uc) (v63_3 4 ua ub uc) ([AV.int .i64 0,AV.int .i64 3,AV.int .i64 (-2),AV.int .i64 (-1000),AV.int .i64 1000,AV.int .i64 50]))) else (v60_1 ua ub uc ([AV.int .i64 0,AV.int .i64 3,AV.int .i64 (-2),AV.int .i64 (-1000),AV.int .i64 1000,AV.int .i64 50])))
def v44_2 (ua:List AV) (ub uc:Int) (b1 b2 b3:List AV):Int:=(bif decide ((b1.length:Int) > 0) then (bif !(v63_0 4 ua ub uc) then (v57_2 3 (v57_1 (b1.length:Int) (v63_1 4 ua ub uc) (v63_2 4 ua ub uc) (v63_3 4 ua ub uc)) (v57_2 (b1.length:Int) (v63_1 4 ua ub uc) (v63_2 4 ua ub uc) (v63_3 4 ua ub uc)) (v57_3 (b1.length:Int) (v63_1 4 ua ub uc) (v63_2 4 ua ub uc) (v63_3 4 ua ub uc))) else (v60_2 (v63_1 4 ua ub uc) (v63_2 4 ua ub uc) (v63_3 4 ua ub uc) ([AV.int .i64 0,AV.int .i64 3,AV.int .i64 (-2),AV.int .i64 (-1000),AV.int .i64 1000,AV.int .i64 50]))) else (v60_2 ua ub uc ([AV.int .i64 0,AV.int .i64 3,AV.int .i64 (-2),AV.int .i64 (-1000),AV.int .i64 1000,AV.int .i64 50])))
def v44_3 (ua:List AV) (ub uc:Int) (b1 b2 b3:List AV):Int:=(bif decide ((b1.length:Int) > 0) then (bif !(v63_0 4 ua ub uc) then (v57_3 3 (v57_1 (b1.length:Int) (v63_1 4 ua ub uc) (v63_2 4 ua ub uc) (v63_3 4 ua ub uc)) (v57_2 (b1.length:Int) (v63_1 4 ua ub uc) (v63_2 4 ua ub uc) (v63_3 4 ua ub uc)) (v57_3 (b1.length:Int) (v63_1 4 ua ub uc) (v63_2 4 ua ub uc) (v63_3 4 ua ub uc))) else (v60_3 (v63_1 4 ua ub uc) (v63_2 4 ua ub uc) (v63_3 4 ua ub uc) ([AV.int .i64 0,AV.int .i64 3,AV.int .i64 (-2),AV.int .i64 (-1000),AV.int .i64 1000,AV.int .i64 50]))) else (v60_3 ua ub uc ([AV.int .i64 0,AV.int .i64 3,AV.int .i64 (-2),AV.int .i64 (-1000),AV.int .i64 1000,AV.int .i64 50])))
def v44_4 (ua:List AV) (ub uc:Int) (b1 b2 b3:List AV):List AV:=b1
def v44_5 (ua:List AV) (ub uc:Int) (b1 b2 b3:List AV):List AV:=b2
def v44_6 (ua:List AV) (ub uc:Int) (b1 b2 b3:List AV):List AV:=b3
theorem e44 (ua:List AV) (ub uc:Int) (b1 b2 b3:List AV) (K:List AV→List (Option Blk)→Option AV):inlA c44 1 44 [AV.ptr [1] 0 0,AV.agg [AV.own [2],AV.own [3],AV.own [4]]] [0] (canH 1 [⟨true,[],[AV.agg [AV.sl [.int .u8] ua,Ai ub,Ai uc]]⟩,⟨false,[.int .i64],b1⟩,⟨false,[.int .i64],b2⟩,⟨false,[.int .i64,.int .i64],b3⟩]) (keepG Try.prog 4 [3] [] K)=(bif decide ((b1.length:Int) > 0) then (bif q63 4 ua ub uc then (bif !(v63_0 4 ua ub uc) then (bif q57 (b1.length:Int) (v63_1 4 ua ub uc) (v63_2 4 ua ub uc) (v63_3 4 ua ub uc) then (bif (decide (0≤(v57_0 (b1.length:Int) (v63_1 4 ua ub uc) (v63_2 4 ua ub uc) (v63_3 4 ua ub uc))) && decide ((v57_0 (b1.length:Int) (v63_1 4 ua ub uc) (v63_2 4 ua ub uc) (v63_3 4 ua ub uc))<(b1.length:Int))) then (bif q57 3 (v57_1 (b1.length:Int) (v63_1 4 ua ub uc) (v63_2 4 ua ub uc) (v63_3 4 ua ub uc)) (v57_2 (b1.length:Int) (v63_1 4 ua ub uc) (v63_2 4 ua ub uc) (v63_3 4 ua ub uc)) (v57_3 (b1.length:Int) (v63_1 4 ua ub uc) (v63_2 4 ua ub uc) (v63_3 4 ua ub uc)) then K [Ai (IntKind.i64.wrap (IntKind.i64.wrap (fI (b1.getD (v57_0 (b1.length:Int) (v63_1 4 ua ub uc) (v63_2 4 ua ub uc) (v63_3 4 ua ub uc)).toNat .undef) 0+(v57_0 3 (v57_1 (b1.length:Int) (v63_1 4 ua ub uc) (v63_2 4 ua ub uc) (v63_3 4 ua ub uc)) (v57_2 (b1.length:Int) (v63_1 4 ua ub uc) (v63_2 4 ua ub uc) (v63_3 4 ua ub uc)) (v57_3 (b1.length:Int) (v63_1 4 ua ub uc) (v63_2 4 ua ub uc) (v63_3 4 ua ub uc)))) - 1))] [some ⟨true,[],[AV.agg [AV.sl [.int .u8] (v57_1 3 (v57_1 (b1.length:Int) (v63_1 4 ua ub uc) (v63_2 4 ua ub uc) (v63_3 4 ua ub uc)) (v57_2 (b1.length:Int) (v63_1 4 ua ub uc) (v63_2 4 ua ub uc) (v63_3 4 ua ub uc)) (v57_3 (b1.length:Int) (v63_1 4 ua ub uc) (v63_2 4 ua ub uc) (v63_3 4 ua ub uc))),Ai (v57_2 3 (v57_1 (b1.length:Int) (v63_1 4 ua ub uc) (v63_2 4 ua ub uc) (v63_3 4 ua ub uc)) (v57_2 (b1.length:Int) (v63_1 4 ua ub uc) (v63_2 4 ua ub uc) (v63_3 4 ua ub uc)) (v57_3 (b1.length:Int) (v63_1 4 ua ub uc) (v63_2 4 ua ub uc) (v63_3 4 ua ub uc))),Ai (v57_3 3 (v57_1 (b1.length:Int) (v63_1 4 ua ub uc) (v63_2 4 ua ub uc) (v63_3 4 ua ub uc)) (v57_2 (b1.length:Int) (v63_1 4 ua ub uc) (v63_2 4 ua ub uc) (v63_3 4 ua ub uc)) (v57_3 (b1.length:Int) (v63_1 4 ua ub uc) (v63_2 4 ua ub uc) (v63_3 4 ua ub uc)))]]⟩,some ⟨false,[.int .i64],b1⟩,some ⟨false,[.int .i64],b2⟩,some ⟨false,[.int .i64,.int .i64],b3⟩]
 else none)
 else none)
 else none)
 else (bif q60 (v63_1 4 ua ub uc) (v63_2 4 ua ub uc) (v63_3 4 ua ub uc) ([Ai 0,Ai 3,Ai (-2),Ai (-1000),Ai 1000,Ai 50]) then K [Ai (v60_0 (v63_1 4 ua ub uc) (v63_2 4 ua ub uc) (v63_3 4 ua ub uc) ([Ai 0,Ai 3,Ai (-2),Ai (-1000),Ai 1000,Ai 50]))] [some ⟨true,[],[AV.agg [AV.sl [.int .u8] (v60_1 (v63_1 4 ua ub uc) (v63_2 4 ua ub uc) (v63_3 4 ua ub uc) ([Ai 0,Ai 3,Ai (-2),Ai (-1000),Ai 1000,Ai 50])),Ai (v60_2 (v63_1 4 ua ub uc) (v63_2 4 ua ub uc) (v63_3 4 ua ub uc) ([Ai 0,Ai 3,Ai (-2),Ai (-1000),Ai 1000,Ai 50])),Ai (v60_3 (v63_1 4 ua ub uc) (v63_2 4 ua ub uc) (v63_3 4 ua ub uc) ([Ai 0,Ai 3,Ai (-2),Ai (-1000),Ai 1000,Ai 50]))]]⟩,some ⟨false,[.int .i64],b1⟩,some ⟨false,[.int .i64],b2⟩,some ⟨false,[.int .i64,.int .i64],b3⟩]
 else none))
 else none)
 else (bif q60 ua ub uc ([Ai 0,Ai 3,Ai (-2),Ai (-1000),Ai 1000,Ai 50]) then K [Ai (v60_0 ua ub uc ([Ai 0,Ai 3,Ai (-2),Ai (-1000),Ai 1000,Ai 50]))] [some ⟨true,[],[AV.agg [AV.sl [.int .u8] (v60_1 ua ub uc ([Ai 0,Ai 3,Ai (-2),Ai (-1000),Ai 1000,Ai 50])),Ai (v60_2 ua ub uc ([Ai 0,Ai 3,Ai (-2),Ai (-1000),Ai 1000,Ai 50])),Ai (v60_3 ua ub uc ([Ai 0,Ai 3,Ai (-2),Ai (-1000),Ai 1000,Ai 50]))]]⟩,some ⟨false,[.int .i64],b1⟩,some ⟨false,[.int .i64],b2⟩,some ⟨false,[.int .i64,.int .i64],b3⟩]
 else none)):=by kernel_rfl
theorem r44 (ua:List AV) (ub uc:Int) (b1 b2 b3:List AV) (K:List AV→List (Option Blk)→Option AV) (h:q44 ua ub uc b1 b2 b3=true):inlA c44 1 44 [AV.ptr [1] 0 0,AV.agg [AV.own [2],AV.own [3],AV.own [4]]] [0] (canH 1 [⟨true,[],[AV.agg [AV.sl [.int .u8] ua,AV.int .i64 ub,AV.int .i64 uc]]⟩,⟨false,[.int .i64],b1⟩,⟨false,[.int .i64],b2⟩,⟨false,[.int .i64,.int .i64],b3⟩]) (keepG Try.prog 4 [3] [] K)=K [AV.int .i64 (v44_0 ua ub uc b1 b2 b3)] [some ⟨true,[],[AV.agg [AV.sl [.int .u8] (v44_1 ua ub uc b1 b2 b3),AV.int .i64 (v44_2 ua ub uc b1 b2 b3),AV.int .i64 (v44_3 ua ub uc b1 b2 b3)]]⟩,some ⟨false,[.int .i64],(v44_4 ua ub uc b1 b2 b3)⟩,some ⟨false,[.int .i64],(v44_5 ua ub uc b1 b2 b3)⟩,some ⟨false,[.int .i64,.int .i64],(v44_6 ua ub uc b1 b2 b3)⟩]:=(e44 ua ub uc b1 b2 b3 K).trans ((br (fun b=>K [AV.int .i64 (bif b then (bif !(v63_0 4 ua ub uc) then IntKind.i64.wrap (IntKind.i64.wrap (fI (b1.getD (v57_0 (b1.length:Int) (v63_1 4 ua ub uc) (v63_2 4 ua ub uc) (v63_3 4 ua ub uc)).toNat .undef) 0+(v57_0 3 (v57_1 (b1.length:Int) (v63_1 4 ua ub uc) (v63_2 4 ua ub uc) (v63_3 4 ua ub uc)) (v57_2 (b1.length:Int) (v63_1 4 ua ub uc) (v63_2 4 ua ub uc) (v63_3 4 ua ub uc)) (v57_3 (b1.length:Int) (v63_1 4 ua ub uc) (v63_2 4 ua ub uc) (v63_3 4 ua ub uc)))) - 1) else (v60_0 (v63_1 4 ua ub uc) (v63_2 4 ua ub uc) (v63_3 4 ua ub uc) ([AV.int .i64 0,AV.int .i64 3,AV.int .i64 (-2),AV.int .i64 (-1000),AV.int .i64 1000,AV.int .i64 50]))) else (v60_0 ua ub uc ([AV.int .i64 0,AV.int .i64 3,AV.int .i64 (-2),AV.int .i64 (-1000),AV.int .i64 1000,AV.int .i64 50])))] [some ⟨true,[],[AV.agg [AV.sl [.int .u8] (bif b then (bif !(v63_0 4 ua ub uc) then (v57_1 3 (v57_1 (b1.length:Int) (v63_1 4 ua ub uc) (v63_2 4 ua ub uc) (v63_3 4 ua ub uc)) (v57_2 (b1.length:Int) (v63_1 4 ua ub uc) (v63_2 4 ua ub uc) (v63_3 4 ua ub uc)) (v57_3 (b1.length:Int) (v63_1 4 ua ub uc) (v63_2 4 ua ub uc) (v63_3 4 ua ub uc))) else (v60_1 (v63_1 4 ua ub uc) (v63_2 4 ua ub uc) (v63_3 4 ua ub uc) ([AV.int .i64 0,AV.int .i64 3,AV.int .i64 (-2),AV.int .i64 (-1000),AV.int .i64 1000,AV.int .i64 50]))) else (v60_1 ua ub uc ([AV.int .i64 0,AV.int .i64 3,AV.int .i64 (-2),AV.int .i64 (-1000),AV.int .i64 1000,AV.int .i64 50]))),AV.int .i64 (bif b then (bif !(v63_0 4 ua ub uc) then (v57_2 3 (v57_1 (b1.length:Int) (v63_1 4 ua ub uc) (v63_2 4 ua ub uc) (v63_3 4 ua ub uc)) (v57_2 (b1.length:Int) (v63_1 4 ua ub uc) (v63_2 4 ua ub uc) (v63_3 4 ua ub uc)) (v57_3 (b1.length:Int) (v63_1 4 ua ub uc) (v63_2 4 ua ub uc) (v63_3 4 ua ub uc))) else (v60_2 (v63_1 4 ua ub uc) (v63_2 4 ua ub uc) (v63_3 4 ua ub uc) ([AV.int .i64 0,AV.int .i64 3,AV.int .i64 (-2),AV.int .i64 (-1000),AV.int .i64 1000,AV.int .i64 50]))) else (v60_2 ua ub uc ([AV.int .i64 0,AV.int .i64 3,AV.int .i64 (-2),AV.int .i64 (-1000),AV.int .i64 1000,AV.int .i64 50]))),AV.int .i64 (bif b then (bif !(v63_0 4 ua ub uc) then (v57_3 3 (v57_1 (b1.length:Int) (v63_1 4 ua ub uc) (v63_2 4 ua ub uc) (v63_3 4 ua ub uc)) (v57_2 (b1.length:Int) (v63_1 4 ua ub uc) (v63_2 4 ua ub uc) (v63_3 4 ua ub uc)) (v57_3 (b1.length:Int) (v63_1 4 ua ub uc) (v63_2 4 ua ub uc) (v63_3 4 ua ub uc))) else (v60_3 (v63_1 4 ua ub uc) (v63_2 4 ua ub uc) (v63_3 4 ua ub uc) ([AV.int .i64 0,AV.int .i64 3,AV.int .i64 (-2),AV.int .i64 (-1000),AV.int .i64 1000,AV.int .i64 50]))) else (v60_3 ua ub uc ([AV.int .i64 0,AV.int .i64 3,AV.int .i64 (-2),AV.int .i64 (-1000),AV.int .i64 1000,AV.int .i64 50])))]]⟩,some ⟨false,[.int .i64],b1⟩,some ⟨false,[.int .i64],b2⟩,some ⟨false,[.int .i64,.int .i64],b3⟩]) (brL (br (fun b=>K [AV.int .i64 (bif b then IntKind.i64.wrap (IntKind.i64.wrap (fI (b1.getD (v57_0 (b1.length:Int) (v63_1 4 ua ub uc) (v63_2 4 ua ub uc) (v63_3 4 ua ub uc)).toNat .undef) 0+(v57_0 3 (v57_1 (b1.length:Int) (v63_1 4 ua ub uc) (v63_2 4 ua ub uc) (v63_3 4 ua ub uc)) (v57_2 (b1.length:Int) (v63_1 4 ua ub uc) (v63_2 4 ua ub uc) (v63_3 4 ua ub uc)) (v57_3 (b1.length:Int) (v63_1 4 ua ub uc) (v63_2 4 ua ub uc) (v63_3 4 ua ub uc)))) - 1) else (v60_0 (v63_1 4 ua ub uc) (v63_2 4 ua ub uc) (v63_3 4 ua ub uc) ([AV.int .i64 0,AV.int .i64 3,AV.int .i64 (-2),AV.int .i64 (-1000),AV.int .i64 1000,AV.int .i64 50])))] [some ⟨true,[],[AV.agg [AV.sl [.int .u8] (bif b then (v57_1 3 (v57_1 (b1.length:Int) (v63_1 4 ua ub uc) (v63_2 4 ua ub uc) (v63_3 4 ua ub uc)) (v57_2 (b1.length:Int) (v63_1 4 ua ub uc) (v63_2 4 ua ub uc) (v63_3 4 ua ub uc)) (v57_3 (b1.length:Int) (v63_1 4 ua ub uc) (v63_2 4 ua ub uc) (v63_3 4 ua ub uc))) else (v60_1 (v63_1 4 ua ub uc) (v63_2 4 ua ub uc) (v63_3 4 ua ub uc) ([AV.int .i64 0,AV.int .i64 3,AV.int .i64 (-2),AV.int .i64 (-1000),AV.int .i64 1000,AV.int .i64 50]))),AV.int .i64 (bif b then (v57_2 3 (v57_1 (b1.length:Int) (v63_1 4 ua ub uc) (v63_2 4 ua ub uc) (v63_3 4 ua ub uc)) (v57_2 (b1.length:Int) (v63_1 4 ua ub uc) (v63_2 4 ua ub uc) (v63_3 4 ua ub uc)) (v57_3 (b1.length:Int) (v63_1 4 ua ub uc) (v63_2 4 ua ub uc) (v63_3 4 ua ub uc))) else (v60_2 (v63_1 4 ua ub uc) (v63_2 4 ua ub uc) (v63_3 4 ua ub uc) ([AV.int .i64 0,AV.int .i64 3,AV.int .i64 (-2),AV.int .i64 (-1000),AV.int .i64 1000,AV.int .i64 50]))),AV.int .i64 (bif b then (v57_3 3 (v57_1 (b1.length:Int) (v63_1 4 ua ub uc) (v63_2 4 ua ub uc) (v63_3 4 ua ub uc)) (v57_2 (b1.length:Int) (v63_1 4 ua ub uc) (v63_2 4 ua ub uc) (v63_3 4 ua ub uc)) (v57_3 (b1.length:Int) (v63_1 4 ua ub uc) (v63_2 4 ua ub uc) (v63_3 4 ua ub uc))) else (v60_3 (v63_1 4 ua ub uc) (v63_2 4 ua ub uc) (v63_3 4 ua ub uc) ([AV.int .i64 0,AV.int .i64 3,AV.int .i64 (-2),AV.int .i64 (-1000),AV.int .i64 1000,AV.int .i64 50])))]]⟩,some ⟨false,[.int .i64],b1⟩,some ⟨false,[.int .i64],b2⟩,some ⟨false,[.int .i64,.int .i64],b3⟩]) (brL (brL (brL1 (fun _=>rfl)))) (brL1 (fun _=>rfl)))) (brL1 (fun _=>rfl))) h)
def m44:GModel
 | [.ptr g0 g1 g2,.agg [.own g3,.own g4,.own g5]],[⟨true,[],[.agg [.sl g6 ua,.int .i64 ub,.int .i64 uc]]⟩,⟨false,g7,b1⟩,⟨false,g8,b2⟩,⟨false,g9,b3⟩]=>bif nmEq g0 ([1]) && Nat.beq g1 0 && Nat.beq g2 0 && nmEq g3 ([2]) && nmEq g4 ([3]) && nmEq g5 ([4]) && ctsEq g6 ([.int .u8]) && ctsEq g7 ([.int .i64]) && ctsEq g8 ([.int .i64]) && ctsEq g9 ([.int .i64,.int .i64]) then some (q44 ua ub uc b1 b2 b3,[AV.int .i64 (v44_0 ua ub uc b1 b2 b3)],[some ⟨true,[],[AV.agg [AV.sl [.int .u8] (v44_1 ua ub uc b1 b2 b3),AV.int .i64 (v44_2 ua ub uc b1 b2 b3),AV.int .i64 (v44_3 ua ub uc b1 b2 b3)]]⟩,some ⟨false,[.int .i64],(v44_4 ua ub uc b1 b2 b3)⟩,some ⟨false,[.int .i64],(v44_5 ua ub uc b1 b2 b3)⟩,some ⟨false,[.int .i64,.int .i64],(v44_6 ua ub uc b1 b2 b3)⟩]) else none
 | _,_=>none
theorem k44:Known Try.prog 44:=⟨Try.f44,Try.func44,by kernel_rfl,by kernel_rfl⟩
theorem meets44:MeetsG Try.prog 44 m44:=by
 refine meetG (rt:=[3]) (gs:=[]) (f:=Try.f44) (l:=[]) (hs:=[(44,999,[4])]) (ts:=[]) (ws:=[(57,.g m57),(60,.g m60),(63,.g m63)]) (is:=[]) (ls:=[]) (lvl:=0) mixed k44 Try.func44 (by kernel_rfl) noLoop allT_nil (allG_cons meets57 (allG_cons meets60 (allG_cons meets63 allM_nil))) noI fun C w xs us bs r bs' hl hv hh h K=>?_
 unfold m44 at h
 split at h
 ·rename_i g0 g1 g2 g3 g4 g5 g6 ua ub uc g7 b1 g8 b2 g9 b3
  obtain ⟨hg,h⟩:=bif_pair h
  simp only [Bool.and_eq_true] at hg
  obtain ⟨⟨⟨⟨⟨⟨⟨⟨⟨q0,q1⟩,q2⟩,q3⟩,q4⟩,q5⟩,q6⟩,q7⟩,q8⟩,q9⟩:=hg
  obtain rfl:=(nmEq_iff _ _).1 q0
  obtain rfl:=Nat.eq_of_beq_eq_true q1
  obtain rfl:=Nat.eq_of_beq_eq_true q2
  obtain rfl:=(nmEq_iff _ _).1 q3
  obtain rfl:=(nmEq_iff _ _).1 q4
  obtain rfl:=(nmEq_iff _ _).1 q5
  obtain rfl:=ctsEq_eq _ _ q6
  obtain rfl:=ctsEq_eq _ _ q7
  obtain rfl:=ctsEq_eq _ _ q8
  obtain rfl:=ctsEq_eq _ _ q9
  obtain ⟨h1,rfl,rfl⟩:=trip_inj h
  exact r44 ua ub uc b1 b2 b3 K h1
 ·cases h
noncomputable def c75:Cfg:=cfg Try.prog [(75,999,[2])] [] [] [] []
def q75 (xa xb xc:List AV):Bool:=((decide ((([]:List AV).length+xa.length)*8≤140737488355328) && decide ((([]:List AV).length+xa.length)≤140737488355328)) && ((decide ((([]:List AV).length+xb.length)*8≤140737488355328) && decide ((([]:List AV).length+xb.length)≤140737488355328)) && (decide ((([]:List AV).length+xc.length)*16≤140737488355328) && decide ((([]:List AV).length+xc.length)≤140737488355328))))
def v75_0 (xa xb xc:List AV):List AV:=([]:List AV)++xa
def v75_1 (xa xb xc:List AV):List AV:=([]:List AV)++xb
def v75_2 (xa xb xc:List AV):List AV:=([]:List AV)++xc
theorem e75 (xa xb xc:List AV):funA c75 0 75 [AV.agg [AV.sl [.int .i64] xa,AV.sl [.int .i64] xb,AV.sl [.int .i64,.int .i64] xc]]=(bif (decide ((([]:List AV).length+xa.length)*8≤140737488355328) && decide ((([]:List AV).length+xa.length)≤140737488355328)) then (bif (decide ((([]:List AV).length+xb.length)*8≤140737488355328) && decide ((([]:List AV).length+xb.length)≤140737488355328)) then (bif (decide ((([]:List AV).length+xc.length)*16≤140737488355328) && decide ((([]:List AV).length+xc.length)≤140737488355328)) then some (AV.agg [AV.fl [.int .i64] (([]:List AV)++xa),AV.fl [.int .i64] (([]:List AV)++xb),AV.fl [.int .i64,.int .i64] (([]:List AV)++xc)])
 else none)
 else none)
 else none):=by kernel_rfl
def m75:TModel
 | [.agg [.sl g0 xa,.sl g1 xb,.sl g2 xc]]=>bif ctsEq g0 ([.int .i64]) && ctsEq g1 ([.int .i64]) && ctsEq g2 ([.int .i64,.int .i64]) then some (q75 xa xb xc,AV.agg [AV.fl [.int .i64] (v75_0 xa xb xc),AV.fl [.int .i64] (v75_1 xa xb xc),AV.fl [.int .i64,.int .i64] (v75_2 xa xb xc)]) else none
 | _=>none
theorem k75:Known Try.prog 75:=⟨Try.f75,Try.func75,by kernel_rfl,by kernel_rfl⟩
theorem meets75:Meets Try.prog 75 m75:=by
 refine meet (f:=Try.f75) (l:=[]) (hs:=[(75,999,[2])]) (ts:=[]) (ws:=[]) (is:=[]) (ls:=[]) (lvl:=0) mixed k75 Try.func75 (by kernel_rfl) noLoop allT_nil allM_nil noI fun w xs us r hl hv h=>?_
 unfold m75 at h
 split at h
 ·rename_i g0 xa g1 xb g2 xc
  obtain ⟨hg,h⟩:=bif_pair h
  simp only [Bool.and_eq_true] at hg
  obtain ⟨⟨q0,q1⟩,q2⟩:=hg
  obtain rfl:=ctsEq_eq _ _ q0
  obtain rfl:=ctsEq_eq _ _ q1
  obtain rfl:=ctsEq_eq _ _ q2
  obtain ⟨h1,rfl⟩:=pair_inj h
  exact (e75 xa xb xc).trans ((brL (brL (brL1 (fun _=>rfl)))) h1)
 ·cases h
noncomputable def c47:Cfg:=cfg Try.prog [(47,999,[2])] [(75,m75)] [] [] []
def q47 (xa:List AV) (xb:Int) (xc xd xe:List AV):Bool:=((decide ((([]:List AV).length+xa.length)*32≤140737488355328) && decide ((([]:List AV).length+xa.length)≤140737488355328)) && q75 xc xd xe)
def v47_0 (xa:List AV) (xb:Int) (xc xd xe:List AV):List AV:=([]:List AV)++xa
def v47_1 (xa:List AV) (xb:Int) (xc xd xe:List AV):Int:=xb
def v47_2 (xa:List AV) (xb:Int) (xc xd xe:List AV):List AV:=(v75_0 xc xd xe)
def v47_3 (xa:List AV) (xb:Int) (xc xd xe:List AV):List AV:=(v75_1 xc xd xe)
def v47_4 (xa:List AV) (xb:Int) (xc xd xe:List AV):List AV:=(v75_2 xc xd xe)
theorem e47 (xa:List AV) (xb:Int) (xc xd xe:List AV):funA c47 0 47 [AV.agg [AV.sl [.int .i64,.int .i64,.int .i64,.int .i64] xa,Ai xb,AV.sl [.int .i64] xc,AV.sl [.int .i64] xd,AV.sl [.int .i64,.int .i64] xe]]=(bif (decide ((([]:List AV).length+xa.length)*32≤140737488355328) && decide ((([]:List AV).length+xa.length)≤140737488355328)) then (bif q75 xc xd xe then some (AV.agg [AV.fl [.int .i64,.int .i64,.int .i64,.int .i64] (([]:List AV)++xa),Ai xb,AV.fl [.int .i64] (v75_0 xc xd xe),AV.fl [.int .i64] (v75_1 xc xd xe),AV.fl [.int .i64,.int .i64] (v75_2 xc xd xe)])
 else none)
 else none):=by kernel_rfl
def m47:TModel
 | [.agg [.sl g0 xa,.int .i64 xb,.sl g1 xc,.sl g2 xd,.sl g3 xe]]=>bif ctsEq g0 ([.int .i64,.int .i64,.int .i64,.int .i64]) && ctsEq g1 ([.int .i64]) && ctsEq g2 ([.int .i64]) && ctsEq g3 ([.int .i64,.int .i64]) then some (q47 xa xb xc xd xe,AV.agg [AV.fl [.int .i64,.int .i64,.int .i64,.int .i64] (v47_0 xa xb xc xd xe),AV.int .i64 (v47_1 xa xb xc xd xe),AV.fl [.int .i64] (v47_2 xa xb xc xd xe),AV.fl [.int .i64] (v47_3 xa xb xc xd xe),AV.fl [.int .i64,.int .i64] (v47_4 xa xb xc xd xe)]) else none
 | _=>none
theorem k47:Known Try.prog 47:=⟨Try.f47,Try.func47,by kernel_rfl,by kernel_rfl⟩
theorem meets47:Meets Try.prog 47 m47:=by
 refine meet (f:=Try.f47) (l:=[]) (hs:=[(47,999,[2])]) (ts:=[(75,m75)]) (ws:=[]) (is:=[]) (ls:=[]) (lvl:=0) mixed k47 Try.func47 (by kernel_rfl) noLoop (allT_cons meets75 allT_nil) allM_nil noI fun w xs us r hl hv h=>?_
 unfold m47 at h
 split at h
 ·rename_i g0 xa xb g1 xc g2 xd g3 xe
  obtain ⟨hg,h⟩:=bif_pair h
  simp only [Bool.and_eq_true] at hg
  obtain ⟨⟨⟨q0,q1⟩,q2⟩,q3⟩:=hg
  obtain rfl:=ctsEq_eq _ _ q0
  obtain rfl:=ctsEq_eq _ _ q1
  obtain rfl:=ctsEq_eq _ _ q2
  obtain rfl:=ctsEq_eq _ _ q3
  obtain ⟨h1,rfl⟩:=pair_inj h
  exact (e47 xa xb xc xd xe).trans ((brL (brL1 (fun _=>rfl))) h1)
 ·cases h
def F56_0 (t0:List AV) (t1 t5:Int):Out (Int) (Unit ⊕ Unit):=(bif decide (t5<(t0.length:Int)) then (bif (decide (0≤t5) && decide (t5<(t0.length:Int))) then (bif decide (fI (t0.getD t5.toNat .undef) 0=t1) then .stop (.inr ())
 else .next (IntKind.i64.wrap (t5+1)))
 else .fail)
 else .stop (.inl ()))
def R56_0 (t0:List AV) (t1:Int):(Int)→Out (Int) (Unit ⊕ Unit):=fun s:Int=>F56_0 t0 t1 s
def E56_0 (t0:List AV) (t1:Int):(Int)→St:=fun s:Int=>⟨[(0,AV.sl [.int .i64] t0),(1,Ai t1),(5,Ai s)],[]⟩
def K56_0 (k:Kont):(Unit ⊕ Unit)→Option AV:=sumE (fun _:Unit=>k (.exit 0) ⟨[],[]⟩) (fun _:Unit=>k .ret ⟨[(4,AV.bool true)],[]⟩)
def l56_0:LModel:=fun _ _ st k=>match st with
 | ⟨[(0,.sl g0 t0),(1,.int .i64 t1),(5,.int .i64 t5)],[]⟩=>bif ctsEq g0 ([.int .i64]) then ro (runW (R56_0 t0 t1) (((t0.length:Int) - t5:Int).toNat+1) t5) none (K56_0 k) else none
 | _=>none
noncomputable def c56:Cfg:=cfg Try.prog [(56,0,[0,1,5]),(56,999,[4]),(56,1000,[]),(56,1001,[0,1,5])] [] [] [] [(56,0,l56_0)]
theorem s56_0 (ce:CallE) (t0:List AV) (t1 t5:Int) (next:St→Option AV) (k:Kont):stepA (codeA c56 ce [] 56 0 (sub [1,0,1,0,0] (body Try.f56))) (normA [] [0,1,5]) next ⟨[(0,AV.sl [.int .i64] t0),(1,Ai t1),(5,Ai t5)],[]⟩ k=(bif decide (t5<(t0.length:Int)) then (bif (decide (0≤t5) && decide (t5<(t0.length:Int))) then (bif decide (fI (t0.getD t5.toNat .undef) 0=t1) then k .ret ⟨[(4,AV.bool true)],[]⟩
 else next ⟨[(0,AV.sl [.int .i64] t0),(1,Ai t1),(5,Ai (IntKind.i64.wrap (t5+1)))],[]⟩)
 else none)
 else k (.exit 0) ⟨[],[]⟩):=by kernel_rfl
theorem st56_0 (t0:List AV) (t1:Int) (ce:CallE) (k:Kont) (s:Int) (next:St→Option AV):stepA (codeA c56 ce [] 56 0 (sub [1,0,1,0,0] (body Try.f56))) (normA [] [0,1,5]) next ((E56_0 t0 t1) s) k=(R56_0 t0 t1 s).el none (fun s=>next ((E56_0 t0 t1) s)) (K56_0 k):=(s56_0 ce t0 t1 s next k).trans (by unfold R56_0;unfold F56_0;simp only [el_cond,el_ro,el_sum,el_fail,el_next,el_stop] <;> rfl)
theorem ok56_0 {ce:CallE}:LoopOK c56 ce [] 56 0 (sub [1,0,1,0,0] (body Try.f56)):=by
 intro m hm st k r h
 obtain rfl:l56_0=m:=Option.some.inj hm
 unfold l56_0 at h
 split at h
 ·rename_i g0 t0 t1 t5
  obtain ⟨hg,h⟩:=bif_some h
  have q0:=hg
  obtain rfl:=ctsEq_eq _ _ q0
  refine ⟨(((t0.length:Int) - t5:Int).toNat+1),?_⟩
  rw [← h]
  exact loop_run (E56_0 t0 t1) (K56_0 k) (st56_0 t0 t1 ce k) _ t5
 ·cases h
def q56 (a0:List AV) (a1:Int):Bool:=(ro (runW (R56_0 a0 a1) (((a0.length:Int) - 0:Int).toNat+1) 0) false (sumE (fun _=>true) (fun _=>true)))
def v56_0 (a0:List AV) (a1:Int):Bool:=(ro (runW (R56_0 a0 a1) (((a0.length:Int) - 0:Int).toNat+1) 0) false (sumE (fun _=>false) (fun _=>true)))
theorem e56 (a0:List AV) (a1:Int):funA c56 0 56 [AV.sl [.int .i64] a0,Ai a1]=(ro (runW (R56_0 a0 a1) (((a0.length:Int) - 0:Int).toNat+1) 0) none (sumE (fun _=>some (AV.bool false)) (fun _=>some (AV.bool true)))):=by kernel_rfl
def m56:TModel
 | [.sl g0 a0,.int .i64 a1]=>bif ctsEq g0 ([.int .i64]) then some (q56 a0 a1,AV.bool (v56_0 a0 a1)) else none
 | _=>none
theorem k56:Known Try.prog 56:=⟨Try.f56,Try.func56,by kernel_rfl,by kernel_rfl⟩
theorem meets56:Meets Try.prog 56 m56:=by
 refine meet (f:=Try.f56) (l:=[(0,sub [1,0,1,0,0] (body Try.f56))]) (hs:=[(56,0,[0,1,5]),(56,999,[4]),(56,1000,[]),(56,1001,[0,1,5])]) (ts:=[]) (ws:=[]) (is:=[]) (ls:=[(56,0,l56_0)]) (lvl:=0) mixed k56 Try.func56 (by kernel_rfl) (loops_cons ok56_0 noLoop) allT_nil allM_nil noI fun w xs us r hl hv h=>?_
 unfold m56 at h
 split at h
 ·rename_i g0 a0 a1
  obtain ⟨hg,h⟩:=bif_pair h
  have q0:=hg
  obtain rfl:=ctsEq_eq _ _ q0
  obtain ⟨h1,rfl⟩:=pair_inj h
  exact (e56 a0 a1).trans ((brO (fun o:Option (Unit ⊕ Unit)=>some (AV.bool (ro o false (sumE (fun _=>false) (fun _=>true))))) (brS (fun o:Unit ⊕ Unit=>some (AV.bool ((sumE (fun _=>false) (fun _=>true)) o))) (fun _=>(fun _=>rfl)) (fun _=>(fun _=>rfl)))) h1)
 ·cases h
def F91_2 (t0 t1:List AV) (t5 h0_0 h0_1 t7:Int):Out (Int) (Unit ⊕ Unit):=(bif decide (t7<(t0.length:Int)) then (bif (decide (0≤t7) && decide (t7<(t0.length:Int))) then (bif !(decide (fI (t0.getD t7.toNat .undef) 0<h0_0) == decide (t7<h0_1)) then .stop (.inr ())
 else .next (IntKind.i64.wrap (t7+1)))
 else .fail)
 else .stop (.inl ()))
def R91_2 (t0 t1:List AV) (t5 h0_0 h0_1:Int):(Int)→Out (Int) (Unit ⊕ Unit):=fun s:Int=>F91_2 t0 t1 t5 h0_0 h0_1 s
def E91_2 (t0 t1:List AV) (t5 h0_0 h0_1:Int):(Int)→St:=fun s:Int=>⟨[(0,AV.sl [.int .i64] t0),(1,AV.sl [.int .i64,.int .i64] t1),(5,Ai t5),(6,AV.ptr [0,6] 0 0),(7,Ai s)],[([0,6],⟨true,[],[AV.agg [Ai h0_0,Ai h0_1]]⟩)]⟩
def K91_2 (t0 t1:List AV) (t5 h0_0 h0_1:Int) (k:Kont):(Unit ⊕ Unit)→Option AV:=sumE (fun _:Unit=>k (.exit 2) ⟨[(0,AV.sl [.int .i64] t0),(1,AV.sl [.int .i64,.int .i64] t1),(5,Ai t5)],[([0,6],⟨true,[],[AV.agg [Ai h0_0,Ai h0_1]]⟩)]⟩) (fun _:Unit=>k .ret ⟨[(4,AV.bool false)],[([0,6],⟨true,[],[AV.agg [Ai h0_0,Ai h0_1]]⟩)]⟩)
def l91_2:LModel:=fun _ _ st k=>match st with
 | ⟨[(0,.sl g0 t0),(1,.sl g1 t1),(5,.int .i64 t5),(6,.ptr g2 g3 g4),(7,.int .i64 t7)],[(g5,⟨true,[],[.agg [.int .i64 h0_0,.int .i64 h0_1]]⟩)]⟩=>bif ctsEq g0 ([.int .i64]) && ctsEq g1 ([.int .i64,.int .i64]) && nmEq g2 ([0,6]) && Nat.beq g3 0 && Nat.beq g4 0 && nmEq g5 ([0,6]) then ro (runW (R91_2 t0 t1 t5 h0_0 h0_1) (((t0.length:Int) - t7:Int).toNat+1) t7) none (K91_2 t0 t1 t5 h0_0 h0_1 k) else none
 | _=>none
def F91_0 (t0 t1:List AV) (t5:Int):Out (Int) (Unit ⊕ (Int × Int) ⊕ (Int × Int)):=(bif decide (t5<(t1.length:Int)) then (bif (decide (0≤t5) && decide (t5<(t1.length:Int))) then (bif !(v52_0 (fI (t1.getD t5.toNat .undef) 0) (-1000) 1000) then .stop (.inr (.inl (fI (t1.getD t5.toNat .undef) 0,fI (t1.getD t5.toNat .undef) 1)))
 else (bif !(v52_0 (fI (t1.getD t5.toNat .undef) 1) 0 (t0.length:Int)) then .stop (.inr (.inl (fI (t1.getD t5.toNat .undef) 0,fI (t1.getD t5.toNat .undef) 1)))
 else (bif decide (t5 > 0) then (bif (decide (0≤IntKind.i64.wrap (t5 - 1)) && decide (IntKind.i64.wrap (t5 - 1)<(t1.length:Int))) then (bif decide (fI (t1.getD t5.toNat .undef) 0≤fI (t1.getD (IntKind.i64.wrap (t5 - 1)).toNat .undef) 0) then .stop (.inr (.inl (fI (t1.getD t5.toNat .undef) 0,fI (t1.getD t5.toNat .undef) 1)))
 else (bif (decide (0≤IntKind.i64.wrap (t5 - 1)) && decide (IntKind.i64.wrap (t5 - 1)<(t1.length:Int))) then (bif decide (fI (t1.getD t5.toNat .undef) 1<fI (t1.getD (IntKind.i64.wrap (t5 - 1)).toNat .undef) 1) then .stop (.inr (.inl (fI (t1.getD t5.toNat .undef) 0,fI (t1.getD t5.toNat .undef) 1)))
 else (ro (runW (R91_2 t0 t1 t5 (fI (t1.getD t5.toNat .undef) 0) (fI (t1.getD t5.toNat .undef) 1)) (((t0.length:Int) - 0:Int).toNat+1) 0) .fail (sumE (fun _ => .next (IntKind.i64.wrap (t5+1))) (fun _ => .stop (.inr (.inr (fI (t1.getD t5.toNat .undef) 0,fI (t1.getD t5.toNat .undef) 1)))))))
 else .fail))
 else .fail)
 else (ro (runW (R91_2 t0 t1 t5 (fI (t1.getD t5.toNat .undef) 0) (fI (t1.getD t5.toNat .undef) 1)) (((t0.length:Int) - 0:Int).toNat+1) 0) .fail (sumE (fun _ => .next (IntKind.i64.wrap (t5+1))) (fun _ => .stop (.inr (.inr (fI (t1.getD t5.toNat .undef) 0,fI (t1.getD t5.toNat .undef) 1)))))))))
 else .fail)
 else .stop (.inl ()))
def R91_0 (t0 t1:List AV):(Int)→Out (Int) (Unit ⊕ (Int × Int) ⊕ (Int × Int)):=fun s:Int=>F91_0 t0 t1 s
def E91_0 (t0 t1:List AV):(Int)→St:=fun s:Int=>⟨[(0,AV.sl [.int .i64] t0),(1,AV.sl [.int .i64,.int .i64] t1),(5,Ai s)],[]⟩
def K91_0 (k:Kont):(Unit ⊕ (Int × Int) ⊕ (Int × Int))→Option AV:=sumE (fun _:Unit=>k (.exit 0) ⟨[],[]⟩) (sumE (fun p:Int × Int=>k .ret ⟨[(4,AV.bool false)],[([1,6],⟨true,[],[AV.agg [Ai p.1,Ai p.2]]⟩)]⟩) (fun p:Int × Int=>k .ret ⟨[(4,AV.bool false)],[([0,6],⟨true,[],[AV.agg [Ai p.1,Ai p.2]]⟩)]⟩))
def l91_0:LModel:=fun _ _ st k=>match st with
 | ⟨[(0,.sl g0 t0),(1,.sl g1 t1),(5,.int .i64 t5)],[]⟩=>bif ctsEq g0 ([.int .i64]) && ctsEq g1 ([.int .i64,.int .i64]) then ro (runW (R91_0 t0 t1) (((t1.length:Int) - t5:Int).toNat+1) t5) none (K91_0 k) else none
 | _=>none
noncomputable def c91:Cfg:=cfg Try.prog [(91,0,[0,1,5]),(91,2,[0,1,5,6,7]),(91,999,[4]),(91,1000,[]),(91,1001,[0,1,5]),(91,1002,[0,1,5]),(91,1003,[0,1,5,6,7])] [(52,m52)] [] [] [(91,0,l91_0),(91,2,l91_2)]
theorem s91_2 (ce:CallE) (t0 t1:List AV) (t5 t7 h0_0 h0_1:Int) (next:St→Option AV) (k:Kont):stepA (codeA c91 ce [] 91 2 (sub [1,0,1,0,0,1,0,0,1,1,1,0,0] (body Try.f91))) (normA [] [0,1,5,6,7]) next ⟨[(0,AV.sl [.int .i64] t0),(1,AV.sl [.int .i64,.int .i64] t1),(5,Ai t5),(6,AV.ptr [0,6] 0 0),(7,Ai t7)],[([0,6],⟨true,[],[AV.agg [Ai h0_0,Ai h0_1]]⟩)]⟩ k=(bif decide (t7<(t0.length:Int)) then (bif (decide (0≤t7) && decide (t7<(t0.length:Int))) then (bif !(decide (fI (t0.getD t7.toNat .undef) 0<h0_0) == decide (t7<h0_1)) then k .ret ⟨[(4,AV.bool false)],[([0,6],⟨true,[],[AV.agg [Ai h0_0,Ai h0_1]]⟩)]⟩
 else next ⟨[(0,AV.sl [.int .i64] t0),(1,AV.sl [.int .i64,.int .i64] t1),(5,Ai t5),(6,AV.ptr [0,6] 0 0),(7,Ai (IntKind.i64.wrap (t7+1)))],[([0,6],⟨true,[],[AV.agg [Ai h0_0,Ai h0_1]]⟩)]⟩)
 else none)
 else k (.exit 2) ⟨[(0,AV.sl [.int .i64] t0),(1,AV.sl [.int .i64,.int .i64] t1),(5,Ai t5)],[([0,6],⟨true,[],[AV.agg [Ai h0_0,Ai h0_1]]⟩)]⟩):=by kernel_rfl
theorem st91_2 (t0 t1:List AV) (t5 h0_0 h0_1:Int) (ce:CallE) (k:Kont) (s:Int) (next:St→Option AV):stepA (codeA c91 ce [] 91 2 (sub [1,0,1,0,0,1,0,0,1,1,1,0,0] (body Try.f91))) (normA [] [0,1,5,6,7]) next ((E91_2 t0 t1 t5 h0_0 h0_1) s) k=(R91_2 t0 t1 t5 h0_0 h0_1 s).el none (fun s=>next ((E91_2 t0 t1 t5 h0_0 h0_1) s)) (K91_2 t0 t1 t5 h0_0 h0_1 k):=(s91_2 ce t0 t1 t5 s h0_0 h0_1 next k).trans (by unfold R91_2;unfold F91_2;simp only [el_cond,el_ro,el_sum,el_fail,el_next,el_stop] <;> rfl)
theorem ok91_2 {ce:CallE}:LoopOK c91 ce [] 91 2 (sub [1,0,1,0,0,1,0,0,1,1,1,0,0] (body Try.f91)):=by
 intro m hm st k r h
 obtain rfl:l91_2=m:=Option.some.inj hm
 unfold l91_2 at h
 split at h
 ·rename_i g0 t0 g1 t1 t5 g2 g3 g4 t7 g5 h0_0 h0_1
  obtain ⟨hg,h⟩:=bif_some h
  simp only [Bool.and_eq_true] at hg
  obtain ⟨⟨⟨⟨⟨q0,q1⟩,q2⟩,q3⟩,q4⟩,q5⟩:=hg
  obtain rfl:=ctsEq_eq _ _ q0
  obtain rfl:=ctsEq_eq _ _ q1
  obtain rfl:=(nmEq_iff _ _).1 q2
  obtain rfl:=Nat.eq_of_beq_eq_true q3
  obtain rfl:=Nat.eq_of_beq_eq_true q4
  obtain rfl:=(nmEq_iff _ _).1 q5
  refine ⟨(((t0.length:Int) - t7:Int).toNat+1),?_⟩
  rw [← h]
  exact loop_run (E91_2 t0 t1 t5 h0_0 h0_1) (K91_2 t0 t1 t5 h0_0 h0_1 k) (st91_2 t0 t1 t5 h0_0 h0_1 ce k) _ t7
 ·cases h
theorem s91_0 (ce:CallE) (t0 t1:List AV) (t5:Int) (next:St→Option AV) (k:Kont):stepA (codeA c91 ce [] 91 0 (sub [1,0,1,0,0] (body Try.f91))) (normA [] [0,1,5]) next ⟨[(0,AV.sl [.int .i64] t0),(1,AV.sl [.int .i64,.int .i64] t1),(5,Ai t5)],[]⟩ k=(bif decide (t5<(t1.length:Int)) then (bif (decide (0≤t5) && decide (t5<(t1.length:Int))) then (bif !(v52_0 (fI (t1.getD t5.toNat .undef) 0) (-1000) 1000) then k .ret ⟨[(4,AV.bool false)],[([1,6],⟨true,[],[AV.agg [Ai (fI (t1.getD t5.toNat .undef) 0),Ai (fI (t1.getD t5.toNat .undef) 1)]]⟩)]⟩
 else (bif !(v52_0 (fI (t1.getD t5.toNat .undef) 1) 0 (t0.length:Int)) then k .ret ⟨[(4,AV.bool false)],[([1,6],⟨true,[],[AV.agg [Ai (fI (t1.getD t5.toNat .undef) 0),Ai (fI (t1.getD t5.toNat .undef) 1)]]⟩)]⟩
 else (bif decide (t5 > 0) then (bif (decide (0≤IntKind.i64.wrap (t5 - 1)) && decide (IntKind.i64.wrap (t5 - 1)<(t1.length:Int))) then (bif decide (fI (t1.getD t5.toNat .undef) 0≤fI (t1.getD (IntKind.i64.wrap (t5 - 1)).toNat .undef) 0) then k .ret ⟨[(4,AV.bool false)],[([1,6],⟨true,[],[AV.agg [Ai (fI (t1.getD t5.toNat .undef) 0),Ai (fI (t1.getD t5.toNat .undef) 1)]]⟩)]⟩
 else (bif (decide (0≤IntKind.i64.wrap (t5 - 1)) && decide (IntKind.i64.wrap (t5 - 1)<(t1.length:Int))) then (bif decide (fI (t1.getD t5.toNat .undef) 1<fI (t1.getD (IntKind.i64.wrap (t5 - 1)).toNat .undef) 1) then k .ret ⟨[(4,AV.bool false)],[([1,6],⟨true,[],[AV.agg [Ai (fI (t1.getD t5.toNat .undef) 0),Ai (fI (t1.getD t5.toNat .undef) 1)]]⟩)]⟩
 else (ro (runW (R91_2 t0 t1 t5 (fI (t1.getD t5.toNat .undef) 0) (fI (t1.getD t5.toNat .undef) 1)) (((t0.length:Int) - 0:Int).toNat+1) 0) none (sumE (fun _=>next ⟨[(0,AV.sl [.int .i64] t0),(1,AV.sl [.int .i64,.int .i64] t1),(5,Ai (IntKind.i64.wrap (t5+1)))],[]⟩) (fun _=>k .ret ⟨[(4,AV.bool false)],[([0,6],⟨true,[],[AV.agg [Ai (fI (t1.getD t5.toNat .undef) 0),Ai (fI (t1.getD t5.toNat .undef) 1)]]⟩)]⟩))))
 else none))
 else none)
 else (ro (runW (R91_2 t0 t1 t5 (fI (t1.getD t5.toNat .undef) 0) (fI (t1.getD t5.toNat .undef) 1)) (((t0.length:Int) - 0:Int).toNat+1) 0) none (sumE (fun _=>next ⟨[(0,AV.sl [.int .i64] t0),(1,AV.sl [.int .i64,.int .i64] t1),(5,Ai (IntKind.i64.wrap (t5+1)))],[]⟩) (fun _=>k .ret ⟨[(4,AV.bool false)],[([0,6],⟨true,[],[AV.agg [Ai (fI (t1.getD t5.toNat .undef) 0),Ai (fI (t1.getD t5.toNat .undef) 1)]]⟩)]⟩))))))
 else none)
 else k (.exit 0) ⟨[],[]⟩):=by kernel_rfl
theorem st91_0 (t0 t1:List AV) (ce:CallE) (k:Kont) (s:Int) (next:St→Option AV):stepA (codeA c91 ce [] 91 0 (sub [1,0,1,0,0] (body Try.f91))) (normA [] [0,1,5]) next ((E91_0 t0 t1) s) k=(R91_0 t0 t1 s).el none (fun s=>next ((E91_0 t0 t1) s)) (K91_0 k):=(s91_0 ce t0 t1 s next k).trans (by unfold R91_0;unfold F91_0;simp only [el_cond,el_ro,el_sum,el_fail,el_next,el_stop] <;> rfl)
theorem ok91_0 {ce:CallE}:LoopOK c91 ce [] 91 0 (sub [1,0,1,0,0] (body Try.f91)):=by
 intro m hm st k r h
 obtain rfl:l91_0=m:=Option.some.inj hm
 unfold l91_0 at h
 split at h
 ·rename_i g0 t0 g1 t1 t5
  obtain ⟨hg,h⟩:=bif_some h
  simp only [Bool.and_eq_true] at hg
  obtain ⟨q0,q1⟩:=hg
  obtain rfl:=ctsEq_eq _ _ q0
  obtain rfl:=ctsEq_eq _ _ q1
  refine ⟨(((t1.length:Int) - t5:Int).toNat+1),?_⟩
  rw [← h]
  exact loop_run (E91_0 t0 t1) (K91_0 k) (st91_0 t0 t1 ce k) _ t5
 ·cases h
def q91 (a0 a1:List AV):Bool:=(ro (runW (R91_0 a0 a1) (((a1.length:Int) - 0:Int).toNat+1) 0) false (sumE (fun _=>true) (sumE (fun p17=>true) (fun p18=>true))))
def v91_0 (a0 a1:List AV):Bool:=(ro (runW (R91_0 a0 a1) (((a1.length:Int) - 0:Int).toNat+1) 0) false (sumE (fun _=>true) (sumE (fun p17=>false) (fun p18=>false))))
theorem e91 (a0 a1:List AV):funA c91 0 91 [AV.sl [.int .i64] a0,AV.sl [.int .i64,.int .i64] a1]=(ro (runW (R91_0 a0 a1) (((a1.length:Int) - 0:Int).toNat+1) 0) none (sumE (fun _=>some (AV.bool true)) (sumE (fun p17=>some (AV.bool false)) (fun p18=>some (AV.bool false))))):=by kernel_rfl
def m91:TModel
 | [.sl g0 a0,.sl g1 a1]=>bif ctsEq g0 ([.int .i64]) && ctsEq g1 ([.int .i64,.int .i64]) then some (q91 a0 a1,AV.bool (v91_0 a0 a1)) else none
 | _=>none
theorem k91:Known Try.prog 91:=⟨Try.f91,Try.func91,by kernel_rfl,by kernel_rfl⟩
theorem meets91:Meets Try.prog 91 m91:=by
 refine meet (f:=Try.f91) (l:=[(0,sub [1,0,1,0,0] (body Try.f91)),(2,sub [1,0,1,0,0,1,0,0,1,1,1,0,0] (body Try.f91))]) (hs:=[(91,0,[0,1,5]),(91,2,[0,1,5,6,7]),(91,999,[4]),(91,1000,[]),(91,1001,[0,1,5]),(91,1002,[0,1,5]),(91,1003,[0,1,5,6,7])]) (ts:=[(52,m52)]) (ws:=[]) (is:=[]) (ls:=[(91,0,l91_0),(91,2,l91_2)]) (lvl:=0) mixed k91 Try.func91 (by kernel_rfl) (loops_cons ok91_0 (loops_cons ok91_2 noLoop)) (allT_cons meets52 allT_nil) allM_nil noI fun w xs us r hl hv h=>?_
 unfold m91 at h
 split at h
 ·rename_i g0 a0 g1 a1
  obtain ⟨hg,h⟩:=bif_pair h
  simp only [Bool.and_eq_true] at hg
  obtain ⟨q0,q1⟩:=hg
  obtain rfl:=ctsEq_eq _ _ q0
  obtain rfl:=ctsEq_eq _ _ q1
  obtain ⟨h1,rfl⟩:=pair_inj h
  exact (e91 a0 a1).trans ((brO (fun o:Option (Unit ⊕ (Int × Int) ⊕ (Int × Int))=>some (AV.bool (ro o false (sumE (fun _=>true) (sumE (fun p17=>false) (fun p18=>false)))))) (brS (fun o:Unit ⊕ (Int × Int) ⊕ (Int × Int)=>some (AV.bool ((sumE (fun _=>true) (sumE (fun p17=>false) (fun p18=>false))) o))) (fun _=>(fun _=>rfl)) (brS (fun o:(Int × Int) ⊕ (Int × Int)=>some (AV.bool ((sumE (fun p17=>false) (fun p18=>false)) o))) (fun p17=>(fun _=>rfl)) (fun p18=>(fun _=>rfl))))) h1)
 ·cases h
def F51_0 (h0_0 h0_1 h0_2:List AV) (t3:Int):Out (Int) (Unit ⊕ Unit):=(bif decide (t3<(h0_1.length:Int)) then (bif (decide (0≤t3) && decide (t3<(h0_1.length:Int))) then (bif !(v52_0 (fI (h0_1.getD t3.toNat .undef) 0) 0 999) then .stop (.inr ())
 else (bif (decide (0≤0) && decide (0≤t3) && decide (t3≤(h0_1.length:Int))) then (bif (decide (0≤t3) && decide (t3<(h0_1.length:Int))) then (bif q56 ((h0_1.take (Int.toNat t3)).drop (Int.toNat 0)) (fI (h0_1.getD t3.toNat .undef) 0) then (bif (v56_0 ((h0_1.take (Int.toNat t3)).drop (Int.toNat 0)) (fI (h0_1.getD t3.toNat .undef) 0)) then .stop (.inr ())
 else .next (IntKind.i64.wrap (t3+1)))
 else .fail)
 else .fail)
 else .fail))
 else .fail)
 else .stop (.inl ()))
def R51_0 (h0_0 h0_1 h0_2:List AV):(Int)→Out (Int) (Unit ⊕ Unit):=fun s:Int=>F51_0 h0_0 h0_1 h0_2 s
def E51_0 (h0_0 h0_1 h0_2:List AV):(Int)→St:=fun s:Int=>⟨[(1,AV.ptr [0,1] 0 0),(3,Ai s)],[([0,1],⟨true,[],[AV.agg [AV.sl [.int .i64] h0_0,AV.sl [.int .i64] h0_1,AV.sl [.int .i64,.int .i64] h0_2]]⟩)]⟩
def K51_0 (h0_0 h0_1 h0_2:List AV) (k:Kont):(Unit ⊕ Unit)→Option AV:=sumE (fun _:Unit=>k (.exit 0) ⟨[(1,AV.ptr [0,1] 0 0)],[([0,1],⟨true,[],[AV.agg [AV.sl [.int .i64] h0_0,AV.sl [.int .i64] h0_1,AV.sl [.int .i64,.int .i64] h0_2]]⟩)]⟩) (fun _:Unit=>k .ret ⟨[(2,AV.bool false)],[([0,1],⟨true,[],[AV.agg [AV.sl [.int .i64] h0_0,AV.sl [.int .i64] h0_1,AV.sl [.int .i64,.int .i64] h0_2]]⟩)]⟩)
def l51_0:LModel:=fun _ _ st k=>match st with
 | ⟨[(1,.ptr g0 g1 g2),(3,.int .i64 t3)],[(g3,⟨true,[],[.agg [.sl g4 h0_0,.sl g5 h0_1,.sl g6 h0_2]]⟩)]⟩=>bif nmEq g0 ([0,1]) && Nat.beq g1 0 && Nat.beq g2 0 && nmEq g3 ([0,1]) && ctsEq g4 ([.int .i64]) && ctsEq g5 ([.int .i64]) && ctsEq g6 ([.int .i64,.int .i64]) then ro (runW (R51_0 h0_0 h0_1 h0_2) (((h0_1.length:Int) - t3:Int).toNat+1) t3) none (K51_0 h0_0 h0_1 h0_2 k) else none
 | _=>none
noncomputable def c51:Cfg:=cfg Try.prog [(51,0,[1,3]),(51,999,[2]),(51,1000,[1]),(51,1001,[1,3])] [(36,m36),(52,m52),(56,m56),(91,m91)] [] [] [(51,0,l51_0)]
theorem s51_0 (ce:CallE) (t3:Int) (h0_0 h0_1 h0_2:List AV) (next:St→Option AV) (k:Kont):stepA (codeA c51 ce [] 51 0 (sub [1,1,0,1,0,0] (body Try.f51))) (normA [] [1,3]) next ⟨[(1,AV.ptr [0,1] 0 0),(3,Ai t3)],[([0,1],⟨true,[],[AV.agg [AV.sl [.int .i64] h0_0,AV.sl [.int .i64] h0_1,AV.sl [.int .i64,.int .i64] h0_2]]⟩)]⟩ k=(bif decide (t3<(h0_1.length:Int)) then (bif (decide (0≤t3) && decide (t3<(h0_1.length:Int))) then (bif !(v52_0 (fI (h0_1.getD t3.toNat .undef) 0) 0 999) then k .ret ⟨[(2,AV.bool false)],[([0,1],⟨true,[],[AV.agg [AV.sl [.int .i64] h0_0,AV.sl [.int .i64] h0_1,AV.sl [.int .i64,.int .i64] h0_2]]⟩)]⟩
 else (bif (decide (0≤0) && decide (0≤t3) && decide (t3≤(h0_1.length:Int))) then (bif (decide (0≤t3) && decide (t3<(h0_1.length:Int))) then (bif q56 ((h0_1.take (Int.toNat t3)).drop (Int.toNat 0)) (fI (h0_1.getD t3.toNat .undef) 0) then (bif (v56_0 ((h0_1.take (Int.toNat t3)).drop (Int.toNat 0)) (fI (h0_1.getD t3.toNat .undef) 0)) then k .ret ⟨[(2,AV.bool false)],[([0,1],⟨true,[],[AV.agg [AV.sl [.int .i64] h0_0,AV.sl [.int .i64] h0_1,AV.sl [.int .i64,.int .i64] h0_2]]⟩)]⟩
 else next ⟨[(1,AV.ptr [0,1] 0 0),(3,Ai (IntKind.i64.wrap (t3+1)))],[([0,1],⟨true,[],[AV.agg [AV.sl [.int .i64] h0_0,AV.sl [.int .i64] h0_1,AV.sl [.int .i64,.int .i64] h0_2]]⟩)]⟩)
 else none)
 else none)
 else none))
 else none)
 else k (.exit 0) ⟨[(1,AV.ptr [0,1] 0 0)],[([0,1],⟨true,[],[AV.agg [AV.sl [.int .i64] h0_0,AV.sl [.int .i64] h0_1,AV.sl [.int .i64,.int .i64] h0_2]]⟩)]⟩):=by kernel_rfl
theorem st51_0 (h0_0 h0_1 h0_2:List AV) (ce:CallE) (k:Kont) (s:Int) (next:St→Option AV):stepA (codeA c51 ce [] 51 0 (sub [1,1,0,1,0,0] (body Try.f51))) (normA [] [1,3]) next ((E51_0 h0_0 h0_1 h0_2) s) k=(R51_0 h0_0 h0_1 h0_2 s).el none (fun s=>next ((E51_0 h0_0 h0_1 h0_2) s)) (K51_0 h0_0 h0_1 h0_2 k):=(s51_0 ce s h0_0 h0_1 h0_2 next k).trans (by unfold R51_0;unfold F51_0;simp only [el_cond,el_ro,el_sum,el_fail,el_next,el_stop] <;> rfl)
theorem ok51_0 {ce:CallE}:LoopOK c51 ce [] 51 0 (sub [1,1,0,1,0,0] (body Try.f51)):=by
 intro m hm st k r h
 obtain rfl:l51_0=m:=Option.some.inj hm
 unfold l51_0 at h
 split at h
 ·rename_i g0 g1 g2 t3 g3 g4 h0_0 g5 h0_1 g6 h0_2
  obtain ⟨hg,h⟩:=bif_some h
  simp only [Bool.and_eq_true] at hg
  obtain ⟨⟨⟨⟨⟨⟨q0,q1⟩,q2⟩,q3⟩,q4⟩,q5⟩,q6⟩:=hg
  obtain rfl:=(nmEq_iff _ _).1 q0
  obtain rfl:=Nat.eq_of_beq_eq_true q1
  obtain rfl:=Nat.eq_of_beq_eq_true q2
  obtain rfl:=(nmEq_iff _ _).1 q3
  obtain rfl:=ctsEq_eq _ _ q4
  obtain rfl:=ctsEq_eq _ _ q5
  obtain rfl:=ctsEq_eq _ _ q6
  refine ⟨(((h0_1.length:Int) - t3:Int).toNat+1),?_⟩
  rw [← h]
  exact loop_run (E51_0 h0_0 h0_1 h0_2) (K51_0 h0_0 h0_1 h0_2 k) (st51_0 h0_0 h0_1 h0_2 ce k) _ t3
 ·cases h
def q51 (xa xb xc:List AV):Bool:=(q36 xa && (bif !(v36_0 xa) then true else (bif !decide ((xb.length:Int)=(xa.length:Int)) then true else (ro (runW (R51_0 xa xb xc) (((xb.length:Int) - 0:Int).toNat+1) 0) false (sumE (fun _=>q91 xa xc) (fun _=>true))))))
def v51_0 (xa xb xc:List AV):Bool:=(bif !(v36_0 xa) then false else (bif !decide ((xb.length:Int)=(xa.length:Int)) then false else (ro (runW (R51_0 xa xb xc) (((xb.length:Int) - 0:Int).toNat+1) 0) false (sumE (fun _=>(v91_0 xa xc)) (fun _=>false)))))
theorem e51 (xa xb xc:List AV):funA c51 0 51 [AV.agg [AV.sl [.int .i64] xa,AV.sl [.int .i64] xb,AV.sl [.int .i64,.int .i64] xc]]=(bif q36 xa then (bif !(v36_0 xa) then some (AV.bool false)
 else (bif !decide ((xb.length:Int)=(xa.length:Int)) then some (AV.bool false)
 else (ro (runW (R51_0 xa xb xc) (((xb.length:Int) - 0:Int).toNat+1) 0) none (sumE (fun _=>(bif q91 xa xc then some (AV.bool (v91_0 xa xc))
 else none)) (fun _=>some (AV.bool false))))))
 else none):=by kernel_rfl
def m51:TModel
 | [.agg [.sl g0 xa,.sl g1 xb,.sl g2 xc]]=>bif ctsEq g0 ([.int .i64]) && ctsEq g1 ([.int .i64]) && ctsEq g2 ([.int .i64,.int .i64]) then some (q51 xa xb xc,AV.bool (v51_0 xa xb xc)) else none
 | _=>none
theorem k51:Known Try.prog 51:=⟨Try.f51,Try.func51,by kernel_rfl,by kernel_rfl⟩
theorem meets51:Meets Try.prog 51 m51:=by
 refine meet (f:=Try.f51) (l:=[(0,sub [1,1,0,1,0,0] (body Try.f51))]) (hs:=[(51,0,[1,3]),(51,999,[2]),(51,1000,[1]),(51,1001,[1,3])]) (ts:=[(36,m36),(52,m52),(56,m56),(91,m91)]) (ws:=[]) (is:=[]) (ls:=[(51,0,l51_0)]) (lvl:=0) mixed k51 Try.func51 (by kernel_rfl) (loops_cons ok51_0 noLoop) (allT_cons meets36 (allT_cons meets52 (allT_cons meets56 (allT_cons meets91 allT_nil)))) allM_nil noI fun w xs us r hl hv h=>?_
 unfold m51 at h
 split at h
 ·rename_i g0 xa g1 xb g2 xc
  obtain ⟨hg,h⟩:=bif_pair h
  simp only [Bool.and_eq_true] at hg
  obtain ⟨⟨q0,q1⟩,q2⟩:=hg
  obtain rfl:=ctsEq_eq _ _ q0
  obtain rfl:=ctsEq_eq _ _ q1
  obtain rfl:=ctsEq_eq _ _ q2
  obtain ⟨h1,rfl⟩:=pair_inj h
  exact (e51 xa xb xc).trans ((brL (br (fun b=>some (AV.bool (bif b then false else (bif !decide ((xb.length:Int)=(xa.length:Int)) then false else (ro (runW (R51_0 xa xb xc) (((xb.length:Int) - 0:Int).toNat+1) 0) false (sumE (fun _=>(v91_0 xa xc)) (fun _=>false))))))) (fun _=>rfl) (br (fun b=>some (AV.bool (bif b then false else (ro (runW (R51_0 xa xb xc) (((xb.length:Int) - 0:Int).toNat+1) 0) false (sumE (fun _=>(v91_0 xa xc)) (fun _=>false)))))) (fun _=>rfl) (brO (fun o:Option (Unit ⊕ Unit)=>some (AV.bool (ro o false (sumE (fun _=>(v91_0 xa xc)) (fun _=>false))))) (brS (fun o:Unit ⊕ Unit=>some (AV.bool ((sumE (fun _=>(v91_0 xa xc)) (fun _=>false)) o))) (fun _=>(brL1 (fun _=>rfl))) (fun _=>(fun _=>rfl))))))) h1)
 ·cases h
def F53_0 (t1:Int) (h0_0 h0_1 h0_2:List AV) (t5:Int):Out (Int) (Unit ⊕ Int):=(bif decide (t5<(h0_1.length:Int)) then (bif (decide (0≤t5) && decide (t5<(h0_1.length:Int))) then (bif decide (fI (h0_1.getD t5.toNat .undef) 0=t1) then .stop (.inr t5)
 else .next (IntKind.i64.wrap (t5+1)))
 else .fail)
 else .stop (.inl ()))
def R53_0 (t1:Int) (h0_0 h0_1 h0_2:List AV):(Int)→Out (Int) (Unit ⊕ Int):=fun s:Int=>F53_0 t1 h0_0 h0_1 h0_2 s
def E53_0 (t1:Int) (h0_0 h0_1 h0_2:List AV):(Int)→St:=fun s:Int=>⟨[(1,Ai t1),(2,AV.ptr [0,2] 0 0),(5,Ai s)],[([0,2],⟨true,[],[AV.agg [AV.sl [.int .i64] h0_0,AV.sl [.int .i64] h0_1,AV.sl [.int .i64,.int .i64] h0_2]]⟩)]⟩
def K53_0 (h0_0 h0_1 h0_2:List AV) (k:Kont):(Unit ⊕ Int)→Option AV:=sumE (fun _:Unit=>k (.exit 0) ⟨[],[([0,2],⟨true,[],[AV.agg [AV.sl [.int .i64] h0_0,AV.sl [.int .i64] h0_1,AV.sl [.int .i64,.int .i64] h0_2]]⟩)]⟩) (fun p:Int=>k .ret ⟨[(4,Ai p)],[([0,2],⟨true,[],[AV.agg [AV.sl [.int .i64] h0_0,AV.sl [.int .i64] h0_1,AV.sl [.int .i64,.int .i64] h0_2]]⟩)]⟩)
def l53_0:LModel:=fun _ _ st k=>match st with
 | ⟨[(1,.int .i64 t1),(2,.ptr g0 g1 g2),(5,.int .i64 t5)],[(g3,⟨true,[],[.agg [.sl g4 h0_0,.sl g5 h0_1,.sl g6 h0_2]]⟩)]⟩=>bif nmEq g0 ([0,2]) && Nat.beq g1 0 && Nat.beq g2 0 && nmEq g3 ([0,2]) && ctsEq g4 ([.int .i64]) && ctsEq g5 ([.int .i64]) && ctsEq g6 ([.int .i64,.int .i64]) then ro (runW (R53_0 t1 h0_0 h0_1 h0_2) (((h0_1.length:Int) - t5:Int).toNat+1) t5) none (K53_0 h0_0 h0_1 h0_2 k) else none
 | _=>none
noncomputable def c53:Cfg:=cfg Try.prog [(53,0,[1,2,5]),(53,999,[4]),(53,1000,[]),(53,1001,[1,2,5])] [] [] [] [(53,0,l53_0)]
theorem s53_0 (ce:CallE) (t1 t5:Int) (h0_0 h0_1 h0_2:List AV) (next:St→Option AV) (k:Kont):stepA (codeA c53 ce [] 53 0 (sub [1,0,1,0,0] (body Try.f53))) (normA [] [1,2,5]) next ⟨[(1,Ai t1),(2,AV.ptr [0,2] 0 0),(5,Ai t5)],[([0,2],⟨true,[],[AV.agg [AV.sl [.int .i64] h0_0,AV.sl [.int .i64] h0_1,AV.sl [.int .i64,.int .i64] h0_2]]⟩)]⟩ k=(bif decide (t5<(h0_1.length:Int)) then (bif (decide (0≤t5) && decide (t5<(h0_1.length:Int))) then (bif decide (fI (h0_1.getD t5.toNat .undef) 0=t1) then k .ret ⟨[(4,Ai t5)],[([0,2],⟨true,[],[AV.agg [AV.sl [.int .i64] h0_0,AV.sl [.int .i64] h0_1,AV.sl [.int .i64,.int .i64] h0_2]]⟩)]⟩
 else next ⟨[(1,Ai t1),(2,AV.ptr [0,2] 0 0),(5,Ai (IntKind.i64.wrap (t5+1)))],[([0,2],⟨true,[],[AV.agg [AV.sl [.int .i64] h0_0,AV.sl [.int .i64] h0_1,AV.sl [.int .i64,.int .i64] h0_2]]⟩)]⟩)
 else none)
 else k (.exit 0) ⟨[],[([0,2],⟨true,[],[AV.agg [AV.sl [.int .i64] h0_0,AV.sl [.int .i64] h0_1,AV.sl [.int .i64,.int .i64] h0_2]]⟩)]⟩):=by kernel_rfl
theorem st53_0 (t1:Int) (h0_0 h0_1 h0_2:List AV) (ce:CallE) (k:Kont) (s:Int) (next:St→Option AV):stepA (codeA c53 ce [] 53 0 (sub [1,0,1,0,0] (body Try.f53))) (normA [] [1,2,5]) next ((E53_0 t1 h0_0 h0_1 h0_2) s) k=(R53_0 t1 h0_0 h0_1 h0_2 s).el none (fun s=>next ((E53_0 t1 h0_0 h0_1 h0_2) s)) (K53_0 h0_0 h0_1 h0_2 k):=(s53_0 ce t1 s h0_0 h0_1 h0_2 next k).trans (by unfold R53_0;unfold F53_0;simp only [el_cond,el_ro,el_sum,el_fail,el_next,el_stop] <;> rfl)
theorem ok53_0 {ce:CallE}:LoopOK c53 ce [] 53 0 (sub [1,0,1,0,0] (body Try.f53)):=by
 intro m hm st k r h
 obtain rfl:l53_0=m:=Option.some.inj hm
 unfold l53_0 at h
 split at h
 ·rename_i t1 g0 g1 g2 t5 g3 g4 h0_0 g5 h0_1 g6 h0_2
  obtain ⟨hg,h⟩:=bif_some h
  simp only [Bool.and_eq_true] at hg
  obtain ⟨⟨⟨⟨⟨⟨q0,q1⟩,q2⟩,q3⟩,q4⟩,q5⟩,q6⟩:=hg
  obtain rfl:=(nmEq_iff _ _).1 q0
  obtain rfl:=Nat.eq_of_beq_eq_true q1
  obtain rfl:=Nat.eq_of_beq_eq_true q2
  obtain rfl:=(nmEq_iff _ _).1 q3
  obtain rfl:=ctsEq_eq _ _ q4
  obtain rfl:=ctsEq_eq _ _ q5
  obtain rfl:=ctsEq_eq _ _ q6
  refine ⟨(((h0_1.length:Int) - t5:Int).toNat+1),?_⟩
  rw [← h]
  exact loop_run (E53_0 t1 h0_0 h0_1 h0_2) (K53_0 h0_0 h0_1 h0_2 k) (st53_0 t1 h0_0 h0_1 h0_2 ce k) _ t5
 ·cases h
def q53 (xa xb xc:List AV) (a1:Int):Bool:=(ro (runW (R53_0 a1 xa xb xc) (((xb.length:Int) - 0:Int).toNat+1) 0) false (sumE (fun _=>true) (fun p21=>true)))
def v53_0 (xa xb xc:List AV) (a1:Int):Int:=(ro (runW (R53_0 a1 xa xb xc) (((xb.length:Int) - 0:Int).toNat+1) 0) 0 (sumE (fun _=>(-1)) (fun p21=>p21)))
theorem e53 (xa xb xc:List AV) (a1:Int):funA c53 0 53 [AV.agg [AV.sl [.int .i64] xa,AV.sl [.int .i64] xb,AV.sl [.int .i64,.int .i64] xc],Ai a1]=(ro (runW (R53_0 a1 xa xb xc) (((xb.length:Int) - 0:Int).toNat+1) 0) none (sumE (fun _=>some (Ai (-1))) (fun p21=>some (Ai p21)))):=by kernel_rfl
def m53:TModel
 | [.agg [.sl g0 xa,.sl g1 xb,.sl g2 xc],.int .i64 a1]=>bif ctsEq g0 ([.int .i64]) && ctsEq g1 ([.int .i64]) && ctsEq g2 ([.int .i64,.int .i64]) then some (q53 xa xb xc a1,AV.int .i64 (v53_0 xa xb xc a1)) else none
 | _=>none
theorem k53:Known Try.prog 53:=⟨Try.f53,Try.func53,by kernel_rfl,by kernel_rfl⟩
theorem meets53:Meets Try.prog 53 m53:=by
 refine meet (f:=Try.f53) (l:=[(0,sub [1,0,1,0,0] (body Try.f53))]) (hs:=[(53,0,[1,2,5]),(53,999,[4]),(53,1000,[]),(53,1001,[1,2,5])]) (ts:=[]) (ws:=[]) (is:=[]) (ls:=[(53,0,l53_0)]) (lvl:=0) mixed k53 Try.func53 (by kernel_rfl) (loops_cons ok53_0 noLoop) allT_nil allM_nil noI fun w xs us r hl hv h=>?_
 unfold m53 at h
 split at h
 ·rename_i g0 xa g1 xb g2 xc a1
  obtain ⟨hg,h⟩:=bif_pair h
  simp only [Bool.and_eq_true] at hg
  obtain ⟨⟨q0,q1⟩,q2⟩:=hg
  obtain rfl:=ctsEq_eq _ _ q0
  obtain rfl:=ctsEq_eq _ _ q1
  obtain rfl:=ctsEq_eq _ _ q2
  obtain ⟨h1,rfl⟩:=pair_inj h
  exact (e53 xa xb xc a1).trans ((brO (fun o:Option (Unit ⊕ Int)=>some (Ai (ro o 0 (sumE (fun _=>(-1)) (fun p21=>p21))))) (brS (fun o:Unit ⊕ Int=>some (Ai ((sumE (fun _=>(-1)) (fun p21=>p21)) o))) (fun _=>(fun _=>rfl)) (fun p21=>(fun _=>rfl)))) h1)
 ·cases h
def F19_0 (h0_0:List AV) (h0_1:Int) (h0_2 h0_3 h0_4:List AV) (t3:Int):Out (Int) (Unit ⊕ (Int × Int × Int × Int)):=(bif decide (t3<(h0_0.length:Int)) then (bif (decide (0≤t3) && decide (t3<(h0_0.length:Int))) then (bif q53 h0_2 h0_3 h0_4 (fI (h0_0.getD t3.toNat .undef) 1) then (bif decide ((v53_0 h0_2 h0_3 h0_4 (fI (h0_0.getD t3.toNat .undef) 1))<0) then .stop (.inr (fI (h0_0.getD t3.toNat .undef) 0,fI (h0_0.getD t3.toNat .undef) 1,fI (h0_0.getD t3.toNat .undef) 2,fI (h0_0.getD t3.toNat .undef) 3))
 else (bif (decide (0≤(v53_0 h0_2 h0_3 h0_4 (fI (h0_0.getD t3.toNat .undef) 1))) && decide ((v53_0 h0_2 h0_3 h0_4 (fI (h0_0.getD t3.toNat .undef) 1))<(h0_2.length:Int))) then (bif !decide (fI (h0_2.getD (v53_0 h0_2 h0_3 h0_4 (fI (h0_0.getD t3.toNat .undef) 1)).toNat .undef) 0=fI (h0_0.getD t3.toNat .undef) 0) then .stop (.inr (fI (h0_0.getD t3.toNat .undef) 0,fI (h0_0.getD t3.toNat .undef) 1,fI (h0_0.getD t3.toNat .undef) 2,fI (h0_0.getD t3.toNat .undef) 3))
 else (bif decide (t3 > 0) then (bif (decide (0≤IntKind.i64.wrap (t3 - 1)) && decide (IntKind.i64.wrap (t3 - 1)<(h0_0.length:Int))) then (bif decide (fI (h0_0.getD t3.toNat .undef) 1≤fI (h0_0.getD (IntKind.i64.wrap (t3 - 1)).toNat .undef) 1) then .stop (.inr (fI (h0_0.getD t3.toNat .undef) 0,fI (h0_0.getD t3.toNat .undef) 1,fI (h0_0.getD t3.toNat .undef) 2,fI (h0_0.getD t3.toNat .undef) 3))
 else (bif !(v52_0 (fI (h0_0.getD t3.toNat .undef) 2) 0 h0_1) then .stop (.inr (fI (h0_0.getD t3.toNat .undef) 0,fI (h0_0.getD t3.toNat .undef) 1,fI (h0_0.getD t3.toNat .undef) 2,fI (h0_0.getD t3.toNat .undef) 3))
 else (bif !decide (fI (h0_0.getD t3.toNat .undef) 3=(-1)) then (bif !(v52_0 (fI (h0_0.getD t3.toNat .undef) 3) (IntKind.i64.wrap (fI (h0_0.getD t3.toNat .undef) 2+1)) h0_1) then .stop (.inr (fI (h0_0.getD t3.toNat .undef) 0,fI (h0_0.getD t3.toNat .undef) 1,fI (h0_0.getD t3.toNat .undef) 2,fI (h0_0.getD t3.toNat .undef) 3))
 else .next (IntKind.i64.wrap (t3+1)))
 else .next (IntKind.i64.wrap (t3+1)))))
 else .fail)
 else (bif !(v52_0 (fI (h0_0.getD t3.toNat .undef) 2) 0 h0_1) then .stop (.inr (fI (h0_0.getD t3.toNat .undef) 0,fI (h0_0.getD t3.toNat .undef) 1,fI (h0_0.getD t3.toNat .undef) 2,fI (h0_0.getD t3.toNat .undef) 3))
 else (bif !decide (fI (h0_0.getD t3.toNat .undef) 3=(-1)) then (bif !(v52_0 (fI (h0_0.getD t3.toNat .undef) 3) (IntKind.i64.wrap (fI (h0_0.getD t3.toNat .undef) 2+1)) h0_1) then .stop (.inr (fI (h0_0.getD t3.toNat .undef) 0,fI (h0_0.getD t3.toNat .undef) 1,fI (h0_0.getD t3.toNat .undef) 2,fI (h0_0.getD t3.toNat .undef) 3))
 else .next (IntKind.i64.wrap (t3+1)))
 else .next (IntKind.i64.wrap (t3+1))))))
 else .fail))
 else .fail)
 else .fail)
 else .stop (.inl ()))
def R19_0 (h0_0:List AV) (h0_1:Int) (h0_2 h0_3 h0_4:List AV):(Int)→Out (Int) (Unit ⊕ (Int × Int × Int × Int)):=fun s:Int=>F19_0 h0_0 h0_1 h0_2 h0_3 h0_4 s
def E19_0 (h0_0:List AV) (h0_1:Int) (h0_2 h0_3 h0_4:List AV):(Int)→St:=fun s:Int=>⟨[(1,AV.ptr [0,1] 0 0),(3,Ai s)],[([0,1],⟨true,[],[AV.agg [AV.sl [.int .i64,.int .i64,.int .i64,.int .i64] h0_0,Ai h0_1,AV.sl [.int .i64] h0_2,AV.sl [.int .i64] h0_3,AV.sl [.int .i64,.int .i64] h0_4]]⟩)]⟩
def K19_0 (h0_0:List AV) (h0_1:Int) (h0_2 h0_3 h0_4:List AV) (k:Kont):(Unit ⊕ (Int × Int × Int × Int))→Option AV:=sumE (fun _:Unit=>k (.exit 0) ⟨[],[([0,1],⟨true,[],[AV.agg [AV.sl [.int .i64,.int .i64,.int .i64,.int .i64] h0_0,Ai h0_1,AV.sl [.int .i64] h0_2,AV.sl [.int .i64] h0_3,AV.sl [.int .i64,.int .i64] h0_4]]⟩)]⟩) (fun p:Int × Int × Int × Int=>k .ret ⟨[(2,AV.bool false)],[([0,1],⟨true,[],[AV.agg [AV.sl [.int .i64,.int .i64,.int .i64,.int .i64] h0_0,Ai h0_1,AV.sl [.int .i64] h0_2,AV.sl [.int .i64] h0_3,AV.sl [.int .i64,.int .i64] h0_4]]⟩),([1,4],⟨true,[],[AV.agg [Ai p.1,Ai p.2.1,Ai p.2.2.1,Ai p.2.2.2]]⟩)]⟩)
def l19_0:LModel:=fun _ _ st k=>match st with
 | ⟨[(1,.ptr g0 g1 g2),(3,.int .i64 t3)],[(g3,⟨true,[],[.agg [.sl g4 h0_0,.int .i64 h0_1,.sl g5 h0_2,.sl g6 h0_3,.sl g7 h0_4]]⟩)]⟩=>bif nmEq g0 ([0,1]) && Nat.beq g1 0 && Nat.beq g2 0 && nmEq g3 ([0,1]) && ctsEq g4 ([.int .i64,.int .i64,.int .i64,.int .i64]) && ctsEq g5 ([.int .i64]) && ctsEq g6 ([.int .i64]) && ctsEq g7 ([.int .i64,.int .i64]) then ro (runW (R19_0 h0_0 h0_1 h0_2 h0_3 h0_4) (((h0_0.length:Int) - t3:Int).toNat+1) t3) none (K19_0 h0_0 h0_1 h0_2 h0_3 h0_4 k) else none
 | _=>none
noncomputable def c19:Cfg:=cfg Try.prog [(19,0,[1,3]),(19,999,[2]),(19,1000,[]),(19,1001,[1,3])] [(51,m51),(52,m52),(53,m53)] [] [] [(19,0,l19_0)]
theorem s19_0 (ce:CallE) (t3:Int) (h0_0:List AV) (h0_1:Int) (h0_2 h0_3 h0_4:List AV) (next:St→Option AV) (k:Kont):stepA (codeA c19 ce [] 19 0 (sub [1,1,0,1,0,0] (body Try.f19))) (normA [] [1,3]) next ⟨[(1,AV.ptr [0,1] 0 0),(3,Ai t3)],[([0,1],⟨true,[],[AV.agg [AV.sl [.int .i64,.int .i64,.int .i64,.int .i64] h0_0,Ai h0_1,AV.sl [.int .i64] h0_2,AV.sl [.int .i64] h0_3,AV.sl [.int .i64,.int .i64] h0_4]]⟩)]⟩ k=(bif decide (t3<(h0_0.length:Int)) then (bif (decide (0≤t3) && decide (t3<(h0_0.length:Int))) then (bif q53 h0_2 h0_3 h0_4 (fI (h0_0.getD t3.toNat .undef) 1) then (bif decide ((v53_0 h0_2 h0_3 h0_4 (fI (h0_0.getD t3.toNat .undef) 1))<0) then k .ret ⟨[(2,AV.bool false)],[([0,1],⟨true,[],[AV.agg [AV.sl [.int .i64,.int .i64,.int .i64,.int .i64] h0_0,Ai h0_1,AV.sl [.int .i64] h0_2,AV.sl [.int .i64] h0_3,AV.sl [.int .i64,.int .i64] h0_4]]⟩),([1,4],⟨true,[],[AV.agg [Ai (fI (h0_0.getD t3.toNat .undef) 0),Ai (fI (h0_0.getD t3.toNat .undef) 1),Ai (fI (h0_0.getD t3.toNat .undef) 2),Ai (fI (h0_0.getD t3.toNat .undef) 3)]]⟩)]⟩
 else (bif (decide (0≤(v53_0 h0_2 h0_3 h0_4 (fI (h0_0.getD t3.toNat .undef) 1))) && decide ((v53_0 h0_2 h0_3 h0_4 (fI (h0_0.getD t3.toNat .undef) 1))<(h0_2.length:Int))) then (bif !decide (fI (h0_2.getD (v53_0 h0_2 h0_3 h0_4 (fI (h0_0.getD t3.toNat .undef) 1)).toNat .undef) 0=fI (h0_0.getD t3.toNat .undef) 0) then k .ret ⟨[(2,AV.bool false)],[([0,1],⟨true,[],[AV.agg [AV.sl [.int .i64,.int .i64,.int .i64,.int .i64] h0_0,Ai h0_1,AV.sl [.int .i64] h0_2,AV.sl [.int .i64] h0_3,AV.sl [.int .i64,.int .i64] h0_4]]⟩),([1,4],⟨true,[],[AV.agg [Ai (fI (h0_0.getD t3.toNat .undef) 0),Ai (fI (h0_0.getD t3.toNat .undef) 1),Ai (fI (h0_0.getD t3.toNat .undef) 2),Ai (fI (h0_0.getD t3.toNat .undef) 3)]]⟩)]⟩
 else (bif decide (t3 > 0) then (bif (decide (0≤IntKind.i64.wrap (t3 - 1)) && decide (IntKind.i64.wrap (t3 - 1)<(h0_0.length:Int))) then (bif decide (fI (h0_0.getD t3.toNat .undef) 1≤fI (h0_0.getD (IntKind.i64.wrap (t3 - 1)).toNat .undef) 1) then k .ret ⟨[(2,AV.bool false)],[([0,1],⟨true,[],[AV.agg [AV.sl [.int .i64,.int .i64,.int .i64,.int .i64] h0_0,Ai h0_1,AV.sl [.int .i64] h0_2,AV.sl [.int .i64] h0_3,AV.sl [.int .i64,.int .i64] h0_4]]⟩),([1,4],⟨true,[],[AV.agg [Ai (fI (h0_0.getD t3.toNat .undef) 0),Ai (fI (h0_0.getD t3.toNat .undef) 1),Ai (fI (h0_0.getD t3.toNat .undef) 2),Ai (fI (h0_0.getD t3.toNat .undef) 3)]]⟩)]⟩
 else (bif !(v52_0 (fI (h0_0.getD t3.toNat .undef) 2) 0 h0_1) then k .ret ⟨[(2,AV.bool false)],[([0,1],⟨true,[],[AV.agg [AV.sl [.int .i64,.int .i64,.int .i64,.int .i64] h0_0,Ai h0_1,AV.sl [.int .i64] h0_2,AV.sl [.int .i64] h0_3,AV.sl [.int .i64,.int .i64] h0_4]]⟩),([1,4],⟨true,[],[AV.agg [Ai (fI (h0_0.getD t3.toNat .undef) 0),Ai (fI (h0_0.getD t3.toNat .undef) 1),Ai (fI (h0_0.getD t3.toNat .undef) 2),Ai (fI (h0_0.getD t3.toNat .undef) 3)]]⟩)]⟩
 else (bif !decide (fI (h0_0.getD t3.toNat .undef) 3=(-1)) then (bif !(v52_0 (fI (h0_0.getD t3.toNat .undef) 3) (IntKind.i64.wrap (fI (h0_0.getD t3.toNat .undef) 2+1)) h0_1) then k .ret ⟨[(2,AV.bool false)],[([0,1],⟨true,[],[AV.agg [AV.sl [.int .i64,.int .i64,.int .i64,.int .i64] h0_0,Ai h0_1,AV.sl [.int .i64] h0_2,AV.sl [.int .i64] h0_3,AV.sl [.int .i64,.int .i64] h0_4]]⟩),([1,4],⟨true,[],[AV.agg [Ai (fI (h0_0.getD t3.toNat .undef) 0),Ai (fI (h0_0.getD t3.toNat .undef) 1),Ai (fI (h0_0.getD t3.toNat .undef) 2),Ai (fI (h0_0.getD t3.toNat .undef) 3)]]⟩)]⟩
 else next ⟨[(1,AV.ptr [0,1] 0 0),(3,Ai (IntKind.i64.wrap (t3+1)))],[([0,1],⟨true,[],[AV.agg [AV.sl [.int .i64,.int .i64,.int .i64,.int .i64] h0_0,Ai h0_1,AV.sl [.int .i64] h0_2,AV.sl [.int .i64] h0_3,AV.sl [.int .i64,.int .i64] h0_4]]⟩)]⟩)
 else next ⟨[(1,AV.ptr [0,1] 0 0),(3,Ai (IntKind.i64.wrap (t3+1)))],[([0,1],⟨true,[],[AV.agg [AV.sl [.int .i64,.int .i64,.int .i64,.int .i64] h0_0,Ai h0_1,AV.sl [.int .i64] h0_2,AV.sl [.int .i64] h0_3,AV.sl [.int .i64,.int .i64] h0_4]]⟩)]⟩)))
 else none)
 else (bif !(v52_0 (fI (h0_0.getD t3.toNat .undef) 2) 0 h0_1) then k .ret ⟨[(2,AV.bool false)],[([0,1],⟨true,[],[AV.agg [AV.sl [.int .i64,.int .i64,.int .i64,.int .i64] h0_0,Ai h0_1,AV.sl [.int .i64] h0_2,AV.sl [.int .i64] h0_3,AV.sl [.int .i64,.int .i64] h0_4]]⟩),([1,4],⟨true,[],[AV.agg [Ai (fI (h0_0.getD t3.toNat .undef) 0),Ai (fI (h0_0.getD t3.toNat .undef) 1),Ai (fI (h0_0.getD t3.toNat .undef) 2),Ai (fI (h0_0.getD t3.toNat .undef) 3)]]⟩)]⟩
 else (bif !decide (fI (h0_0.getD t3.toNat .undef) 3=(-1)) then (bif !(v52_0 (fI (h0_0.getD t3.toNat .undef) 3) (IntKind.i64.wrap (fI (h0_0.getD t3.toNat .undef) 2+1)) h0_1) then k .ret ⟨[(2,AV.bool false)],[([0,1],⟨true,[],[AV.agg [AV.sl [.int .i64,.int .i64,.int .i64,.int .i64] h0_0,Ai h0_1,AV.sl [.int .i64] h0_2,AV.sl [.int .i64] h0_3,AV.sl [.int .i64,.int .i64] h0_4]]⟩),([1,4],⟨true,[],[AV.agg [Ai (fI (h0_0.getD t3.toNat .undef) 0),Ai (fI (h0_0.getD t3.toNat .undef) 1),Ai (fI (h0_0.getD t3.toNat .undef) 2),Ai (fI (h0_0.getD t3.toNat .undef) 3)]]⟩)]⟩
 else next ⟨[(1,AV.ptr [0,1] 0 0),(3,Ai (IntKind.i64.wrap (t3+1)))],[([0,1],⟨true,[],[AV.agg [AV.sl [.int .i64,.int .i64,.int .i64,.int .i64] h0_0,Ai h0_1,AV.sl [.int .i64] h0_2,AV.sl [.int .i64] h0_3,AV.sl [.int .i64,.int .i64] h0_4]]⟩)]⟩)
 else next ⟨[(1,AV.ptr [0,1] 0 0),(3,Ai (IntKind.i64.wrap (t3+1)))],[([0,1],⟨true,[],[AV.agg [AV.sl [.int .i64,.int .i64,.int .i64,.int .i64] h0_0,Ai h0_1,AV.sl [.int .i64] h0_2,AV.sl [.int .i64] h0_3,AV.sl [.int .i64,.int .i64] h0_4]]⟩)]⟩))))
 else none))
 else none)
 else none)
 else k (.exit 0) ⟨[],[([0,1],⟨true,[],[AV.agg [AV.sl [.int .i64,.int .i64,.int .i64,.int .i64] h0_0,Ai h0_1,AV.sl [.int .i64] h0_2,AV.sl [.int .i64] h0_3,AV.sl [.int .i64,.int .i64] h0_4]]⟩)]⟩):=by kernel_rfl
theorem st19_0 (h0_0:List AV) (h0_1:Int) (h0_2 h0_3 h0_4:List AV) (ce:CallE) (k:Kont) (s:Int) (next:St→Option AV):stepA (codeA c19 ce [] 19 0 (sub [1,1,0,1,0,0] (body Try.f19))) (normA [] [1,3]) next ((E19_0 h0_0 h0_1 h0_2 h0_3 h0_4) s) k=(R19_0 h0_0 h0_1 h0_2 h0_3 h0_4 s).el none (fun s=>next ((E19_0 h0_0 h0_1 h0_2 h0_3 h0_4) s)) (K19_0 h0_0 h0_1 h0_2 h0_3 h0_4 k):=(s19_0 ce s h0_0 h0_1 h0_2 h0_3 h0_4 next k).trans (by unfold R19_0;unfold F19_0;simp only [el_cond,el_ro,el_sum,el_fail,el_next,el_stop] <;> rfl)
theorem ok19_0 {ce:CallE}:LoopOK c19 ce [] 19 0 (sub [1,1,0,1,0,0] (body Try.f19)):=by
 intro m hm st k r h
 obtain rfl:l19_0=m:=Option.some.inj hm
 unfold l19_0 at h
 split at h
 ·rename_i g0 g1 g2 t3 g3 g4 h0_0 h0_1 g5 h0_2 g6 h0_3 g7 h0_4
  obtain ⟨hg,h⟩:=bif_some h
  simp only [Bool.and_eq_true] at hg
  obtain ⟨⟨⟨⟨⟨⟨⟨q0,q1⟩,q2⟩,q3⟩,q4⟩,q5⟩,q6⟩,q7⟩:=hg
  obtain rfl:=(nmEq_iff _ _).1 q0
  obtain rfl:=Nat.eq_of_beq_eq_true q1
  obtain rfl:=Nat.eq_of_beq_eq_true q2
  obtain rfl:=(nmEq_iff _ _).1 q3
  obtain rfl:=ctsEq_eq _ _ q4
  obtain rfl:=ctsEq_eq _ _ q5
  obtain rfl:=ctsEq_eq _ _ q6
  obtain rfl:=ctsEq_eq _ _ q7
  refine ⟨(((h0_0.length:Int) - t3:Int).toNat+1),?_⟩
  rw [← h]
  exact loop_run (E19_0 h0_0 h0_1 h0_2 h0_3 h0_4) (K19_0 h0_0 h0_1 h0_2 h0_3 h0_4 k) (st19_0 h0_0 h0_1 h0_2 h0_3 h0_4 ce k) _ t3
 ·cases h
def q19 (xa:List AV) (xb:Int) (xc xd xe:List AV):Bool:=(q51 xc xd xe && (bif !(v51_0 xc xd xe) then true else (bif !decide ((xa.length:Int)=(xc.length:Int)) then true else (bif !(v52_0 xb 0 1000) then true else (ro (runW (R19_0 xa xb xc xd xe) (((xa.length:Int) - 0:Int).toNat+1) 0) false (sumE (fun _=>true) (fun p23=>true)))))))
def v19_0 (xa:List AV) (xb:Int) (xc xd xe:List AV):Bool:=(bif !(v51_0 xc xd xe) then false else (bif !decide ((xa.length:Int)=(xc.length:Int)) then false else (bif !(v52_0 xb 0 1000) then false else (ro (runW (R19_0 xa xb xc xd xe) (((xa.length:Int) - 0:Int).toNat+1) 0) false (sumE (fun _=>true) (fun p23=>false))))))
theorem e19 (xa:List AV) (xb:Int) (xc xd xe:List AV):funA c19 0 19 [AV.agg [AV.sl [.int .i64,.int .i64,.int .i64,.int .i64] xa,Ai xb,AV.sl [.int .i64] xc,AV.sl [.int .i64] xd,AV.sl [.int .i64,.int .i64] xe]]=(bif q51 xc xd xe then (bif !(v51_0 xc xd xe) then some (AV.bool false)
 else (bif !decide ((xa.length:Int)=(xc.length:Int)) then some (AV.bool false)
 else (bif !(v52_0 xb 0 1000) then some (AV.bool false)
 else (ro (runW (R19_0 xa xb xc xd xe) (((xa.length:Int) - 0:Int).toNat+1) 0) none (sumE (fun _=>some (AV.bool true)) (fun p23=>some (AV.bool false)))))))
 else none):=by kernel_rfl
def m19:TModel
 | [.agg [.sl g0 xa,.int .i64 xb,.sl g1 xc,.sl g2 xd,.sl g3 xe]]=>bif ctsEq g0 ([.int .i64,.int .i64,.int .i64,.int .i64]) && ctsEq g1 ([.int .i64]) && ctsEq g2 ([.int .i64]) && ctsEq g3 ([.int .i64,.int .i64]) then some (q19 xa xb xc xd xe,AV.bool (v19_0 xa xb xc xd xe)) else none
 | _=>none
theorem k19:Known Try.prog 19:=⟨Try.f19,Try.func19,by kernel_rfl,by kernel_rfl⟩
theorem meets19:Meets Try.prog 19 m19:=by
 refine meet (f:=Try.f19) (l:=[(0,sub [1,1,0,1,0,0] (body Try.f19))]) (hs:=[(19,0,[1,3]),(19,999,[2]),(19,1000,[]),(19,1001,[1,3])]) (ts:=[(51,m51),(52,m52),(53,m53)]) (ws:=[]) (is:=[]) (ls:=[(19,0,l19_0)]) (lvl:=0) mixed k19 Try.func19 (by kernel_rfl) (loops_cons ok19_0 noLoop) (allT_cons meets51 (allT_cons meets52 (allT_cons meets53 allT_nil))) allM_nil noI fun w xs us r hl hv h=>?_
 unfold m19 at h
 split at h
 ·rename_i g0 xa xb g1 xc g2 xd g3 xe
  obtain ⟨hg,h⟩:=bif_pair h
  simp only [Bool.and_eq_true] at hg
  obtain ⟨⟨⟨q0,q1⟩,q2⟩,q3⟩:=hg
  obtain rfl:=ctsEq_eq _ _ q0
  obtain rfl:=ctsEq_eq _ _ q1
  obtain rfl:=ctsEq_eq _ _ q2
  obtain rfl:=ctsEq_eq _ _ q3
  obtain ⟨h1,rfl⟩:=pair_inj h
  exact (e19 xa xb xc xd xe).trans ((brL (br (fun b=>some (AV.bool (bif b then false else (bif !decide ((xa.length:Int)=(xc.length:Int)) then false else (bif !(v52_0 xb 0 1000) then false else (ro (runW (R19_0 xa xb xc xd xe) (((xa.length:Int) - 0:Int).toNat+1) 0) false (sumE (fun _=>true) (fun p23=>false)))))))) (fun _=>rfl) (br (fun b=>some (AV.bool (bif b then false else (bif !(v52_0 xb 0 1000) then false else (ro (runW (R19_0 xa xb xc xd xe) (((xa.length:Int) - 0:Int).toNat+1) 0) false (sumE (fun _=>true) (fun p23=>false))))))) (fun _=>rfl) (br (fun b=>some (AV.bool (bif b then false else (ro (runW (R19_0 xa xb xc xd xe) (((xa.length:Int) - 0:Int).toNat+1) 0) false (sumE (fun _=>true) (fun p23=>false)))))) (fun _=>rfl) (brO (fun o:Option (Unit ⊕ (Int × Int × Int × Int))=>some (AV.bool (ro o false (sumE (fun _=>true) (fun p23=>false))))) (brS (fun o:Unit ⊕ (Int × Int × Int × Int)=>some (AV.bool ((sumE (fun _=>true) (fun p23=>false)) o))) (fun _=>(fun _=>rfl)) (fun p23=>(fun _=>rfl)))))))) h1)
 ·cases h
noncomputable def c86:Cfg:=cfg Try.prog [(86,999,[2])] [(52,m52)] [] [] []
def q86 (xa xb:Int):Bool:=true
def v86_0 (xa xb:Int):Bool:=(bif (v52_0 xa (-999) 999) then (v52_0 xb 0 999) else false)
theorem e86 (xa xb:Int):funA c86 0 86 [AV.agg [Ai xa,Ai xb]]=(bif (v52_0 xa (-999) 999) then some (AV.bool (v52_0 xb 0 999))
 else some (AV.bool false)):=by kernel_rfl
def m86:TModel
 | [.agg [.int .i64 xa,.int .i64 xb]]=>some (true,AV.bool (v86_0 xa xb))
 | _=>none
theorem k86:Known Try.prog 86:=⟨Try.f86,Try.func86,by kernel_rfl,by kernel_rfl⟩
theorem meets86:Meets Try.prog 86 m86:=by
 refine meet (f:=Try.f86) (l:=[]) (hs:=[(86,999,[2])]) (ts:=[(52,m52)]) (ws:=[]) (is:=[]) (ls:=[]) (lvl:=0) mixed k86 Try.func86 (by kernel_rfl) noLoop (allT_cons meets52 allT_nil) allM_nil noI fun w xs us r hl hv h=>?_
 unfold m86 at h
 split at h
 ·rename_i xa xb
  obtain ⟨h1,rfl⟩:=pair_inj h
  exact (e86 xa xb).trans (of_tt (brT (fun b=>some (AV.bool (bif b then (v52_0 xb 0 999) else false))) (fun _=>rfl) (fun _=>rfl)))
 ·cases h
def F48_0 (h3_0 h3_1 t8 t9 t10:Int) (h0 h1 h2:List AV):Out ((Int × Int × Int × (List AV) × (List AV) × (List AV))) ((Int × Int × (List AV) × (List AV) × (List AV))):=(bif decide (t10 ≥ 0) then (bif (decide (0≤t10) && decide (t10<(h2.length:Int))) then (bif decide (fI (h2.getD t10.toNat .undef) 0 > h3_0) then (bif (decide (0≤t10) && decide (t10<(h2.length:Int))) then (bif decide (fI (h2.getD t10.toNat .undef) 1=t8) then (bif (decide (0≤t10) && decide (t10<(h2.length:Int))) then .next (fI (h2.getD t10.toNat .undef) 1,IntKind.i64.wrap (t9+0),IntKind.i64.wrap (t10 - 1),h0,h1,h2.set t10.toNat (AV.agg [AV.int .i64 (fI (h2.getD t10.toNat .undef) 0),AV.int .i64 (IntKind.i64.wrap (fI (h2.getD t10.toNat .undef) 1+1))]))
 else .fail)
 else (bif (decide (0≤fI (h2.getD t10.toNat .undef) 1) && decide (fI (h2.getD t10.toNat .undef) 1<(h0.length:Int))) then (bif (decide (0≤t8) && decide (t8<(h0.length:Int))) then (bif (decide (0≤fI (h2.getD t10.toNat .undef) 1) && decide (fI (h2.getD t10.toNat .undef) 1<(h1.length:Int))) then (bif (decide (0≤t8) && decide (t8<(h1.length:Int))) then (bif (decide (0≤t10) && decide (t10<(h2.length:Int))) then .next (fI (h2.getD t10.toNat .undef) 1,IntKind.i64.wrap (t9+1),IntKind.i64.wrap (t10 - 1),h0.set t8.toNat (AV.agg [AV.int .i64 (fI (h0.getD (fI (h2.getD t10.toNat .undef) 1).toNat .undef) 0)]),h1.set t8.toNat (AV.agg [AV.int .i64 (fI (h1.getD (fI (h2.getD t10.toNat .undef) 1).toNat .undef) 0)]),h2.set t10.toNat (AV.agg [AV.int .i64 (fI (h2.getD t10.toNat .undef) 0),AV.int .i64 (IntKind.i64.wrap (fI (h2.getD t10.toNat .undef) 1+1))]))
 else .fail)
 else .fail)
 else .fail)
 else .fail)
 else .fail))
 else .fail)
 else .stop (t8,t9,h0,h1,h2))
 else .fail)
 else .stop (t8,t9,h0,h1,h2))
def R48_0 (h3_0 h3_1:Int):((Int × Int × Int × (List AV) × (List AV) × (List AV)))→Out ((Int × Int × Int × (List AV) × (List AV) × (List AV))) ((Int × Int × (List AV) × (List AV) × (List AV))):=fun s:Int × Int × Int × (List AV) × (List AV) × (List AV)=>F48_0 h3_0 h3_1 s.1 s.2.1 s.2.2.1 s.2.2.2.1 s.2.2.2.2.1 s.2.2.2.2.2
def E48_0 (h3_0 h3_1:Int):((Int × Int × Int × (List AV) × (List AV) × (List AV)))→St:=fun s:Int × Int × Int × (List AV) × (List AV) × (List AV)=>⟨[(3,AV.ptr [0,3] 0 0),(4,AV.ptr [0,4] 0 0),(7,AV.ptr [0,7] 0 0),(8,Ai s.1),(9,Ai s.2.1),(10,Ai s.2.2.1)],[([0,0,7],⟨false,[.int .i64],s.2.2.2.1⟩),([0,1,7],⟨false,[.int .i64],s.2.2.2.2.1⟩),([0,2,7],⟨false,[.int .i64,.int .i64],s.2.2.2.2.2⟩),([0,3],⟨true,[],[AV.agg [Ai h3_0,Ai h3_1]]⟩),([0,4],⟨true,[],[AV.agg [AV.snil,AV.snil,AV.snil]]⟩),([0,7],⟨true,[],[AV.agg [AV.own [0,0,7],AV.own [0,1,7],AV.own [0,2,7]]]⟩)]⟩
def K48_0 (h3_0 h3_1:Int) (k:Kont):((Int × Int × (List AV) × (List AV) × (List AV)))→Option AV:=fun p:Int × Int × (List AV) × (List AV) × (List AV)=>k (.exit 0) ⟨[(3,AV.ptr [0,3] 0 0),(4,AV.ptr [0,4] 0 0),(7,AV.ptr [0,7] 0 0),(8,Ai p.1),(9,Ai p.2.1)],[([0,0,7],⟨false,[.int .i64],p.2.2.1⟩),([0,1,7],⟨false,[.int .i64],p.2.2.2.1⟩),([0,2,7],⟨false,[.int .i64,.int .i64],p.2.2.2.2⟩),([0,3],⟨true,[],[AV.agg [Ai h3_0,Ai h3_1]]⟩),([0,4],⟨true,[],[AV.agg [AV.snil,AV.snil,AV.snil]]⟩),([0,7],⟨true,[],[AV.agg [AV.own [0,0,7],AV.own [0,1,7],AV.own [0,2,7]]]⟩)]⟩
def l48_0:LModel:=fun _ _ st k=>match st with
 | ⟨[(3,.ptr g0 g1 g2),(4,.ptr g3 g4 g5),(7,.ptr g6 g7 g8),(8,.int .i64 t8),(9,.int .i64 t9),(10,.int .i64 t10)],[(g9,⟨false,g10,h0⟩),(g11,⟨false,g12,h1⟩),(g13,⟨false,g14,h2⟩),(g15,⟨true,[],[.agg [.int .i64 h3_0,.int .i64 h3_1]]⟩),(g16,⟨true,[],[.agg [.snil,.snil,.snil]]⟩),(g17,⟨true,[],[.agg [.own g18,.own g19,.own g20]]⟩)]⟩=>bif nmEq g0 ([0,3]) && Nat.beq g1 0 && Nat.beq g2 0 && nmEq g3 ([0,4]) && Nat.beq g4 0 && Nat.beq g5 0 && nmEq g6 ([0,7]) && Nat.beq g7 0 && Nat.beq g8 0 && nmEq g9 ([0,0,7]) && ctsEq g10 ([.int .i64]) && nmEq g11 ([0,1,7]) && ctsEq g12 ([.int .i64]) && nmEq g13 ([0,2,7]) && ctsEq g14 ([.int .i64,.int .i64]) && nmEq g15 ([0,3]) && nmEq g16 ([0,4]) && nmEq g17 ([0,7]) && nmEq g18 ([0,0,7]) && nmEq g19 ([0,1,7]) && nmEq g20 ([0,2,7]) then ro (runW (R48_0 h3_0 h3_1) ((t10 - 0+1:Int).toNat+1) (t8,t9,t10,h0,h1,h2)) none (K48_0 h3_0 h3_1 k) else none
 | _=>none
noncomputable def c48:Cfg:=cfg Try.prog [(48,0,[3,4,7,8,9,10]),(48,999,[4,5,6]),(48,1000,[3,4,7,8,9]),(48,1001,[3,4,7,8,9,10]),(87,999,[6])] [(51,m51),(53,m53),(75,m75),(86,m86)] [] [87] [(48,0,l48_0)]
theorem s48_0 (t8 t9 t10:Int) (h0 h1 h2:List AV) (h3_0 h3_1:Int) (next:St→Option AV) (k:Kont):stepA (codeA c48 (inlA c48 1) [] 48 0 (sub [1,1,1,1,1,1,1,0,1,0,0] (body Try.f48))) (normA [] [3,4,7,8,9,10]) next ⟨[(3,AV.ptr [0,3] 0 0),(4,AV.ptr [0,4] 0 0),(7,AV.ptr [0,7] 0 0),(8,Ai t8),(9,Ai t9),(10,Ai t10)],[([0,0,7],⟨false,[.int .i64],h0⟩),([0,1,7],⟨false,[.int .i64],h1⟩),([0,2,7],⟨false,[.int .i64,.int .i64],h2⟩),([0,3],⟨true,[],[AV.agg [Ai h3_0,Ai h3_1]]⟩),([0,4],⟨true,[],[AV.agg [AV.snil,AV.snil,AV.snil]]⟩),([0,7],⟨true,[],[AV.agg [AV.own [0,0,7],AV.own [0,1,7],AV.own [0,2,7]]]⟩)]⟩ k=(bif decide (t10 ≥ 0) then (bif (decide (0≤t10) && decide (t10<(h2.length:Int))) then (bif decide (fI (h2.getD t10.toNat .undef) 0 > h3_0) then (bif (decide (0≤t10) && decide (t10<(h2.length:Int))) then (bif decide (fI (h2.getD t10.toNat .undef) 1=t8) then (bif (decide (0≤t10) && decide (t10<(h2.length:Int))) then next ⟨[(3,AV.ptr [0,3] 0 0),(4,AV.ptr [0,4] 0 0),(7,AV.ptr [0,7] 0 0),(8,Ai (fI (h2.getD t10.toNat .undef) 1)),(9,Ai (IntKind.i64.wrap (t9+0))),(10,Ai (IntKind.i64.wrap (t10 - 1)))],[([0,0,7],⟨false,[.int .i64],h0⟩),([0,1,7],⟨false,[.int .i64],h1⟩),([0,2,7],⟨false,[.int .i64,.int .i64],h2.set t10.toNat (AV.agg [Ai (fI (h2.getD t10.toNat .undef) 0),Ai (IntKind.i64.wrap (fI (h2.getD t10.toNat .undef) 1+1))])⟩),([0,3],⟨true,[],[AV.agg [Ai h3_0,Ai h3_1]]⟩),([0,4],⟨true,[],[AV.agg [AV.snil,AV.snil,AV.snil]]⟩),([0,7],⟨true,[],[AV.agg [AV.own [0,0,7],AV.own [0,1,7],AV.own [0,2,7]]]⟩)]⟩
 else none)
 else (bif (decide (0≤fI (h2.getD t10.toNat .undef) 1) && decide (fI (h2.getD t10.toNat .undef) 1<(h0.length:Int))) then (bif (decide (0≤t8) && decide (t8<(h0.length:Int))) then (bif (decide (0≤fI (h2.getD t10.toNat .undef) 1) && decide (fI (h2.getD t10.toNat .undef) 1<(h1.length:Int))) then (bif (decide (0≤t8) && decide (t8<(h1.length:Int))) then (bif (decide (0≤t10) && decide (t10<(h2.length:Int))) then next ⟨[(3,AV.ptr [0,3] 0 0),(4,AV.ptr [0,4] 0 0),(7,AV.ptr [0,7] 0 0),(8,Ai (fI (h2.getD t10.toNat .undef) 1)),(9,Ai (IntKind.i64.wrap (t9+1))),(10,Ai (IntKind.i64.wrap (t10 - 1)))],[([0,0,7],⟨false,[.int .i64],h0.set t8.toNat (AV.agg [Ai (fI (h0.getD (fI (h2.getD t10.toNat .undef) 1).toNat .undef) 0)])⟩),([0,1,7],⟨false,[.int .i64],h1.set t8.toNat (AV.agg [Ai (fI (h1.getD (fI (h2.getD t10.toNat .undef) 1).toNat .undef) 0)])⟩),([0,2,7],⟨false,[.int .i64,.int .i64],h2.set t10.toNat (AV.agg [Ai (fI (h2.getD t10.toNat .undef) 0),Ai (IntKind.i64.wrap (fI (h2.getD t10.toNat .undef) 1+1))])⟩),([0,3],⟨true,[],[AV.agg [Ai h3_0,Ai h3_1]]⟩),([0,4],⟨true,[],[AV.agg [AV.snil,AV.snil,AV.snil]]⟩),([0,7],⟨true,[],[AV.agg [AV.own [0,0,7],AV.own [0,1,7],AV.own [0,2,7]]]⟩)]⟩
 else none)
 else none)
 else none)
 else none)
 else none))
 else none)
 else k (.exit 0) ⟨[(3,AV.ptr [0,3] 0 0),(4,AV.ptr [0,4] 0 0),(7,AV.ptr [0,7] 0 0),(8,Ai t8),(9,Ai t9)],[([0,0,7],⟨false,[.int .i64],h0⟩),([0,1,7],⟨false,[.int .i64],h1⟩),([0,2,7],⟨false,[.int .i64,.int .i64],h2⟩),([0,3],⟨true,[],[AV.agg [Ai h3_0,Ai h3_1]]⟩),([0,4],⟨true,[],[AV.agg [AV.snil,AV.snil,AV.snil]]⟩),([0,7],⟨true,[],[AV.agg [AV.own [0,0,7],AV.own [0,1,7],AV.own [0,2,7]]]⟩)]⟩)
 else none)
 else k (.exit 0) ⟨[(3,AV.ptr [0,3] 0 0),(4,AV.ptr [0,4] 0 0),(7,AV.ptr [0,7] 0 0),(8,Ai t8),(9,Ai t9)],[([0,0,7],⟨false,[.int .i64],h0⟩),([0,1,7],⟨false,[.int .i64],h1⟩),([0,2,7],⟨false,[.int .i64,.int .i64],h2⟩),([0,3],⟨true,[],[AV.agg [Ai h3_0,Ai h3_1]]⟩),([0,4],⟨true,[],[AV.agg [AV.snil,AV.snil,AV.snil]]⟩),([0,7],⟨true,[],[AV.agg [AV.own [0,0,7],AV.own [0,1,7],AV.own [0,2,7]]]⟩)]⟩):=by kernel_rfl
theorem st48_0 (h3_0 h3_1:Int) (k:Kont) (s:(Int × Int × Int × (List AV) × (List AV) × (List AV))) (next:St→Option AV):stepA (codeA c48 (inlA c48 1) [] 48 0 (sub [1,1,1,1,1,1,1,0,1,0,0] (body Try.f48))) (normA [] [3,4,7,8,9,10]) next ((E48_0 h3_0 h3_1) s) k=(R48_0 h3_0 h3_1 s).el none (fun s=>next ((E48_0 h3_0 h3_1) s)) (K48_0 h3_0 h3_1 k):=(s48_0 s.1 s.2.1 s.2.2.1 s.2.2.2.1 s.2.2.2.2.1 s.2.2.2.2.2 h3_0 h3_1 next k).trans (by unfold R48_0;unfold F48_0;simp only [el_cond,el_ro,el_sum,el_fail,el_next,el_stop] <;> rfl)
theorem ok48_0:LoopOK c48 (inlA c48 1) [] 48 0 (sub [1,1,1,1,1,1,1,0,1,0,0] (body Try.f48)):=by
 intro m hm st k r h
 obtain rfl:l48_0=m:=Option.some.inj hm
 unfold l48_0 at h
 split at h
 ·rename_i g0 g1 g2 g3 g4 g5 g6 g7 g8 t8 t9 t10 g9 g10 h0 g11 g12 h1 g13 g14 h2 g15 h3_0 h3_1 g16 g17 g18 g19 g20
  obtain ⟨hg,h⟩:=bif_some h
  simp only [Bool.and_eq_true] at hg
  obtain ⟨⟨⟨⟨⟨⟨⟨⟨⟨⟨⟨⟨⟨⟨⟨⟨⟨⟨⟨⟨q0,q1⟩,q2⟩,q3⟩,q4⟩,q5⟩,q6⟩,q7⟩,q8⟩,q9⟩,q10⟩,q11⟩,q12⟩,q13⟩,q14⟩,q15⟩,q16⟩,q17⟩,q18⟩,q19⟩,q20⟩:=hg
  obtain rfl:=(nmEq_iff _ _).1 q0
  obtain rfl:=Nat.eq_of_beq_eq_true q1
  obtain rfl:=Nat.eq_of_beq_eq_true q2
  obtain rfl:=(nmEq_iff _ _).1 q3
  obtain rfl:=Nat.eq_of_beq_eq_true q4
  obtain rfl:=Nat.eq_of_beq_eq_true q5
  obtain rfl:=(nmEq_iff _ _).1 q6
  obtain rfl:=Nat.eq_of_beq_eq_true q7
  obtain rfl:=Nat.eq_of_beq_eq_true q8
  obtain rfl:=(nmEq_iff _ _).1 q9
  obtain rfl:=ctsEq_eq _ _ q10
  obtain rfl:=(nmEq_iff _ _).1 q11
  obtain rfl:=ctsEq_eq _ _ q12
  obtain rfl:=(nmEq_iff _ _).1 q13
  obtain rfl:=ctsEq_eq _ _ q14
  obtain rfl:=(nmEq_iff _ _).1 q15
  obtain rfl:=(nmEq_iff _ _).1 q16
  obtain rfl:=(nmEq_iff _ _).1 q17
  obtain rfl:=(nmEq_iff _ _).1 q18
  obtain rfl:=(nmEq_iff _ _).1 q19
  obtain rfl:=(nmEq_iff _ _).1 q20
  refine ⟨((t10 - 0+1:Int).toNat+1),?_⟩
  rw [← h]
  exact loop_run (E48_0 h3_0 h3_1) (K48_0 h3_0 h3_1 k) (st48_0 h3_0 h3_1 k) _ (t8,t9,t10,h0,h1,h2)
 ·cases h
def q48 (xa xb xc:List AV) (ya yb:Int):Bool:=(q51 xa xb xc && (bif !(v51_0 xa xb xc) then q75 xa xb xc else (bif !(v86_0 ya yb) then q75 xa xb xc else (q53 xa xb xc yb && (bif decide ((v53_0 xa xb xc yb) ≥ 0) then q75 xa xb xc else (bif decide ((xa.length:Int) ≥ 64) then q75 xa xb xc else (q75 xa xb xc && ((decide (((v75_0 xa xb xc).length+([AV.int .i64 0]).length)*8≤140737488355328) && decide (((v75_0 xa xb xc).length+([AV.int .i64 0]).length)≤140737488355328)) && ((decide (((v75_1 xa xb xc).length+([AV.int .i64 0]).length)*8≤140737488355328) && decide (((v75_1 xa xb xc).length+([AV.int .i64 0]).length)≤140737488355328)) && (ro (runW (R48_0 ya yb) (((IntKind.i64.wrap (((v75_2 xa xb xc).length:Int) - 1)) - 0+1:Int).toNat+1) ((xa.length:Int),0,IntKind.i64.wrap (((v75_2 xa xb xc).length:Int) - 1),(v75_0 xa xb xc)++([AV.int .i64 0]),(v75_1 xa xb xc)++([AV.int .i64 0]),(v75_2 xa xb xc))) false (fun p24=>((decide (0≤p24.1) && decide (p24.1<(p24.2.2.1.length:Int))) && (decide (0≤p24.1) && decide (p24.1<(p24.2.2.2.1.length:Int)))))))))))))))
def v48_0 (xa xb xc:List AV) (ya yb:Int):List AV:=(bif !(v51_0 xa xb xc) then (v75_0 xa xb xc) else (bif !(v86_0 ya yb) then (v75_0 xa xb xc) else (bif decide ((v53_0 xa xb xc yb) ≥ 0) then (v75_0 xa xb xc) else (bif decide ((xa.length:Int) ≥ 64) then (v75_0 xa xb xc) else (ro (runW (R48_0 ya yb) (((IntKind.i64.wrap (((v75_2 xa xb xc).length:Int) - 1)) - 0+1:Int).toNat+1) ((xa.length:Int),0,IntKind.i64.wrap (((v75_2 xa xb xc).length:Int) - 1),(v75_0 xa xb xc)++([AV.int .i64 0]),(v75_1 xa xb xc)++([AV.int .i64 0]),(v75_2 xa xb xc))) [] (fun p24=>p24.2.2.1.set p24.1.toNat (AV.agg [AV.int .i64 ya])))))))
def v48_1 (xa xb xc:List AV) (ya yb:Int):List AV:=(bif !(v51_0 xa xb xc) then (v75_1 xa xb xc) else (bif !(v86_0 ya yb) then (v75_1 xa xb xc) else (bif decide ((v53_0 xa xb xc yb) ≥ 0) then (v75_1 xa xb xc) else (bif decide ((xa.length:Int) ≥ 64) then (v75_1 xa xb xc) else (ro (runW (R48_0 ya yb) (((IntKind.i64.wrap (((v75_2 xa xb xc).length:Int) - 1)) - 0+1:Int).toNat+1) ((xa.length:Int),0,IntKind.i64.wrap (((v75_2 xa xb xc).length:Int) - 1),(v75_0 xa xb xc)++([AV.int .i64 0]),(v75_1 xa xb xc)++([AV.int .i64 0]),(v75_2 xa xb xc))) [] (fun p24=>p24.2.2.2.1.set p24.1.toNat (AV.agg [AV.int .i64 yb])))))))
def v48_2 (xa xb xc:List AV) (ya yb:Int):List AV:=(bif !(v51_0 xa xb xc) then (v75_2 xa xb xc) else (bif !(v86_0 ya yb) then (v75_2 xa xb xc) else (bif decide ((v53_0 xa xb xc yb) ≥ 0) then (v75_2 xa xb xc) else (bif decide ((xa.length:Int) ≥ 64) then (v75_2 xa xb xc) else (ro (runW (R48_0 ya yb) (((IntKind.i64.wrap (((v75_2 xa xb xc).length:Int) - 1)) - 0+1:Int).toNat+1) ((xa.length:Int),0,IntKind.i64.wrap (((v75_2 xa xb xc).length:Int) - 1),(v75_0 xa xb xc)++([AV.int .i64 0]),(v75_1 xa xb xc)++([AV.int .i64 0]),(v75_2 xa xb xc))) [] (fun p24=>p24.2.2.2.2))))))
def v48_3 (xa xb xc:List AV) (ya yb:Int):Int:=(bif !(v51_0 xa xb xc) then 0 else (bif !(v86_0 ya yb) then 0 else (bif decide ((v53_0 xa xb xc yb) ≥ 0) then 0 else (bif decide ((xa.length:Int) ≥ 64) then 0 else (ro (runW (R48_0 ya yb) (((IntKind.i64.wrap (((v75_2 xa xb xc).length:Int) - 1)) - 0+1:Int).toNat+1) ((xa.length:Int),0,IntKind.i64.wrap (((v75_2 xa xb xc).length:Int) - 1),(v75_0 xa xb xc)++([AV.int .i64 0]),(v75_1 xa xb xc)++([AV.int .i64 0]),(v75_2 xa xb xc))) 0 (fun p24=>p24.2.1))))))
def v48_4 (xa xb xc:List AV) (ya yb:Int):Bool:=(bif !(v51_0 xa xb xc) then false else (bif !(v86_0 ya yb) then false else (bif decide ((v53_0 xa xb xc yb) ≥ 0) then false else (bif decide ((xa.length:Int) ≥ 64) then false else true))))
theorem e48 (xa xb xc:List AV) (ya yb:Int):funA c48 1 48 [AV.agg [AV.sl [.int .i64] xa,AV.sl [.int .i64] xb,AV.sl [.int .i64,.int .i64] xc],AV.agg [Ai ya,Ai yb]]=(bif q51 xa xb xc then (bif !(v51_0 xa xb xc) then (bif q75 xa xb xc then some (AV.tup [AV.agg [AV.fl [.int .i64] (v75_0 xa xb xc),AV.fl [.int .i64] (v75_1 xa xb xc),AV.fl [.int .i64,.int .i64] (v75_2 xa xb xc)],Ai 0,AV.bool false])
 else none)
 else (bif !(v86_0 ya yb) then (bif q75 xa xb xc then some (AV.tup [AV.agg [AV.fl [.int .i64] (v75_0 xa xb xc),AV.fl [.int .i64] (v75_1 xa xb xc),AV.fl [.int .i64,.int .i64] (v75_2 xa xb xc)],Ai 0,AV.bool false])
 else none)
 else (bif q53 xa xb xc yb then (bif decide ((v53_0 xa xb xc yb) ≥ 0) then (bif q75 xa xb xc then some (AV.tup [AV.agg [AV.fl [.int .i64] (v75_0 xa xb xc),AV.fl [.int .i64] (v75_1 xa xb xc),AV.fl [.int .i64,.int .i64] (v75_2 xa xb xc)],Ai 0,AV.bool false])
 else none)
 else (bif decide ((xa.length:Int) ≥ 64) then (bif q75 xa xb xc then some (AV.tup [AV.agg [AV.fl [.int .i64] (v75_0 xa xb xc),AV.fl [.int .i64] (v75_1 xa xb xc),AV.fl [.int .i64,.int .i64] (v75_2 xa xb xc)],Ai 0,AV.bool false])
 else none)
 else (bif q75 xa xb xc then (bif (decide (((v75_0 xa xb xc).length+([Ai 0]).length)*8≤140737488355328) && decide (((v75_0 xa xb xc).length+([Ai 0]).length)≤140737488355328)) then (bif (decide (((v75_1 xa xb xc).length+([Ai 0]).length)*8≤140737488355328) && decide (((v75_1 xa xb xc).length+([Ai 0]).length)≤140737488355328)) then (ro (runW (R48_0 ya yb) (((IntKind.i64.wrap (((v75_2 xa xb xc).length:Int) - 1)) - 0+1:Int).toNat+1) ((xa.length:Int),0,IntKind.i64.wrap (((v75_2 xa xb xc).length:Int) - 1),(v75_0 xa xb xc)++([Ai 0]),(v75_1 xa xb xc)++([Ai 0]),(v75_2 xa xb xc))) none (fun p24=>(bif (decide (0≤p24.1) && decide (p24.1<(p24.2.2.1.length:Int))) then (bif (decide (0≤p24.1) && decide (p24.1<(p24.2.2.2.1.length:Int))) then some (AV.tup [AV.agg [AV.fl [.int .i64] (p24.2.2.1.set p24.1.toNat (AV.agg [Ai ya])),AV.fl [.int .i64] (p24.2.2.2.1.set p24.1.toNat (AV.agg [Ai yb])),AV.fl [.int .i64,.int .i64] p24.2.2.2.2],Ai p24.2.1,AV.bool true])
 else none)
 else none)))
 else none)
 else none)
 else none)))
 else none)))
 else none):=by kernel_rfl
def m48:TModel
 | [.agg [.sl g0 xa,.sl g1 xb,.sl g2 xc],.agg [.int .i64 ya,.int .i64 yb]]=>bif ctsEq g0 ([.int .i64]) && ctsEq g1 ([.int .i64]) && ctsEq g2 ([.int .i64,.int .i64]) then some (q48 xa xb xc ya yb,AV.tup [AV.agg [AV.fl [.int .i64] (v48_0 xa xb xc ya yb),AV.fl [.int .i64] (v48_1 xa xb xc ya yb),AV.fl [.int .i64,.int .i64] (v48_2 xa xb xc ya yb)],AV.int .i64 (v48_3 xa xb xc ya yb),AV.bool (v48_4 xa xb xc ya yb)]) else none
 | _=>none
theorem k48:Known Try.prog 48:=⟨Try.f48,Try.func48,by kernel_rfl,by kernel_rfl⟩
theorem i48_87:InlK Try.prog [(48,0,[3,4,7,8,9,10]),(48,999,[4,5,6]),(48,1000,[3,4,7,8,9]),(48,1001,[3,4,7,8,9,10]),(87,999,[6])] [(51,m51),(53,m53),(75,m75),(86,m86)] [] [87] [(48,0,l48_0)] 87:=⟨⟨Try.f87,Try.func87,by kernel_rfl,by kernel_rfl⟩,Try.f87,[],Try.func87,by kernel_rfl,fun ce π=>noLoop⟩
theorem meets48:Meets Try.prog 48 m48:=by
 refine meet (f:=Try.f48) (l:=[(0,sub [1,1,1,1,1,1,1,0,1,0,0] (body Try.f48))]) (hs:=[(48,0,[3,4,7,8,9,10]),(48,999,[4,5,6]),(48,1000,[3,4,7,8,9]),(48,1001,[3,4,7,8,9,10]),(87,999,[6])]) (ts:=[(51,m51),(53,m53),(75,m75),(86,m86)]) (ws:=[]) (is:=[87]) (ls:=[(48,0,l48_0)]) (lvl:=1) mixed k48 Try.func48 (by kernel_rfl) (loops_cons ok48_0 noLoop) (allT_cons meets51 (allT_cons meets53 (allT_cons meets75 (allT_cons meets86 allT_nil)))) allM_nil (allI_cons i48_87 noI) fun w xs us r hl hv h=>?_
 unfold m48 at h
 split at h
 ·rename_i g0 xa g1 xb g2 xc ya yb
  obtain ⟨hg,h⟩:=bif_pair h
  simp only [Bool.and_eq_true] at hg
  obtain ⟨⟨q0,q1⟩,q2⟩:=hg
  obtain rfl:=ctsEq_eq _ _ q0
  obtain rfl:=ctsEq_eq _ _ q1
  obtain rfl:=ctsEq_eq _ _ q2
  obtain ⟨h1,rfl⟩:=pair_inj h
  exact (e48 xa xb xc ya yb).trans ((brL (br (fun b=>some (AV.tup [AV.agg [AV.fl [.int .i64] (bif b then (v75_0 xa xb xc) else (bif !(v86_0 ya yb) then (v75_0 xa xb xc) else (bif decide ((v53_0 xa xb xc yb) ≥ 0) then (v75_0 xa xb xc) else (bif decide ((xa.length:Int) ≥ 64) then (v75_0 xa xb xc) else (ro (runW (R48_0 ya yb) (((IntKind.i64.wrap (((v75_2 xa xb xc).length:Int) - 1)) - 0+1:Int).toNat+1) ((xa.length:Int),0,IntKind.i64.wrap (((v75_2 xa xb xc).length:Int) - 1),(v75_0 xa xb xc)++([Ai 0]),(v75_1 xa xb xc)++([Ai 0]),(v75_2 xa xb xc))) [] (fun p24=>p24.2.2.1.set p24.1.toNat (AV.agg [Ai ya]))))))),AV.fl [.int .i64] (bif b then (v75_1 xa xb xc) else (bif !(v86_0 ya yb) then (v75_1 xa xb xc) else (bif decide ((v53_0 xa xb xc yb) ≥ 0) then (v75_1 xa xb xc) else (bif decide ((xa.length:Int) ≥ 64) then (v75_1 xa xb xc) else (ro (runW (R48_0 ya yb) (((IntKind.i64.wrap (((v75_2 xa xb xc).length:Int) - 1)) - 0+1:Int).toNat+1) ((xa.length:Int),0,IntKind.i64.wrap (((v75_2 xa xb xc).length:Int) - 1),(v75_0 xa xb xc)++([Ai 0]),(v75_1 xa xb xc)++([Ai 0]),(v75_2 xa xb xc))) [] (fun p24=>p24.2.2.2.1.set p24.1.toNat (AV.agg [Ai yb]))))))),AV.fl [.int .i64,.int .i64] (bif b then (v75_2 xa xb xc) else (bif !(v86_0 ya yb) then (v75_2 xa xb xc) else (bif decide ((v53_0 xa xb xc yb) ≥ 0) then (v75_2 xa xb xc) else (bif decide ((xa.length:Int) ≥ 64) then (v75_2 xa xb xc) else (ro (runW (R48_0 ya yb) (((IntKind.i64.wrap (((v75_2 xa xb xc).length:Int) - 1)) - 0+1:Int).toNat+1) ((xa.length:Int),0,IntKind.i64.wrap (((v75_2 xa xb xc).length:Int) - 1),(v75_0 xa xb xc)++([Ai 0]),(v75_1 xa xb xc)++([Ai 0]),(v75_2 xa xb xc))) [] (fun p24=>p24.2.2.2.2))))))],Ai (bif b then 0 else (bif !(v86_0 ya yb) then 0 else (bif decide ((v53_0 xa xb xc yb) ≥ 0) then 0 else (bif decide ((xa.length:Int) ≥ 64) then 0 else (ro (runW (R48_0 ya yb) (((IntKind.i64.wrap (((v75_2 xa xb xc).length:Int) - 1)) - 0+1:Int).toNat+1) ((xa.length:Int),0,IntKind.i64.wrap (((v75_2 xa xb xc).length:Int) - 1),(v75_0 xa xb xc)++([Ai 0]),(v75_1 xa xb xc)++([Ai 0]),(v75_2 xa xb xc))) 0 (fun p24=>p24.2.1)))))),AV.bool (bif b then false else (bif !(v86_0 ya yb) then false else (bif decide ((v53_0 xa xb xc yb) ≥ 0) then false else (bif decide ((xa.length:Int) ≥ 64) then false else true))))])) (brL1 (fun _=>rfl)) (br (fun b=>some (AV.tup [AV.agg [AV.fl [.int .i64] (bif b then (v75_0 xa xb xc) else (bif decide ((v53_0 xa xb xc yb) ≥ 0) then (v75_0 xa xb xc) else (bif decide ((xa.length:Int) ≥ 64) then (v75_0 xa xb xc) else (ro (runW (R48_0 ya yb) (((IntKind.i64.wrap (((v75_2 xa xb xc).length:Int) - 1)) - 0+1:Int).toNat+1) ((xa.length:Int),0,IntKind.i64.wrap (((v75_2 xa xb xc).length:Int) - 1),(v75_0 xa xb xc)++([Ai 0]),(v75_1 xa xb xc)++([Ai 0]),(v75_2 xa xb xc))) [] (fun p24=>p24.2.2.1.set p24.1.toNat (AV.agg [Ai ya])))))),AV.fl [.int .i64] (bif b then (v75_1 xa xb xc) else (bif decide ((v53_0 xa xb xc yb) ≥ 0) then (v75_1 xa xb xc) else (bif decide ((xa.length:Int) ≥ 64) then (v75_1 xa xb xc) else (ro (runW (R48_0 ya yb) (((IntKind.i64.wrap (((v75_2 xa xb xc).length:Int) - 1)) - 0+1:Int).toNat+1) ((xa.length:Int),0,IntKind.i64.wrap (((v75_2 xa xb xc).length:Int) - 1),(v75_0 xa xb xc)++([Ai 0]),(v75_1 xa xb xc)++([Ai 0]),(v75_2 xa xb xc))) [] (fun p24=>p24.2.2.2.1.set p24.1.toNat (AV.agg [Ai yb])))))),AV.fl [.int .i64,.int .i64] (bif b then (v75_2 xa xb xc) else (bif decide ((v53_0 xa xb xc yb) ≥ 0) then (v75_2 xa xb xc) else (bif decide ((xa.length:Int) ≥ 64) then (v75_2 xa xb xc) else (ro (runW (R48_0 ya yb) (((IntKind.i64.wrap (((v75_2 xa xb xc).length:Int) - 1)) - 0+1:Int).toNat+1) ((xa.length:Int),0,IntKind.i64.wrap (((v75_2 xa xb xc).length:Int) - 1),(v75_0 xa xb xc)++([Ai 0]),(v75_1 xa xb xc)++([Ai 0]),(v75_2 xa xb xc))) [] (fun p24=>p24.2.2.2.2)))))],Ai (bif b then 0 else (bif decide ((v53_0 xa xb xc yb) ≥ 0) then 0 else (bif decide ((xa.length:Int) ≥ 64) then 0 else (ro (runW (R48_0 ya yb) (((IntKind.i64.wrap (((v75_2 xa xb xc).length:Int) - 1)) - 0+1:Int).toNat+1) ((xa.length:Int),0,IntKind.i64.wrap (((v75_2 xa xb xc).length:Int) - 1),(v75_0 xa xb xc)++([Ai 0]),(v75_1 xa xb xc)++([Ai 0]),(v75_2 xa xb xc))) 0 (fun p24=>p24.2.1))))),AV.bool (bif b then false else (bif decide ((v53_0 xa xb xc yb) ≥ 0) then false else (bif decide ((xa.length:Int) ≥ 64) then false else true)))])) (brL1 (fun _=>rfl)) (brL (br (fun b=>some (AV.tup [AV.agg [AV.fl [.int .i64] (bif b then (v75_0 xa xb xc) else (bif decide ((xa.length:Int) ≥ 64) then (v75_0 xa xb xc) else (ro (runW (R48_0 ya yb) (((IntKind.i64.wrap (((v75_2 xa xb xc).length:Int) - 1)) - 0+1:Int).toNat+1) ((xa.length:Int),0,IntKind.i64.wrap (((v75_2 xa xb xc).length:Int) - 1),(v75_0 xa xb xc)++([Ai 0]),(v75_1 xa xb xc)++([Ai 0]),(v75_2 xa xb xc))) [] (fun p24=>p24.2.2.1.set p24.1.toNat (AV.agg [Ai ya]))))),AV.fl [.int .i64] (bif b then (v75_1 xa xb xc) else (bif decide ((xa.length:Int) ≥ 64) then (v75_1 xa xb xc) else (ro (runW (R48_0 ya yb) (((IntKind.i64.wrap (((v75_2 xa xb xc).length:Int) - 1)) - 0+1:Int).toNat+1) ((xa.length:Int),0,IntKind.i64.wrap (((v75_2 xa xb xc).length:Int) - 1),(v75_0 xa xb xc)++([Ai 0]),(v75_1 xa xb xc)++([Ai 0]),(v75_2 xa xb xc))) [] (fun p24=>p24.2.2.2.1.set p24.1.toNat (AV.agg [Ai yb]))))),AV.fl [.int .i64,.int .i64] (bif b then (v75_2 xa xb xc) else (bif decide ((xa.length:Int) ≥ 64) then (v75_2 xa xb xc) else (ro (runW (R48_0 ya yb) (((IntKind.i64.wrap (((v75_2 xa xb xc).length:Int) - 1)) - 0+1:Int).toNat+1) ((xa.length:Int),0,IntKind.i64.wrap (((v75_2 xa xb xc).length:Int) - 1),(v75_0 xa xb xc)++([Ai 0]),(v75_1 xa xb xc)++([Ai 0]),(v75_2 xa xb xc))) [] (fun p24=>p24.2.2.2.2))))],Ai (bif b then 0 else (bif decide ((xa.length:Int) ≥ 64) then 0 else (ro (runW (R48_0 ya yb) (((IntKind.i64.wrap (((v75_2 xa xb xc).length:Int) - 1)) - 0+1:Int).toNat+1) ((xa.length:Int),0,IntKind.i64.wrap (((v75_2 xa xb xc).length:Int) - 1),(v75_0 xa xb xc)++([Ai 0]),(v75_1 xa xb xc)++([Ai 0]),(v75_2 xa xb xc))) 0 (fun p24=>p24.2.1)))),AV.bool (bif b then false else (bif decide ((xa.length:Int) ≥ 64) then false else true))])) (brL1 (fun _=>rfl)) (br (fun b=>some (AV.tup [AV.agg [AV.fl [.int .i64] (bif b then (v75_0 xa xb xc) else (ro (runW (R48_0 ya yb) (((IntKind.i64.wrap (((v75_2 xa xb xc).length:Int) - 1)) - 0+1:Int).toNat+1) ((xa.length:Int),0,IntKind.i64.wrap (((v75_2 xa xb xc).length:Int) - 1),(v75_0 xa xb xc)++([Ai 0]),(v75_1 xa xb xc)++([Ai 0]),(v75_2 xa xb xc))) [] (fun p24=>p24.2.2.1.set p24.1.toNat (AV.agg [Ai ya])))),AV.fl [.int .i64] (bif b then (v75_1 xa xb xc) else (ro (runW (R48_0 ya yb) (((IntKind.i64.wrap (((v75_2 xa xb xc).length:Int) - 1)) - 0+1:Int).toNat+1) ((xa.length:Int),0,IntKind.i64.wrap (((v75_2 xa xb xc).length:Int) - 1),(v75_0 xa xb xc)++([Ai 0]),(v75_1 xa xb xc)++([Ai 0]),(v75_2 xa xb xc))) [] (fun p24=>p24.2.2.2.1.set p24.1.toNat (AV.agg [Ai yb])))),AV.fl [.int .i64,.int .i64] (bif b then (v75_2 xa xb xc) else (ro (runW (R48_0 ya yb) (((IntKind.i64.wrap (((v75_2 xa xb xc).length:Int) - 1)) - 0+1:Int).toNat+1) ((xa.length:Int),0,IntKind.i64.wrap (((v75_2 xa xb xc).length:Int) - 1),(v75_0 xa xb xc)++([Ai 0]),(v75_1 xa xb xc)++([Ai 0]),(v75_2 xa xb xc))) [] (fun p24=>p24.2.2.2.2)))],Ai (bif b then 0 else (ro (runW (R48_0 ya yb) (((IntKind.i64.wrap (((v75_2 xa xb xc).length:Int) - 1)) - 0+1:Int).toNat+1) ((xa.length:Int),0,IntKind.i64.wrap (((v75_2 xa xb xc).length:Int) - 1),(v75_0 xa xb xc)++([Ai 0]),(v75_1 xa xb xc)++([Ai 0]),(v75_2 xa xb xc))) 0 (fun p24=>p24.2.1))),AV.bool (bif b then false else true)])) (brL1 (fun _=>rfl)) (brL (brL (brL (brO (fun o:Option ((Int × Int × (List AV) × (List AV) × (List AV)))=>some (AV.tup [AV.agg [AV.fl [.int .i64] (ro o [] (fun p24=>p24.2.2.1.set p24.1.toNat (AV.agg [Ai ya]))),AV.fl [.int .i64] (ro o [] (fun p24=>p24.2.2.2.1.set p24.1.toNat (AV.agg [Ai yb]))),AV.fl [.int .i64,.int .i64] (ro o [] (fun p24=>p24.2.2.2.2))],Ai (ro o 0 (fun p24=>p24.2.1)),AV.bool true])) (fun p24=>(brL (brL1 (fun _=>rfl)))))))))))))) h1)
 ·cases h
end
end Go.Proofs.Ytkdnhnkhcldonaa
