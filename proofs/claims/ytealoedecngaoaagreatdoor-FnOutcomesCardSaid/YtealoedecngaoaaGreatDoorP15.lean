import Derived.Test.YtealoedecngaoaaGreatDoorP14
import Derived.Test.YtealoedecngaoaaGreatDoorProg
import Derived.KernelRfl
import Derived.Test.YtealoedecngaoaaGreatDoorP3
namespace Go.Proofs.YtealoedecngaoaaGreatDoor
open Go Go.Proofs.VE
set_option linter.unusedVariables false
set_option linter.unusedSimpArgs false
set_option maxRecDepth 100000
set_option maxHeartbeats 4000000
noncomputable section
noncomputable def c54:Cfg:=cfg Tryz.prog [(54,999,[2])] [(86,m86),(117,m117)] [] [] []
def q54 (xa xb xc xd xe:Int):Bool:=(q117 xa && (bif ((v117_0 xa).toList == ByteArray.empty.toList) then true else (q117 xa && (decide ((v117_0 xa).size+(ByteArray.mk #[32,115,119,97,112,115,32]).size≤4611686018427387904) && (q86 xb && (decide (((v117_0 xa)++(ByteArray.mk #[32,115,119,97,112,115,32])).size+(v86_0 xb).size≤4611686018427387904) && (decide ((((v117_0 xa)++(ByteArray.mk #[32,115,119,97,112,115,32]))++(v86_0 xb)).size+(ByteArray.mk #[32,119,111,114,115,116,32]).size≤4611686018427387904) && (q86 xc && (decide (((((v117_0 xa)++(ByteArray.mk #[32,115,119,97,112,115,32]))++(v86_0 xb))++(ByteArray.mk #[32,119,111,114,115,116,32])).size+(v86_0 xc).size≤4611686018427387904) && (decide ((((((v117_0 xa)++(ByteArray.mk #[32,115,119,97,112,115,32]))++(v86_0 xb))++(ByteArray.mk #[32,119,111,114,115,116,32]))++(v86_0 xc)).size+(ByteArray.mk #[32,112,105,101,99,101,115,32]).size≤4611686018427387904) && (q86 xd && (decide (((((((v117_0 xa)++(ByteArray.mk #[32,115,119,97,112,115,32]))++(v86_0 xb))++(ByteArray.mk #[32,119,111,114,115,116,32]))++(v86_0 xc))++(ByteArray.mk #[32,112,105,101,99,101,115,32])).size+(v86_0 xd).size≤4611686018427387904) && (decide ((((((((v117_0 xa)++(ByteArray.mk #[32,115,119,97,112,115,32]))++(v86_0 xb))++(ByteArray.mk #[32,119,111,114,115,116,32]))++(v86_0 xc))++(ByteArray.mk #[32,112,105,101,99,101,115,32]))++(v86_0 xd)).size+(ByteArray.mk #[32,108,97,114,103,101,115,116,32]).size≤4611686018427387904) && (q86 xe && decide (((((((((v117_0 xa)++(ByteArray.mk #[32,115,119,97,112,115,32]))++(v86_0 xb))++(ByteArray.mk #[32,119,111,114,115,116,32]))++(v86_0 xc))++(ByteArray.mk #[32,112,105,101,99,101,115,32]))++(v86_0 xd))++(ByteArray.mk #[32,108,97,114,103,101,115,116,32])).size+(v86_0 xe).size≤4611686018427387904)))))))))))))))
def v54_0 (xa xb xc xd xe:Int):ByteArray:=(bif ((v117_0 xa).toList == ByteArray.empty.toList) then ByteArray.empty else ((((((((v117_0 xa)++(ByteArray.mk #[32,115,119,97,112,115,32]))++(v86_0 xb))++(ByteArray.mk #[32,119,111,114,115,116,32]))++(v86_0 xc))++(ByteArray.mk #[32,112,105,101,99,101,115,32]))++(v86_0 xd))++(ByteArray.mk #[32,108,97,114,103,101,115,116,32]))++(v86_0 xe))
theorem e54 (xa xb xc xd xe:Int):funA c54 0 54 [AV.agg [Ai xa,Ai xb,Ai xc,Ai xd,Ai xe]]=(bif q117 xa then (bif ((v117_0 xa).toList == ByteArray.empty.toList) then some (AV.str ByteArray.empty)
 else (bif q117 xa then (bif decide ((v117_0 xa).size+(ByteArray.mk #[32,115,119,97,112,115,32]).size≤4611686018427387904) then (bif q86 xb then (bif decide (((v117_0 xa)++(ByteArray.mk #[32,115,119,97,112,115,32])).size+(v86_0 xb).size≤4611686018427387904) then (bif decide ((((v117_0 xa)++(ByteArray.mk #[32,115,119,97,112,115,32]))++(v86_0 xb)).size+(ByteArray.mk #[32,119,111,114,115,116,32]).size≤4611686018427387904) then (bif q86 xc then (bif decide (((((v117_0 xa)++(ByteArray.mk #[32,115,119,97,112,115,32]))++(v86_0 xb))++(ByteArray.mk #[32,119,111,114,115,116,32])).size+(v86_0 xc).size≤4611686018427387904) then (bif decide ((((((v117_0 xa)++(ByteArray.mk #[32,115,119,97,112,115,32]))++(v86_0 xb))++(ByteArray.mk #[32,119,111,114,115,116,32]))++(v86_0 xc)).size+(ByteArray.mk #[32,112,105,101,99,101,115,32]).size≤4611686018427387904) then (bif q86 xd then (bif decide (((((((v117_0 xa)++(ByteArray.mk #[32,115,119,97,112,115,32]))++(v86_0 xb))++(ByteArray.mk #[32,119,111,114,115,116,32]))++(v86_0 xc))++(ByteArray.mk #[32,112,105,101,99,101,115,32])).size+(v86_0 xd).size≤4611686018427387904) then (bif decide ((((((((v117_0 xa)++(ByteArray.mk #[32,115,119,97,112,115,32]))++(v86_0 xb))++(ByteArray.mk #[32,119,111,114,115,116,32]))++(v86_0 xc))++(ByteArray.mk #[32,112,105,101,99,101,115,32]))++(v86_0 xd)).size+(ByteArray.mk #[32,108,97,114,103,101,115,116,32]).size≤4611686018427387904) then (bif q86 xe then (bif decide (((((((((v117_0 xa)++(ByteArray.mk #[32,115,119,97,112,115,32]))++(v86_0 xb))++(ByteArray.mk #[32,119,111,114,115,116,32]))++(v86_0 xc))++(ByteArray.mk #[32,112,105,101,99,101,115,32]))++(v86_0 xd))++(ByteArray.mk #[32,108,97,114,103,101,115,116,32])).size+(v86_0 xe).size≤4611686018427387904) then some (AV.str (((((((((v117_0 xa)++(ByteArray.mk #[32,115,119,97,112,115,32]))++(v86_0 xb))++(ByteArray.mk #[32,119,111,114,115,116,32]))++(v86_0 xc))++(ByteArray.mk #[32,112,105,101,99,101,115,32]))++(v86_0 xd))++(ByteArray.mk #[32,108,97,114,103,101,115,116,32]))++(v86_0 xe)))
 else none)
 else none)
 else none)
 else none)
 else none)
 else none)
 else none)
 else none)
 else none)
 else none)
 else none)
 else none)
 else none))
 else none):=by kernel_rfl
def m54:TModel
 | [.agg [.int .i64 xa,.int .i64 xb,.int .i64 xc,.int .i64 xd,.int .i64 xe]]=>some (q54 xa xb xc xd xe,AV.str (v54_0 xa xb xc xd xe))
 | _=>none
theorem k54:Known Tryz.prog 54:=⟨Tryz.f54,Tryz.func54,by kernel_rfl,by kernel_rfl⟩
theorem meets54:Meets Tryz.prog 54 m54:=by
 refine mt (lvl:=0) (cf:=c54) rfl mixed k54 Tryz.func54 (by kernel_rfl) noLoop (allT_cons meets86 (allT_cons meets117 allT_nil)) allM_nil noI fun xs r h=>?_
 unfold m54 at h
 split at h
 ·rename_i xa xb xc xd xe
  obtain ⟨h1,rfl⟩:=pair_inj h
  exact (e54 xa xb xc xd xe).trans ((brL (br (fun b=>some (AV.str (bif b then ByteArray.empty else ((((((((v117_0 xa)++(ByteArray.mk #[32,115,119,97,112,115,32]))++(v86_0 xb))++(ByteArray.mk #[32,119,111,114,115,116,32]))++(v86_0 xc))++(ByteArray.mk #[32,112,105,101,99,101,115,32]))++(v86_0 xd))++(ByteArray.mk #[32,108,97,114,103,101,115,116,32]))++(v86_0 xe)))) (fun _=>rfl) (brL (brL (brL (brL (brL (brL (brL (brL (brL (brL (brL (brL (brL1 (fun _=>rfl)))))))))))))))) h1)
 ·cases h
def G55i61_0 {β:Type} (t0:List AV) (t3:Int) (t4:Int) (N:((Int × Int))→β) (K:(Int)→β) (d:β):β:=(bif decide (t4<(t0.length:Int)) then (bif decide (t4<4000) then (bif (decide (0≤t4) && decide (t4<(t0.length:Int))) then N (IntKind.i64.wrap ((BitVec.ofInt 64 (IntKind.i64.wrap (IntKind.i64.wrap (IntKind.i64.wrap (t3*131)+IntKind.i64.wrap (fI (t0.getD t4.toNat .undef) 0))+7)) &&& BitVec.ofInt 64 1073741823).toNat:Int),IntKind.i64.wrap (t4+1))
 else d)
 else K t3)
 else K t3)
def F55i61_0 (t0:List AV) (t3 t4:Int):Out ((Int × Int)) (Int):=G55i61_0 t0 t3 t4 .next .stop .fail
def R55i61_0 (t0:List AV):((Int × Int))→Out ((Int × Int)) (Int):=fun s:Int × Int=>F55i61_0 t0 s.1 s.2
def E55i61_0 (t0:List AV):((Int × Int))→St:=fun s:Int × Int=>⟨[(0,AV.sl [.int .u8] t0),(3,Ai s.1),(4,Ai s.2)],[]⟩
def K55i61_0 (t0:List AV) (k:Kont):(Int)→Option AV:=fun p:Int=>k (.exit 0) ⟨[(0,AV.sl [.int .u8] t0),(3,Ai p)],[]⟩
def l55i61_0:LModel:=fun _ π st k=>match st with
 | ⟨[(0,.sl g1 t0),(3,.int .i64 t3),(4,.int .i64 t4)],[]⟩=>bif nmEq π ([4]) && ctsEq g1 ([.int .u8]) then ro (runW (R55i61_0 t0) (((t0.length:Int) - t4:Int).toNat+1) (t3,t4)) none (K55i61_0 t0 k) else none
 | _=>none
noncomputable def c55:Cfg:=cfg Tryz.prog [(55,999,[2]),(61,0,[0,3,4]),(61,999,[2]),(61,1000,[0,3]),(61,1001,[0,3,4])] [] [(91,.g m91)] [61] [(61,0,l55i61_0)]
theorem s55i61_0 (t0:List AV) (ce:CallE) (k:Kont) (s:Int × Int) (next:St→Option AV):stepA (codeA c55 ce [4] 61 0 (sub [1,1,0,1,0,0] (body Tryz.f61))) (normA [4] [0,3,4]) next ((E55i61_0 t0) s) k=G55i61_0 t0 s.1 s.2 (fun s=>next ((E55i61_0 t0) s)) (K55i61_0 t0 k) none:=by kernel_rfl
theorem st55i61_0 (t0:List AV) (ce:CallE) (k:Kont) (s:(Int × Int)) (next:St→Option AV):stepA (codeA c55 ce [4] 61 0 (sub [1,1,0,1,0,0] (body Tryz.f61))) (normA [4] [0,3,4]) next ((E55i61_0 t0) s) k=(R55i61_0 t0 s).el none (fun s=>next ((E55i61_0 t0) s)) (K55i61_0 t0 k):=(s55i61_0 t0 ce k s next).trans (by unfold R55i61_0;unfold F55i61_0 G55i61_0;simp only [el_cond,el_ro,el_sum,el_fail,el_next,el_stop] <;> rfl)
theorem ok55i61_0 {ce:CallE} {π:Nm}:LoopOK c55 ce π 61 0 (sub [1,1,0,1,0,0] (body Tryz.f61)):=by
 intro m hm st k r h
 obtain rfl:l55i61_0=m:=Option.some.inj hm
 unfold l55i61_0 at h
 split at h
 ·rename_i g1 t0 t3 t4
  obtain ⟨hg,h⟩:=bif_some h
  simp only [Bool.and_eq_true] at hg
  obtain ⟨q0,q1⟩:=hg
  obtain rfl:=nE q0
  obtain rfl:=cE q1
  refine ⟨(((t0.length:Int) - t4:Int).toNat+1),?_⟩
  rw [← h]
  exact loop_run (E55i61_0 t0) (K55i61_0 t0 k) (st55i61_0 t0 ce k) _ (t3,t4)
 ·cases h
def T55 {β:Type} (k:((List AV))→β) (n:β) (a0:List AV):β:=(ro (runW (R55i61_0 a0) (((a0.length:Int) - 0:Int).toNat+1) (IntKind.i64.wrap (10101+(a0.length:Int)),0)) n (fun p82=>(bif q91 6 a0 0 p82 then k (v91_0 6 a0 0 p82)
 else n)))
abbrev W55 (a0:List AV):Option ((List AV)):=T55 some none a0
theorem n55 {β:Type} (k:((List AV))→β) (n:β) (a0:List AV):T55 k n a0=oe k n (W55 a0):=by
 unfold W55 T55
 simp only [oe_cond,oe_ro,oe_sum,oe_some,oe_none]
def q55 (a0:List AV):Bool:=(W55 a0).isSome
def v55_0 (a0:List AV):List AV:=oe (fun t=>t) [] (W55 a0)
theorem e55 (a0:List AV):funA c55 1 55 [AV.sl [.int .u8] a0]=T55 (fun t=>some (AV.fl [.int .i64] t)) none a0:=by kernel_rfl
theorem r55 (a0:List AV) (h:q55 a0=true):funA c55 1 55 [AV.sl [.int .u8] a0]=some (AV.fl [.int .i64] (v55_0 a0)):=by
 refine ((e55 a0).trans (n55 _ _ a0)).trans ?_
 unfold q55 at h
 unfold v55_0
 generalize W55 a0=o at *
 cases o with
 | none=>cases h
 | some t=>rfl
def m55:TModel
 | [.sl g0 a0]=>bif ctsEq g0 ([.int .u8]) then some (q55 a0,AV.fl [.int .i64] (v55_0 a0)) else none
 | _=>none
theorem k55:Known Tryz.prog 55:=⟨Tryz.f55,Tryz.func55,by kernel_rfl,by kernel_rfl⟩
theorem i55_61:InlK Tryz.prog [(55,999,[2]),(61,0,[0,3,4]),(61,999,[2]),(61,1000,[0,3]),(61,1001,[0,3,4])] [] [(91,.g m91)] [61] [(61,0,l55i61_0)] 61:=⟨⟨Tryz.f61,Tryz.func61,by kernel_rfl,by kernel_rfl⟩,Tryz.f61,[(0,sub [1,1,0,1,0,0] (body Tryz.f61))],Tryz.func61,by kernel_rfl,fun ce π=>(loops_cons (ok55i61_0 (ce:=ce) (π:=π)) noLoop)⟩
theorem meets55:Meets Tryz.prog 55 m55:=by
 refine mt (lvl:=1) (cf:=c55) rfl mixed k55 Tryz.func55 (by kernel_rfl) noLoop allT_nil (allG_cons meets91 allM_nil) (allI_cons i55_61 noI) fun xs r h=>?_
 unfold m55 at h
 split at h
 ·rename_i g0 a0
  obtain ⟨hg,h⟩:=bif_pair h
  have q0:=hg
  obtain rfl:=cE q0
  obtain ⟨h1,rfl⟩:=pair_inj h
  exact r55 a0 h1
 ·cases h
def G56_0 {β:Type} (t0:List AV) (t6:List AV) (t7:Int) (t3:Int) (t8:Int) (N:((Int × Int))→β) (K:(Int)→β) (d:β):β:=(bif decide (t8<t7) then (bif (decide (0≤t8) && decide (t8<(t6.length:Int))) then (bif decide (t3<0) then N (t8,IntKind.i64.wrap (t8+1))
 else (bif (decide (0≤t3) && decide (t3<(t0.length:Int))) then (bif decide (fI (t6.getD t8.toNat .undef) 0 > fI (t0.getD t3.toNat .undef) 0) then N (t8,IntKind.i64.wrap (t8+1))
 else N (t3,IntKind.i64.wrap (t8+1)))
 else d))
 else d)
 else K t3)
def F56_0 (t0 t6:List AV) (t7 t3 t8:Int):Out ((Int × Int)) (Int):=G56_0 t0 t6 t7 t3 t8 .next .stop .fail
def R56_0 (t0 t6:List AV) (t7:Int):((Int × Int))→Out ((Int × Int)) (Int):=fun s:Int × Int=>F56_0 t0 t6 t7 s.1 s.2
def E56_0 (t0 t6:List AV) (t7:Int):((Int × Int))→St:=fun s:Int × Int=>⟨[(0,AV.sl [.int .i64] t0),(3,Ai s.1),(6,AV.sl [.int .i64] t6),(7,Ai t7),(8,Ai s.2)],[]⟩
def K56_0 (t0 t6:List AV) (t7:Int) (k:Kont):(Int)→Option AV:=fun p:Int=>k (.exit 0) ⟨[(3,Ai p)],[]⟩
def l56_0:LModel:=fun _ _ st k=>match st with
 | ⟨[(0,.sl g0 t0),(3,.int .i64 t3),(6,.sl g1 t6),(7,.int .i64 t7),(8,.int .i64 t8)],[]⟩=>bif ctsEq g0 ([.int .i64]) && ctsEq g1 ([.int .i64]) then ro (runW (R56_0 t0 t6 t7) ((t7 - t8:Int).toNat+1) (t3,t8)) none (K56_0 t0 t6 t7 k) else none
 | _=>none
noncomputable def c56:Cfg:=cfg Tryz.prog [(56,0,[0,3,6,7,8]),(56,999,[2]),(56,1000,[3]),(56,1001,[0,3,6,7,8])] [] [] [] [(56,0,l56_0)]
theorem s56_0 (t0 t6:List AV) (t7:Int) (ce:CallE) (k:Kont) (s:Int × Int) (next:St→Option AV):stepA (codeA c56 ce [] 56 0 (sub [1,1,0,1,0,0] (body Tryz.f56))) (normA [] [0,3,6,7,8]) next ((E56_0 t0 t6 t7) s) k=G56_0 t0 t6 t7 s.1 s.2 (fun s=>next ((E56_0 t0 t6 t7) s)) (K56_0 t0 t6 t7 k) none:=by kernel_rfl
theorem st56_0 (t0 t6:List AV) (t7:Int) (ce:CallE) (k:Kont) (s:(Int × Int)) (next:St→Option AV):stepA (codeA c56 ce [] 56 0 (sub [1,1,0,1,0,0] (body Tryz.f56))) (normA [] [0,3,6,7,8]) next ((E56_0 t0 t6 t7) s) k=(R56_0 t0 t6 t7 s).el none (fun s=>next ((E56_0 t0 t6 t7) s)) (K56_0 t0 t6 t7 k):=(s56_0 t0 t6 t7 ce k s next).trans (by unfold R56_0;unfold F56_0 G56_0;simp only [el_cond,el_ro,el_sum,el_fail,el_next,el_stop] <;> rfl)
theorem ok56_0 {ce:CallE}:LoopOK c56 ce [] 56 0 (sub [1,1,0,1,0,0] (body Tryz.f56)):=by
 intro m hm st k r h
 obtain rfl:l56_0=m:=Option.some.inj hm
 unfold l56_0 at h
 split at h
 ·rename_i g0 t0 t3 g1 t6 t7 t8
  obtain ⟨hg,h⟩:=bif_some h
  simp only [Bool.and_eq_true] at hg
  obtain ⟨q0,q1⟩:=hg
  obtain rfl:=cE q0
  obtain rfl:=cE q1
  refine ⟨((t7 - t8:Int).toNat+1),?_⟩
  rw [← h]
  exact loop_run (E56_0 t0 t6 t7) (K56_0 t0 t6 t7 k) (st56_0 t0 t6 t7 ce k) _ (t3,t8)
 ·cases h
def q56 (a0:List AV):Bool:=(ro (runW (R56_0 a0 a0 (a0.length:Int)) (((a0.length:Int) - 0:Int).toNat+1) ((-1),0)) false (fun p83=>true))
def v56_0 (a0:List AV):Int:=(ro (runW (R56_0 a0 a0 (a0.length:Int)) (((a0.length:Int) - 0:Int).toNat+1) ((-1),0)) 0 (fun p83=>p83))
theorem e56 (a0:List AV):funA c56 0 56 [AV.sl [.int .i64] a0]=(ro (runW (R56_0 a0 a0 (a0.length:Int)) (((a0.length:Int) - 0:Int).toNat+1) ((-1),0)) none (fun p83=>some (Ai p83))):=by kernel_rfl
def m56:TModel
 | [.sl g0 a0]=>bif ctsEq g0 ([.int .i64]) then some (q56 a0,AV.int .i64 (v56_0 a0)) else none
 | _=>none
theorem k56:Known Tryz.prog 56:=⟨Tryz.f56,Tryz.func56,by kernel_rfl,by kernel_rfl⟩
theorem meets56:Meets Tryz.prog 56 m56:=by
 refine mt (lvl:=0) (cf:=c56) rfl mixed k56 Tryz.func56 (by kernel_rfl) (loops_cons ok56_0 noLoop) allT_nil allM_nil noI fun xs r h=>?_
 unfold m56 at h
 split at h
 ·rename_i g0 a0
  obtain ⟨hg,h⟩:=bif_pair h
  have q0:=hg
  obtain rfl:=cE q0
  obtain ⟨h1,rfl⟩:=pair_inj h
  exact (e56 a0).trans ((brO (fun o:Option (Int)=>some (Ai (ro o 0 (fun p83=>p83)))) (fun p83=>(fun _=>rfl))) h1)
 ·cases h
def G57_0 {β:Type} (t0:List AV) (t3:Int) (t4:Int) (N:((Int × Int))→β) (K:(Int)→β) (d:β):β:=(bif decide (t4<(t0.length:Int)) then (bif decide (t3<0) then N (t4,IntKind.i64.wrap (t4+1))
 else (bif (decide (0≤t4) && decide (t4<(t0.length:Int))) then (bif (decide (0≤t3) && decide (t3<(t0.length:Int))) then (bif decide (fI (t0.getD t4.toNat .undef) 0 > fI (t0.getD t3.toNat .undef) 0) then N (t4,IntKind.i64.wrap (t4+1))
 else N (t3,IntKind.i64.wrap (t4+1)))
 else d)
 else d))
 else K t3)
def F57_0 (t0:List AV) (t3 t4:Int):Out ((Int × Int)) (Int):=G57_0 t0 t3 t4 .next .stop .fail
def R57_0 (t0:List AV):((Int × Int))→Out ((Int × Int)) (Int):=fun s:Int × Int=>F57_0 t0 s.1 s.2
def E57_0 (t0:List AV):((Int × Int))→St:=fun s:Int × Int=>⟨[(0,AV.sl [.int .i64] t0),(3,Ai s.1),(4,Ai s.2)],[]⟩
def K57_0 (t0:List AV) (k:Kont):(Int)→Option AV:=fun p:Int=>k (.exit 0) ⟨[(3,Ai p)],[]⟩
def l57_0:LModel:=fun _ _ st k=>match st with
 | ⟨[(0,.sl g0 t0),(3,.int .i64 t3),(4,.int .i64 t4)],[]⟩=>bif ctsEq g0 ([.int .i64]) then ro (runW (R57_0 t0) (((t0.length:Int) - t4:Int).toNat+1) (t3,t4)) none (K57_0 t0 k) else none
 | _=>none
noncomputable def c57:Cfg:=cfg Tryz.prog [(57,0,[0,3,4]),(57,999,[2]),(57,1000,[3]),(57,1001,[0,3,4])] [] [] [] [(57,0,l57_0)]
theorem s57_0 (t0:List AV) (ce:CallE) (k:Kont) (s:Int × Int) (next:St→Option AV):stepA (codeA c57 ce [] 57 0 (sub [1,1,0,1,0,0] (body Tryz.f57))) (normA [] [0,3,4]) next ((E57_0 t0) s) k=G57_0 t0 s.1 s.2 (fun s=>next ((E57_0 t0) s)) (K57_0 t0 k) none:=by kernel_rfl
theorem st57_0 (t0:List AV) (ce:CallE) (k:Kont) (s:(Int × Int)) (next:St→Option AV):stepA (codeA c57 ce [] 57 0 (sub [1,1,0,1,0,0] (body Tryz.f57))) (normA [] [0,3,4]) next ((E57_0 t0) s) k=(R57_0 t0 s).el none (fun s=>next ((E57_0 t0) s)) (K57_0 t0 k):=(s57_0 t0 ce k s next).trans (by unfold R57_0;unfold F57_0 G57_0;simp only [el_cond,el_ro,el_sum,el_fail,el_next,el_stop] <;> rfl)
theorem ok57_0 {ce:CallE}:LoopOK c57 ce [] 57 0 (sub [1,1,0,1,0,0] (body Tryz.f57)):=by
 intro m hm st k r h
 obtain rfl:l57_0=m:=Option.some.inj hm
 unfold l57_0 at h
 split at h
 ·rename_i g0 t0 t3 t4
  obtain ⟨hg,h⟩:=bif_some h
  have q0:=hg
  obtain rfl:=cE q0
  refine ⟨(((t0.length:Int) - t4:Int).toNat+1),?_⟩
  rw [← h]
  exact loop_run (E57_0 t0) (K57_0 t0 k) (st57_0 t0 ce k) _ (t3,t4)
 ·cases h
def q57 (a0:List AV):Bool:=(ro (runW (R57_0 a0) (((a0.length:Int) - 0:Int).toNat+1) ((-1),0)) false (fun p84=>true))
def v57_0 (a0:List AV):Int:=(ro (runW (R57_0 a0) (((a0.length:Int) - 0:Int).toNat+1) ((-1),0)) 0 (fun p84=>p84))
theorem e57 (a0:List AV):funA c57 0 57 [AV.sl [.int .i64] a0]=(ro (runW (R57_0 a0) (((a0.length:Int) - 0:Int).toNat+1) ((-1),0)) none (fun p84=>some (Ai p84))):=by kernel_rfl
def m57:TModel
 | [.sl g0 a0]=>bif ctsEq g0 ([.int .i64]) then some (q57 a0,AV.int .i64 (v57_0 a0)) else none
 | _=>none
theorem k57:Known Tryz.prog 57:=⟨Tryz.f57,Tryz.func57,by kernel_rfl,by kernel_rfl⟩
theorem meets57:Meets Tryz.prog 57 m57:=by
 refine mt (lvl:=0) (cf:=c57) rfl mixed k57 Tryz.func57 (by kernel_rfl) (loops_cons ok57_0 noLoop) allT_nil allM_nil noI fun xs r h=>?_
 unfold m57 at h
 split at h
 ·rename_i g0 a0
  obtain ⟨hg,h⟩:=bif_pair h
  have q0:=hg
  obtain rfl:=cE q0
  obtain ⟨h1,rfl⟩:=pair_inj h
  exact (e57 a0).trans ((brO (fun o:Option (Int)=>some (Ai (ro o 0 (fun p84=>p84)))) (fun p84=>(fun _=>rfl))) h1)
 ·cases h
noncomputable def c120:Cfg:=cfg Tryz.prog [(120,999,[2]),(120,1000,[2,3])] [] [(131,.g m131),(132,.g m132),(172,.g m172)] [] []
def T120 {β:Type} (k:(Int × Int × Int × (List AV) × Int × Int)→β) (n:β) (ua:List AV) (ub:Int) (uc:Int):β:=by
 refine (?f0:Int→Int→Int→(List AV)→Int→Int→β) (v172_0 ua ub uc) (v172_1 ua ub uc) (v172_2 ua ub uc) (v172_3 ua ub uc) (v172_4 ua ub uc) (v172_5 ua ub uc);intro x1 x2 x3 x4 x5 x6
 refine (?f1:Int→(List AV)→Int→Int→β) (v131_0 10 x4 x5 x6) (v131_1 10 x4 x5 x6) (v131_2 10 x4 x5 x6) (v131_3 10 x4 x5 x6);intro x7 x8 x9 x10
 exact (bif q172 ua ub uc then (bif q131 10 x4 x5 x6 then (bif decide (x7=0) then (bif q132 x8 x9 x10 ([AV.int .i64 (-1),AV.int .i64 3]) then k ((v132_0 x8 x9 x10 ([AV.int .i64 (-1),AV.int .i64 3])),x2,x3,(v132_1 x8 x9 x10 ([AV.int .i64 (-1),AV.int .i64 3])),(v132_2 x8 x9 x10 ([AV.int .i64 (-1),AV.int .i64 3])),(v132_3 x8 x9 x10 ([AV.int .i64 (-1),AV.int .i64 3])))
 else n)
 else (bif decide (x7=1) then (bif q132 x8 x9 x10 ([AV.int .i64 0,AV.int .i64 1,AV.int .i64 64,AV.int .i64 65]) then k (x1,(v132_0 x8 x9 x10 ([AV.int .i64 0,AV.int .i64 1,AV.int .i64 64,AV.int .i64 65])),x3,(v132_1 x8 x9 x10 ([AV.int .i64 0,AV.int .i64 1,AV.int .i64 64,AV.int .i64 65])),(v132_2 x8 x9 x10 ([AV.int .i64 0,AV.int .i64 1,AV.int .i64 64,AV.int .i64 65])),(v132_3 x8 x9 x10 ([AV.int .i64 0,AV.int .i64 1,AV.int .i64 64,AV.int .i64 65])))
 else n)
 else (bif decide (x7=2) then (bif q132 x8 x9 x10 ([AV.int .i64 (-1),AV.int .i64 0,AV.int .i64 10006,AV.int .i64 10007]) then k (x1,x2,(v132_0 x8 x9 x10 ([AV.int .i64 (-1),AV.int .i64 0,AV.int .i64 10006,AV.int .i64 10007])),(v132_1 x8 x9 x10 ([AV.int .i64 (-1),AV.int .i64 0,AV.int .i64 10006,AV.int .i64 10007])),(v132_2 x8 x9 x10 ([AV.int .i64 (-1),AV.int .i64 0,AV.int .i64 10006,AV.int .i64 10007])),(v132_3 x8 x9 x10 ([AV.int .i64 (-1),AV.int .i64 0,AV.int .i64 10006,AV.int .i64 10007])))
 else n)
 else k (x1,x2,x3,x8,x9,x10))))
 else n)
 else n)
abbrev W120 (ua:List AV) (ub:Int) (uc:Int):Option (Int × Int × Int × (List AV) × Int × Int):=T120 some none ua ub uc
theorem n120 {β:Type} (k:(Int × Int × Int × (List AV) × Int × Int)→β) (n:β) (ua:List AV) (ub:Int) (uc:Int):T120 k n ua ub uc=oe k n (W120 ua ub uc):=by
 unfold W120 T120
 simp only [oe_cond,oe_ro,oe_sum,oe_some,oe_none]
def q120 (ua:List AV) (ub uc:Int):Bool:=(W120 ua ub uc).isSome
def v120_0 (ua:List AV) (ub uc:Int):Int:=oe (fun t=>t.1) 0 (W120 ua ub uc)
def v120_1 (ua:List AV) (ub uc:Int):Int:=oe (fun t=>t.2.1) 0 (W120 ua ub uc)
def v120_2 (ua:List AV) (ub uc:Int):Int:=oe (fun t=>t.2.2.1) 0 (W120 ua ub uc)
def v120_3 (ua:List AV) (ub uc:Int):List AV:=oe (fun t=>t.2.2.2.1) [] (W120 ua ub uc)
def v120_4 (ua:List AV) (ub uc:Int):Int:=oe (fun t=>t.2.2.2.2.1) 0 (W120 ua ub uc)
def v120_5 (ua:List AV) (ub uc:Int):Int:=oe (fun t=>t.2.2.2.2.2) 0 (W120 ua ub uc)
theorem e120 (ua:List AV) (ub uc:Int) (K:List AV→List (Option Blk)→Option AV):inlA c120 1 120 [AV.ptr [1] 0 0] [0] (canH 1 [⟨true,[],[AV.agg [AV.sl [.int .u8] ua,Ai ub,Ai uc]]⟩]) (keepG Tryz.prog 1 [82] [] K)=T120 (fun t=>K [AV.agg [Ai t.1,Ai t.2.1,Ai t.2.2.1]] [some ⟨true,[],[AV.agg [AV.sl [.int .u8] t.2.2.2.1,Ai t.2.2.2.2.1,Ai t.2.2.2.2.2]]⟩]) none ua ub uc:=by kernel_rfl
theorem r120 (ua:List AV) (ub uc:Int) (K:List AV→List (Option Blk)→Option AV) (h:q120 ua ub uc=true):inlA c120 1 120 [AV.ptr [1] 0 0] [0] (canH 1 [⟨true,[],[AV.agg [AV.sl [.int .u8] ua,AV.int .i64 ub,AV.int .i64 uc]]⟩]) (keepG Tryz.prog 1 [82] [] K)=K [AV.agg [AV.int .i64 (v120_0 ua ub uc),AV.int .i64 (v120_1 ua ub uc),AV.int .i64 (v120_2 ua ub uc)]] [some ⟨true,[],[AV.agg [AV.sl [.int .u8] (v120_3 ua ub uc),AV.int .i64 (v120_4 ua ub uc),AV.int .i64 (v120_5 ua ub uc)]]⟩]:=by
 refine ((e120 ua ub uc K).trans (n120 _ _ ua ub uc)).trans ?_
 unfold q120 at h
 unfold v120_0 v120_1 v120_2 v120_3 v120_4 v120_5
 generalize W120 ua ub uc=o at *
 cases o with
 | none=>cases h
 | some t=>rfl
def m120:GModel
 | [.ptr g0 g1 g2],[⟨true,[],[.agg [.sl g3 ua,.int .i64 ub,.int .i64 uc]]⟩]=>bif nmEq g0 ([1]) && Nat.beq g1 0 && Nat.beq g2 0 && ctsEq g3 ([.int .u8]) then some (q120 ua ub uc,[AV.agg [AV.int .i64 (v120_0 ua ub uc),AV.int .i64 (v120_1 ua ub uc),AV.int .i64 (v120_2 ua ub uc)]],[some ⟨true,[],[AV.agg [AV.sl [.int .u8] (v120_3 ua ub uc),AV.int .i64 (v120_4 ua ub uc),AV.int .i64 (v120_5 ua ub uc)]]⟩]) else none
 | _,_=>none
theorem k120:Known Tryz.prog 120:=⟨Tryz.f120,Tryz.func120,by kernel_rfl,by kernel_rfl⟩
theorem meets120:MeetsG Tryz.prog 120 m120:=by
 refine mg (rt:=[82]) (gs:=[]) (lvl:=0) (cf:=c120) rfl mixed k120 Tryz.func120 (by kernel_rfl) noLoop allT_nil (allG_cons meets131 (allG_cons meets132 (allG_cons meets172 allM_nil))) noI fun xs bs r bs' h K=>?_
 unfold m120 at h
 split at h
 ·rename_i g0 g1 g2 g3 ua ub uc
  obtain ⟨hg,h⟩:=bif_pair h
  simp only [Bool.and_eq_true] at hg
  obtain ⟨⟨⟨q0,q1⟩,q2⟩,q3⟩:=hg
  obtain rfl:=nE q0
  obtain rfl:=bE q1
  obtain rfl:=bE q2
  obtain rfl:=cE q3
  obtain ⟨h1,rfl,rfl⟩:=trip_inj h
  exact r120 ua ub uc K h1
 ·cases h
def G58i61_0 {β:Type} (t0:List AV) (h0_0:Int) (h0_1:Int) (h0_2:Int) (t3:Int) (t4:Int) (N:((Int × Int))→β) (K:(Int)→β) (d:β):β:=(bif decide (t4<(t0.length:Int)) then (bif decide (t4<4000) then (bif (decide (0≤t4) && decide (t4<(t0.length:Int))) then N (IntKind.i64.wrap ((BitVec.ofInt 64 (IntKind.i64.wrap (IntKind.i64.wrap (IntKind.i64.wrap (t3*131)+IntKind.i64.wrap (fI (t0.getD t4.toNat .undef) 0))+7)) &&& BitVec.ofInt 64 1073741823).toNat:Int),IntKind.i64.wrap (t4+1))
 else d)
 else K t3)
 else K t3)
def F58i61_0 (t0:List AV) (h0_0 h0_1 h0_2 t3 t4:Int):Out ((Int × Int)) (Int):=G58i61_0 t0 h0_0 h0_1 h0_2 t3 t4 .next .stop .fail
def R58i61_0 (t0:List AV) (h0_0 h0_1 h0_2:Int):((Int × Int))→Out ((Int × Int)) (Int):=fun s:Int × Int=>F58i61_0 t0 h0_0 h0_1 h0_2 s.1 s.2
def E58i61_0 (t0:List AV) (h0_0 h0_1 h0_2:Int):((Int × Int))→St:=fun s:Int × Int=>⟨[(0,AV.sl [.int .u8] t0),(3,Ai s.1),(4,Ai s.2)],[([1,3],⟨true,[],[AV.agg [Ai h0_0,Ai h0_1,Ai h0_2]]⟩)]⟩
def K58i61_0 (t0:List AV) (h0_0 h0_1 h0_2:Int) (k:Kont):(Int)→Option AV:=fun p:Int=>k (.exit 0) ⟨[(0,AV.sl [.int .u8] t0),(3,Ai p)],[([1,3],⟨true,[],[AV.agg [Ai h0_0,Ai h0_1,Ai h0_2]]⟩)]⟩
def l58i61_0:LModel:=fun _ π st k=>match st with
 | ⟨[(0,.sl g1 t0),(3,.int .i64 t3),(4,.int .i64 t4)],[(g2,⟨true,[],[.agg [.int .i64 h0_0,.int .i64 h0_1,.int .i64 h0_2]]⟩)]⟩=>bif nmEq π ([10]) && ctsEq g1 ([.int .u8]) && nmEq g2 ([1,3]) then ro (runW (R58i61_0 t0 h0_0 h0_1 h0_2) (((t0.length:Int) - t4:Int).toNat+1) (t3,t4)) none (K58i61_0 t0 h0_0 h0_1 h0_2 k) else none
 | _=>none
noncomputable def c58:Cfg:=cfg Tryz.prog [(58,999,[2,3,4]),(61,0,[0,3,4]),(61,999,[2]),(61,1000,[0,3]),(61,1001,[0,3,4])] [] [(118,.g m118),(119,.g m119),(120,.g m120)] [61] [(61,0,l58i61_0)]
theorem s58i61_0 (t0:List AV) (h0_0 h0_1 h0_2:Int) (ce:CallE) (k:Kont) (s:Int × Int) (next:St→Option AV):stepA (codeA c58 ce [10] 61 0 (sub [1,1,0,1,0,0] (body Tryz.f61))) (normA [10] [0,3,4]) next ((E58i61_0 t0 h0_0 h0_1 h0_2) s) k=G58i61_0 t0 h0_0 h0_1 h0_2 s.1 s.2 (fun s=>next ((E58i61_0 t0 h0_0 h0_1 h0_2) s)) (K58i61_0 t0 h0_0 h0_1 h0_2 k) none:=by kernel_rfl
theorem st58i61_0 (t0:List AV) (h0_0 h0_1 h0_2:Int) (ce:CallE) (k:Kont) (s:(Int × Int)) (next:St→Option AV):stepA (codeA c58 ce [10] 61 0 (sub [1,1,0,1,0,0] (body Tryz.f61))) (normA [10] [0,3,4]) next ((E58i61_0 t0 h0_0 h0_1 h0_2) s) k=(R58i61_0 t0 h0_0 h0_1 h0_2 s).el none (fun s=>next ((E58i61_0 t0 h0_0 h0_1 h0_2) s)) (K58i61_0 t0 h0_0 h0_1 h0_2 k):=(s58i61_0 t0 h0_0 h0_1 h0_2 ce k s next).trans (by unfold R58i61_0;unfold F58i61_0 G58i61_0;simp only [el_cond,el_ro,el_sum,el_fail,el_next,el_stop] <;> rfl)
theorem ok58i61_0 {ce:CallE} {π:Nm}:LoopOK c58 ce π 61 0 (sub [1,1,0,1,0,0] (body Tryz.f61)):=by
 intro m hm st k r h
 obtain rfl:l58i61_0=m:=Option.some.inj hm
 unfold l58i61_0 at h
 split at h
 ·rename_i g1 t0 t3 t4 g2 h0_0 h0_1 h0_2
  obtain ⟨hg,h⟩:=bif_some h
  simp only [Bool.and_eq_true] at hg
  obtain ⟨⟨q0,q1⟩,q2⟩:=hg
  obtain rfl:=nE q0
  obtain rfl:=cE q1
  obtain rfl:=nE q2
  refine ⟨(((t0.length:Int) - t4:Int).toNat+1),?_⟩
  rw [← h]
  exact loop_run (E58i61_0 t0 h0_0 h0_1 h0_2) (K58i61_0 t0 h0_0 h0_1 h0_2 k) (st58i61_0 t0 h0_0 h0_1 h0_2 ce k) _ (t3,t4)
 ·cases h
def T58 {β:Type} (k:((List AV) × Int × Int × Int × (List AV))→β) (n:β) (a0:List AV):β:=(ro (runW (R58i61_0 a0 0 0 0) (((a0.length:Int) - 0:Int).toNat+1) (IntKind.i64.wrap (10101+(a0.length:Int)),0)) n (fun p86=>(bif q118 a0 0 p86 then (bif q119 8 (v118_5 a0 0 p86) (v118_6 a0 0 p86) (v118_7 a0 0 p86) then (bif (v119_0 8 (v118_5 a0 0 p86) (v118_6 a0 0 p86) (v118_7 a0 0 p86)) then (bif q120 (v119_1 8 (v118_5 a0 0 p86) (v118_6 a0 0 p86) (v118_7 a0 0 p86)) (v119_2 8 (v118_5 a0 0 p86) (v118_6 a0 0 p86) (v118_7 a0 0 p86)) (v119_3 8 (v118_5 a0 0 p86) (v118_6 a0 0 p86) (v118_7 a0 0 p86)) then k ((v118_0 a0 0 p86),(v120_0 (v119_1 8 (v118_5 a0 0 p86) (v118_6 a0 0 p86) (v118_7 a0 0 p86)) (v119_2 8 (v118_5 a0 0 p86) (v118_6 a0 0 p86) (v118_7 a0 0 p86)) (v119_3 8 (v118_5 a0 0 p86) (v118_6 a0 0 p86) (v118_7 a0 0 p86))),(v120_1 (v119_1 8 (v118_5 a0 0 p86) (v118_6 a0 0 p86) (v118_7 a0 0 p86)) (v119_2 8 (v118_5 a0 0 p86) (v118_6 a0 0 p86) (v118_7 a0 0 p86)) (v119_3 8 (v118_5 a0 0 p86) (v118_6 a0 0 p86) (v118_7 a0 0 p86))),(v120_2 (v119_1 8 (v118_5 a0 0 p86) (v118_6 a0 0 p86) (v118_7 a0 0 p86)) (v119_2 8 (v118_5 a0 0 p86) (v118_6 a0 0 p86) (v118_7 a0 0 p86)) (v119_3 8 (v118_5 a0 0 p86) (v118_6 a0 0 p86) (v118_7 a0 0 p86))),(v118_4 a0 0 p86))
 else n)
 else k ((v118_0 a0 0 p86),(v118_1 a0 0 p86),(v118_2 a0 0 p86),(v118_3 a0 0 p86),(v118_4 a0 0 p86)))
 else n)
 else n)))
abbrev W58 (a0:List AV):Option ((List AV) × Int × Int × Int × (List AV)):=T58 some none a0
theorem n58 {β:Type} (k:((List AV) × Int × Int × Int × (List AV))→β) (n:β) (a0:List AV):T58 k n a0=oe k n (W58 a0):=by
 unfold W58 T58
 simp only [oe_cond,oe_ro,oe_sum,oe_some,oe_none]
def q58 (a0:List AV):Bool:=(W58 a0).isSome
def v58_0 (a0:List AV):List AV:=oe (fun t=>t.1) [] (W58 a0)
def v58_1 (a0:List AV):Int:=oe (fun t=>t.2.1) 0 (W58 a0)
def v58_2 (a0:List AV):Int:=oe (fun t=>t.2.2.1) 0 (W58 a0)
def v58_3 (a0:List AV):Int:=oe (fun t=>t.2.2.2.1) 0 (W58 a0)
def v58_4 (a0:List AV):List AV:=oe (fun t=>t.2.2.2.2) [] (W58 a0)
theorem e58 (a0:List AV):funA c58 1 58 [AV.sl [.int .u8] a0]=T58 (fun t=>some (AV.tup [AV.fl [.int .i64] t.1,AV.agg [Ai t.2.1,Ai t.2.2.1,Ai t.2.2.2.1],AV.fl [.int .i64,.int .i64] t.2.2.2.2])) none a0:=by kernel_rfl
theorem r58 (a0:List AV) (h:q58 a0=true):funA c58 1 58 [AV.sl [.int .u8] a0]=some (AV.tup [AV.fl [.int .i64] (v58_0 a0),AV.agg [AV.int .i64 (v58_1 a0),AV.int .i64 (v58_2 a0),AV.int .i64 (v58_3 a0)],AV.fl [.int .i64,.int .i64] (v58_4 a0)]):=by
 refine ((e58 a0).trans (n58 _ _ a0)).trans ?_
 unfold q58 at h
 unfold v58_0 v58_1 v58_2 v58_3 v58_4
 generalize W58 a0=o at *
 cases o with
 | none=>cases h
 | some t=>rfl
def m58:TModel
 | [.sl g0 a0]=>bif ctsEq g0 ([.int .u8]) then some (q58 a0,AV.tup [AV.fl [.int .i64] (v58_0 a0),AV.agg [AV.int .i64 (v58_1 a0),AV.int .i64 (v58_2 a0),AV.int .i64 (v58_3 a0)],AV.fl [.int .i64,.int .i64] (v58_4 a0)]) else none
 | _=>none
theorem k58:Known Tryz.prog 58:=⟨Tryz.f58,Tryz.func58,by kernel_rfl,by kernel_rfl⟩
theorem i58_61:InlK Tryz.prog [(58,999,[2,3,4]),(61,0,[0,3,4]),(61,999,[2]),(61,1000,[0,3]),(61,1001,[0,3,4])] [] [(118,.g m118),(119,.g m119),(120,.g m120)] [61] [(61,0,l58i61_0)] 61:=⟨⟨Tryz.f61,Tryz.func61,by kernel_rfl,by kernel_rfl⟩,Tryz.f61,[(0,sub [1,1,0,1,0,0] (body Tryz.f61))],Tryz.func61,by kernel_rfl,fun ce π=>(loops_cons (ok58i61_0 (ce:=ce) (π:=π)) noLoop)⟩
theorem meets58:Meets Tryz.prog 58 m58:=by
 refine mt (lvl:=1) (cf:=c58) rfl mixed k58 Tryz.func58 (by kernel_rfl) noLoop allT_nil (allG_cons meets118 (allG_cons meets119 (allG_cons meets120 allM_nil))) (allI_cons i58_61 noI) fun xs r h=>?_
 unfold m58 at h
 split at h
 ·rename_i g0 a0
  obtain ⟨hg,h⟩:=bif_pair h
  have q0:=hg
  obtain rfl:=cE q0
  obtain ⟨h1,rfl⟩:=pair_inj h
  exact r58 a0 h1
 ·cases h
def G6_2 {β:Type} (t0:List AV) (t12:Int) (h0:List AV) (t13:Int) (N:(Int)→β) (K:(Unit ⊕ Unit)→β) (d:β):β:=(bif decide (t13<(h0.length:Int)) then (bif (decide (0≤t13) && decide (t13<(h0.length:Int))) then (bif (decide (0≤t12) && decide (t12<(h0.length:Int))) then (bif decide (fI (h0.getD t13.toNat .undef) 0 > fI (h0.getD t12.toNat .undef) 0) then K (.inr ())
 else N (IntKind.i64.wrap (t13+1)))
 else d)
 else d)
 else K (.inl ()))
def F6_2 (t0:List AV) (t12:Int) (h0:List AV) (t13:Int):Out (Int) (Unit ⊕ Unit):=G6_2 t0 t12 h0 t13 .next .stop .fail
def R6_2 (t0:List AV) (t12:Int) (h0:List AV):(Int)→Out (Int) (Unit ⊕ Unit):=fun s:Int=>F6_2 t0 t12 h0 s
def E6_2 (t0:List AV) (t12:Int) (h0:List AV):(Int)→St:=fun s:Int=>⟨[(0,AV.sl [.int .u8] t0),(11,AV.own [0,11]),(12,Ai t12),(13,Ai s)],[([0,11],⟨false,[.int .i64],h0⟩)]⟩
def K6_2 (t0:List AV) (t12:Int) (h0:List AV) (k:Kont):(Unit ⊕ Unit)→Option AV:=sumE (fun _:Unit=>k (.exit 2) ⟨[(0,AV.sl [.int .u8] t0)],[([0,11],⟨false,[.int .i64],h0⟩)]⟩) (fun _:Unit=>k .ret ⟨[(2,AV.bool false)],[([0,11],⟨false,[.int .i64],h0⟩)]⟩)
def l6_2:LModel:=fun _ _ st k=>match st with
 | ⟨[(0,.sl g0 t0),(11,.own g1),(12,.int .i64 t12),(13,.int .i64 t13)],[(g2,⟨false,g3,h0⟩)]⟩=>bif ctsEq g0 ([.int .u8]) && nmEq g1 ([0,11]) && nmEq g2 ([0,11]) && ctsEq g3 ([.int .i64]) then ro (runW (R6_2 t0 t12 h0) (((h0.length:Int) - t13:Int).toNat+1) t13) none (K6_2 t0 t12 h0 k) else none
 | _=>none
def G6_0 {β:Type} (t0:List AV) (t9:Int) (h0:List AV) (h1:List AV) (h2:List AV) (t10:Int) (N:(Int)→β) (K:(Unit ⊕ Unit)→β) (d:β):β:=(bif decide (t10<(h1.length:Int)) then (bif (decide (0≤t10) && decide (t10<(h1.length:Int))) then (bif (decide (0≤t10) && decide (t10<(h2.length:Int))) then (bif !(bif decide (fI (h1.getD t10.toNat .undef) 0=fI (h2.getD t10.toNat .undef) 0) then (bif decide (fI (h1.getD t10.toNat .undef) 1=fI (h2.getD t10.toNat .undef) 1) then (bif decide (fI (h1.getD t10.toNat .undef) 2=fI (h2.getD t10.toNat .undef) 2) then (bif decide (fI (h1.getD t10.toNat .undef) 3=fI (h2.getD t10.toNat .undef) 3) then (bif decide (fI (h1.getD t10.toNat .undef) 4=fI (h2.getD t10.toNat .undef) 4) then true else false) else false) else false) else false) else false) then K (.inr ())
 else (bif (decide (0≤t10) && decide (t10<(h1.length:Int))) then (bif (decide (0≤t10) && decide (t10<(h1.length:Int))) then (bif decide (fI (h1.getD t10.toNat .undef) 2 > fI (h1.getD t10.toNat .undef) 1) then K (.inr ())
 else (bif (decide (0≤t10) && decide (t10<(h1.length:Int))) then (bif decide (fI (h1.getD t10.toNat .undef) 4 > (h0.length:Int)) then K (.inr ())
 else (bif (decide (0≤t10) && decide (t10<(h1.length:Int))) then (bif (decide (0≤t9) && decide (t9<(h1.length:Int))) then (bif decide (fI (h1.getD t10.toNat .undef) 2<fI (h1.getD t9.toNat .undef) 2) then K (.inr ())
 else (bif (decide (0≤t10) && decide (t10<(h1.length:Int))) then (bif q53 (fI (h1.getD t10.toNat .undef) 0) (fI (h1.getD t10.toNat .undef) 1) (fI (h1.getD t10.toNat .undef) 2) (fI (h1.getD t10.toNat .undef) 3) (fI (h1.getD t10.toNat .undef) 4) then (bif (decide (0≤t10) && decide (t10<(h1.length:Int))) then (bif q54 (fI (h1.getD t10.toNat .undef) 0) (fI (h1.getD t10.toNat .undef) 1) (fI (h1.getD t10.toNat .undef) 2) (fI (h1.getD t10.toNat .undef) 3) (fI (h1.getD t10.toNat .undef) 4) then (bif !((v53_0 (fI (h1.getD t10.toNat .undef) 0) (fI (h1.getD t10.toNat .undef) 1) (fI (h1.getD t10.toNat .undef) 2) (fI (h1.getD t10.toNat .undef) 3) (fI (h1.getD t10.toNat .undef) 4)).toList == (v54_0 (fI (h1.getD t10.toNat .undef) 0) (fI (h1.getD t10.toNat .undef) 1) (fI (h1.getD t10.toNat .undef) 2) (fI (h1.getD t10.toNat .undef) 3) (fI (h1.getD t10.toNat .undef) 4)).toList) then K (.inr ())
 else N (IntKind.i64.wrap (t10+1)))
 else d)
 else d)
 else d)
 else d))
 else d)
 else d))
 else d))
 else d)
 else d))
 else d)
 else d)
 else K (.inl ()))
def F6_0 (t0:List AV) (t9:Int) (h0 h1 h2:List AV) (t10:Int):Out (Int) (Unit ⊕ Unit):=G6_0 t0 t9 h0 h1 h2 t10 .next .stop .fail
def R6_0 (t0:List AV) (t9:Int) (h0 h1 h2:List AV):(Int)→Out (Int) (Unit ⊕ Unit):=fun s:Int=>F6_0 t0 t9 h0 h1 h2 s
def E6_0 (t0:List AV) (t9:Int) (h0 h1 h2:List AV):(Int)→St:=fun s:Int=>⟨[(0,AV.sl [.int .u8] t0),(3,AV.own [0,3]),(7,AV.own [0,7]),(8,AV.own [0,8]),(9,Ai t9),(10,Ai s)],[([0,3],⟨false,[.int .i64],h0⟩),([0,7],⟨false,[.int .i64,.int .i64,.int .i64,.int .i64,.int .i64],h1⟩),([0,8],⟨false,[.int .i64,.int .i64,.int .i64,.int .i64,.int .i64],h2⟩)]⟩
def K6_0 (t0:List AV) (t9:Int) (h0 h1 h2:List AV) (k:Kont):(Unit ⊕ Unit)→Option AV:=sumE (fun _:Unit=>k (.exit 0) ⟨[(0,AV.sl [.int .u8] t0)],[([0,3],⟨false,[.int .i64],h0⟩),([0,7],⟨false,[.int .i64,.int .i64,.int .i64,.int .i64,.int .i64],h1⟩),([0,8],⟨false,[.int .i64,.int .i64,.int .i64,.int .i64,.int .i64],h2⟩)]⟩) (fun _:Unit=>k .ret ⟨[(2,AV.bool false)],[([0,3],⟨false,[.int .i64],h0⟩),([0,7],⟨false,[.int .i64,.int .i64,.int .i64,.int .i64,.int .i64],h1⟩),([0,8],⟨false,[.int .i64,.int .i64,.int .i64,.int .i64,.int .i64],h2⟩)]⟩)
def l6_0:LModel:=fun _ _ st k=>match st with
 | ⟨[(0,.sl g0 t0),(3,.own g1),(7,.own g2),(8,.own g3),(9,.int .i64 t9),(10,.int .i64 t10)],[(g4,⟨false,g5,h0⟩),(g6,⟨false,g7,h1⟩),(g8,⟨false,g9,h2⟩)]⟩=>bif ctsEq g0 ([.int .u8]) && nmEq g1 ([0,3]) && nmEq g2 ([0,7]) && nmEq g3 ([0,8]) && nmEq g4 ([0,3]) && ctsEq g5 ([.int .i64]) && nmEq g6 ([0,7]) && ctsEq g7 ([.int .i64,.int .i64,.int .i64,.int .i64,.int .i64]) && nmEq g8 ([0,8]) && ctsEq g9 ([.int .i64,.int .i64,.int .i64,.int .i64,.int .i64]) then ro (runW (R6_0 t0 t9 h0 h1 h2) (((h1.length:Int) - t10:Int).toNat+1) t10) none (K6_0 t0 t9 h0 h1 h2 k) else none
 | _=>none
noncomputable def c6:Cfg:=cfg Tryz.prog [(6,0,[0,3,7,8,9,10]),(6,2,[0,11,12,13]),(6,999,[2]),(6,1000,[0]),(6,1001,[0,3,7,8,9,10]),(6,1002,[0]),(6,1003,[0,11,12,13])] [(7,m7),(48,m48),(49,m49),(50,m50),(51,m51),(52,m52),(53,m53),(54,m54),(55,m55),(56,m56),(57,m57),(58,m58),(59,m59),(60,m60)] [] [] [(6,0,l6_0),(6,2,l6_2)]
theorem s6_2 (t0:List AV) (t12:Int) (h0:List AV) (ce:CallE) (k:Kont) (s:Int) (next:St→Option AV):stepA (codeA c6 ce [] 6 2 (sub [1,1,1,1,1,1,1,1,1,1,1,0,1,0,0] (body Tryz.f6))) (normA [] [0,11,12,13]) next ((E6_2 t0 t12 h0) s) k=G6_2 t0 t12 h0 s (fun s=>next ((E6_2 t0 t12 h0) s)) (K6_2 t0 t12 h0 k) none:=by kernel_rfl
theorem st6_2 (t0:List AV) (t12:Int) (h0:List AV) (ce:CallE) (k:Kont) (s:Int) (next:St→Option AV):stepA (codeA c6 ce [] 6 2 (sub [1,1,1,1,1,1,1,1,1,1,1,0,1,0,0] (body Tryz.f6))) (normA [] [0,11,12,13]) next ((E6_2 t0 t12 h0) s) k=(R6_2 t0 t12 h0 s).el none (fun s=>next ((E6_2 t0 t12 h0) s)) (K6_2 t0 t12 h0 k):=(s6_2 t0 t12 h0 ce k s next).trans (by unfold R6_2;unfold F6_2 G6_2;simp only [el_cond,el_ro,el_sum,el_fail,el_next,el_stop] <;> rfl)
theorem ok6_2 {ce:CallE}:LoopOK c6 ce [] 6 2 (sub [1,1,1,1,1,1,1,1,1,1,1,0,1,0,0] (body Tryz.f6)):=by
 intro m hm st k r h
 obtain rfl:l6_2=m:=Option.some.inj hm
 unfold l6_2 at h
 split at h
 ·rename_i g0 t0 g1 t12 t13 g2 g3 h0
  obtain ⟨hg,h⟩:=bif_some h
  simp only [Bool.and_eq_true] at hg
  obtain ⟨⟨⟨q0,q1⟩,q2⟩,q3⟩:=hg
  obtain rfl:=cE q0
  obtain rfl:=nE q1
  obtain rfl:=nE q2
  obtain rfl:=cE q3
  refine ⟨(((h0.length:Int) - t13:Int).toNat+1),?_⟩
  rw [← h]
  exact loop_run (E6_2 t0 t12 h0) (K6_2 t0 t12 h0 k) (st6_2 t0 t12 h0 ce k) _ t13
 ·cases h
theorem s6_0 (t0:List AV) (t9:Int) (h0 h1 h2:List AV) (ce:CallE) (k:Kont) (s:Int) (next:St→Option AV):stepA (codeA c6 ce [] 6 0 (sub [1,1,1,1,1,1,1,0,1,0,0] (body Tryz.f6))) (normA [] [0,3,7,8,9,10]) next ((E6_0 t0 t9 h0 h1 h2) s) k=G6_0 t0 t9 h0 h1 h2 s (fun s=>next ((E6_0 t0 t9 h0 h1 h2) s)) (K6_0 t0 t9 h0 h1 h2 k) none:=by kernel_rfl
theorem st6_0 (t0:List AV) (t9:Int) (h0 h1 h2:List AV) (ce:CallE) (k:Kont) (s:Int) (next:St→Option AV):stepA (codeA c6 ce [] 6 0 (sub [1,1,1,1,1,1,1,0,1,0,0] (body Tryz.f6))) (normA [] [0,3,7,8,9,10]) next ((E6_0 t0 t9 h0 h1 h2) s) k=(R6_0 t0 t9 h0 h1 h2 s).el none (fun s=>next ((E6_0 t0 t9 h0 h1 h2) s)) (K6_0 t0 t9 h0 h1 h2 k):=(s6_0 t0 t9 h0 h1 h2 ce k s next).trans (by unfold R6_0;unfold F6_0 G6_0;simp only [el_cond,el_ro,el_sum,el_fail,el_next,el_stop] <;> rfl)
theorem ok6_0 {ce:CallE}:LoopOK c6 ce [] 6 0 (sub [1,1,1,1,1,1,1,0,1,0,0] (body Tryz.f6)):=by
 intro m hm st k r h
 obtain rfl:l6_0=m:=Option.some.inj hm
 unfold l6_0 at h
 split at h
 ·rename_i g0 t0 g1 g2 g3 t9 t10 g4 g5 h0 g6 g7 h1 g8 g9 h2
  obtain ⟨hg,h⟩:=bif_some h
  simp only [Bool.and_eq_true] at hg
  obtain ⟨⟨⟨⟨⟨⟨⟨⟨⟨q0,q1⟩,q2⟩,q3⟩,q4⟩,q5⟩,q6⟩,q7⟩,q8⟩,q9⟩:=hg
  obtain rfl:=cE q0
  obtain rfl:=nE q1
  obtain rfl:=nE q2
  obtain rfl:=nE q3
  obtain rfl:=nE q4
  obtain rfl:=cE q5
  obtain rfl:=nE q6
  obtain rfl:=cE q7
  obtain rfl:=nE q8
  obtain rfl:=cE q9
  refine ⟨(((h1.length:Int) - t10:Int).toNat+1),?_⟩
  rw [← h]
  exact loop_run (E6_0 t0 t9 h0 h1 h2) (K6_0 t0 t9 h0 h1 h2 k) (st6_0 t0 t9 h0 h1 h2 ce k) _ t10
 ·cases h
def raw6 (a0:List AV):Option AV:=by
 refine (?f0:(List AV)→Int→Int→(List AV)→(List AV)→Int→Int→Int→(List AV)→(Option AV)) (v48_0 a0) (v48_1 a0) (v48_2 a0) (v48_3 a0) (v58_0 a0) (v58_1 a0) (v58_2 a0) (v58_3 a0) (v58_4 a0);intro x1 x2 x3 x4 x5 x6 x7 x8 x9
 exact (bif (v7_0 a0) then some (AV.bool true)
 else (bif q48 a0 then (bif q49 x1 x2 x3 x4 then (bif q50 x1 x2 x3 x4 then (bif q51 x1 x2 x3 x4 then (bif !decide (((v49_0 x1 x2 x3 x4).length:Int)=((v50_0 x1 x2 x3 x4).length:Int)) then some (AV.bool false)
 else (bif q52 x1 x2 x3 x4 then (bif !decide ((v51_0 x1 x2 x3 x4)=(v52_0 x1 x2 x3 x4)) then some (AV.bool false)
 else (bif !(decide ((v51_0 x1 x2 x3 x4)<0) == decide (((v49_0 x1 x2 x3 x4).length:Int)=0)) then some (AV.bool false)
 else (ro (runW (R6_0 a0 (v51_0 x1 x2 x3 x4) x1 (v49_0 x1 x2 x3 x4) (v50_0 x1 x2 x3 x4)) ((((v49_0 x1 x2 x3 x4).length:Int) - 0:Int).toNat+1) 0) none (sumE (fun _=>(bif q55 a0 then (bif q56 (v55_0 a0) then (bif q57 (v55_0 a0) then (bif !decide ((v56_0 (v55_0 a0))=(v57_0 (v55_0 a0))) then some (AV.bool false)
 else (ro (runW (R6_2 a0 (v56_0 (v55_0 a0)) (v55_0 a0)) ((((v55_0 a0).length:Int) - 0:Int).toNat+1) 0) none (sumE (fun _=>(bif q58 a0 then (bif q59 x5 x6 x7 x8 x9 then (bif q60 x5 x6 x7 x8 x9 then (bif ((v59_5 x5 x6 x7 x8 x9) == (v60_5 x5 x6 x7 x8 x9)) then some (AV.bool (bif decide ((v59_0 x5 x6 x7 x8 x9)=(v60_0 x5 x6 x7 x8 x9)) then (bif decide ((v59_1 x5 x6 x7 x8 x9)=(v60_1 x5 x6 x7 x8 x9)) then (bif decide ((v59_2 x5 x6 x7 x8 x9)=(v60_2 x5 x6 x7 x8 x9)) then (bif decide ((v59_3 x5 x6 x7 x8 x9)=(v60_3 x5 x6 x7 x8 x9)) then (bif decide ((v59_4 x5 x6 x7 x8 x9)=(v60_4 x5 x6 x7 x8 x9)) then true else false) else false) else false) else false) else false))
 else some (AV.bool false))
 else none)
 else none)
 else none)) (fun _=>some (AV.bool false)))))
 else none)
 else none)
 else none)) (fun _=>some (AV.bool false))))))
 else none))
 else none)
 else none)
 else none)
 else none))
theorem e6 (a0:List AV):funA c6 0 6 [AV.sl [.int .u8] a0]=raw6 a0:=by kernel_rfl
def m6:TModel
 | [.sl g0 a0]=>bif ctsEq g0 ([.int .u8]) then (raw6 a0).map fun r=>(true,r) else none
 | _=>none
theorem k6:Known Tryz.prog 6:=⟨Tryz.f6,Tryz.func6,by kernel_rfl,by kernel_rfl⟩
theorem meets6:Meets Tryz.prog 6 m6:=by
 refine mt (lvl:=0) (cf:=c6) rfl mixed k6 Tryz.func6 (by kernel_rfl) (loops_cons ok6_0 (loops_cons ok6_2 noLoop)) (allT_cons meets7 (allT_cons meets48 (allT_cons meets49 (allT_cons meets50 (allT_cons meets51 (allT_cons meets52 (allT_cons meets53 (allT_cons meets54 (allT_cons meets55 (allT_cons meets56 (allT_cons meets57 (allT_cons meets58 (allT_cons meets59 (allT_cons meets60 allT_nil)))))))))))))) allM_nil noI fun xs r h=>?_
 unfold m6 at h
 split at h
 ·rename_i g0 a0
  obtain ⟨hg,h⟩:=bif_pair h
  have q0:=hg
  obtain rfl:=cE q0
  obtain ⟨r',h1,h2⟩:=Option.map_eq_some_iff.1 h
  obtain ⟨_,rfl⟩:=Prod.mk.inj h2
  exact (e6 a0).trans h1
 ·cases h
end
end Go.Proofs.YtealoedecngaoaaGreatDoor

namespace Go.Proofs.YtealoedecngaoaaGreatDoor
open Go Go.Proofs.VE
set_option linter.unusedVariables false
set_option linter.unusedSimpArgs false
theorem v72 (a b c:Int):v72_0 a b c=(decide (b≤a) && decide (a≤c)):=by
 unfold v72_0;cases h:decide (a ≥ b) <;> simp_all
theorem run100 (xs:List AV) (h:xs.length≤1048576):runW (R100_0 xs) (((xs.length:Int) - 0).toNat+1) 0=some (ro (findF (fun i => !v72_0 (fI (xs.getD i.toNat .undef) 0) (-999) 999) xs.length 0) (.inl ()) fun _ => .inr ()):=by
 refine runW_find (fun i=>i) xs.length _ _ _ (fun i h0 hn=>?_) ?_ xs.length _ 0 (Int.le_refl 0) (by omega) (by omega)
 ·simp only [R100_0,F100_0,G100_0,h0,hn,decide_true,Bool.and_self,cond_true]
  rw [wrap_in (a:=i+1) (by omega) (by omega)]
 ·simp only [R100_0,F100_0,G100_0,Int.lt_irrefl,decide_false,cond_false]
theorem run191 (xs:List AV) (lo hi:AV) (h:xs.length≤1048576):runW (R191_0 xs lo hi xs.length) (((xs.length:Int) - 0).toNat+1) 0=some (ro (findF (fun i=>v166_0 (fI (xs.getD i.toNat .undef) 0) lo hi) xs.length 0) (.inl ()) fun i => .inr i):=by
 refine runW_find (fun i=>i) xs.length _ _ _ (fun i h0 hn=>?_) ?_ xs.length _ 0 (Int.le_refl 0) (by omega) (by omega)
 ·simp only [R191_0,F191_0,G191_0,h0,hn,decide_true,Bool.and_self,cond_true]
  rw [wrap_in (a:=i+1) (by omega) (by omega)]
 ·simp only [R191_0,F191_0,G191_0,Int.lt_irrefl,decide_false,cond_false]
theorem P100 (xs:List AV) (h:xs.length≤1048576):q100 xs=true∧v100_0 xs=((findF (fun i => !v72_0 (fI (xs.getD i.toNat .undef) 0) (-999) 999) xs.length 0).isNone && decide (xs.length≤64)):=by
 unfold q100 v100_0
 rw [run100 xs h]
 cases findF (fun i => !v72_0 (fI (xs.getD i.toNat .undef) 0) (-999) 999) xs.length 0 with
 | none=>refine ⟨rfl,?_⟩;simp only [ro,sumE,Option.isNone_none,Bool.true_and];congr 1;simp only [eq_iff_iff];omega
 | some j=>exact ⟨rfl,rfl⟩
theorem P106 (xs:List AV) (lo hi:Int) (h:xs.length≤1048576):q106 xs lo hi=true∧v106_0 xs lo hi=(findF (fun i => !v72_0 (fI (xs.getD i.toNat .undef) 0) lo hi) xs.length 0).isNone:=by
 unfold q106 v106_0 v165_0 q165 q191 v191_0
 rw [run191 xs _ _ h]
 have e:(fun i:Int=>v166_0 (fI (xs.getD i.toNat .undef) 0) (AV.int .i64 lo) (AV.int .i64 hi))=fun i => !v72_0 (fI (xs.getD i.toNat .undef) 0) lo hi:=by
  funext i
  unfold v166_0
  rw [v72,show fI (AV.int .i64 lo) 0=lo from rfl,show fI (AV.int .i64 hi) 0=hi from rfl]
  generalize fI (xs.getD i.toNat .undef) 0=z
  by_cases h1:z<lo <;> by_cases h2:z > hi <;> simp [h1,h2] <;> omega
 rw [e]
 cases hf:findF (fun i => !v72_0 (fI (xs.getD i.toNat .undef) 0) lo hi) xs.length 0 with
 | none=>exact ⟨rfl,rfl⟩
 | some j =>
  have:=(findF_some _ _ hf).1
  refine ⟨rfl,?_⟩
  simp [ro,sumE]
  omega
theorem P95 (xs:List AV) (h:xs.length≤1048576):q95 xs=true∧v95_0 xs=v100_0 xs:=by
 rw [(P100 xs h).2]
 unfold q95 v95_0
 rw [(P106 xs _ _ h).1,(P106 xs _ _ h).2]
 have e64:decide ((xs.length:Int)≤64)=decide (xs.length≤64):=by congr 1;simp only [eq_iff_iff];omega
 rw [e64]
 cases decide (xs.length≤64) <;> simp
end Go.Proofs.YtealoedecngaoaaGreatDoor

namespace Go.Proofs.YtealoedecngaoaaGreatDoor
open Go Go.Proofs.VE
set_option linter.unusedVariables false
set_option linter.unusedSimpArgs false
def noneB (p:Int→Bool) (n:Nat):Bool:=(findF p n 0).isNone
theorem findF_isNone {p:Int→Bool}:∀ (m:Nat) (i:Int),(findF p m i).isNone=true ↔ ∀ j,i≤j→j<i+m→p j=false
 | 0,i=>⟨fun _ j h1 h2=>by omega,fun _=>rfl⟩
 | m+1,i=>by
  simp only [findF]
  cases hp:p i with
  | true =>
   refine ⟨fun h=>(by cases h),fun h=>?_⟩
   have:=h i (by omega) (by omega)
   rw [hp] at this
   cases this
  | false =>
   rw [cond_false,findF_isNone m (i+1)]
   refine ⟨fun h j h1 h2=>?_,fun h j h1 h2=>h j (by omega) (by omega)⟩
   by_cases e:j=i
   ·rw [e,hp]
   ·exact h j (by omega) (by omega)
theorem noneB_iff {p:Int→Bool} {n:Nat}:noneB p n=true ↔ ∀ j:Int,0≤j→j<n→p j=false:=by
 unfold noneB
 rw [findF_isNone]
 exact ⟨fun h j h1 h2=>h j h1 (by omega),fun h j h1 h2=>h j h1 (by omega)⟩
def hasI (xs:List AV) (x:Int):Bool:=(findF (fun i=>decide (fI (xs.getD i.toNat .undef) 0=x)) xs.length 0).isSome
theorem P145 (xs:List AV) (x:Int) (h:xs.length≤1048576):q145 xs x=true∧v145_0 xs x=hasI xs x:=by
 have hr:runW (R145_0 xs x) (((xs.length:Int) - 0).toNat+1) 0=some (ro (findF (fun i=>decide (fI (xs.getD i.toNat .undef) 0=x)) xs.length 0) (.inl ()) fun _ => .inr ()):=by
  refine runW_find (fun i=>i) xs.length _ _ _ (fun i h0 hn=>?_) ?_ xs.length _ 0 (Int.le_refl 0) (by omega) (by omega)
  ·simp only [R145_0,F145_0,G145_0,h0,hn,decide_true,Bool.and_self,cond_true]
   rw [wrap_in (a:=i+1) (by omega) (by omega)]
  ·simp only [R145_0,F145_0,G145_0,Int.lt_irrefl,decide_false,cond_false]
 unfold q145 v145_0 hasI
 rw [hr]
 cases findF (fun i=>decide (fI (xs.getD i.toNat .undef) 0=x)) xs.length 0 <;> exact ⟨rfl,rfl⟩
theorem P167 (xs:List AV) (x:Int) (h:xs.length≤1048576):q167 xs x=true∧v167_0 xs x=ro (findF (fun i=>decide (fI (xs.getD i.toNat .undef) 0=x)) xs.length 0) (-1) id:=by
 have hr:runW (R167_0 xs x xs.length) (((xs.length:Int) - 0).toNat+1) 0=some (ro (findF (fun i=>decide (fI (xs.getD i.toNat .undef) 0=x)) xs.length 0) (.inl ()) fun i => .inr i):=by
  refine runW_find (fun i=>i) xs.length _ _ _ (fun i h0 hn=>?_) ?_ xs.length _ 0 (Int.le_refl 0) (by omega) (by omega)
  ·simp only [R167_0,F167_0,G167_0,h0,hn,decide_true,Bool.and_self,cond_true]
   rw [wrap_in (a:=i+1) (by omega) (by omega)]
   have e:decide (x=fI (xs.getD i.toNat .undef) 0)=decide (fI (xs.getD i.toNat .undef) 0=x):=by congr 1;simp only [eq_iff_iff];omega
   rw [e]
  ·simp only [R167_0,F167_0,G167_0,Int.lt_irrefl,decide_false,cond_false]
 unfold q167 v167_0
 rw [hr]
 cases findF (fun i=>decide (fI (xs.getD i.toNat .undef) 0=x)) xs.length 0 <;> exact ⟨rfl,rfl⟩
theorem P107 (xs:List AV) (x:Int) (h:xs.length≤1048576):q107 xs x=true∧v107_0 xs x=hasI xs x:=by
 unfold q107 v107_0 hasI
 rw [(P167 xs x h).1,(P167 xs x h).2]
 refine ⟨rfl,?_⟩
 cases hf:findF (fun i=>decide (fI (xs.getD i.toNat .undef) 0=x)) xs.length 0 with
 | none=>rfl
 | some j =>
  have:=(findF_some _ _ hf).1
  simp [ro]
  omega
def badR (rs:List AV) (i:Int):Bool:=hasI ((rs.take (Int.toNat i)).drop (Int.toNat 0)) (fI (rs.getD i.toNat .undef) 0)
def badI (vs:List AV) (a b:Int):Bool := !noneB (fun k => !(decide (fI (vs.getD k.toNat .undef) 0<a) == decide (k<b))) vs.length
def badA (vs ps:List AV) (i:Int):Bool :=
 !v72_0 (fI (ps.getD i.toNat .undef) 0) (-1000) 1000 || (!v72_0 (fI (ps.getD i.toNat .undef) 1) 0 vs.length ||
  (decide (i > 0) && (decide (fI (ps.getD i.toNat .undef) 0≤fI (ps.getD (i - 1).toNat .undef) 0) || decide (fI (ps.getD i.toNat .undef) 1<fI (ps.getD (i - 1).toNat .undef) 1))))
def badP (vs ps:List AV) (i:Int):Bool:=badA vs ps i || badI vs (fI (ps.getD i.toNat .undef) 0) (fI (ps.getD i.toNat .undef) 1)
theorem run146i (vs ps:List AV) (t a b:Int) (h:vs.length≤1048576):runW (R146_2 vs ps t a b) (((vs.length:Int) - 0).toNat+1) 0=some (bif badI vs a b then .inr () else .inl ()):=by
 have hr:runW (R146_2 vs ps t a b) (((vs.length:Int) - 0).toNat+1) 0=some (ro (findF (fun k => !(decide (fI (vs.getD k.toNat .undef) 0<a) == decide (k<b))) vs.length 0) (.inl ()) fun _ => .inr ()):=by
  refine runW_find (fun i=>i) vs.length _ _ _ (fun i h0 hn=>?_) ?_ vs.length _ 0 (Int.le_refl 0) (by omega) (by omega)
  ·simp only [R146_2,F146_2,G146_2,h0,hn,decide_true,Bool.and_self,cond_true]
   rw [wrap_in (a:=i+1) (by omega) (by omega)]
  ·simp only [R146_2,F146_2,G146_2,Int.lt_irrefl,decide_false,cond_false]
 rw [hr]
 unfold badI noneB
 cases findF (fun k => !(decide (fI (vs.getD k.toNat .undef) 0<a) == decide (k<b))) vs.length 0 <;> rfl
def L146 (vs ps:List AV) (i:Int):Unit ⊕ (Int × Int) ⊕ (Int × Int):=bif badA vs ps i then .inr (.inl (fI (ps.getD i.toNat .undef) 0,fI (ps.getD i.toNat .undef) 1)) else .inr (.inr (fI (ps.getD i.toNat .undef) 0,fI (ps.getD i.toNat .undef) 1))
theorem step146 (vs ps:List AV) (i:Int) (h:vs.length≤1048576) (h':ps.length≤1048576) (h0:0≤i) (hn:i<ps.length):R146_0 vs ps i=bif badP vs ps i then .stop (L146 vs ps i) else .next (i+1):=by
 simp only [R146_0,F146_0,G146_0,h0,hn,decide_true,Bool.and_self,cond_true,run146i vs ps _ _ _ h,ro]
 rw [wrap_in (a:=i+1) (by omega) (by omega),wrap_in (a:=i - 1) (by omega) (by omega)]
 unfold badP L146 badA
 generalize badI vs (fI (ps.getD i.toNat AV.undef) 0) (fI (ps.getD i.toNat AV.undef) 1)=bi
 generalize v72_0 (fI (ps.getD i.toNat AV.undef) 0) (-1000) 1000=b1
 generalize v72_0 (fI (ps.getD i.toNat AV.undef) 1) 0 vs.length=b2
 by_cases hi:i > 0
 ·have hm:decide (0≤i - 1)=true:=decide_eq_true (by omega)
  have hm':decide (i - 1<(ps.length:Int))=true:=decide_eq_true (by omega)
  rw [decide_eq_true hi,hm,hm']
  generalize decide (fI (ps.getD i.toNat AV.undef) 0≤fI (ps.getD (i - 1).toNat AV.undef) 0)=b3
  generalize decide (fI (ps.getD i.toNat AV.undef) 1<fI (ps.getD (i - 1).toNat AV.undef) 1)=b4
  cases b1 <;> cases b2 <;> cases b3 <;> cases b4 <;> cases bi <;> rfl
 ·rw [decide_eq_false hi]
  cases b1 <;> cases b2 <;> cases bi <;> rfl
theorem P146 (vs ps:List AV) (h:vs.length≤1048576) (h':ps.length≤1048576):q146 vs ps=true∧v146_0 vs ps=noneB (badP vs ps) ps.length:=by
 have hr:runW (R146_0 vs ps) (((ps.length:Int) - 0).toNat+1) 0=some (ro (findF (badP vs ps) ps.length 0) (.inl ()) (L146 vs ps)):=by
  refine runW_find (fun i=>i) ps.length _ _ _ (fun i h0 hn=>step146 vs ps i h h' h0 hn) ?_ ps.length _ 0 (Int.le_refl 0) (by omega) (by omega)
  simp only [R146_0,F146_0,G146_0,Int.lt_irrefl,decide_false,cond_false]
 unfold q146 v146_0 noneB
 rw [hr]
 cases findF (badP vs ps) ps.length 0 with
 | none=>exact ⟨rfl,rfl⟩
 | some j =>
  simp only [ro,L146]
  cases badA vs ps j <;> exact ⟨rfl,rfl⟩
theorem run39i (vs rs ps p1 v1:List AV) (t1 t2 a b:Int) (h:vs.length≤1048576):runW (R39_4 p1 t1 t2 vs vs.length v1 rs ps a b) (((vs.length:Int) - 0).toNat+1) 0=some (bif badI vs a b then .inr () else .inl ()):=by
 have hr:runW (R39_4 p1 t1 t2 vs vs.length v1 rs ps a b) (((vs.length:Int) - 0).toNat+1) 0=some (ro (findF (fun k => !(decide (fI (vs.getD k.toNat .undef) 0<a) == decide (k<b))) vs.length 0) (.inl ()) fun _ => .inr ()):=by
  refine runW_find (fun i=>i) vs.length _ _ _ (fun i h0 hn=>?_) ?_ vs.length _ 0 (Int.le_refl 0) (by omega) (by omega)
  ·simp only [R39_4,F39_4,G39_4,h0,hn,decide_true,Bool.and_self,cond_true]
   rw [wrap_in (a:=i+1) (by omega) (by omega)]
  ·simp only [R39_4,F39_4,G39_4,Int.lt_irrefl,decide_false,cond_false]
 rw [hr]
 unfold badI noneB
 cases findF (fun k => !(decide (fI (vs.getD k.toNat .undef) 0<a) == decide (k<b))) vs.length 0 <;> rfl
theorem dlt (z n:Int):decide (z<n) = !decide (n≤z):=by
 by_cases h:n≤z
 ·rw [decide_eq_true h,decide_eq_false (by omega)];rfl
 ·rw [decide_eq_false h,decide_eq_true (by omega)];rfl
theorem dgt (z n:Int):decide (z > n) = !decide (z≤n):=by
 by_cases h:z≤n
 ·rw [decide_eq_true h,decide_eq_false (by omega)];rfl
 ·rw [decide_eq_false h,decide_eq_true (by omega)];rfl
theorem bound_eq (v:Int):v108_0 v=v72_0 v (-1000) 1000:=by
 unfold v108_0
 rw [v72]
 by_cases h1 : -1000≤v <;> by_cases h2:v≤1000 <;> simp [h1,h2]
theorem step39 (vs rs ps:List AV) (i:Int) (h:vs.length≤1048576) (h':ps.length≤1048576) (h0:0≤i) (hn:i<ps.length):R39_2 ps ps.length vs rs ps i=bif badP vs ps i then .stop (L146 vs ps i) else .next (i+1):=by
 simp only [R39_2,F39_2,G39_2,h0,hn,decide_true,Bool.and_self,cond_true,run39i vs rs ps ps vs _ _ _ _ h,ro,bound_eq]
 rw [wrap_in (a:=i+1) (by omega) (by omega),wrap_in (a:=i - 1) (by omega) (by omega)]
 unfold badP L146 badA
 rw [v72 (fI (ps.getD i.toNat AV.undef) 1) 0 vs.length]
 generalize badI vs (fI (ps.getD i.toNat AV.undef) 0) (fI (ps.getD i.toNat AV.undef) 1)=bi
 generalize v72_0 (fI (ps.getD i.toNat AV.undef) 0) (-1000) 1000=b1
 rw [dlt (fI (ps.getD i.toNat AV.undef) 1) 0,dgt (fI (ps.getD i.toNat AV.undef) 1)]
 generalize decide (0≤fI (ps.getD i.toNat AV.undef) 1)=b2
 generalize decide (fI (ps.getD i.toNat AV.undef) 1≤(vs.length:Int))=b5
 by_cases hi:i > 0
 ·have hm:decide (0≤i - 1)=true:=decide_eq_true (by omega)
  have hm':decide (i - 1<(ps.length:Int))=true:=decide_eq_true (by omega)
  rw [decide_eq_true hi,hm,hm']
  generalize decide (fI (ps.getD i.toNat AV.undef) 0≤fI (ps.getD (i - 1).toNat AV.undef) 0)=b3
  generalize decide (fI (ps.getD i.toNat AV.undef) 1<fI (ps.getD (i - 1).toNat AV.undef) 1)=b4
  cases b1 <;> cases b2 <;> cases b5 <;> cases b3 <;> cases b4 <;> cases bi <;> rfl
 ·rw [decide_eq_false hi]
  cases b1 <;> cases b2 <;> cases b5 <;> cases bi <;> rfl
theorem run39 (vs rs ps:List AV) (h:vs.length≤1048576) (h':ps.length≤1048576):runW (R39_2 ps ps.length vs rs ps) (((ps.length:Int) - 0).toNat+1) 0=some (ro (findF (badP vs ps) ps.length 0) (.inl ()) (L146 vs ps)):=by
 refine runW_find (fun i=>i) ps.length _ _ _ (fun i h0 hn=>step39 vs rs ps i h h' h0 hn) ?_ ps.length _ 0 (Int.le_refl 0) (by omega) (by omega)
 simp only [R39_2,F39_2,G39_2,Int.lt_irrefl,decide_false,cond_false]
theorem run71 (vs rs ps:List AV) (h:rs.length≤1048576):runW (R71_0 vs rs ps) (((rs.length:Int) - 0).toNat+1) 0=some (ro (findF (fun i => !v72_0 (fI (rs.getD i.toNat .undef) 0) 0 999 || badR rs i) rs.length 0) (.inl ()) fun _ => .inr ()):=by
 refine runW_find (fun i=>i) rs.length _ _ _ (fun i h0 hn=>?_) ?_ rs.length _ 0 (Int.le_refl 0) (by omega) (by omega)
 ·have hl:((rs.take (Int.toNat i)).drop (Int.toNat 0)).length≤1048576:=by rw [List.length_drop,List.length_take];omega
  have hle:decide (i≤(rs.length:Int))=true:=decide_eq_true (by omega)
  have h00:decide ((0:Int)≤0)=true:=rfl
  have h00n:decide ((0:Nat)≤0)=true:=rfl
  simp only [R71_0,F71_0,G71_0,h0,hn,hle,h00,h00n,decide_true,Bool.and_self,cond_true,(P145 _ _ hl).1,(P145 _ _ hl).2,badR]
  rw [wrap_in (a:=i+1) (by omega) (by omega)]
  cases v72_0 (fI (rs.getD i.toNat .undef) 0) 0 999 <;> cases hasI ((rs.take (Int.toNat i)).drop (Int.toNat 0)) (fI (rs.getD i.toNat .undef) 0) <;> rfl
 ·simp only [R71_0,F71_0,G71_0,Int.lt_irrefl,decide_false,cond_false]
theorem run39r (vs rs ps:List AV) (h:rs.length≤1048576):runW (R39_0 rs rs.length vs rs ps) (((rs.length:Int) - 0).toNat+1) 0=some (ro (findF (badR rs) rs.length 0) (.inl ()) fun _ => .inr ()):=by
 refine runW_find (fun i=>i) rs.length _ _ _ (fun i h0 hn=>?_) ?_ rs.length _ 0 (Int.le_refl 0) (by omega) (by omega)
 ·have hl:((rs.take (Int.toNat i)).drop (Int.toNat 0)).length≤1048576:=by rw [List.length_drop,List.length_take];omega
  have hle:decide (i≤(rs.length:Int))=true:=decide_eq_true (by omega)
  have h00:decide ((0:Int)≤0)=true:=rfl
  have h00n:decide ((0:Nat)≤0)=true:=rfl
  simp only [R39_0,F39_0,G39_0,h0,hn,hle,h00,h00n,decide_true,Bool.and_self,cond_true,(P107 _ _ hl).1,(P107 _ _ hl).2,badR]
  rw [wrap_in (a:=i+1) (by omega) (by omega)]
 ·simp only [R39_0,F39_0,G39_0,Int.lt_irrefl,decide_false,cond_false]
def isC (vs rs ps:List AV):Bool:=v100_0 vs && (decide ((rs.length:Int)=vs.length) && (noneB (fun i => !v72_0 (fI (rs.getD i.toNat .undef) 0) 0 999) rs.length && (noneB (badR rs) rs.length && noneB (badP vs ps) ps.length)))
theorem noneB_or (p q:Int→Bool) (n:Nat):noneB (fun i=>p i || q i) n=(noneB p n && noneB q n):=by
 rw [Bool.eq_iff_iff,Bool.and_eq_true,noneB_iff,noneB_iff,noneB_iff]
 constructor
 ·intro h
  exact ⟨fun j h1 h2=>by have:=h j h1 h2;simp only [Bool.or_eq_false_iff] at this;exact this.1,fun j h1 h2=>by have:=h j h1 h2;simp only [Bool.or_eq_false_iff] at this;exact this.2⟩
 ·rintro ⟨h,h'⟩ j h1 h2
  rw [h j h1 h2,h' j h1 h2]
  rfl
theorem P71 (vs rs ps:List AV) (h:vs.length≤1048576) (h':rs.length≤1048576) (h'':ps.length≤1048576):q71 vs rs ps=true∧v71_0 vs rs ps=isC vs rs ps:=by
 unfold q71 v71_0 isC
 rw [(P100 vs h).1,run71 vs rs ps h',(P146 vs ps h h'').1,(P146 vs ps h h'').2,← Bool.and_assoc (noneB _ _) (noneB _ _),← noneB_or]
 generalize noneB (badP vs ps) ps.length=bp
 unfold noneB
 cases v100_0 vs <;> cases decide ((rs.length:Int)=vs.length) <;> cases findF (fun i => !v72_0 (fI (rs.getD i.toNat .undef) 0) 0 999 || badR rs i) rs.length 0 <;> exact ⟨rfl,rfl⟩
theorem few (vs ps:List AV) (h:noneB (badP vs ps) ps.length=true):ps.length≤2001:=by
 rw [noneB_iff] at h
 have hb:∀ j:Int,0≤j→j<ps.length→(-1000≤fI (ps.getD j.toNat .undef) 0∧fI (ps.getD j.toNat .undef) 0≤1000)∧(0<j→fI (ps.getD (j - 1).toNat .undef) 0<fI (ps.getD j.toNat .undef) 0):=fun j h0 hn=>by
  have e:=h j h0 hn
  simp only [badP,badA,v72,Bool.or_eq_false_iff,Bool.not_eq_false',Bool.and_eq_true,decide_eq_true_eq] at e
  refine ⟨e.1.1,fun hj=>?_⟩
  have e3:=e.1.2.2
  rw [decide_eq_true hj,Bool.true_and,Bool.or_eq_false_iff] at e3
  have:=e3.1
  simp only [decide_eq_false_iff_not] at this
  omega
 have grow:∀ m:Nat,(m:Int)<ps.length→(m:Int) - 1000≤fI (ps.getD m .undef) 0:=by
  intro m
  induction m with
  | zero=>intro hm;have:=(hb 0 (by omega) hm).1.1;simp at this ⊢;exact this
  | succ m ih =>
   intro hm
   have h1:=ih (by omega)
   have h2:=(hb ((m:Int)+1) (by omega) (by omega)).2 (by omega)
   rw [show ((m:Int)+1 - 1).toNat=m by omega,show ((m:Int)+1).toNat=m+1 by omega] at h2
   omega
 by_cases hl:ps.length≤2001
 ·exact hl
 ·exfalso
  have h1:=grow 2001 (by omega)
  have h2:=(hb 2001 (by omega) (by omega)).1.2
  rw [show ((2001:Int)).toNat=2001 from rfl] at h2
  omega
theorem P39 (vs rs ps:List AV) (h:vs.length≤1048576) (h':rs.length≤1048576) (h'':ps.length≤1048576):q39 vs rs ps=true∧v39_0 vs rs ps=isC vs rs ps:=by
 unfold q39 v39_0 isC
 rw [(P95 vs h).1,(P95 vs h).2,(P106 rs _ _ h').1,(P106 rs _ _ h').2,run39r vs rs ps h',run39 vs rs ps h h'']
 have hf:=few vs ps
 unfold noneB at hf ⊢
 cases v100_0 vs with
 | false=>exact ⟨rfl,rfl⟩
 | true =>
  cases decide ((rs.length:Int)=vs.length) with
  | false=>exact ⟨rfl,rfl⟩
  | true =>
   cases findF (fun i => !v72_0 (fI (rs.getD i.toNat .undef) 0) 0 999) rs.length 0 with
   | some j=>exact ⟨rfl,rfl⟩
   | none =>
    cases hp:findF (badP vs ps) ps.length 0 with
    | none =>
     rw [hp] at hf
     have c:decide ((ps.length:Int) > 2001)=false:=decide_eq_false (by have:=hf rfl;omega)
     rw [c]
     cases findF (badR rs) rs.length 0 <;> exact ⟨rfl,rfl⟩
    | some j =>
     cases decide ((ps.length:Int) > 2001) with
     | true=>cases findF (badR rs) rs.length 0 <;> exact ⟨rfl,rfl⟩
     | false =>
      cases findF (badR rs) rs.length 0 with
      | some k=>exact ⟨rfl,rfl⟩
      | none =>
       simp only [ro,sumE,L146]
       cases badA vs ps j <;> exact ⟨rfl,rfl⟩
end Go.Proofs.YtealoedecngaoaaGreatDoor

namespace Go.Proofs.YtealoedecngaoaaGreatDoor
open Go Go.Proofs.VE
set_option linter.unusedVariables false
set_option linter.unusedSimpArgs false
def el (xs:List AV) (k:Int):Int:=fI (xs.getD k.toNat .undef) 0
def pat (ps:List AV) (k:Int):Int:=fI (ps.getD k.toNat .undef) 1
structure Col (vs rs ps:List AV):Prop where
 n64:vs.length≤64
 vals:∀ k:Int,0≤k→k<vs.length → -999≤el vs k∧el vs k≤999
 len:(rs.length:Int)=vs.length
 rows:∀ k:Int,0≤k→k<rs.length→0≤el rs k∧el rs k≤999
 dist:∀ j k:Int,0≤j→j<k→k<rs.length→el rs j ≠ el rs k
 pv:∀ i:Int,0≤i→i<ps.length → -1000≤el ps i∧el ps i≤1000
 pa:∀ i:Int,0≤i→i<ps.length→0≤pat ps i∧pat ps i≤vs.length
 asc:∀ i:Int,0<i→i<ps.length→el ps (i - 1)<el ps i∧pat ps (i - 1)≤pat ps i
 part:∀ i:Int,0≤i→i<ps.length→∀ k:Int,0≤k→k<vs.length→(el vs k<el ps i ↔ k<pat ps i)
theorem hasI_iff (xs:List AV) (x:Int):hasI xs x=true ↔ ∃ j:Int,0≤j∧j<xs.length∧el xs j=x:=by
 unfold hasI
 constructor
 ·intro h
  obtain ⟨j,hj⟩:=Option.isSome_iff_exists.1 h
  obtain ⟨h1,h2,h3⟩:=findF_some _ _ hj
  exact ⟨j,h1,by omega,of_decide_eq_true h3⟩
 ·rintro ⟨j,h1,h2,h3⟩
  cases hf:findF (fun i=>decide (fI (xs.getD i.toNat .undef) 0=x)) xs.length 0 with
  | some j=>rfl
  | none =>
   have h:(findF (fun i=>decide (fI (xs.getD i.toNat .undef) 0=x)) xs.length 0).isNone=true:=by rw [hf];rfl
   have:=(findF_isNone _ _).1 h j h1 (by omega)
   exact absurd h3 (of_decide_eq_false this)
theorem badR_iff (rs:List AV) (k:Int) (h0:0≤k) (h1:k<rs.length):badR rs k=false ↔ ∀ j:Int,0≤j→j<k→el rs j ≠ el rs k:=by
 have ek:fI (rs.getD k.toNat .undef) 0=el rs k:=rfl
 have e0:Int.toNat 0=0:=rfl
 unfold badR
 rw [ek,e0,List.drop_zero]
 have tl:(rs.take (Int.toNat k)).length=k.toNat:=by rw [List.length_take];omega
 have te:∀ j:Int,0≤j→j<k→el (rs.take (Int.toNat k)) j=el rs j:=fun j j0 j1=>by
  unfold el
  simp only [List.getD_eq_getElem?_getD]
  rw [List.getElem?_take_of_lt (by omega)]
 constructor
 ·intro h j j0 j1 e
  have:hasI (rs.take (Int.toNat k)) (el rs k)=true:=(hasI_iff _ _).2 ⟨j,j0,by rw [tl];omega,by rw [te j j0 j1];exact e⟩
  rw [h] at this
  cases this
 ·intro h
  cases hb:hasI (rs.take (Int.toNat k)) (el rs k) with
  | false=>rfl
  | true =>
   obtain ⟨j,j0,j1,j2⟩:=(hasI_iff _ _).1 hb
   rw [tl] at j1
   rw [te j j0 (by omega)] at j2
   exact absurd j2 (h j j0 (by omega))
theorem badI_iff (vs:List AV) (a b:Int):badI vs a b=false ↔ ∀ k:Int,0≤k→k<vs.length→(el vs k<a ↔ k<b):=by
 unfold badI
 rw [Bool.not_eq_false',noneB_iff]
 constructor
 ·intro h k h0 h1
  have:=h k h0 h1
  simp only [Bool.not_eq_false',beq_iff_eq] at this
  constructor
  ·intro hk
   rw [decide_eq_true (show fI (vs.getD k.toNat .undef) 0<a from hk)] at this
   exact of_decide_eq_true this.symm
  ·intro hk
   rw [decide_eq_true hk] at this
   exact of_decide_eq_true this
 ·intro h k h0 h1
  have:=h k h0 h1
  simp only [Bool.not_eq_false',beq_iff_eq]
  by_cases hk:k<b
  ·rw [decide_eq_true hk,decide_eq_true (show fI (vs.getD k.toNat .undef) 0<a from this.2 hk)]
  ·rw [decide_eq_false hk,decide_eq_false (show ¬ fI (vs.getD k.toNat .undef) 0<a from fun h=>hk (this.1 h))]
theorem badP_iff (vs ps:List AV) (i:Int):badP vs ps i=false ↔ ((-1000≤el ps i∧el ps i≤1000)∧(0≤pat ps i∧pat ps i≤vs.length)∧(0<i→el ps (i - 1)<el ps i∧pat ps (i - 1)≤pat ps i))∧∀ k:Int,0≤k→k<vs.length→(el vs k<el ps i ↔ k<pat ps i):=by
 unfold badP
 rw [Bool.or_eq_false_iff,badI_iff]
 have e:badA vs ps i=false ↔ ((-1000≤el ps i∧el ps i≤1000)∧(0≤pat ps i∧pat ps i≤vs.length)∧(0<i→el ps (i - 1)<el ps i∧pat ps (i - 1)≤pat ps i)):=by
  unfold badA el pat
  simp only [v72,Bool.or_eq_false_iff,Bool.not_eq_false',Bool.and_eq_true,decide_eq_true_eq,Bool.and_eq_false_iff,decide_eq_false_iff_not]
  constructor
  ·rintro ⟨h1,h2,h3⟩
   exact ⟨h1,h2,fun hi=>by rcases h3 with h3|h3 <;> omega⟩
  ·rintro ⟨h1,h2,h3⟩
   refine ⟨h1,h2,?_⟩
   by_cases hi:i > 0
   ·have:=h3 hi
    right
    omega
   ·exact .inl hi
 rw [e]
 rfl
theorem isC_iff (vs rs ps:List AV) (h:vs.length≤1048576):isC vs rs ps=true ↔ Col vs rs ps:=by
 unfold isC
 rw [(P100 vs h).2]
 simp only [Bool.and_eq_true,decide_eq_true_eq,noneB_iff]
 rw [findF_isNone]
 constructor
 ·rintro ⟨⟨h1,h2⟩,h3,h4,h5,h6⟩
  refine ⟨h2,fun k k0 k1=>?_,h3,fun k k0 k1=>?_,fun j k j0 jk k1=>(badR_iff rs k (by omega) k1).1 (h5 k (by omega) k1) j j0 jk,fun i i0 i1=>((badP_iff vs ps i).1 (h6 i i0 i1)).1.1,fun i i0 i1=>((badP_iff vs ps i).1 (h6 i i0 i1)).1.2.1,
   fun i i0 i1=>((badP_iff vs ps i).1 (h6 i (by omega) i1)).1.2.2 i0,fun i i0 i1=>((badP_iff vs ps i).1 (h6 i i0 i1)).2⟩
  ·have:=h1 k k0 (by omega)
   simp only [v72,Bool.not_eq_false',Bool.and_eq_true,decide_eq_true_eq] at this
   exact this
  ·have:=h4 k k0 k1
   simp only [v72,Bool.not_eq_false',Bool.and_eq_true,decide_eq_true_eq] at this
   exact this
 ·rintro ⟨a1,a2,a3,a4,a5,a6,a7,a8,a9⟩
  refine ⟨⟨fun k k0 k1=>?_,a1⟩,a3,fun k k0 k1=>?_,fun k k0 k1=>(badR_iff rs k k0 k1).2 fun j j0 jk=>a5 j k j0 jk k1,fun i i0 i1=>(badP_iff vs ps i).2 ⟨⟨a6 i i0 i1,a7 i i0 i1,fun hi=>a8 i hi i1⟩,a9 i i0 i1⟩⟩
  ·simp only [v72,Bool.not_eq_false',Bool.and_eq_true,decide_eq_true_eq]
   exact a2 k k0 (by omega)
  ·simp only [v72,Bool.not_eq_false',Bool.and_eq_true,decide_eq_true_eq]
   exact a4 k k0 k1
theorem Col.up {vs rs ps:List AV} (h:Col vs rs ps):∀ (d:Nat) (i:Int),0≤i→i+d<ps.length→(0<d→el ps i<el ps (i+d))∧pat ps i≤pat ps (i+d)
 | 0,i,_,_=>⟨fun h=>absurd h (by omega),by rw [show i+((0:Nat):Int)=i by omega];exact Int.le_refl _⟩
 | d+1,i,h0,h1=>by
  obtain ⟨a,b⟩:=Col.up h d i h0 (by omega)
  obtain ⟨c,e⟩:=h.asc (i+((d+1:Nat):Int)) (by omega) h1
  rw [show i+((d+1:Nat):Int) - 1=i+d by omega] at c e
  refine ⟨fun _=>?_,by omega⟩
  rcases Nat.eq_zero_or_pos d with hd|hd
  ·subst hd
   rw [show i+((0:Nat):Int)=i by omega] at c
   exact c
  ·have:=a hd
   omega
theorem Col.lt {vs rs ps:List AV} (h:Col vs rs ps) {i j:Int} (h0:0≤i) (h1:i<j) (h2:j<ps.length):el ps i<el ps j∧pat ps i≤pat ps j:=by
 have:=h.up (j - i).toNat i h0 (by omega)
 rw [show i+((j - i).toNat:Int)=j by omega] at this
 exact ⟨this.1 (by omega),this.2⟩
theorem sw_len (i j:Int) (xs:List AV):(v149_0 i j xs).length=xs.length:=by unfold v149_0;rw [List.length_set,List.length_set]
theorem el_set (xs:List AV) (i k:Int) (x:Int) (h0:0≤i) (h1:i<xs.length) (k0:0≤k):el (xs.set i.toNat (AV.agg [AV.int .i64 x])) k=if k=i then x else el xs k:=by
 unfold el
 by_cases e:k=i
 ·subst e
  rw [if_pos rfl,getD_set (by omega)]
  rfl
 ·rw [if_neg e]
  simp only [List.getD_eq_getElem?_getD]
  rw [List.getElem?_set_ne (by omega)]
theorem el_sw (xs:List AV) (i j k:Int) (i0:0≤i) (i1:i<xs.length) (j0:0≤j) (j1:j<xs.length) (k0:0≤k):el (v149_0 i j xs) k=if k=j then el xs i else if k=i then el xs j else el xs k:=by
 unfold v149_0
 rw [el_set _ _ _ _ j0 (by rw [List.length_set];exact j1) k0,el_set _ _ _ _ i0 i1 k0]
 rfl
theorem Col.sw {vs rs ps:List AV} (h:Col vs rs ps) {a b i j:Int} (a0:0≤a) (b1:b≤vs.length) (hab:∀ p:Int,0≤p→p<ps.length→pat ps p≤a∨b≤pat ps p) (i0:a≤i) (i1:i<b) (j0:a≤j) (j1:j<b) :
  Col (v149_0 i j vs) (v149_0 i j rs) ps:=by
 have hl:=h.len
 have ev:∀ k:Int,0≤k→el (v149_0 i j vs) k=if k=j then el vs i else if k=i then el vs j else el vs k:=fun k k0=>el_sw vs i j k (by omega) (by omega) (by omega) (by omega) k0
 have er:∀ k:Int,0≤k→el (v149_0 i j rs) k=if k=j then el rs i else if k=i then el rs j else el rs k:=fun k k0=>el_sw rs i j k (by omega) (by omega) (by omega) (by omega) k0
 have dd:∀ p q:Int,0≤p→p<rs.length→0≤q→q<rs.length→p ≠ q→el rs p ≠ el rs q:=fun p q p0 p1 q0 q1 hn e=>by
  rcases Int.lt_or_gt_of_ne hn with h1|h1
  ·exact h.dist p q p0 h1 q1 e
  ·exact h.dist q p q0 h1 p1 e.symm
 refine ⟨by rw [sw_len];exact h.n64,fun k k0 k1=>?_,by rw [sw_len,sw_len];exact h.len,fun k k0 k1=>?_,fun p q p0 pq q1=>?_,h.pv,fun i' i0' i1'=>by rw [sw_len];exact h.pa i' i0' i1',h.asc,fun p p0 p1 k k0 k1=>?_⟩
 ·rw [sw_len] at k1
  rw [ev k k0]
  split
  ·exact h.vals i (by omega) (by omega)
  ·split
   ·exact h.vals j (by omega) (by omega)
   ·exact h.vals k k0 k1
 ·rw [sw_len] at k1
  rw [er k k0]
  split
  ·exact h.rows i (by omega) (by omega)
  ·split
   ·exact h.rows j (by omega) (by omega)
   ·exact h.rows k k0 k1
 ·rw [sw_len] at q1
  rw [er p p0,er q (by omega)]
  split
  ·split
   ·omega
   ·split
    ·rename_i e1 e2 e3
     exact dd i j (by omega) (by omega) (by omega) (by omega) (by omega)
    ·rename_i e1 e2 e3
     exact dd i q (by omega) (by omega) (by omega) (by omega) (by omega)
  ·split
   ·split
    ·rename_i e1 e2 e3
     exact dd j i (by omega) (by omega) (by omega) (by omega) (by omega)
    ·split
     ·omega
     ·exact dd j q (by omega) (by omega) (by omega) (by omega) (by omega)
   ·split
    ·exact dd p i (by omega) (by omega) (by omega) (by omega) (by omega)
    ·split
     ·exact dd p j (by omega) (by omega) (by omega) (by omega) (by omega)
     ·exact h.dist p q p0 pq q1
 ·rw [sw_len] at k1
  rw [ev k k0]
  have hp:=hab p p0 p1
  have hi:=h.part p p0 p1 i (by omega) (by omega)
  have hj:=h.part p p0 p1 j (by omega) (by omega)
  split
  ·rw [hi]
   omega
  ·split
   ·rw [hj]
    omega
   ·exact h.part p p0 p1 k k0 k1
def appS (ss xs:List AV):List AV:=ss.foldl (fun xs s=>v149_0 (fI s 0) (fI s 1) xs) xs
theorem appS_cons (s:AV) (ss xs:List AV):appS (s :: ss) xs=appS ss (v149_0 (fI s 0) (fI s 1) xs):=rfl
theorem appS_snoc (s:AV) (ss xs:List AV):appS (ss++[s]) xs=v149_0 (fI s 0) (fI s 1) (appS ss xs):=by unfold appS;rw [List.foldl_append];rfl
theorem appS_len (ss:List AV):∀ xs:List AV,(appS ss xs).length=xs.length:=by
 induction ss with
 | nil=>intro xs;rfl
 | cons s ss ih=>intro xs;rw [appS_cons,ih,sw_len]
def inS (a b:Int) (ss:List AV):Prop:=∀ s ∈ ss,a≤fI s 0∧fI s 0<b∧a≤fI s 1∧fI s 1<b
theorem Col.swaps {ps:List AV} {a b:Int} (a0:0≤a) (hab:∀ p:Int,0≤p→p<ps.length→pat ps p≤a∨b≤pat ps p):∀ (ss vs rs:List AV),Col vs rs ps→b≤vs.length→inS a b ss→Col (appS ss vs) (appS ss rs) ps
 | [],vs,rs,h,_,_=>h
 | s :: ss,vs,rs,h,hb,hs=>by
  obtain ⟨h1,h2,h3,h4⟩:=hs s List.mem_cons_self
  exact Col.swaps a0 hab ss _ _ (h.sw a0 hb hab h1 h2 h3 h4) (by rw [sw_len];exact hb) fun x hx=>hs x (List.mem_cons_of_mem _ hx)
end Go.Proofs.YtealoedecngaoaaGreatDoor

namespace Go.Proofs.YtealoedecngaoaaGreatDoor
open Go Go.Proofs.VE
set_option linter.unusedVariables false
set_option linter.unusedSimpArgs false
def mk2 (a b:Int):AV:=AV.agg [AV.int .i64 a,AV.int .i64 b]
def N2 (ps:List AV):Prop:=∀ x ∈ ps,mk2 (fI x 0) (fI x 1)=x
theorem N2.at {ps:List AV} (h:N2 ps) {k:Int} (h0:0≤k) (h1:k<ps.length):mk2 (fI (ps.getD k.toNat .undef) 0) (fI (ps.getD k.toNat .undef) 1)=ps.getD k.toNat .undef:=by
 refine h _ ?_
 rw [List.getD_eq_getElem?_getD,List.getElem?_eq_getElem (by omega)]
 exact List.getElem_mem _
theorem N2.map {f:AV→AV} (hf:∀ x,∃ a b,f x=mk2 a b) (xs:List AV):N2 (xs.map f):=fun x hx=>by
 obtain ⟨y,_,rfl⟩:=List.mem_map.1 hx
 obtain ⟨a,b,e⟩:=hf y
 rw [e]
 rfl
theorem take_snoc {xs:List AV} {k:Int} (h0:0≤k) (h1:k<xs.length):xs.take (k+1).toNat=xs.take k.toNat++[xs.getD k.toNat .undef]:=by
 rw [show (k+1).toNat=k.toNat+1 by omega,List.take_add_one,List.getD_eq_getElem?_getD,List.getElem?_eq_getElem (by omega)]
 rfl
def findP (ps:List AV) (v:Int):Option Int:=findF (fun i=>decide (fI (ps.getD i.toNat .undef) 0=v)) ps.length 0
theorem P21 (vs rs ps:List AV) (v:Int) (h:ps.length≤1048576):q21 vs rs ps v=true∧v21_0 vs rs ps v=ro (findP ps v) 0 (pat ps)∧v21_1 vs rs ps v=(findP ps v).isSome:=by
 have hr:runW (R21_0 v vs rs ps) (((ps.length:Int) - 0).toNat+1) 0=some (ro (findP ps v) (.inl ()) fun i => .inr (fI (ps.getD i.toNat .undef) 1)):=by
  refine runW_find (fun i=>i) ps.length _ _ _ (fun i h0 hn=>?_) ?_ ps.length _ 0 (Int.le_refl 0) (by omega) (by omega)
  ·simp only [R21_0,F21_0,G21_0,h0,hn,decide_true,Bool.and_self,cond_true]
   rw [wrap_in (a:=i+1) (by omega) (by omega)]
  ·simp only [R21_0,F21_0,G21_0,Int.lt_irrefl,decide_false,cond_false]
 unfold q21 v21_0 v21_1
 rw [hr]
 cases findP ps v <;> exact ⟨rfl,rfl,rfl⟩
theorem P19 (vs rs ps:List AV) (v:Int) (h:ps.length≤1048576):q19 vs rs ps v=true∧v19_0 vs rs ps v=ro (findP ps v) 0 (pat ps)∧v19_1 vs rs ps v=(findP ps v).isSome:=by
 have hr:runW (R19_0 v ps ps.length) (((ps.length:Int) - 0).toNat+1) 0=some (ro (findP ps v) (.inl ()) fun i => .inr (fI (ps.getD i.toNat .undef) 1,fI (ps.getD i.toNat .undef) 0,fI (ps.getD i.toNat .undef) 1)):=by
  refine runW_find (fun i=>i) ps.length _ _ _ (fun i h0 hn=>?_) ?_ ps.length _ 0 (Int.le_refl 0) (by omega) (by omega)
  ·simp only [R19_0,F19_0,G19_0,h0,hn,decide_true,Bool.and_self,cond_true]
   rw [wrap_in (a:=i+1) (by omega) (by omega)]
  ·simp only [R19_0,F19_0,G19_0,Int.lt_irrefl,decide_false,cond_false]
 unfold q19 v19_0 v19_1
 rw [hr]
 cases findP ps v <;> exact ⟨rfl,rfl,rfl⟩
theorem P143 (vs rs ps:List AV) (v:Int) (h:ps.length≤1048576):q143 vs rs ps v=true∧v143_0 vs rs ps v=(findP ps v).isSome:=⟨(P19 vs rs ps v h).1,(P19 vs rs ps v h).2.2⟩
theorem findP_none {ps:List AV} {v:Int} (h:(findP ps v).isSome=false):∀ k:Int,0≤k→k<ps.length→el ps k ≠ v:=fun k h0 h1 e=>by
 have:(findP ps v).isNone=true:=by
  cases hf:findP ps v with
  | none=>rfl
  | some j=>rw [hf] at h;cases h
 have:=(findF_isNone _ _).1 this k h0 (by omega)
 exact of_decide_eq_false this e
structure Pc (n:Int) (ps:List AV) (v a b t:Int):Prop where
 t0:0≤t
 t1:t≤ps.length
 lo:∀ k:Int,0≤k→k<t→el ps k<v
 hi:∀ k:Int,t≤k→k<ps.length→v<el ps k
 ea:a=if t=0 then 0 else pat ps (t - 1)
 eb:b=if t=ps.length then n else pat ps t
def place (ps:List AV) (v:Int):Int:=ro (findF (fun i=>decide (fI (ps.getD i.toNat .undef) 0 > v)) ps.length 0) ps.length id
theorem place_spec (ps:List AV) (v:Int):0≤place ps v∧place ps v≤ps.length∧(∀ k:Int,0≤k→k<place ps v→el ps k≤v)∧(place ps v<ps.length→v<el ps (place ps v)):=by
 unfold place
 cases hf:findF (fun i=>decide (fI (ps.getD i.toNat .undef) 0 > v)) ps.length 0 with
 | none =>
  refine ⟨by simp [ro],by simp [ro],fun k h0 h1=>?_,fun h=>?_⟩
  ·have:(findF (fun i=>decide (fI (ps.getD i.toNat .undef) 0 > v)) ps.length 0).isNone=true:=by rw [hf];rfl
   have:=(findF_isNone _ _).1 this k h0 (by simp only [ro] at h1;omega)
   have:=of_decide_eq_false this
   unfold el
   omega
  ·simp only [ro] at h
   omega
 | some j =>
  obtain ⟨h1,h2,h3⟩:=findF_some _ _ hf
  refine ⟨by simpa [ro] using h1,by simp only [ro,id];omega,fun k h0 hk=>?_,fun _=>?_⟩
  ·simp only [ro,id] at hk
   have key:∀ (m:Nat) (i:Int),findF (fun i=>decide (fI (ps.getD i.toNat .undef) 0 > v)) m i=some j→∀ k,i≤k→k<j→¬ fI (ps.getD k.toNat .undef) 0 > v:=by
    intro m
    induction m with
    | zero=>intro i h;cases h
    | succ m ih =>
     intro i h k hk1 hk2
     simp only [findF] at h
     cases hp:decide (fI (ps.getD i.toNat .undef) 0 > v) with
     | true=>rw [hp] at h;simp only [cond_true,Option.some.injEq] at h;omega
     | false =>
      rw [hp] at h
      by_cases e:k=i
      ·subst e;exact of_decide_eq_false hp
      ·exact ih (i+1) h k (by omega) hk2
   have:=key _ _ hf k h0 hk
   unfold el
   omega
  ·simp only [ro,id]
   exact of_decide_eq_true h3
theorem pc_of {vs rs ps:List AV} (h:Col vs rs ps) {v:Int} (hf:(findP ps v).isSome=false):Pc vs.length ps v (if place ps v=0 then 0 else pat ps (place ps v - 1)) (if place ps v=ps.length then (vs.length:Int) else pat ps (place ps v)) (place ps v):=by
 obtain ⟨h0,h1,h2,h3⟩:=place_spec ps v
 refine ⟨h0,h1,fun k k0 k1=>?_,fun k k0 k1=>?_,rfl,rfl⟩
 ·have:=findP_none hf k k0 (by omega)
  have:=h2 k k0 k1
  omega
 ·by_cases e:k=place ps v
  ·rw [e];exact h3 (by omega)
  ·have:=(h.lt (i:=place ps v) (j:=k) h0 (by omega) k1).1
   have:=h3 (by omega)
   omega
theorem P144 {vs rs ps:List AV} {v a b t:Int} (h:Pc vs.length ps v a b t) (hl:ps.length≤1048576):q144 vs rs ps v=true∧v144_0 vs rs ps v=a∧v144_1 vs rs ps v=b:=by
 obtain ⟨r,h1,h2⟩:=runW_ends (f:=R144_0 v (vs.length:Int) ps ps.length) (fun s:Int × Int=>0≤s.2∧s.2≤t∧s.1=if s.2=0 then 0 else pat ps (s.2 - 1))
  (fun r=>match r with | .inl x=>t=ps.length∧x=a | .inr x=>t<ps.length∧x.1=a∧x.2.1=b) (fun s=>((ps.length:Int) - s.2).toNat) (fun s hs=>by
   obtain ⟨t6,k⟩:=s
   obtain ⟨k0,k1,e⟩:=hs
   simp only at k0 k1 e
   have ht1:=h.t1
   by_cases hk:k<ps.length
   ·have d1:decide (k<(ps.length:Int))=true:=decide_eq_true hk
    have d2:decide (0≤k)=true:=decide_eq_true k0
    have wk:IntKind.i64.wrap (k+1)=k+1:=wrap_in (by omega) (by omega)
    by_cases hkt:k<t
    ·have hv:=h.lo k k0 hkt
     have d3:decide (fI (ps.getD k.toNat .undef) 0≤v)=true:=decide_eq_true (Int.le_of_lt hv)
     have d4:decide (fI (ps.getD k.toNat .undef) 0 ≥ v)=false:=decide_eq_false (by unfold el at hv;omega)
     refine .inl ⟨(pat ps k,k+1),?_,⟨by simp only;omega,by simp only;omega,?_⟩,by simp only;omega⟩
     ·simp only [R144_0,F144_0,G144_0,d1,d2,d3,d4,wk,Bool.and_self,cond_true,cond_false]
      rfl
     ·simp only
      rw [if_neg (by omega),show k+1 - 1=k by omega]
    ·have hkt':k=t:=by omega
     subst hkt'
     have hv:=h.hi k (Int.le_refl _) hk
     have d3:decide (fI (ps.getD k.toNat .undef) 0≤v)=false:=decide_eq_false (by unfold el at hv;omega)
     have d4:decide (fI (ps.getD k.toNat .undef) 0 ≥ v)=true:=decide_eq_true (Int.le_of_lt hv)
     refine .inr ⟨.inr (t6,fI (ps.getD k.toNat .undef) 1,fI (ps.getD k.toNat .undef) 0,fI (ps.getD k.toNat .undef) 1),?_,hk,?_,?_⟩
     ·simp only [R144_0,F144_0,G144_0,d1,d2,d3,d4,Bool.and_self,cond_true,cond_false]
     ·simp only;rw [e,h.ea]
     ·simp only;rw [h.eb,if_neg (by omega)];rfl
   ·have d1:decide (k<(ps.length:Int))=false:=decide_eq_false hk
    have hkt':k=t:=by omega
    subst hkt'
    refine .inr ⟨.inl t6,?_,by omega,?_⟩
    ·simp only [R144_0,F144_0,G144_0,d1,cond_false]
    ·rw [e,h.ea]) (((ps.length:Int) - 0).toNat+1) (0,0) ⟨by simp,h.t0,rfl⟩ (by simp)
 unfold q144 v144_0 v144_1
 rw [h1]
 cases r with
 | inl x =>
  obtain ⟨e1,e2⟩:=h2
  refine ⟨rfl,e2,?_⟩
  simp only [ro,sumE]
  rw [h.eb,if_pos e1]
 | inr x =>
  obtain ⟨e1,e2,e3⟩:=h2
  exact ⟨rfl,e2,e3⟩
theorem P164 {n:Nat} {ps:List AV} {v a b t:Int} (h:Pc n ps v a b t) (hl:ps.length≤1048576):q164 n ps v=true∧v164_0 n ps v=a∧v164_1 n ps v=b:=by
 have ht1:=h.t1
 have ht0:=h.t0
 obtain ⟨r,h1,h2⟩:=runW_ends (f:=R164_0 ps v (n:Int)) (fun s:Int × Int=>0≤s.2∧s.2≤ps.length∧s.1=if min s.2 t=0 then 0 else pat ps (min s.2 t - 1)) (fun r=>r=a) (fun s=>((ps.length:Int) - s.2).toNat) (fun s hs=>by
   obtain ⟨t8,k⟩:=s
   obtain ⟨k0,k1,e⟩:=hs
   simp only at k0 k1 e
   by_cases hk:k<ps.length
   ·have d1:decide (k<(ps.length:Int))=true:=decide_eq_true hk
    have d2:decide (0≤k)=true:=decide_eq_true k0
    have wk:IntKind.i64.wrap (k+1)=k+1:=wrap_in (by omega) (by omega)
    by_cases hkt:k<t
    ·have hv:=h.lo k k0 hkt
     have d3:decide (fI (ps.getD k.toNat .undef) 0≤v)=true:=decide_eq_true (Int.le_of_lt hv)
     refine .inl ⟨(pat ps k,k+1),?_,⟨by simp only;omega,by simp only;omega,?_⟩,by simp only;omega⟩
     ·simp only [R164_0,F164_0,G164_0,d1,d2,d3,wk,Bool.and_self,cond_true,cond_false]
      rfl
     ·simp only
      rw [Int.min_eq_left (by omega:k+1≤t),if_neg (by omega),show k+1 - 1=k by omega]
    ·have hv:=h.hi k (by omega) hk
     have d3:decide (fI (ps.getD k.toNat .undef) 0≤v)=false:=decide_eq_false (by unfold el at hv;omega)
     refine .inl ⟨(t8,k+1),?_,⟨by simp only;omega,by simp only;omega,?_⟩,by simp only;omega⟩
     ·simp only [R164_0,F164_0,G164_0,d1,d2,d3,wk,Bool.and_self,cond_true,cond_false]
     ·simp only
      rw [e,Int.min_eq_right (by omega:t≤k+1),Int.min_eq_right (by omega:t≤k)]
   ·have d1:decide (k<(ps.length:Int))=false:=decide_eq_false hk
    refine .inr ⟨t8,?_,?_⟩
    ·simp only [R164_0,F164_0,G164_0,d1,cond_false]
    ·rw [e,h.ea,Int.min_eq_right (by omega:t≤k)]) (((ps.length:Int) - 0).toNat+1) (0,0) ⟨by simp,by simp,by simp only;rw [Int.min_eq_left ht0];rfl⟩ (by simp)
 subst h2
 obtain ⟨r',h3,h4⟩:=runW_ends (f:=R164_2 ps v r) (fun s:Int × Int => -1≤s.2∧s.2<ps.length∧s.1=if max (s.2+1) t=ps.length then (n:Int) else pat ps (max (s.2+1) t)) (fun r=>r=b) (fun s=>(s.2+1).toNat) (fun s hs=>by
   obtain ⟨t9,k⟩:=s
   obtain ⟨k0,k1,e⟩:=hs
   simp only at k0 k1 e
   by_cases hk:k ≥ 0
   ·have d1:decide (k ≥ 0)=true:=decide_eq_true hk
    have d2:decide (0≤k)=true:=decide_eq_true hk
    have d3:decide (k<(ps.length:Int))=true:=decide_eq_true k1
    have wk:IntKind.i64.wrap (k - 1)=k - 1:=wrap_in (by omega) (by omega)
    by_cases hkt:k<t
    ·have hv:=h.lo k hk hkt
     have d4:decide (fI (ps.getD k.toNat .undef) 0 ≥ v)=false:=decide_eq_false (by unfold el at hv;omega)
     refine .inl ⟨(t9,k - 1),?_,⟨by simp only;omega,by simp only;omega,?_⟩,by simp only;omega⟩
     ·simp only [R164_2,F164_2,G164_2,d1,d2,d3,d4,wk,Bool.and_self,cond_true,cond_false]
     ·simp only
      rw [e,Int.max_eq_right (by omega:k+1≤t),Int.max_eq_right (by omega:k - 1+1≤t)]
    ·have hv:=h.hi k (by omega) k1
     have d4:decide (fI (ps.getD k.toNat .undef) 0 ≥ v)=true:=decide_eq_true (Int.le_of_lt hv)
     refine .inl ⟨(pat ps k,k - 1),?_,⟨by simp only;omega,by simp only;omega,?_⟩,by simp only;omega⟩
     ·simp only [R164_2,F164_2,G164_2,d1,d2,d3,d4,wk,Bool.and_self,cond_true,cond_false]
      rfl
     ·simp only
      rw [Int.max_eq_left (by omega:t≤k - 1+1),show k - 1+1=k by omega,if_neg (by omega)]
   ·have d1:decide (k ≥ 0)=false:=decide_eq_false hk
    refine .inr ⟨t9,?_,?_⟩
    ·simp only [R164_2,F164_2,G164_2,d1,cond_false]
    ·rw [e,h.eb,Int.max_eq_right (by omega:k+1≤t)]) (((((ps.length:Int) - 1)) - 0+1).toNat+1) ((n:Int),(ps.length:Int) - 1) ⟨by simp only;omega,by simp only;omega,by simp only;rw [Int.max_eq_left (by omega:t≤(ps.length:Int) - 1+1),if_pos (by omega)]⟩ (by simp only;omega)
 subst h4
 unfold q164 v164_0 v164_1
 rw [wrap_in (a:=(ps.length:Int) - 1) (by omega) (by omega),h1]
 simp only [ro]
 rw [h3]
 refine ⟨?_,?_,?_⟩ <;> first|rfl|trivial
structure Piece (vs ps:List AV) (v a b:Int):Prop where
 a0:0≤a
 ab:a≤b
 b1:b≤vs.length
 cut:∀ p:Int,0≤p→p<ps.length→pat ps p≤a∨b≤pat ps p
 lo:∀ k:Int,0≤k→k<a→el vs k<v
 hi:∀ k:Int,b≤k→k<vs.length→v≤el vs k
theorem piece_of {vs rs ps:List AV} (h:Col vs rs ps) {v a b t:Int} (hp:Pc vs.length ps v a b t):Piece vs ps v a b:=by
 obtain ⟨t0,t1,lo,hi,ea,eb⟩:=hp
 have fa:0≤a∧a≤vs.length∧∀ k:Int,0≤k→k<a→el vs k<v:=by
  rw [ea]
  split
  ·exact ⟨Int.le_refl 0,by omega,fun k h0 h1=>by omega⟩
  ·have:=h.pa (t - 1) (by omega) (by omega)
   refine ⟨this.1,this.2,fun k k0 k1=>?_⟩
   have h1:=(h.part (t - 1) (by omega) (by omega) k k0 (by omega)).2 k1
   have h2:=lo (t - 1) (by omega) (by omega)
   omega
 have fb:0≤b∧b≤vs.length∧∀ k:Int,b≤k→k<vs.length→v≤el vs k:=by
  rw [eb]
  split
  ·exact ⟨by omega,Int.le_refl _,fun k h0 h1=>by omega⟩
  ·have:=h.pa t (by omega) (by omega)
   refine ⟨this.1,this.2,fun k k0 k1=>?_⟩
   have h1:=h.part t (by omega) (by omega) k (by omega) k1
   have h2:=hi t (Int.le_refl _) (by omega)
   omega
 refine ⟨fa.1,?_,fb.2.1,fun p p0 p1=>?_,fa.2.2,fb.2.2⟩
 ·rw [ea,eb]
  split
  ·split
   ·omega
   ·exact (h.pa t (by omega) (by omega)).1
  ·split
   ·exact (h.pa (t - 1) (by omega) (by omega)).2
   ·exact (h.lt (i:=t - 1) (j:=t) (by omega) (by omega) (by omega)).2
 ·by_cases hpt:p<t
  ·left
   rw [ea,if_neg (by omega)]
   by_cases e:p=t - 1
   ·rw [e];exact Int.le_refl _
   ·exact (h.lt (i:=p) (j:=t - 1) p0 (by omega) (by omega)).2
  ·right
   rw [eb,if_neg (by omega)]
   by_cases e:p=t
   ·rw [e];exact Int.le_refl _
   ·exact (h.lt (i:=t) (j:=p) t0 (by omega) p1).2
end Go.Proofs.YtealoedecngaoaaGreatDoor

namespace Go.Proofs.YtealoedecngaoaaGreatDoor
open Go Go.Proofs.VE
set_option linter.unusedVariables false
set_option linter.unusedSimpArgs false
theorem P138 (v r p:List AV) (h1:v.length≤1048576) (h2:r.length≤1048576) (h3:p.length≤1048576):q138 v r p=true∧v138_0 v r p=v∧v138_1 v r p=r∧v138_2 v r p=p:=by
 unfold q138 v138_0 v138_1 v138_2
 simp only [List.length_nil,Nat.zero_add,List.nil_append]
 rw [decide_eq_true (by omega:v.length*8≤140737488355328),decide_eq_true (by omega:v.length≤140737488355328),decide_eq_true (by omega:r.length*8≤140737488355328),decide_eq_true (by omega:r.length≤140737488355328),decide_eq_true (by omega:p.length*16≤140737488355328),decide_eq_true (by omega:p.length≤140737488355328)]
 simp
theorem P135 (xs:List AV) (h:xs.length≤1048576):q135 xs=true∧v135_0 xs=xs:=by
 unfold q135 v135_0
 rw [decide_eq_true (by omega:xs.length*8≤140737488355328),decide_eq_true (by omega:xs.length≤140737488355328)]
 exact ⟨rfl,rfl⟩
theorem P152 (xs:List AV) (h:xs.length≤1048576):q152 xs=true∧v152_0 xs=xs:=by
 unfold q152 v152_0
 rw [decide_eq_true (by omega:xs.length*16≤140737488355328),decide_eq_true (by omega:xs.length≤140737488355328)]
 exact ⟨rfl,rfl⟩
theorem P133 (v r p:List AV) (h1:v.length≤1048576) (h2:r.length≤1048576) (h3:p.length≤1048576):q133 v r p=true∧v133_0 v r p=v∧v133_1 v r p=r∧v133_2 v r p=p:=by
 unfold q133 v133_0 v133_1 v133_2
 rw [(P135 v h1).1,(P135 r h2).1,(P152 p h3).1]
 exact ⟨rfl,rfl,rfl,rfl⟩
abbrev PS:=Int × Int × List AV
abbrev PS':=Int × Int × List AV × List AV
structure ParI (vs:List AV) (v a b:Int) (s:PS) (s':PS'):Prop where
 e1:s'.1=s.1
 e2:s'.2.1=s.2.1
 e3:s'.2.2.2=s.2.2
 el_:s'.2.2.1=appS s.2.2 vs
 i0:a≤s.1
 ij:s.1≤s.2.1+1
 j1:s.2.1<b
 ins:inS a b s.2.2
 n2:N2 s.2.2
 len:(s.2.2.length:Int)≤s.1 - a
 mid:∀ k:Int,s.1≤k→k≤s.2.1→el (appS s.2.2 vs) k=el vs k
 lo:∀ k:Int,a≤k→k<s.1→el (appS s.2.2 vs) k<v
 hi:∀ k:Int,s.2.1<k→k<b→v≤el (appS s.2.2 vs) k
 ord:∀ x ∈ s.2.2,fI x 0<fI x 1
structure Parted (vs:List AV) (v a b:Int) (ss:List AV) (at_:Int):Prop where
 i0:a≤at_
 i1:at_≤b
 ins:inS a b ss
 n2:N2 ss
 len:(ss.length:Int)≤at_ - a
 lo:∀ k:Int,a≤k→k<at_→el (appS ss vs) k<v
 hi:∀ k:Int,at_≤k→k<b→v≤el (appS ss vs) k
 ord:∀ x ∈ ss,fI x 0<fI x 1
theorem room2 (X:List AV) (a:AV) (h:X.length≤1048576):(decide ((X.length+[a].length)*16≤140737488355328) && decide (X.length+[a].length≤140737488355328))=true:=by
 simp only [List.length_singleton,Bool.and_eq_true,decide_eq_true_eq]
 omega
theorem stepPar (vs:List AV) (v a b:Int) (hn:vs.length≤1048576) (a0:0≤a) (b1:b≤vs.length) (s:PS) (s':PS') (h:ParI vs v a b s s') :
  (∃ x y,R169_0 vs v s = .next x∧R192_0 v s' = .next y∧ParI vs v a b x y∧(x.2.1+1 - x.1).toNat<(s.2.1+1 - s.1).toNat)∨∃ r r',R169_0 vs v s = .stop r∧R192_0 v s' = .stop r'∧(r'.1=r.1∧r'.2.2=r.2∧Parted vs v a b r.2 r.1):=by
 obtain ⟨i,j,ss⟩:=s
 obtain ⟨i',j',l,ss'⟩:=s'
 obtain ⟨e1,e2,e3,e4,i0,ij,j1,ins,n2,len,mid,lo,hi,ord⟩:=h
 simp only at e1 e2 e3 e4 i0 ij j1 ins n2 len mid lo hi ord
 subst e1 e2 e3 e4
 have hlen:=appS_len ss' vs
 by_cases hij:i'≤j'
 ·have d0:decide (i'≤j')=true:=decide_eq_true hij
  have c1:decide (0≤i')=true:=decide_eq_true (by omega)
  have c2:decide (i'<(vs.length:Int))=true:=decide_eq_true (by omega)
  have c3:decide (0≤j')=true:=decide_eq_true (by omega)
  have c4:decide (j'<(vs.length:Int))=true:=decide_eq_true (by omega)
  have wi:IntKind.i64.wrap (i'+1)=i'+1:=wrap_in (by omega) (by omega)
  have wj:IntKind.i64.wrap (j' - 1)=j' - 1:=wrap_in (by omega) (by omega)
  have mi:=mid i' (Int.le_refl _) hij
  have mj:=mid j' hij (Int.le_refl _)
  have fi:fI ((appS ss' vs).getD i'.toNat AV.undef) 0=el vs i':=mi
  have fj:fI ((appS ss' vs).getD j'.toNat AV.undef) 0=el vs j':=mj
  have gi:fI (vs.getD i'.toNat AV.undef) 0=el vs i':=rfl
  have gj:fI (vs.getD j'.toNat AV.undef) 0=el vs j':=rfl
  by_cases h1:el vs i'<v
  ·have d1:decide (el vs i'<v)=true:=decide_eq_true h1
   refine .inl ⟨(i'+1,j',ss'),(i'+1,j',appS ss' vs,ss'),?_,?_,⟨rfl,rfl,rfl,rfl,by simp only;omega,by simp only;omega,j1,ins,n2,by simp only;omega,fun k k0 k1=>mid k (by simp only at k0;omega) k1,fun k k0 k1=>?_,hi,ord⟩,by simp only;omega⟩
   ·simp only [R169_0,F169_0,G169_0,gi,d0,c1,c2,d1,wi,Bool.and_self,cond_true]
   ·simp only [R192_0,F192_0,G192_0,q184,v184_0,v184_1,v184_2,hlen,fi,d0,c1,c2,d1,wi,Bool.and_self,cond_true,cond_false]
   ·simp only at k1 ⊢
    by_cases e:k=i'
    ·rw [e,mi];exact h1
    ·exact lo k k0 (by omega)
  ·have d1:decide (el vs i'<v)=false:=decide_eq_false h1
   by_cases h2:el vs j' ≥ v
   ·have d2:decide (el vs j' ≥ v)=true:=decide_eq_true h2
    refine .inl ⟨(i',j' - 1,ss'),(i',j' - 1,appS ss' vs,ss'),?_,?_,⟨rfl,rfl,rfl,rfl,i0,by simp only;omega,by simp only;omega,ins,n2,len,fun k k0 k1=>mid k k0 (by simp only at k1;omega),lo,fun k k0 k1=>?_,ord⟩,by simp only;omega⟩
    ·simp only [R169_0,F169_0,G169_0,gi,gj,d0,c1,c2,c3,c4,d1,d2,wj,Bool.and_self,cond_true,cond_false]
    ·simp only [R192_0,F192_0,G192_0,q184,v184_0,v184_1,v184_2,hlen,fi,fj,d0,c1,c2,c3,c4,d1,d2,wj,Bool.and_self,cond_true,cond_false]
    ·simp only at k0 ⊢
     by_cases e:k=j'
     ·rw [e,mj];exact h2
     ·exact hi k (by omega) k1
   ·have d2:decide (el vs j' ≥ v)=false:=decide_eq_false h2
    have hne:i'<j':=by
     rcases Int.lt_or_eq_of_le hij with h|h
     ·exact h
     ·rw [h] at h1;omega
    have hr:=room2 ss' (AV.agg [AV.int .i64 i',AV.int .i64 j']) (by omega)
    have eap:appS (ss'++[AV.agg [AV.int .i64 i',AV.int .i64 j']]) vs=v149_0 i' j' (appS ss' vs):=appS_snoc _ _ _
    have ev:∀ k:Int,0≤k→el (v149_0 i' j' (appS ss' vs)) k=if k=j' then el (appS ss' vs) i' else if k=i' then el (appS ss' vs) j' else el (appS ss' vs) k:=fun k k0=>el_sw _ i' j' k (by omega) (by omega) (by omega) (by omega) k0
    refine .inl ⟨(i'+1,j' - 1,ss'++[AV.agg [AV.int .i64 i',AV.int .i64 j']]),(i'+1,j' - 1,v149_0 i' j' (appS ss' vs),ss'++[AV.agg [AV.int .i64 i',AV.int .i64 j']]),?_,?_,
     ⟨rfl,rfl,rfl,eap.symm,by simp only;omega,by simp only;omega,by simp only;omega,fun x hx=>?_,fun x hx=>?_,by simp only [List.length_append,List.length_singleton];omega,fun k k0 k1=>?_,fun k k0 k1=>?_,fun k k0 k1=>?_,fun x hx=>?_⟩,by simp only;omega⟩
    ·simp only [R169_0,F169_0,G169_0,gi,gj,d0,c1,c2,c3,c4,d1,d2,wi,wj,hr,Bool.and_self,cond_true,cond_false]
    ·simp only [R192_0,F192_0,G192_0,q184,v184_0,v184_1,v184_2,hlen,List.length_set,fi,fj,d0,c1,c2,c3,c4,d1,d2,wi,wj,hr,Bool.and_self,cond_true,cond_false]
     unfold v149_0
     rw [fi,fj]
    ·rcases List.mem_append.1 hx with hx|hx
     ·exact ins x hx
     ·rw [List.mem_singleton.1 hx]
      exact ⟨i0,by show i'<b;omega,by show a≤j';omega,j1⟩
    ·rcases List.mem_append.1 hx with hx|hx
     ·exact n2 x hx
     ·rw [List.mem_singleton.1 hx]
      rfl
    ·simp only at k0 k1
     rw [eap,ev k (by omega),if_neg (by omega),if_neg (by omega)]
     exact mid k (by omega) (by omega)
    ·simp only at k1
     rw [eap,ev k (by omega),if_neg (by omega)]
     split
     ·rw [mj];omega
     ·exact lo k k0 (by omega)
    ·simp only at k0
     rw [eap,ev k (by omega)]
     split
     ·rw [mi];omega
     ·rw [if_neg (by omega)]
      exact hi k (by omega) k1
    ·rcases List.mem_append.1 hx with hx|hx
     ·exact ord x hx
     ·rw [List.mem_singleton.1 hx]
      exact hne
 ·have d0:decide (i'≤j')=false:=decide_eq_false hij
  refine .inr ⟨(i',ss'),(i',appS ss' vs,ss'),?_,?_,rfl,rfl,⟨i0,by simp only;omega,ins,n2,len,lo,fun k k0 k1=>hi k (by simp only at k0;omega) k1,ord⟩⟩
  ·simp only [R169_0,F169_0,G169_0,d0,cond_false]
  ·simp only [R192_0,F192_0,G192_0,d0,cond_false]
theorem P169 (vs:List AV) (v a b:Int) (hn:vs.length≤1048576) (a0:0≤a) (ab:a≤b) (b1:b≤vs.length) :
  q169 vs a b v=true∧q192 vs a b v=true∧v192_0 vs a b v=v169_0 vs a b v∧v192_1 vs a b v=v169_1 vs a b v∧Parted vs v a b (v169_0 vs a b v) (v169_1 vs a b v):=by
 obtain ⟨r,r',h1,h2,h3,h4,h5⟩:=runW_pair (ParI vs v a b) (fun (r:Int × List AV) (r':Int × List AV × List AV)=>r'.1=r.1∧r'.2.2=r.2∧Parted vs v a b r.2 r.1) (fun s=>(s.2.1+1 - s.1).toNat) (stepPar vs v a b hn a0 b1) (((b - 1) - a+1).toNat+1) (((b - 1) - a+1).toNat+1) (a,b - 1,[]) (a,b - 1,vs,[])
  ⟨rfl,rfl,rfl,rfl,Int.le_refl _,by simp only;omega,by simp only;omega,fun x hx=>by simp at hx,fun x hx=>by simp at hx,by simp,fun k _ _=>rfl,fun k k0 k1=>by simp only at k1;omega,fun k k0 k1=>by simp only at k0;omega,fun x hx=>by simp at hx⟩ (by simp only;omega) (by simp only;omega)
 have wb:IntKind.i64.wrap (b - 1)=b - 1:=wrap_in (by omega) (by omega)
 have d1:decide (a<0)=false:=decide_eq_false (by omega)
 have d2:decide (a > b)=false:=decide_eq_false (by omega)
 have d3:decide (b > (vs.length:Int))=false:=decide_eq_false (by omega)
 have d4:v72_0 a 0 b=true:=by rw [v72,decide_eq_true a0,decide_eq_true ab];rfl
 obtain ⟨c1,c2⟩:=P135 vs hn
 unfold q169 q192 v192_0 v169_0 v192_1 v169_1
 rw [wb,d1,d2,d3,d4,c1,c2,h1,h2]
 exact ⟨rfl,rfl,h4,h3,h5⟩
theorem q149_in (i j:Int) (xs:List AV) (i0:0≤i) (i1:i<xs.length) (j0:0≤j) (j1:j<xs.length):q149 i j xs=true:=by
 unfold q149
 rw [List.length_set,decide_eq_true i0,decide_eq_true i1,decide_eq_true j0,decide_eq_true j1]
 rfl
theorem mem_at {xs:List AV} {k:Int} (h0:0≤k) (h1:k<xs.length):xs.getD k.toNat .undef ∈ xs:=by
 rw [List.getD_eq_getElem?_getD,List.getElem?_eq_getElem (by omega)]
 exact List.getElem_mem _
theorem P102 (vs rs ps ss:List AV) (hv:vs.length≤1048576) (hp:ps.length≤1048576) (hl:(rs.length:Int)=vs.length) (hs:ss.length≤1048576) (h:inS 0 vs.length ss) :
  q102 vs rs ps ss=true∧v102_0 vs rs ps ss=appS ss vs∧v102_1 vs rs ps ss=appS ss rs∧v102_2 vs rs ps ss=ps∧v102_3 vs rs ps ss=true:=by
 obtain ⟨c0,c1,c2,c3⟩:=P138 vs rs ps hv (by omega) hp
 obtain ⟨r,h1,h2⟩:=runW_ends (f:=R102_0 ss vs rs ps ps) (fun s:Int × List AV × List AV=>0≤s.1∧s.1≤ss.length∧s.2.1=appS (ss.take s.1.toNat) vs∧s.2.2=appS (ss.take s.1.toNat) rs) (fun r=>r = .inl (appS ss vs,appS ss rs)) (fun s=>((ss.length:Int) - s.1).toNat) (fun s hI=>by
   obtain ⟨k,X,Y⟩:=s
   obtain ⟨k0,k1,ex,ey⟩:=hI
   simp only at k0 k1 ex ey
   subst ex ey
   by_cases hk:k<ss.length
   ·have d1:decide (k<(ss.length:Int))=true:=decide_eq_true hk
    have d2:decide (0≤k)=true:=decide_eq_true k0
    have wk:IntKind.i64.wrap (k+1)=k+1:=wrap_in (by omega) (by omega)
    obtain ⟨g1,g2,g3,g4⟩:=h _ (mem_at k0 hk)
    have lx:=appS_len (ss.take k.toNat) vs
    have ly:=appS_len (ss.take k.toNat) rs
    have wl:IntKind.i64.wrap (((appS (ss.take k.toNat) vs).length:Int) - 1)=(vs.length:Int) - 1:=by rw [lx,wrap_in (by omega) (by omega)]
    have e1:v72_0 (fI (ss.getD k.toNat AV.undef) 0) 0 ((vs.length:Int) - 1)=true:=by rw [v72,decide_eq_true g1,decide_eq_true (by omega)];rfl
    have e2:v72_0 (fI (ss.getD k.toNat AV.undef) 1) 0 ((vs.length:Int) - 1)=true:=by rw [v72,decide_eq_true g3,decide_eq_true (by omega)];rfl
    refine .inl ⟨(k+1,v149_0 (fI (ss.getD k.toNat AV.undef) 0) (fI (ss.getD k.toNat AV.undef) 1) (appS (ss.take k.toNat) vs),v149_0 (fI (ss.getD k.toNat AV.undef) 0) (fI (ss.getD k.toNat AV.undef) 1) (appS (ss.take k.toNat) rs)),?_,⟨by simp only;omega,by simp only;omega,?_,?_⟩,by simp only;omega⟩
    ·simp only [R102_0,F102_0,G102_0,d1,d2,wk,wl,e1,e2,q149_in _ _ (appS (ss.take k.toNat) vs) g1 (by omega) g3 (by omega),q149_in _ _ (appS (ss.take k.toNat) rs) g1 (by omega) g3 (by omega),Bool.and_self,Bool.not_true,cond_true,cond_false]
    ·simp only
     rw [take_snoc k0 hk,appS_snoc]
    ·simp only
     rw [take_snoc k0 hk,appS_snoc]
   ·have d1:decide (k<(ss.length:Int))=false:=decide_eq_false hk
    refine .inr ⟨_,by simp only [R102_0,F102_0,G102_0,d1,cond_false];rfl,?_⟩
    rw [List.take_of_length_le (by omega)]) (((ss.length:Int) - 0).toNat+1) (0,vs,rs) ⟨by simp,by simp,rfl,rfl⟩ (by simp)
 subst h2
 unfold q102 v102_0 v102_1 v102_2 v102_3
 rw [c0,c1,c2,c3,decide_eq_true hl,h1]
 exact ⟨rfl,rfl,rfl,rfl,rfl⟩
theorem P160 (vs rs ps ss:List AV) (hv:vs.length≤1048576) (hp:ps.length≤1048576) (hl:(rs.length:Int)=vs.length) (hs:ss.length≤1048576) (h:inS 0 vs.length ss) :
  q160 vs rs ps ss=true∧v160_0 vs rs ps ss=appS ss vs∧v160_1 vs rs ps ss=appS ss rs∧v160_2 vs rs ps ss=ps∧v160_3 vs rs ps ss=true:=by
 obtain ⟨c0,c1,c2,c3⟩:=P133 vs rs ps hv (by omega) hp
 obtain ⟨r,h1,h2⟩:=runW_ends (f:=R160_0 (vs.length:Int) ss ss.length vs rs ps ps) (fun s:Int × List AV × List AV=>0≤s.1∧s.1≤ss.length∧s.2.1=appS (ss.take s.1.toNat) vs∧s.2.2=appS (ss.take s.1.toNat) rs) (fun r=>r = .inl (appS ss vs,appS ss rs)) (fun s=>((ss.length:Int) - s.1).toNat) (fun s hI=>by
   obtain ⟨k,X,Y⟩:=s
   obtain ⟨k0,k1,ex,ey⟩:=hI
   simp only at k0 k1 ex ey
   subst ex ey
   by_cases hk:k<ss.length
   ·have d1:decide (k<(ss.length:Int))=true:=decide_eq_true hk
    have d2:decide (0≤k)=true:=decide_eq_true k0
    have wk:IntKind.i64.wrap (k+1)=k+1:=wrap_in (by omega) (by omega)
    obtain ⟨g1,g2,g3,g4⟩:=h _ (mem_at k0 hk)
    have lx:=appS_len (ss.take k.toNat) vs
    have ly:=appS_len (ss.take k.toNat) rs
    have ly':((appS (ss.take k.toNat) rs).length:Int)=vs.length:=by rw [ly];exact hl
    have e1:decide (fI (ss.getD k.toNat AV.undef) 0<0)=false:=decide_eq_false (by omega)
    have e2:decide (fI (ss.getD k.toNat AV.undef) 0 ≥ (vs.length:Int))=false:=decide_eq_false (by omega)
    have e3:decide (fI (ss.getD k.toNat AV.undef) 1<0)=false:=decide_eq_false (by omega)
    have e4:decide (fI (ss.getD k.toNat AV.undef) 1 ≥ (vs.length:Int))=false:=decide_eq_false (by omega)
    have e5:decide (0≤fI (ss.getD k.toNat AV.undef) 0)=true:=decide_eq_true g1
    have e6:decide (fI (ss.getD k.toNat AV.undef) 0<(vs.length:Int))=true:=decide_eq_true g2
    have e7:decide (0≤fI (ss.getD k.toNat AV.undef) 1)=true:=decide_eq_true g3
    have e8:decide (fI (ss.getD k.toNat AV.undef) 1<(vs.length:Int))=true:=decide_eq_true g4
    refine .inl ⟨(k+1,v149_0 (fI (ss.getD k.toNat AV.undef) 0) (fI (ss.getD k.toNat AV.undef) 1) (appS (ss.take k.toNat) vs),v149_0 (fI (ss.getD k.toNat AV.undef) 0) (fI (ss.getD k.toNat AV.undef) 1) (appS (ss.take k.toNat) rs)),?_,⟨by simp only;omega,by simp only;omega,?_,?_⟩,by simp only;omega⟩
    ·simp only [R160_0,F160_0,G160_0,List.length_set,lx,ly',d1,d2,wk,e1,e2,e3,e4,e5,e6,e7,e8,Bool.and_self,cond_true,cond_false]
     rfl
    ·simp only
     rw [take_snoc k0 hk,appS_snoc]
    ·simp only
     rw [take_snoc k0 hk,appS_snoc]
   ·have d1:decide (k<(ss.length:Int))=false:=decide_eq_false hk
    refine .inr ⟨_,by simp only [R160_0,F160_0,G160_0,d1,cond_false];rfl,?_⟩
    rw [List.take_of_length_le (by omega)]) (((ss.length:Int) - 0).toNat+1) (0,vs,rs) ⟨by simp,by simp,rfl,rfl⟩ (by simp)
 subst h2
 unfold q160 v160_0 v160_1 v160_2 v160_3
 rw [c0,c1,c2,c3,decide_eq_true hl,h1]
 exact ⟨rfl,rfl,rfl,rfl,rfl⟩
def insP (ps:List AV) (v a:Int):List AV:=ps.take (place ps v).toNat++[mk2 v a]++ps.drop (place ps v).toNat
theorem insP_len (ps:List AV) (v a:Int):(insP ps v a).length=ps.length+1:=by
 have:=place_spec ps v
 unfold insP
 simp only [List.length_append,List.length_take,List.length_drop,List.length_singleton]
 omega
theorem insP_N2 {ps:List AV} (h:N2 ps) (v a:Int):N2 (insP ps v a):=fun x hx=>by
 unfold insP at hx
 rcases List.mem_append.1 hx with hx|hx
 ·rcases List.mem_append.1 hx with hx|hx
  ·exact h x (List.mem_of_mem_take hx)
  ·rw [List.mem_singleton.1 hx]
   rfl
 ·exact h x (List.mem_of_mem_drop hx)
theorem insP_at (ps:List AV) (v a:Int) (i:Int) (h0:0≤i):(insP ps v a).getD i.toNat .undef=if i<place ps v then ps.getD i.toNat .undef else if i=place ps v then mk2 v a else ps.getD (i - 1).toNat .undef:=by
 obtain ⟨p0,p1,_,_⟩:=place_spec ps v
 unfold insP
 simp only [List.getD_eq_getElem?_getD]
 have tl:(ps.take (place ps v).toNat).length=(place ps v).toNat:=by rw [List.length_take];omega
 split
 ·rw [List.append_assoc,List.getElem?_append_left (by omega),List.getElem?_take_of_lt (by omega)]
 ·split
  ·rename_i e1 e2
   rw [List.append_assoc,List.getElem?_append_right (by omega),tl,e2,Nat.sub_self]
   rfl
  ·rw [List.append_assoc,List.getElem?_append_right (by omega),tl,List.getElem?_append_right (by simp;omega),List.getElem?_drop]
   congr 2
   simp only [List.length_singleton]
   omega
theorem Col.pivot {vs rs ps:List AV} (h:Col vs rs ps) {v at_:Int} (hf:∀ k:Int,0≤k→k<ps.length→el ps k ≠ v) (hv : -1000≤v∧v≤1000) (ha:0≤at_∧at_≤vs.length) (hat:∀ k:Int,0≤k→k<vs.length→(el vs k<v ↔ k<at_))
  (hcut:∀ p:Int,0≤p→p<ps.length→(el ps p<v→pat ps p≤at_)∧(v<el ps p→at_≤pat ps p)):Col vs rs (insP ps v at_):=by
 obtain ⟨p0,p1,p2,p3⟩:=place_spec ps v
 have hlen:=insP_len ps v at_
 generalize hpl:place ps v=t at *
 have eel:∀ i:Int,0≤i→el (insP ps v at_) i=if i<t then el ps i else if i=t then v else el ps (i - 1):=fun i h0=>by
  unfold el
  rw [insP_at ps v at_ i h0,hpl]
  split
  ·rfl
  ·split <;> rfl
 have epa:∀ i:Int,0≤i→pat (insP ps v at_) i=if i<t then pat ps i else if i=t then at_ else pat ps (i - 1):=fun i h0=>by
  unfold pat
  rw [insP_at ps v at_ i h0,hpl]
  split
  ·rfl
  ·split <;> rfl
 have lo:∀ k:Int,0≤k→k<t→el ps k<v:=fun k k0 k1=>by
  have:=p2 k k0 k1
  have:=hf k k0 (by omega)
  omega
 have hi:∀ k:Int,t≤k→k<ps.length→v<el ps k:=fun k k0 k1=>by
  by_cases e:k=t
  ·rw [e];exact p3 (by omega)
  ·have:=(h.lt (i:=t) (j:=k) p0 (by omega) k1).1
   have:=p3 (by omega)
   omega
 refine ⟨h.n64,h.vals,h.len,h.rows,h.dist,fun i i0 i1=>?_,fun i i0 i1=>?_,fun i i0 i1=>?_,fun i i0 i1 k k0 k1=>?_⟩
 ·rw [eel i i0]
  split
  ·exact h.pv i i0 (by omega)
  ·split
   ·exact hv
   ·exact h.pv (i - 1) (by omega) (by omega)
 ·rw [epa i i0]
  split
  ·exact h.pa i i0 (by omega)
  ·split
   ·exact ha
   ·exact h.pa (i - 1) (by omega) (by omega)
 ·rw [eel i (by omega),eel (i - 1) (by omega),epa i (by omega),epa (i - 1) (by omega)]
  by_cases h1:i<t
  ·have q:i - 1<t:=by omega
   rw [if_pos h1,if_pos h1,if_pos q,if_pos q]
   exact h.asc i i0 (by omega)
  ·by_cases h2:i=t
   ·have q:i - 1<t:=by omega
    rw [if_neg h1,if_neg h1,if_pos h2,if_pos h2,if_pos q,if_pos q]
    have a1:=lo (i - 1) (by omega) (by omega)
    exact ⟨a1,(hcut (i - 1) (by omega) (by omega)).1 a1⟩
   ·have q:¬ i - 1<t:=by omega
    rw [if_neg h1,if_neg h1,if_neg h2,if_neg h2,if_neg q,if_neg q]
    by_cases h3:i - 1=t
    ·rw [if_pos h3,if_pos h3]
     have a1:=hi (i - 1) (by omega) (by omega)
     exact ⟨a1,(hcut (i - 1) (by omega) (by omega)).2 a1⟩
    ·rw [if_neg h3,if_neg h3]
     exact h.asc (i - 1) (by omega) (by omega)
 ·rw [eel i i0,epa i i0]
  split
  ·exact h.part i i0 (by omega) k k0 k1
  ·split
   ·exact hat k k0 k1
   ·exact h.part (i - 1) (by omega) (by omega) k k0 k1
theorem P206 (ps:List AV) (v a:Int) (h:ps.length≤1048576):q206 ps (AV.agg [AV.int .i64 v,AV.int .i64 a])=true∧v206_0 ps (AV.agg [AV.int .i64 v,AV.int .i64 a])=ro (findF (fun i=>decide (fI (ps.getD i.toNat .undef) 0 > v)) ps.length 0) (-1) id:=by
 have hr:runW (R206_0 ps (AV.agg [AV.int .i64 v,AV.int .i64 a]) ps.length) (((ps.length:Int) - 0).toNat+1) 0=some (ro (findF (fun i=>decide (fI (ps.getD i.toNat .undef) 0 > v)) ps.length 0) (.inl ()) fun i => .inr i):=by
  refine runW_find (fun i=>i) ps.length _ _ _ (fun i h0 hn=>?_) ?_ ps.length _ 0 (Int.le_refl 0) (by omega) (by omega)
  ·simp only [R206_0,F206_0,G206_0,h0,hn,decide_true,Bool.and_self,cond_true,v207_0]
   rw [wrap_in (a:=i+1) (by omega) (by omega)]
   rfl
  ·simp only [R206_0,F206_0,G206_0,Int.lt_irrefl,decide_false,cond_false]
 unfold q206 v206_0
 rw [hr]
 cases findF (fun i=>decide (fI (ps.getD i.toNat .undef) 0 > v)) ps.length 0 <;> exact ⟨rfl,rfl⟩
theorem P183 (vs rs ps:List AV) (v a:Int) (h1:vs.length≤1048576) (h2:rs.length≤1048576) (h3:ps.length≤1048576):q183 vs rs ps v a=true∧v183_0 vs rs ps v a=vs∧v183_1 vs rs ps v a=rs∧v183_2 vs rs ps v a=insP ps v a:=by
 obtain ⟨c0,c1,c2,c3⟩:=P133 vs rs ps h1 h2 h3
 obtain ⟨d0,d1⟩:=P206 ps v a h3
 have hp:=place_spec ps v
 unfold q183 v183_0 v183_1 v183_2 insP
 unfold place at hp ⊢
 rw [c0,c1,c2,c3,d0,d1]
 have hroom:decide ((ps.length+1)*16≤140737488355328)=true:=decide_eq_true (by omega)
 cases hf:findF (fun i=>decide (fI (ps.getD i.toNat .undef) 0 > v)) ps.length 0 with
 | none =>
  have e1:decide (ro (none:Option Int) (-1) id<0)=true:=rfl
  have e2:decide (0≤(ps.length:Int))=true:=decide_eq_true (by omega)
  have e3:decide ((ps.length:Int)≤(ps.length:Int))=true:=decide_eq_true (Int.le_refl _)
  rw [e1,e2,e3,hroom]
  exact ⟨rfl,rfl,rfl,rfl⟩
 | some j =>
  rw [hf] at hp
  simp only [ro,id] at hp
  have e1:decide (ro (some j) (-1) id<0)=false:=decide_eq_false (by simp only [ro,id];omega)
  have e2:decide (0≤ro (some j) (-1) id)=true:=decide_eq_true (by simp only [ro,id];omega)
  have e3:decide (ro (some j) (-1) id≤(ps.length:Int))=true:=decide_eq_true (by simp only [ro,id];omega)
  rw [e1,e2,e3,hroom]
  exact ⟨rfl,rfl,rfl,rfl⟩
theorem drop_snoc {xs:List AV} {t k:Int} (h0:0≤t) (ht:t≤k) (h1:k<xs.length):(xs.take (k+1).toNat).drop t.toNat=(xs.take k.toNat).drop t.toNat++[xs.getD k.toNat .undef]:=by
 rw [take_snoc (by omega) h1,List.drop_append_of_le_length (by rw [List.length_take];omega)]
theorem run103 (a1 a2 vs rs ps:List AV) (v a:Int) (h3:ps.length≤1048576) (hN:N2 ps):∃ r:Bool × List AV,runW (R103_0 a1 a2 vs rs ps v a) (((ps.length:Int) - 0).toNat+1) (false,0,[])=some r∧(r.2.length≤1048577∧(r.1=false→r.2++[mk2 v a]=insP ps v a∧r.2.length≤1048576)∧(r.1=true→r.2=insP ps v a)):=by
 obtain ⟨p0,p1,p2,p3⟩:=place_spec ps v
 have hins:insP ps v a=ps.take (place ps v).toNat++[mk2 v a]++ps.drop (place ps v).toNat:=rfl
 have hlen:=insP_len ps v a
 generalize hpl:place ps v=t at *
 obtain ⟨r,h1,h2⟩:=runW_ends (f:=R103_0 a1 a2 vs rs ps v a) (fun s:Bool × Int × List AV=>0≤s.2.1∧s.2.1≤ps.length∧((s.1=false∧s.2.1≤t∧s.2.2=ps.take s.2.1.toNat)∨(s.1=true∧t<s.2.1∧s.2.2=ps.take t.toNat++[mk2 v a]++(ps.take s.2.1.toNat).drop t.toNat)))
  (fun r=>(r.1=false∧t=ps.length∧r.2=ps)∨(r.1=true∧t<ps.length∧r.2=ps.take t.toNat++[mk2 v a]++ps.drop t.toNat)) (fun s=>((ps.length:Int) - s.2.1).toNat) (fun s hI=>by
   obtain ⟨b,k,acc⟩:=s
   obtain ⟨k0,k1,hI⟩:=hI
   simp only at k0 k1 hI
   by_cases hk:k<ps.length
   ·have d1:decide (k<(ps.length:Int))=true:=decide_eq_true hk
    have d2:decide (0≤k)=true:=decide_eq_true k0
    have wk:IntKind.i64.wrap (k+1)=k+1:=wrap_in (by omega) (by omega)
    have en:AV.agg [AV.int .i64 (fI (ps.getD k.toNat AV.undef) 0),AV.int .i64 (fI (ps.getD k.toNat AV.undef) 1)]=ps.getD k.toNat .undef:=hN.at k0 hk
    rcases hI with ⟨rfl,kt,rfl⟩|⟨rfl,kt,rfl⟩
    ·have hl:(ps.take k.toNat).length≤1048576:=by rw [List.length_take];omega
     by_cases hkt:k<t
     ·have d3:decide (fI (ps.getD k.toNat AV.undef) 0 > v)=false:=decide_eq_false (by have:=p2 k k0 hkt;unfold el at this;omega)
      refine .inl ⟨(false,k+1,ps.take (k+1).toNat),?_,⟨by simp only;omega,by simp only;omega,.inl ⟨rfl,by simp only;omega,rfl⟩⟩,by simp only;omega⟩
      simp only [R103_0,F103_0,G103_0,d1,d2,d3,wk,en,room2 _ _ hl,Bool.and_self,Bool.not_false,cond_true,cond_false]
      rw [take_snoc k0 hk]
     ·have hkt':k=t:=by omega
      have d3:decide (fI (ps.getD k.toNat AV.undef) 0 > v)=true:=decide_eq_true (by have:=p3 (by omega);rw [← hkt'] at this;exact this)
      have hl2:(ps.take k.toNat++[AV.agg [AV.int .i64 v,AV.int .i64 a]]).length≤1048576:=by rw [List.length_append,List.length_take,List.length_singleton];omega
      refine .inl ⟨(true,k+1,ps.take t.toNat++[mk2 v a]++(ps.take (k+1).toNat).drop t.toNat),?_,⟨by simp only;omega,by simp only;omega,.inr ⟨rfl,by simp only;omega,rfl⟩⟩,by simp only;omega⟩
      simp only [R103_0,F103_0,G103_0,d1,d2,d3,wk,en,room2 _ _ hl,room2 _ _ hl2,Bool.and_self,Bool.not_false,cond_true,cond_false]
      rw [drop_snoc p0 (by omega) hk,List.drop_eq_nil_of_le (show (ps.take k.toNat).length≤t.toNat by rw [List.length_take];omega),← hkt']
      rfl
    ·have hl:(ps.take t.toNat++[mk2 v a]++(ps.take k.toNat).drop t.toNat).length≤1048576:=by
      simp only [List.length_append,List.length_take,List.length_drop,List.length_singleton]
      omega
     refine .inl ⟨(true,k+1,ps.take t.toNat++[mk2 v a]++(ps.take (k+1).toNat).drop t.toNat),?_,⟨by simp only;omega,by simp only;omega,.inr ⟨rfl,by simp only;omega,rfl⟩⟩,by simp only;omega⟩
     simp only [R103_0,F103_0,G103_0,d1,d2,wk,en,room2 _ _ hl,Bool.and_self,Bool.not_true,cond_true,cond_false]
     rw [drop_snoc p0 (by omega) hk,List.append_assoc _ _ [ps.getD k.toNat AV.undef]]
   ·have d1:decide (k<(ps.length:Int))=false:=decide_eq_false hk
    rcases hI with ⟨rfl,kt,rfl⟩|⟨rfl,kt,rfl⟩
    ·refine .inr ⟨(false,ps.take k.toNat),by simp only [R103_0,F103_0,G103_0,d1,cond_false],.inl ⟨rfl,by omega,?_⟩⟩
     exact List.take_of_length_le (by omega)
    ·refine .inr ⟨(true,ps.take t.toNat++[mk2 v a]++(ps.take k.toNat).drop t.toNat),by simp only [R103_0,F103_0,G103_0,d1,cond_false],.inr ⟨rfl,by omega,?_⟩⟩
     rw [List.take_of_length_le (l:=ps) (i:=k.toNat) (by omega)]) (((ps.length:Int) - 0).toNat+1) (false,0,[]) ⟨by simp,by simp,.inl ⟨rfl,p0,rfl⟩⟩ (by simp)
 refine ⟨r,h1,?_⟩
 obtain ⟨b,acc⟩:=r
 rcases h2 with ⟨e1,e2,e3⟩|⟨e1,e2,e3⟩
 ·simp only at e1 e3
  subst e1 e3
  refine ⟨by simp only;omega,fun _=>⟨?_,h3⟩,fun h=>by cases h⟩
  rw [hins,e2]
  simp
 ·simp only at e1 e3
  subst e1 e3
  refine ⟨?_,⟨fun h=>(by cases h),fun _=>hins.symm⟩⟩
  simp only
  rw [← hins,hlen]
  omega
theorem P103 (vs rs ps:List AV) (v a:Int) (h1:vs.length≤1048576) (h2:rs.length≤1048576) (h3:ps.length≤1048575) (hN:N2 ps) :
  q103 vs rs ps v a=true∧v103_0 vs rs ps v a=vs∧v103_1 vs rs ps v a=rs∧v103_2 vs rs ps v a=(bif isC vs rs ps && isC vs rs (insP ps v a) then insP ps v a else ps)∧v103_3 vs rs ps v a=(isC vs rs ps && isC vs rs (insP ps v a)):=by
 obtain ⟨c0,c1,c2,c3⟩:=P138 vs rs ps h1 h2 (by omega)
 obtain ⟨r,g1,g2,g3,g4⟩:=run103 vs rs vs rs ps v a (by omega) hN
 have hl:=insP_len ps v a
 have k1:=P71 vs rs ps h1 h2 (by omega)
 have k2:=P71 vs rs (insP ps v a) h1 h2 (by omega)
 unfold q103 v103_0 v103_1 v103_2 v103_3
 rw [c0,c1,c2,c3,k1.1,k1.2,g1]
 obtain ⟨b,acc⟩:=r
 cases b with
 | false =>
  obtain ⟨e1,e2⟩:=g3 rfl
  simp only at e1 e2
  have e1':acc++[AV.agg [AV.int .i64 v,AV.int .i64 a]]=insP ps v a:=e1
  simp only [ro,Bool.not_false,cond_true,room2 _ _ e2,e1',k2.1,k2.2]
  cases isC vs rs ps <;> cases isC vs rs (insP ps v a) <;> (refine ⟨?_,?_,?_,?_,?_⟩ <;> first|rfl|trivial)
 | true =>
  have e1:=g4 rfl
  simp only at e1
  subst e1
  simp only [ro,Bool.not_true,cond_false,k2.1,k2.2]
  cases isC vs rs ps <;> cases isC vs rs (insP ps v a) <;> (refine ⟨?_,?_,?_,?_,?_⟩ <;> first|rfl|trivial)
end Go.Proofs.YtealoedecngaoaaGreatDoor

namespace Go.Proofs.YtealoedecngaoaaGreatDoor
open Go Go.Proofs.VE
set_option linter.unusedVariables false
set_option linter.unusedSimpArgs false
theorem col_few {vs rs ps:List AV} (h:Col vs rs ps):ps.length≤2001:=by
 have hl:=h.n64
 have hc:=(isC_iff vs rs ps (by omega)).2 h
 unfold isC at hc
 simp only [Bool.and_eq_true] at hc
 exact few vs ps hc.2.2.2.2
theorem appS_out {a b:Int} (a0:0≤a):∀ (ss vs:List AV),b≤vs.length→inS a b ss→∀ k:Int,0≤k→(k<a∨b≤k)→el (appS ss vs) k=el vs k
 | [],vs,_,_,k,_,_=>rfl
 | s :: ss,vs,hb,hs,k,k0,hk=>by
  obtain ⟨h1,h2,h3,h4⟩:=hs s List.mem_cons_self
  rw [appS_cons,appS_out a0 ss _ (by rw [sw_len];exact hb) (fun x hx=>hs x (List.mem_cons_of_mem _ hx)) k k0 hk,el_sw vs _ _ k (by omega) (by omega) (by omega) (by omega) k0,if_neg (by omega),if_neg (by omega)]
theorem Pc.cut {vs rs ps:List AV} (h:Col vs rs ps) {v a b t:Int} (hp:Pc vs.length ps v a b t) {p:Int} (p0:0≤p) (p1:p<ps.length):(el ps p<v→pat ps p≤a)∧(v<el ps p→b≤pat ps p):=by
 obtain ⟨t0,t1,lo,hi,ea,eb⟩:=hp
 constructor
 ·intro hl
  have hpt:p<t:=by
   rcases Int.lt_or_le p t with h1|h1
   ·exact h1
   ·have:=hi p h1 p1;omega
  rw [ea,if_neg (by omega)]
  by_cases e:p=t - 1
  ·rw [e];exact Int.le_refl _
  ·exact (h.lt (i:=p) (j:=t - 1) p0 (by omega) (by omega)).2
 ·intro hl
  have hpt:t≤p:=by
   rcases Int.lt_or_le p t with h1|h1
   ·have:=lo p p0 h1;omega
   ·exact h1
  rw [eb,if_neg (by omega)]
  by_cases e:p=t
  ·rw [e];exact Int.le_refl _
  ·exact (h.lt (i:=t) (j:=p) t0 (by omega) p1).2
structure Cr (vs rs ps:List AV) (v a b at_:Int) (ss:List AV):Prop where
 pc:q101 vs rs ps v=true∧v101_0 vs rs ps v=a∧v101_1 vs rs ps v=b
 pc':q144 vs rs ps v=true∧v144_0 vs rs ps v=a∧v144_1 vs rs ps v=b
 c:q111 vs rs ps v=true∧v111_0 vs rs ps v=appS ss vs∧v111_1 vs rs ps v=appS ss rs∧v111_2 vs rs ps v=insP ps v at_∧v111_3 vs rs ps v=ss∧v111_4 vs rs ps v=true
 c':q168 vs rs ps v=true∧v168_0 vs rs ps v=appS ss vs∧v168_1 vs rs ps v=appS ss rs∧v168_2 vs rs ps v=insP ps v at_∧v168_3 vs rs ps v=ss
 ok:Col (appS ss vs) (appS ss rs) (insP ps v at_)
 n2:N2 (insP ps v at_)
 pi:Piece vs ps v a b
 par:Parted vs v a b ss at_
 s64:ss.length≤64
 sw:v169_0 vs a b v=ss∧v169_1 vs a b v=at_
theorem bound_of {v:Int} (hv : -1000≤v∧v≤1000):v72_0 v (-1000) 1000=true:=by
 rw [v72,decide_eq_true hv.1,decide_eq_true hv.2]
 rfl
theorem P101 {vs rs ps:List AV} (h:Col vs rs ps) {v a b t:Int} (hv : -1000≤v∧v≤1000) (hp:Pc vs.length ps v a b t):q101 vs rs ps v=true∧v101_0 vs rs ps v=a∧v101_1 vs rs ps v=b:=by
 have hl:=h.n64
 have hlen:=h.len
 have hf:=col_few h
 have hc:=(isC_iff vs rs ps (by omega)).2 h
 obtain ⟨g1,g2⟩:=P71 vs rs ps (by omega) (by omega) (by omega)
 obtain ⟨k1,k2,k3⟩:=P164 hp (by omega)
 unfold q101 v101_0 v101_1
 rw [g1,g2,hc,bound_of hv,k1,k2,k3]
 exact ⟨rfl,rfl,rfl⟩
theorem crack_new {vs rs ps:List AV} (h:Col vs rs ps) (hN:N2 ps) {v:Int} (hv : -1000≤v∧v≤1000) (hf:(findP ps v).isSome=false):∃ (a b at_:Int) (ss:List AV),Cr vs rs ps v a b at_ ss:=by
 have hl:=h.n64
 have hlen:=h.len
 have hfew:=col_few h
 have hp:=pc_of h hf
 have hpi:=piece_of h hp
 generalize (if place ps v=0 then 0 else pat ps (place ps v - 1))=a at hp hpi
 generalize (if place ps v=ps.length then (vs.length:Int) else pat ps (place ps v))=b at hp hpi
 have a0:=hpi.a0
 have ab:=hpi.ab
 have b1:=hpi.b1
 have k97:=P101 h hv hp
 have k146:=P144 (rs:=rs) hp (by omega)
 obtain ⟨d1,d2,d3,d4,par⟩:=P169 vs v a b (by omega) a0 ab b1
 generalize hss:v169_0 vs a b v=ss at d3 par
 generalize hat:v169_1 vs a b v=at_ at d4 par
 have i0:=par.i0
 have i1:=par.i1
 have hs64:ss.length≤64:=by have:=par.len;omega
 have hin:inS 0 vs.length ss:=fun s hs=>by obtain ⟨x1,x2,x3,x4⟩:=par.ins s hs;exact ⟨by omega,by omega,by omega,by omega⟩
 have hcol1:=Col.swaps (ps:=ps) a0 hpi.cut ss vs rs h b1 par.ins
 have la:=appS_len ss vs
 have lr:=appS_len ss rs
 have hout:=appS_out a0 ss vs b1 par.ins
 have hcol2:Col (appS ss vs) (appS ss rs) (insP ps v at_):=by
  refine hcol1.pivot (findP_none hf) hv ⟨by omega,by omega⟩ (fun k k0 k1=>?_) (fun p p0 p1=>?_)
  ·rw [la] at k1
   constructor
   ·intro hk
    rcases Int.lt_or_le k at_ with q|q
    ·exact q
    ·exfalso
     rcases Int.lt_or_le k b with q2|q2
     ·have:=par.hi k q q2;omega
     ·have:=hpi.hi k q2 k1
      rw [← hout k k0 (.inr q2)] at this
      omega
   ·intro hk
    rcases Int.lt_or_le k a with q|q
    ·rw [hout k k0 (.inl q)];exact hpi.lo k k0 q
    ·exact par.lo k q hk
  ·obtain ⟨x1,x2⟩:=Pc.cut h hp p0 p1
   exact ⟨fun q=>by have:=x1 q;omega,fun q=>by have:=x2 q;omega⟩
 have hc0:=(isC_iff vs rs ps (by omega)).2 h
 have hc1:=(isC_iff (appS ss vs) (appS ss rs) ps (by omega)).2 hcol1
 have hc2:=(isC_iff (appS ss vs) (appS ss rs) (insP ps v at_) (by omega)).2 hcol2
 obtain ⟨e1,e2,e3,e4,e5⟩:=P102 vs rs ps ss (by omega) (by omega) hlen (by omega) hin
 obtain ⟨f1,f2,f3,f4,f5⟩:=P160 vs rs ps ss (by omega) (by omega) hlen (by omega) hin
 obtain ⟨g1,g2,g3,g4,g5⟩:=P103 (appS ss vs) (appS ss rs) ps v at_ (by omega) (by omega) (by omega) hN
 obtain ⟨l1,l2,l3,l4⟩:=P183 (appS ss vs) (appS ss rs) ps v at_ (by omega) (by omega) (by omega)
 rw [hc1,hc2] at g4
 obtain ⟨m1,m2⟩:=P71 vs rs ps (by omega) (by omega) (by omega)
 obtain ⟨n1,n2,n3⟩:=P21 vs rs ps v (by omega)
 obtain ⟨o1,o2⟩:=P143 vs rs ps v (by omega)
 obtain ⟨k1,k2,k3⟩:=k97
 obtain ⟨k1',k2',k3'⟩:=k146
 refine ⟨a,b,at_,ss,⟨k1,k2,k3⟩,⟨k1',k2',k3'⟩,?_,?_,hcol2,insP_N2 hN v at_,hpi,par,hs64,hss,hat⟩
 ·unfold q111 v111_0 v111_1 v111_2 v111_3 v111_4
  rw [m1,m2,hc0,bound_of hv,n1,n3,hf,k1,k2,k3,d1,hss,hat,e1,e2,e3,e4,g1,g2,g3,g4]
  exact ⟨rfl,rfl,rfl,rfl,rfl,rfl⟩
 ·unfold q168 v168_0 v168_1 v168_2 v168_3
  rw [o1,o2,hf,k1',k2',k3',d2,d3,d4,f1,f2,f3,f4,l1,l2,l3,l4]
  exact ⟨rfl,rfl,rfl,rfl,rfl⟩
theorem crack_old {vs rs ps:List AV} (h:Col vs rs ps) {v:Int} (hv : -1000≤v∧v≤1000) (hf:(findP ps v).isSome=true) :
  (q111 vs rs ps v=true∧v111_0 vs rs ps v=vs∧v111_1 vs rs ps v=rs∧v111_2 vs rs ps v=ps∧v111_3 vs rs ps v=[]∧v111_4 vs rs ps v=true) ∧
  (q168 vs rs ps v=true∧v168_0 vs rs ps v=vs∧v168_1 vs rs ps v=rs∧v168_2 vs rs ps v=ps∧v168_3 vs rs ps v=[]):=by
 have hl:=h.n64
 have hlen:=h.len
 have hfew:=col_few h
 have hc0:=(isC_iff vs rs ps (by omega)).2 h
 obtain ⟨m1,m2⟩:=P71 vs rs ps (by omega) (by omega) (by omega)
 obtain ⟨n1,n2,n3⟩:=P21 vs rs ps v (by omega)
 obtain ⟨o1,o2⟩:=P143 vs rs ps v (by omega)
 obtain ⟨c0,c1,c2,c3⟩:=P138 vs rs ps (by omega) (by omega) (by omega)
 obtain ⟨d0,d1,d2,d3⟩:=P133 vs rs ps (by omega) (by omega) (by omega)
 constructor
 ·unfold q111 v111_0 v111_1 v111_2 v111_3 v111_4
  rw [m1,m2,hc0,bound_of hv,n1,n3,hf,c0,c1,c2,c3]
  exact ⟨rfl,rfl,rfl,rfl,rfl,rfl⟩
 ·unfold q168 v168_0 v168_1 v168_2 v168_3
  rw [o1,o2,hf,d0,d1,d2,d3]
  exact ⟨rfl,rfl,rfl,rfl,rfl⟩
end Go.Proofs.YtealoedecngaoaaGreatDoor

namespace Go.Proofs.YtealoedecngaoaaGreatDoor
open Go Go.Proofs.VE
set_option linter.unusedVariables false
set_option linter.unusedSimpArgs false
def dI (i:Int):AV := .int .i64 i
def E99 (xs vs:List AV) (i:Int):List AV→Int ⊕ (Int × List AV)
 | [] => .inl i
 | y :: ys => .inr (i,y :: ys)
def K99 (xs vs:List AV):List AV→Unit ⊕ List AV
 | [] => .inl ()
 | y :: ys => .inr (y :: ys)
theorem run99 (xs vs:List AV) (h:xs.length≤1048576):runW (R99_0 xs vs) (((xs.length:Int) - 0).toNat+1) (E99 xs vs 0 [])=some (K99 xs vs (appF allT dI xs.length 0 [])):=by
 refine runW_appK (E99 xs vs) (K99 xs vs) xs.length allT dI (fun i ys h0 hn hl=>?_) (fun ys=>?_)
 ·have d1:decide (i<(xs.length:Int))=true:=decide_eq_true hn
  have d2:decide (0≤i)=true:=decide_eq_true h0
  cases ys with
  | nil =>
   have c1:decide ((([dI i]:List AV).length)*8≤140737488355328)=true:=by simp
   have c2:decide ((([dI i]:List AV).length)≤140737488355328)=true:=by simp
   simp only [dI] at c1 c2
   simp only [E99,R99_0,sumE,F99_0_s0,G99_0_s0,d1,d2,c1,c2,Bool.and_self,cond_true,allT,List.nil_append]
   rw [wrap_in (a:=i+1) (by omega) (by omega)]
   try rfl
  | cons y ys =>
   have hl':(y :: ys).length≤1048576:=by omega
   have c1:decide (((y :: ys).length+[dI i].length)*8≤140737488355328)=true:=decide_eq_true (by simp only [List.length_singleton];omega)
   have c2:decide ((y :: ys).length+[dI i].length≤140737488355328)=true:=decide_eq_true (by simp only [List.length_singleton];omega)
   simp only [dI] at c1 c2
   simp only [E99,R99_0,sumE,F99_0_s1,G99_0_s1,d1,d2,c1,c2,Bool.and_self,cond_true,allT,List.cons_append]
   rw [wrap_in (a:=i+1) (by omega) (by omega)]
   try rfl
 ·cases ys <;> simp only [E99,K99,R99_0,sumE,F99_0_s0,G99_0_s0,F99_0_s1,G99_0_s1,Int.lt_irrefl,decide_false,cond_false]
def E96 (xs vs:List AV) (i:Int):List AV→Int ⊕ (Int × List AV)
 | [] => .inl i
 | y :: ys => .inr (i,y :: ys)
def K96 (xs vs:List AV):List AV→Unit ⊕ List AV
 | [] => .inl ()
 | y :: ys => .inr (y :: ys)
theorem run96 (xs vs:List AV) (h:xs.length≤1048576):runW (R96_0 xs.length vs) (((xs.length:Int) - 0).toNat+1) (E96 xs vs 0 [])=some (K96 xs vs (appF allT dI xs.length 0 [])):=by
 refine runW_appK (E96 xs vs) (K96 xs vs) xs.length allT dI (fun i ys h0 hn hl=>?_) (fun ys=>?_)
 ·have d1:decide (i<(xs.length:Int))=true:=decide_eq_true hn
  have d2:decide (0≤i)=true:=decide_eq_true h0
  cases ys with
  | nil =>
   have c1:decide ((([dI i]:List AV).length)*8≤140737488355328)=true:=by simp
   have c2:decide ((([dI i]:List AV).length)≤140737488355328)=true:=by simp
   simp only [dI] at c1 c2
   simp only [E96,R96_0,sumE,F96_0_s0,G96_0_s0,d1,d2,c1,c2,Bool.and_self,cond_true,allT,List.nil_append]
   rw [wrap_in (a:=i+1) (by omega) (by omega)]
   try rfl
  | cons y ys =>
   have hl':(y :: ys).length≤1048576:=by omega
   have c1:decide (((y :: ys).length+[dI i].length)*8≤140737488355328)=true:=decide_eq_true (by simp only [List.length_singleton];omega)
   have c2:decide ((y :: ys).length+[dI i].length≤140737488355328)=true:=decide_eq_true (by simp only [List.length_singleton];omega)
   simp only [dI] at c1 c2
   simp only [E96,R96_0,sumE,F96_0_s1,G96_0_s1,d1,d2,c1,c2,Bool.and_self,cond_true,allT,List.cons_append]
   rw [wrap_in (a:=i+1) (by omega) (by omega)]
   try rfl
 ·cases ys <;> simp only [E96,K96,R96_0,sumE,F96_0_s0,G96_0_s0,F96_0_s1,G96_0_s1,Int.lt_irrefl,decide_false,cond_false]
theorem appF_all (c:Int→AV):∀ (m:Nat) (i:Int) (ys:List AV),appF allT c m i ys=ys++(List.range m).map fun j:Nat=>c (i+j)
 | 0,i,ys=>by simp [appF,foldF]
 | m+1,i,ys=>by
  have e:appF allT c (m+1) i ys=appF allT c m (i+1) (ys++[c i]):=rfl
  rw [e,appF_all c m,List.range_succ_eq_map,List.map_cons,List.map_map,List.append_assoc]
  congr 1
  simp only [Int.natCast_zero,Int.add_zero,List.singleton_append,List.cons.injEq,true_and]
  refine List.map_congr_left fun j _=>?_
  simp only [Function.comp]
  congr 1
  omega
def rows (xs:List AV):List AV:=appF allT dI xs.length 0 []
theorem rows_len (xs:List AV):(rows xs).length=xs.length:=by
 unfold rows
 rw [appF_all]
 simp
theorem rows_el (xs:List AV) (k:Int) (h0:0≤k) (h1:k<xs.length):el (rows xs) k=k:=by
 unfold el rows
 rw [appF_all,List.nil_append,List.getD_eq_getElem?_getD,List.getElem?_map,List.getElem?_range (by omega)]
 simp only [Option.map_some,Option.getD_some]
 show (0:Int)+(k.toNat:Nat)=k
 omega
theorem P99 (xs:List AV) (h:xs.length≤1048576):q99 xs=true∧v99_0 xs=(bif v100_0 xs then xs else [])∧v99_1 xs=(bif v100_0 xs then rows xs else [])∧v99_2 xs=[]:=by
 unfold q99 v99_0 v99_1 v99_2
 have hr:=run99 xs ([]++xs) h
 have c1:decide ((([]:List AV).length+xs.length)*8≤140737488355328)=true:=decide_eq_true (by simp;omega)
 have c2:decide (([]:List AV).length+xs.length≤140737488355328)=true:=decide_eq_true (by simp;omega)
 rw [(P100 xs h).1,show (.inl 0:Int ⊕ (Int × List AV))=E99 xs ([]++xs) 0 [] from rfl,hr,c1,c2]
 change _∧_∧_=(bif v100_0 xs then (appF allT dI xs.length 0 []) else [])∧_
 generalize appF allT dI xs.length 0 []=ys
 cases v100_0 xs
 ·exact ⟨rfl,rfl,rfl,rfl⟩
 ·cases ys <;> exact ⟨rfl,rfl,rfl,rfl⟩
theorem P96 (xs:List AV) (h:xs.length≤1048576):q96 xs=true∧v96_0 xs=(bif v100_0 xs then xs else [])∧v96_1 xs=(bif v100_0 xs then rows xs else [])∧v96_2 xs=[]:=by
 unfold q96 v96_0 v96_1 v96_2
 have hr:=run96 xs xs h
 rw [(P95 xs h).1,(P95 xs h).2,(P135 xs h).1,(P135 xs h).2,show (.inl 0:Int ⊕ (Int × List AV))=E96 xs xs 0 [] from rfl,hr]
 change _∧_∧_=(bif v100_0 xs then (appF allT dI xs.length 0 []) else [])∧_
 generalize appF allT dI xs.length 0 []=ys
 cases v100_0 xs
 ·exact ⟨rfl,rfl,rfl,rfl⟩
 ·cases ys <;> exact ⟨rfl,rfl,rfl,rfl⟩
theorem Col_new (xs:List AV) (hl:xs.length≤1048576) (h:v100_0 xs=true):Col xs (rows xs) []:=by
 rw [(P100 xs hl).2,Bool.and_eq_true,findF_isNone,decide_eq_true_eq] at h
 obtain ⟨h1,h2⟩:=h
 have hr:=rows_len xs
 refine ⟨h2,fun k k0 k1=>?_,by omega,fun k k0 k1=>?_,fun j k j0 jk k1=>?_,fun i i0 i1=>?_,fun i i0 i1=>?_,fun i i0 i1=>?_,fun i i0 i1=>?_⟩
 ·have:=h1 k k0 (by omega)
  simp only [v72,Bool.not_eq_false',Bool.and_eq_true,decide_eq_true_eq] at this
  exact this
 ·rw [rows_el xs k k0 (by omega)]
  omega
 ·rw [rows_el xs k (by omega) (by omega),rows_el xs j j0 (by omega)]
  omega
 all_goals (exfalso;simp only [List.length_nil] at i1;omega)
theorem N2_nil:N2 []:=fun x hx=>by simp at hx
end Go.Proofs.YtealoedecngaoaaGreatDoor

namespace Go.Proofs.YtealoedecngaoaaGreatDoor
open Go Go.Proofs.VE
set_option linter.unusedVariables false
set_option linter.unusedSimpArgs false
def ints (xs:List AV):List Int:=xs.map fun x=>fI x 0
theorem ints_len (xs:List AV):(ints xs).length=xs.length:=List.length_map _
theorem ints_el (xs:List AV) (k:Int) (h0:0≤k) (h1:k<xs.length):(ints xs)[k.toNat]?=some (el xs k):=by
 unfold ints el
 rw [List.getElem?_map,List.getD_eq_getElem?_getD,List.getElem?_eq_getElem (by omega)]
 rfl
theorem ints_get (xs:List AV) (k:Nat) (h:k<(ints xs).length):(ints xs)[k]=el xs k:=by
 rw [ints_len] at h
 have:=ints_el xs k (by omega) (by omega)
 rw [show ((k:Int)).toNat=k by omega,List.getElem?_eq_getElem (by rw [ints_len];exact h)] at this
 exact Option.some.inj this
def srt (xs:List AV):List Int:=(ints xs).mergeSort fun x y=>decide (x≤y)
def asc (xs:List AV) (n:Int):Prop:=∀ a b:Int,0≤a→a<b→b<n→el xs a≤el xs b
theorem srt_pair (xs:List AV):(srt xs).Pairwise fun x y=>decide (x≤y)=true :=
 List.pairwise_mergeSort (le:=fun x y=>decide (x≤y)) (fun a b c h1 h2=>by simp only [decide_eq_true_eq] at *;omega) (fun a b=>by simp only [Bool.or_eq_true,decide_eq_true_eq];omega) _
theorem srt_of {xs ys:List AV} (hp:(ints ys).Perm (ints xs)) (ha:asc ys ys.length):ints ys=srt xs:=by
 refine List.Perm.eq_of_pairwise (le:=fun x y=>decide (x≤y)=true) (fun a b _ _ h1 h2=>by simp only [decide_eq_true_eq] at h1 h2;omega) ?_ (srt_pair xs) (hp.trans (List.mergeSort_perm _ _).symm)
 rw [List.pairwise_iff_getElem]
 intro i j hi hj hij
 rw [ints_len] at hi hj
 rw [ints_get ys i (by rw [ints_len];exact hi),ints_get ys j (by rw [ints_len];exact hj),decide_eq_true_eq]
 exact ha i j (by omega) (by omega) (by omega)
theorem ints_sw (i j:Int) (xs:List AV) (i0:0≤i) (i1:i<xs.length) (j0:0≤j) (j1:j<xs.length):(ints (v149_0 i j xs)).Perm (ints xs):=by
 have e:ints (v149_0 i j xs)=((ints xs).set i.toNat ((ints xs)[j.toNat]'(by rw [ints_len];omega))).set j.toNat ((ints xs)[i.toNat]'(by rw [ints_len];omega)):=by
  rw [ints_get xs j.toNat,ints_get xs i.toNat,show ((i.toNat:Nat):Int)=i by omega,show ((j.toNat:Nat):Int)=j by omega]
  unfold v149_0 ints
  rw [List.map_set,List.map_set]
  rfl
 rw [e]
 exact List.set_set_perm _ _
theorem run77i (t i:Int) (h:List AV) (hn:h.length≤1048576) (i0:0≤i) (i1:i<h.length) (ha:asc h i) :
  ∃ r,runW (R77_2 t) ((i - 0).toNat+1) (i,h)=some r∧r.length=h.length∧(ints r).Perm (ints h)∧asc r (i+1):=by
 refine runW_ends (f:=R77_2 t) (fun s:Int × List AV=>0≤s.1∧s.1≤i∧s.2.length=h.length∧(ints s.2).Perm (ints h)∧∀ a b:Int,0≤a→a<b→b≤i→b ≠ s.1→el s.2 a≤el s.2 b) (fun r=>r.length=h.length∧(ints r).Perm (ints h)∧asc r (i+1)) (fun s=>s.1.toNat) (fun s hI=>?_) _ (i,h)
  ⟨i0,Int.le_refl _,rfl,List.Perm.refl _,fun a b a0 ab bi bn=>ha a b a0 ab (by simp only at bn;omega)⟩ (by simp only;omega)
 obtain ⟨k,x⟩:=s
 obtain ⟨k0,k1,hl,hp,hI⟩:=hI
 simp only at k0 k1 hl hp hI
 by_cases hk:k > 0
 ·have d1:decide (k > 0)=true:=decide_eq_true hk
  have wk:IntKind.i64.wrap (k - 1)=k - 1:=wrap_in (by omega) (by omega)
  have d2:decide (0≤k - 1)=true:=decide_eq_true (by omega)
  have d3:decide (k - 1<(x.length:Int))=true:=decide_eq_true (by omega)
  have d4:decide (0≤k)=true:=decide_eq_true k0
  have d5:decide (k<(x.length:Int))=true:=decide_eq_true (by omega)
  have f1:fI (x.getD (k - 1).toNat AV.undef) 0=el x (k - 1):=rfl
  have f2:fI (x.getD k.toNat AV.undef) 0=el x k:=rfl
  by_cases hs:el x (k - 1) > el x k
  ·have d6:decide (el x (k - 1) > el x k)=true:=decide_eq_true hs
   have q1:=q149_in (k - 1) k x (by omega) (by omega) k0 (by omega)
   have ev:∀ c:Int,0≤c→el (v149_0 (k - 1) k x) c=if c=k then el x (k - 1) else if c=k - 1 then el x k else el x c:=fun c c0=>el_sw x (k - 1) k c (by omega) (by omega) k0 (by omega) c0
   refine .inl ⟨(k - 1,v149_0 (k - 1) k x),?_,⟨by simp only;omega,by simp only;omega,by simp only;rw [sw_len];exact hl,(ints_sw (k - 1) k x (by omega) (by omega) k0 (by omega)).trans hp,fun a b a0 ab bi bn=>?_⟩,by simp only;omega⟩
   ·simp only [R77_2,F77_2,G77_2,d1,d2,d3,d4,d5,f1,f2,d6,q1,wk,Bool.and_self,cond_true]
   ·simp only at bn ⊢
    rw [ev a a0,ev b (by omega)]
    by_cases e1:b=k
    ·rw [if_pos e1]
     by_cases e2:a=k - 1
     ·rw [if_neg (by omega),if_pos e2];omega
     ·rw [if_neg (by omega),if_neg e2]
      exact hI a (k - 1) a0 (by omega) (by omega) (by omega)
    ·rw [if_neg e1,if_neg bn]
     by_cases e2:a=k
     ·rw [if_pos e2]
      exact hI (k - 1) b (by omega) (by omega) bi e1
     ·rw [if_neg e2]
      by_cases e3:a=k - 1
      ·rw [if_pos e3]
       exact hI k b k0 (by omega) bi e1
      ·rw [if_neg e3]
       exact hI a b a0 ab bi e1
  ·have d6:decide (el x (k - 1) > el x k)=false:=decide_eq_false hs
   refine .inr ⟨x,by simp only [R77_2,F77_2,G77_2,d1,d2,d3,d4,d5,f1,f2,d6,wk,Bool.and_self,cond_true,cond_false],hl,hp,fun a b a0 ab bi=>?_⟩
   by_cases e1:b=k
   ·subst e1
    by_cases e2:a=b - 1
    ·subst e2;omega
    ·have:=hI a (b - 1) a0 (by omega) (by omega) (by omega)
     omega
   ·exact hI a b a0 ab (by omega) e1
 ·have d1:decide (k > 0)=false:=decide_eq_false hk
  exact .inr ⟨x,by simp only [R77_2,F77_2,G77_2,d1,cond_false],hl,hp,fun a b a0 ab bi=>hI a b a0 ab (by omega) (by omega)⟩
theorem P77 (xs:List AV) (h:xs.length≤1048576):q77 xs=true∧(v77_0 xs).length=xs.length∧ints (v77_0 xs)=srt xs:=by
 obtain ⟨r,h1,h2,h3,h4⟩:=runW_ends (f:=R77_0) (fun s:Int × List AV=>1≤s.1∧(s.1≤xs.length∨s.1=1)∧s.2.length=xs.length∧(ints s.2).Perm (ints xs)∧asc s.2 s.1) (fun r=>r.length=xs.length∧(ints r).Perm (ints xs)∧asc r xs.length) (fun s=>((xs.length:Int) - s.1).toNat) (fun s hI=>by
   obtain ⟨i,x⟩:=s
   obtain ⟨i0,i1,hl,hp,ha⟩:=hI
   simp only at i0 i1 hl hp ha
   by_cases hi:i<xs.length
   ·have d1:decide (i<(x.length:Int))=true:=decide_eq_true (by omega)
    have wi:IntKind.i64.wrap (i+1)=i+1:=wrap_in (by omega) (by omega)
    obtain ⟨r,k1,k2,k3,k4⟩:=run77i i i x (by omega) (by omega) (by omega) ha
    refine .inl ⟨(i+1,r),?_,⟨by simp only;omega,by simp only;omega,by simp only;omega,k3.trans hp,k4⟩,by simp only;omega⟩
    simp only [R77_0,F77_0,G77_0,d1,k1,ro,wi,cond_true]
   ·have d1:decide (i<(x.length:Int))=false:=decide_eq_false (by omega)
    exact .inr ⟨x,by simp only [R77_0,F77_0,G77_0,d1,cond_false],hl,hp,fun a b a0 ab hb=>ha a b a0 ab (by omega)⟩) ((((xs.length:Int) - 1).toNat+1)) (1,xs) ⟨Int.le_refl _,.inr rfl,rfl,List.Perm.refl _,fun a b a0 ab hb=>by simp only at hb;omega⟩ (by simp only;omega)
 unfold q77 v77_0
 simp only [List.length_nil,Nat.zero_add,List.nil_append]
 rw [h1,decide_eq_true (by omega:xs.length*8≤140737488355328),decide_eq_true (by omega:xs.length≤140737488355328)]
 exact ⟨rfl,h2,srt_of h3 (by simp only [ro];rw [h2];exact h4)⟩
theorem P244 (xs:List AV) (h:xs.length≤1048576):q244 xs=true∧(v244_0 xs).length=xs.length∧ints (v244_0 xs)=srt xs:=by
 unfold q244 v244_0
 rw [(P135 xs h).1,(P135 xs h).2]
 unfold q259 v259_0
 refine ⟨by rw [decide_eq_true (by omega:xs.length*8≤140737488355328)];rfl,sortL_len xs,?_⟩
 unfold ints sortL srt ints
 rw [List.map_map]
 exact (List.map_congr_left (g:=id) fun x _=>rfl).trans (List.map_id _)
theorem el_ints {xs ys:List AV} (h:ints xs=ints ys) (k:Int) (h0:0≤k) (h1:k<xs.length):el xs k=el ys k:=by
 have hl:xs.length=ys.length:=by rw [← ints_len xs,← ints_len ys,h]
 have a:=ints_el xs k h0 h1
 have b:=ints_el ys k h0 (by omega)
 rw [h,b] at a
 exact (Option.some.inj a).symm
theorem srt_in {xs ys:List AV} (h:ints ys=srt xs):(∀ k:Int,0≤k→k<ys.length→∃ j:Int,0≤j∧j<xs.length∧el xs j=el ys k)∧∀ j:Int,0≤j→j<xs.length→∃ k:Int,0≤k∧k<ys.length∧el ys k=el xs j:=by
 have hp:(ints ys).Perm (ints xs):=by rw [h];exact List.mergeSort_perm _ _
 constructor
 ·intro k k0 k1
  have:el ys k ∈ ints ys:=List.mem_of_getElem? (ints_el ys k k0 k1)
  obtain ⟨j,hj,e⟩:=List.getElem_of_mem (hp.mem_iff.1 this)
  rw [ints_get xs j hj] at e
  rw [ints_len] at hj
  exact ⟨j,by omega,by omega,e⟩
 ·intro j j0 j1
  have:el xs j ∈ ints xs:=List.mem_of_getElem? (ints_el xs j j0 j1)
  obtain ⟨k,hk,e⟩:=List.getElem_of_mem (hp.mem_iff.2 this)
  rw [ints_get ys k hk] at e
  rw [ints_len] at hk
  exact ⟨k,by omega,by omega,e⟩
end Go.Proofs.YtealoedecngaoaaGreatDoor

namespace Go.Proofs.YtealoedecngaoaaGreatDoor
open Go Go.Proofs.VE
set_option linter.unusedVariables false
set_option linter.unusedSimpArgs false
theorem q164_ok (n:Int) (ps:List AV) (v:Int) (h:ps.length≤1048576):q164 n ps v=true:=by
 obtain ⟨r,h1,_⟩:=runW_ends (f:=R164_0 ps v n) (fun s:Int × Int=>0≤s.2∧s.2≤ps.length) (fun _=>True) (fun s=>((ps.length:Int) - s.2).toNat) (fun s hI=>by
  obtain ⟨t,k⟩:=s
  obtain ⟨k0,k1⟩:=hI
  simp only at k0 k1
  by_cases hk:k<ps.length
  ·have d1:decide (k<(ps.length:Int))=true:=decide_eq_true hk
   have d2:decide (0≤k)=true:=decide_eq_true k0
   have wk:IntKind.i64.wrap (k+1)=k+1:=wrap_in (by omega) (by omega)
   cases h3:decide (fI (ps.getD k.toNat .undef) 0≤v)
   ·exact .inl ⟨(t,k+1),by simp only [R164_0,F164_0,G164_0,d1,d2,wk,h3,Bool.and_self,cond_true,cond_false],⟨by simp only;omega,by simp only;omega⟩,by simp only;omega⟩
   ·exact .inl ⟨(fI (ps.getD k.toNat .undef) 1,k+1),by simp only [R164_0,F164_0,G164_0,d1,d2,wk,h3,Bool.and_self,cond_true],⟨by simp only;omega,by simp only;omega⟩,by simp only;omega⟩
  ·have d1:decide (k<(ps.length:Int))=false:=decide_eq_false hk
   exact .inr ⟨t,by simp only [R164_0,F164_0,G164_0,d1,cond_false],trivial⟩) (((ps.length:Int) - 0:Int).toNat+1) (0,0) ⟨Int.le_refl _,by simp⟩ (by simp only;omega)
 obtain ⟨r',h2,_⟩:=runW_ends (f:=R164_2 ps v r) (fun s:Int × Int => -1≤s.2∧s.2<ps.length) (fun _=>True) (fun s=>(s.2+1).toNat) (fun s hI=>by
  obtain ⟨t,k⟩:=s
  obtain ⟨k0,k1⟩:=hI
  simp only at k0 k1
  by_cases hk:k ≥ 0
  ·have d1:decide (k ≥ 0)=true:=decide_eq_true hk
   have d2:decide (0≤k)=true:=decide_eq_true hk
   have d4:decide (k<(ps.length:Int))=true:=decide_eq_true k1
   have wk:IntKind.i64.wrap (k - 1)=k - 1:=wrap_in (by omega) (by omega)
   cases h3:decide (fI (ps.getD k.toNat .undef) 0 ≥ v)
   ·exact .inl ⟨(t,k - 1),by simp only [R164_2,F164_2,G164_2,d1,d2,d4,wk,h3,Bool.and_self,cond_true,cond_false],⟨by simp only;omega,by simp only;omega⟩,by simp only;omega⟩
   ·exact .inl ⟨(fI (ps.getD k.toNat .undef) 1,k - 1),by simp only [R164_2,F164_2,G164_2,d1,d2,d4,wk,h3,Bool.and_self,cond_true],⟨by simp only;omega,by simp only;omega⟩,by simp only;omega⟩
  ·have d1:decide (k ≥ 0)=false:=decide_eq_false hk
   exact .inr ⟨t,by simp only [R164_2,F164_2,G164_2,d1,cond_false],trivial⟩) ((((ps.length:Int) - 1) - 0+1:Int).toNat+1) (n,(ps.length:Int) - 1) ⟨by simp only;omega,by simp only;omega⟩ (by simp only;omega)
 unfold q164
 rw [h1]
 simp only [ro]
 rw [wrap_in (a:=(ps.length:Int) - 1) (by omega) (by omega),h2]
theorem q101_ok {vs rs ps:List AV} (h:Col vs rs ps) (v:Int):q101 vs rs ps v=true:=by
 have hl:=h.n64
 have hlen:=h.len
 have hf:=col_few h
 obtain ⟨g1,g2⟩:=P71 vs rs ps (by omega) (by omega) (by omega)
 unfold q101
 rw [g1,g2,q164_ok _ _ _ (by omega)]
 cases isC vs rs ps <;> cases v72_0 v (-1000) 1000 <;> rfl
def tot (L:List AV):Int:=(L.map fun x=>fI x 4).sum
theorem tot_snoc (L:List AV) (x:AV):tot (L++[x])=tot L+fI x 4:=by
 unfold tot
 rw [List.map_append,List.sum_append]
 simp
structure One (vs rs ps:List AV) (v:Int) (vs' rs' ps':List AV) (n:Int):Prop where
 ok:Col vs' rs' ps'
 n2:N2 ps'
 n0:0≤n
 n1:n≤64
 grow:ps.length≤ps'.length
 nn:n≤64*((ps'.length:Int) - ps.length)
 new:(findP ps v).isSome=false→ps'.length=ps.length+1
 i0:q143 vs rs ps v=true∧v143_0 vs rs ps v=(findP ps v).isSome
 i1:(findP ps v).isSome=false→q144 vs rs ps v=true∧q168 vs rs ps v=true∧v168_0 vs rs ps v=vs'∧v168_1 vs rs ps v=rs'∧v168_2 vs rs ps v=ps'∧((v168_3 vs rs ps v).length:Int)=n
 i2:(findP ps v).isSome=true→vs'=vs∧rs'=rs∧ps'=ps∧n=0
 lv:vs'.length=vs.length
theorem one_div {vs rs ps:List AV} (h:Col vs rs ps) (hN:N2 ps) {v:Int} (hv : -1000≤v∧v≤1000) (q:Int) (L:List AV) (hL:L.length≤100000000) :
  ∃ (vs' rs' ps':List AV) (n:Int) (L':List AV),One vs rs ps v vs' rs' ps' n∧q246 v q vs rs ps L=true∧v246_0 v q vs rs ps L=vs'∧v246_1 v q vs rs ps L=rs'∧v246_2 v q vs rs ps L=ps'∧v246_6 v q vs rs ps L=L'∧tot L'=tot L+n∧(L'.length:Int)≤L.length+((ps'.length:Int) - ps.length):=by
 have hl:=h.n64
 have hlen:=h.len
 have hf:=col_few h
 obtain ⟨f1,f2,f3⟩:=P21 vs rs ps v (by omega)
 obtain ⟨i1,i2⟩:=P143 vs rs ps v (by omega)
 have pc:=q101_ok h v
 cases hfd:(findP ps v).isSome with
 | true =>
  obtain ⟨⟨c1,c2,c3,c4,c5,c6⟩,d1,d2,d3,d4,d5⟩:=crack_old h hv hfd
  refine ⟨vs,rs,ps,0,L,⟨h,hN,Int.le_refl _,by omega,Nat.le_refl _,by omega,(fun e=>by rw [hfd] at e;cases e),⟨i1,i2⟩,(fun e=>by rw [hfd] at e;cases e),fun _=>⟨rfl,rfl,rfl,rfl⟩,rfl⟩,?_,c2,c3,c4,?_,by omega,by omega⟩
  ·unfold q246
   rw [pc,f1,f3,hfd,c1,c6]
   rfl
  ·unfold v246_6
   rw [f3,hfd,c6]
   rfl
 | false =>
  obtain ⟨a,b,at_,ss,C⟩:=crack_new h hN hv hfd
  obtain ⟨c1,c2,c3,c4,c5,c6⟩:=C.c
  obtain ⟨d1,d2,d3,d4,d5⟩:=C.c'
  have s64:=C.s64
  refine ⟨_,_,_,(ss.length:Int),_,⟨C.ok,C.n2,by omega,by omega,by rw [insP_len];omega,by rw [insP_len];omega,fun _=>insP_len ..,⟨i1,i2⟩,fun _=>⟨C.pc'.1,d1,d2,d3,d4,by rw [d5]⟩,(fun e=>by rw [hfd] at e;cases e),appS_len _ _⟩,?_,c2,c3,c4,rfl,?_,?_⟩
  ·unfold q246
   rw [pc,f1,f3,hfd,c1,c6]
   simp only [Bool.true_and,Bool.not_false,cond_true,List.length_singleton,Bool.and_eq_true,decide_eq_true_eq]
   omega
  ·unfold v246_6
   rw [f3,hfd,c6,c5]
   simp only [Bool.not_false,cond_true]
   rw [tot_snoc]
   rfl
  ·unfold v246_6
   rw [f3,hfd,c6]
   simp only [Bool.not_false,cond_true,List.length_append,List.length_singleton]
   rw [insP_len]
   omega
theorem seed_both (s:Int) (h0:0≤s) (h1:s≤10006):q260 s=true∧q257 s=true∧v257_0 s=v260_0 s∧0≤v260_0 s∧v260_0 s≤10006:=by
 have e1:Int.tmod s 10007=s:=by rw [Int.tmod_eq_emod_of_nonneg h0];omega
 have e2:Int.tmod (s+10007) 10007=s:=by rw [Int.tmod_eq_emod_of_nonneg (by omega)];omega
 have w1:IntKind.i64.wrap (s+10007)=s+10007:=wrap_in (by omega) (by omega)
 have w2:IntKind.i64.wrap (s*1103)=s*1103:=wrap_in (by omega) (by omega)
 have w3:IntKind.i64.wrap (s*1103+2345)=s*1103+2345:=wrap_in (by omega) (by omega)
 have e3:v260_0 s=Int.tmod (s*1103+2345) 10007:=by
  unfold v260_0
  rw [e1,w1,e2,w2,w3]
 refine ⟨by unfold q260;decide,by unfold q257;rw [e1];simp,?_,?_,?_⟩
 ·rw [e3]
  unfold v257_0
  rw [e1]
  simp only [decide_eq_false (by omega:¬ s<0),cond_false,w2,w3]
 ·rw [e3,Int.tmod_eq_emod_of_nonneg (by omega)]
  omega
 ·rw [e3,Int.tmod_eq_emod_of_nonneg (by omega)]
  omega
theorem med_both (l:List AV) (h0:0<l.length) (h1:l.length≤64):q261 l=true∧q258 l=true∧v258_0 l=v261_0 l∧∃ j:Int,0≤j∧j<l.length∧v261_0 l=el l j:=by
 obtain ⟨a1,a2,a3⟩:=P77 l (by omega)
 obtain ⟨b1,b2,b3⟩:=P244 l (by omega)
 have w1:IntKind.i64.wrap ((l.length:Int) - 1)=(l.length:Int) - 1:=wrap_in (by omega) (by omega)
 have e1:Int.tdiv ((l.length:Int) - 1) 2=((l.length:Int) - 1) / 2:=Int.tdiv_eq_ediv_of_nonneg (by omega)
 have w2:IntKind.i64.wrap (((l.length:Int) - 1) / 2)=((l.length:Int) - 1) / 2:=wrap_in (by omega) (by omega)
 obtain ⟨i,hi⟩:∃ i,i=((l.length:Int) - 1) / 2:=⟨_,rfl⟩
 have i0:0≤i:=by omega
 have i1:i<l.length:=by omega
 have d1:decide ((l.length:Int)=0)=false:=decide_eq_false (by omega)
 have d2:decide ((l.length:Int) > 64)=false:=decide_eq_false (by omega)
 have d3:decide (0≤i)=true:=decide_eq_true i0
 have d4:decide (i<((v77_0 l).length:Int))=true:=decide_eq_true (by omega)
 have d5:decide (i<((v244_0 l).length:Int))=true:=decide_eq_true (by omega)
 have ev:v261_0 l=el (v77_0 l) i:=by
  unfold v261_0
  rw [d1,d2,w1,e1,w2,← hi]
  rfl
 have ev':v258_0 l=el (v244_0 l) i:=by
  unfold v258_0
  rw [d1,d2,w1,e1,w2,← hi]
  rfl
 refine ⟨?_,?_,?_,?_⟩
 ·unfold q261
  rw [d1,d2,w1,e1,w2,← hi,d3,d4,a1]
  rfl
 ·unfold q258
  rw [d1,d2,w1,e1,w2,← hi,d3,d5,b1]
  rfl
 ·rw [ev,ev']
  exact el_ints (b3.trans a3.symm) i i0 (by omega)
 ·obtain ⟨j,j0,j1,e⟩:=(srt_in a3).1 i i0 (by omega)
  exact ⟨j,j0,j1,by rw [ev,e]⟩
theorem el_sub (vs:List AV) (a b j:Int) (a0:0≤a) (b1:b≤vs.length) (j0:0≤j) (j1:j<b - a):el ((vs.take (Int.toNat b)).drop (Int.toNat a)) j=el vs (a+j):=by
 unfold el
 rw [List.getD_eq_getElem?_getD,List.getD_eq_getElem?_getD,List.getElem?_drop,List.getElem?_take_of_lt (by omega),show a.toNat+j.toNat=(a+j).toNat by omega]
structure Sett (pol thr seed:Int):Prop where
 p0:0≤pol
 p1:pol≤2
 t0:1≤thr
 t1:thr≤64
 s0:0≤seed
 s1:seed≤10006
theorem sett_both (pol thr seed:Int):v126_0 pol thr seed=v174_0 pol thr seed∧(v126_0 pol thr seed=true ↔ Sett pol thr seed):=by
 unfold v126_0 v174_0
 simp only [v72]
 constructor
 ·by_cases h1:0≤pol <;> by_cases h2:pol≤2 <;> by_cases h3:1≤thr <;> by_cases h4:thr≤64 <;> by_cases h5:0≤seed <;> by_cases h6:seed≤10006 <;> simp [h1,h2,h3,h4,h5,h6]
 ·constructor
  ·intro h
   by_cases h1:0≤pol <;> by_cases h2:pol≤2 <;> by_cases h3:1≤thr <;> by_cases h4:thr≤64 <;> by_cases h5:0≤seed <;> by_cases h6:seed≤10006 <;> simp [h1,h2,h3,h4,h5,h6] at h
   exact ⟨h1,h2,h3,h4,h5,h6⟩
  ·rintro ⟨h1,h2,h3,h4,h5,h6⟩
   simp [h1,h2,h3,h4,h5,h6]
theorem choose_both {vs rs ps:List AV} (h:Col vs rs ps) {pol thr seed a b:Int} (hS:Sett pol thr seed) (a0:0≤a) (ab:a<b) (b1:b≤vs.length) :
  q245 vs rs ps pol thr seed a b=true∧q243 vs rs ps pol thr seed a b=true∧v243_0 vs rs ps pol thr seed a b=v245_0 vs rs ps pol thr seed a b∧v243_3 vs rs ps pol thr seed a b=v245_3 vs rs ps pol thr seed a b ∧
  0≤v245_3 vs rs ps pol thr seed a b∧v245_3 vs rs ps pol thr seed a b≤10006∧∃ k:Int,a≤k∧k<b∧v245_0 vs rs ps pol thr seed a b=el vs k:=by
 have hl:=h.n64
 have hlen:=h.len
 have hf:=col_few h
 have hc:=(isC_iff vs rs ps (by omega)).2 h
 obtain ⟨g1,g2⟩:=P71 vs rs ps (by omega) (by omega) (by omega)
 obtain ⟨g3,g4⟩:=P39 vs rs ps (by omega) (by omega) (by omega)
 obtain ⟨e1,e2⟩:=sett_both pol thr seed
 have e2:=e2.2 hS
 have e3:v174_0 pol thr seed=true:=by rw [← e1];exact e2
 have d1:decide (a<0)=false:=decide_eq_false (by omega)
 have d2:decide (a ≥ b)=false:=decide_eq_false (by omega)
 have d3:decide (b > (vs.length:Int))=false:=decide_eq_false (by omega)
 obtain ⟨n1,n2,n3,n4,n5⟩:=seed_both seed hS.s0 hS.s1
 have w1:IntKind.i64.wrap (b - a)=b - a:=wrap_in (by omega) (by omega)
 unfold q245 q243 v245_0 v243_0 v245_3 v243_3
 rw [g1,g2,g3,g4,hc,e2,e3,d1,d2,d3]
 simp only [Bool.not_true,cond_false,Bool.true_and]
 by_cases hp:pol=2
 ·have d4:decide (pol=2)=true:=decide_eq_true hp
  obtain ⟨t,ht⟩:∃ t,t=Int.tmod (v260_0 seed) (b - a):=⟨_,rfl⟩
  have t0:0≤t∧t<b - a:=by
   rw [ht,Int.tmod_eq_emod_of_nonneg n4]
   exact ⟨Int.emod_nonneg _ (by omega),Int.emod_lt_of_pos _ (by omega)⟩
  have w2:IntKind.i64.wrap (a+t)=a+t:=wrap_in (by omega) (by omega)
  have d5:decide (b - a=0)=false:=decide_eq_false (by omega)
  have d6:decide (0≤a+t)=true:=decide_eq_true (by omega)
  have d7:decide (a+t<(vs.length:Int))=true:=decide_eq_true (by omega)
  simp only [d4,cond_true,n1,n2,n3,w1,← ht,w2,d5,d6,d7,Bool.not_false,Bool.and_self]
  refine ⟨trivial,trivial,trivial,trivial,n4,n5,a+t,by omega,by omega,rfl⟩
 ·have d4:decide (pol=2)=false:=decide_eq_false hp
  have d5:decide (0≤a)=true:=decide_eq_true a0
  have d6:decide (a≤b)=true:=decide_eq_true (by omega)
  have d7:decide (b≤(vs.length:Int))=true:=decide_eq_true b1
  have hlenS:((vs.take (Int.toNat b)).drop (Int.toNat a)).length=(b - a).toNat:=by rw [List.length_drop,List.length_take];omega
  obtain ⟨m1,m2,m3,j,j0,j1,m4⟩:=med_both ((vs.take (Int.toNat b)).drop (Int.toNat a)) (by omega) (by omega)
  simp only [d4,cond_false,d5,d6,d7,m1,m2,m3,Bool.and_self]
  refine ⟨trivial,trivial,trivial,trivial,hS.s0,hS.s1,a+j,by omega,by omega,?_⟩
  rw [m4,el_sub vs a b j a0 b1 j0 (by omega)]
structure VS where
 vs:List AV
 rs:List AV
 ps:List AV
 pol:Int
 thr:Int
 seed:Int
 L:List AV
abbrev SA:=Int × Int × Int × Int × Int × Int × List AV × List AV × List AV × List AV
abbrev SB:=List AV × List AV × List AV × List AV × Int × Int × Int × Int × Int × Int × List AV × List AV × List AV
def viewS:SA ⊕ SB→VS
 | .inl (p,t,s,_,_,_,v,r,ps,L)=>⟨v,r,ps,p,t,s,L⟩
 | .inr (v,r,ps,L,p,t,s,_,_,_,_,_,_)=>⟨v,r,ps,p,t,s,L⟩
theorem stop72 {v q:Int} (s:SA ⊕ SB) {vs rs ps L:List AV} {pol thr seed:Int} (hv:viewS s=⟨vs,rs,ps,pol,thr,seed,L⟩) (h83:q101 vs rs ps v=true) (h58:q21 vs rs ps v=true)
  (hs:pol=0∨v21_1 vs rs ps v=true∨IntKind.i64.wrap (v101_1 vs rs ps v - v101_0 vs rs ps v)≤thr):∃ r:SA ⊕ SB,R226_0 v q s = .stop r∧viewS r=viewS s:=by
 refine ⟨s,?_,rfl⟩
 rcases s with ⟨p,t,s,x1,x2,x3,v0,r0,p0,L0⟩|⟨v0,r0,p0,L0,p,t,s,x1,x2,x3,x4,x5,x6⟩
 all_goals
  simp only [viewS,VS.mk.injEq] at hv
  obtain ⟨rfl,rfl,rfl,rfl,rfl,rfl,rfl⟩:=hv
  simp only [R226_0,sumE,F226_0_s0,G226_0_s0,F226_0_s1,G226_0_s1]
  rcases hs with hs|hs|hs
  ·rw [decide_eq_true hs];rfl
  ·rw [h83,h58,hs];cases decide (p=0) <;> rfl
  ·rw [h83,h58,decide_eq_true hs];cases decide (p=0) <;> cases v21_1 v0 r0 p0 v <;> rfl
theorem next72 {v q:Int} (s:SA ⊕ SB) {vs rs ps L:List AV} {pol thr seed:Int} (hv:viewS s=⟨vs,rs,ps,pol,thr,seed,L⟩) (h83:q101 vs rs ps v=true) (h58:q21 vs rs ps v=true)
  (hp:pol ≠ 0) (hf:v21_1 vs rs ps v=false) (ht:¬ IntKind.i64.wrap (v101_1 vs rs ps v - v101_0 vs rs ps v)≤thr)
  {m sd:Int} (h84:q245 vs rs ps pol thr seed (v101_0 vs rs ps v) (v101_1 vs rs ps v)=true) (hm:v245_0 vs rs ps pol thr seed (v101_0 vs rs ps v) (v101_1 vs rs ps v)=m) (hsd:v245_3 vs rs ps pol thr seed (v101_0 vs rs ps v) (v101_1 vs rs ps v)=sd)
  (wm:IntKind.i64.wrap (m+1)=m+1) {vs1 rs1 ps1 L1 vs2 rs2 ps2 L2:List AV}
  (a:q246 m q vs rs ps L=true) (a0:v246_0 m q vs rs ps L=vs1) (a1:v246_1 m q vs rs ps L=rs1) (a2:v246_2 m q vs rs ps L=ps1) (a6:v246_6 m q vs rs ps L=L1)
  (b:q246 (m+1) q vs1 rs1 ps1 L1=true) (b0:v246_0 (m+1) q vs1 rs1 ps1 L1=vs2) (b1:v246_1 (m+1) q vs1 rs1 ps1 L1=rs2) (b2:v246_2 (m+1) q vs1 rs1 ps1 L1=ps2) (b6:v246_6 (m+1) q vs1 rs1 ps1 L1=L2) :
  ∃ s2:SA ⊕ SB,R226_0 v q s = .next s2∧viewS s2=⟨vs2,rs2,ps2,pol,thr,sd,L2⟩:=by
 have e1:∀ a b:Int,v245_1 vs rs ps pol thr seed a b=pol:=fun _ _=>rfl
 have e2:∀ a b:Int,v245_2 vs rs ps pol thr seed a b=thr:=fun _ _=>rfl
 rcases s with ⟨p,t,s,x1,x2,x3,v0,r0,p0,L0⟩|⟨v0,r0,p0,L0,p,t,s,x1,x2,x3,x4,x5,x6⟩
 all_goals
  simp only [viewS,VS.mk.injEq] at hv
  obtain ⟨rfl,rfl,rfl,rfl,rfl,rfl,rfl⟩:=hv
  simp only [R226_0,sumE,F226_0_s0,G226_0_s0,F226_0_s1,G226_0_s1,decide_eq_false hp,h83,h58,hf,decide_eq_false ht,h84,hm,hsd,wm,a,a0,a1,a2,a6,b,b0,b1,b2,b6,e1,e2,Bool.not_false,cond_true,cond_false]
  exact ⟨_,rfl,rfl⟩
structure VI where
 vs:List AV
 rs:List AV
 ps:List AV
 pol:Int
 thr:Int
 seed:Int
 tl:Int
abbrev IA:=Int × Int × Int × Int × Int × Int × Int × List AV × List AV × List AV × Int
abbrev IB:=List AV × List AV × List AV × Int × Int × Int × Int × Int × Int × Int × List AV × List AV × List AV × Int
def viewI:IA ⊕ IB→VI
 | .inl (p,t,s,_,_,_,tl,v,r,ps,_)=>⟨v,r,ps,p,t,s,tl⟩
 | .inr (v,r,ps,p,t,s,_,_,_,tl,_,_,_,_)=>⟨v,r,ps,p,t,s,tl⟩
theorem stop79 {v:Int} (s:IA ⊕ IB) {vs rs ps:List AV} {pol thr seed tl:Int} (hv:viewI s=⟨vs,rs,ps,pol,thr,seed,tl⟩) (h89:q143 vs rs ps v=true)
  (hs:pol=0∨v143_0 vs rs ps v=true∨(q144 vs rs ps v=true∧IntKind.i64.wrap (v144_1 vs rs ps v - v144_0 vs rs ps v)≤thr)):∃ r:IA ⊕ IB,R224_0 v s = .stop r∧viewI r=viewI s:=by
 refine ⟨s,?_,rfl⟩
 rcases s with ⟨p,t,s,x1,x2,x3,t0,v0,r0,p0,x4⟩|⟨v0,r0,p0,p,t,s,x1,x2,x3,t0,x4,x5,x6,x7⟩
 all_goals
  simp only [viewI,VI.mk.injEq] at hv
  obtain ⟨rfl,rfl,rfl,rfl,rfl,rfl,rfl⟩:=hv
  simp only [R224_0,sumE,F224_0_s0,G224_0_s0,F224_0_s1,G224_0_s1]
  rcases hs with hs|hs|⟨hq,hs⟩
  ·rw [decide_eq_true hs];rfl
  ·rw [h89,hs];cases decide (p=0) <;> rfl
  ·rw [h89,hq,decide_eq_true hs];cases decide (p=0) <;> cases v143_0 v0 r0 p0 v <;> rfl
theorem next79 {v:Int} (s:IA ⊕ IB) {vs rs ps:List AV} {pol thr seed tl:Int} (hv:viewI s=⟨vs,rs,ps,pol,thr,seed,tl⟩) (h89:q143 vs rs ps v=true) (h90:q144 vs rs ps v=true)
  (hp:pol ≠ 0) (hf:v143_0 vs rs ps v=false) (ht:¬ IntKind.i64.wrap (v144_1 vs rs ps v - v144_0 vs rs ps v)≤thr)
  {m sd:Int} (h92:q243 vs rs ps pol thr seed (v144_0 vs rs ps v) (v144_1 vs rs ps v)=true) (hm:v243_0 vs rs ps pol thr seed (v144_0 vs rs ps v) (v144_1 vs rs ps v)=m) (hsd:v243_3 vs rs ps pol thr seed (v144_0 vs rs ps v) (v144_1 vs rs ps v)=sd)
  (wm:IntKind.i64.wrap (m+1)=m+1) {vs1 rs1 ps1 vs2 rs2 ps2:List AV} {n1 n2:Int} (O1:One vs rs ps m vs1 rs1 ps1 n1) (O2:One vs1 rs1 ps1 (m+1) vs2 rs2 ps2 n2)
  (hnew:(findP ps m).isSome=true→(findP ps1 (m+1)).isSome=false) (w1:IntKind.i64.wrap (tl+n1)=tl+n1) (w2:IntKind.i64.wrap (tl+n1+n2)=tl+n1+n2) (w3:IntKind.i64.wrap (tl+n2)=tl+n2) :
  ∃ s2:IA ⊕ IB,R224_0 v s = .next s2∧viewI s2=⟨vs2,rs2,ps2,pol,thr,sd,tl+n1+n2⟩:=by
 have e1:∀ a b:Int,v243_1 vs rs ps pol thr seed a b=pol:=fun _ _=>rfl
 have e2:∀ a b:Int,v243_2 vs rs ps pol thr seed a b=thr:=fun _ _=>rfl
 obtain ⟨k1,k2⟩:=O1.i0
 obtain ⟨l1,l2⟩:=O2.i0
 cases f1:(findP ps m).isSome with
 | true =>
  obtain ⟨rfl,rfl,rfl,rfl⟩:=O1.i2 f1
  have f2:=hnew f1
  obtain ⟨c1,c2,c3,c4,c5,c6⟩:=O2.i1 f2
  rw [f1] at k2
  rw [f2] at l2
  rw [Int.add_zero]
  rcases s with ⟨p,t,s,x1,x2,x3,t0,v0,r0,p0,x4⟩|⟨v0,r0,p0,p,t,s,x1,x2,x3,t0,x4,x5,x6,x7⟩
  all_goals
   simp only [viewI,VI.mk.injEq] at hv
   obtain ⟨rfl,rfl,rfl,rfl,rfl,rfl,rfl⟩:=hv
   simp only [R224_0,sumE,F224_0_s0,G224_0_s0,F224_0_s1,G224_0_s1,decide_eq_false hp,h89,hf,h90,decide_eq_false ht,h92,hm,hsd,wm,k1,k2,l1,l2,c1,c2,c3,c4,c5,c6,w3,e1,e2,Bool.not_false,cond_true,cond_false]
   exact ⟨_,rfl,rfl⟩
 | false =>
  obtain ⟨c1,c2,c3,c4,c5,c6⟩:=O1.i1 f1
  rw [f1] at k2
  cases f2:(findP ps1 (m+1)).isSome with
  | true =>
   obtain ⟨rfl,rfl,rfl,rfl⟩:=O2.i2 f2
   rw [f2] at l2
   rw [Int.add_zero]
   rcases s with ⟨p,t,s,x1,x2,x3,t0,v0,r0,p0,x4⟩|⟨v0,r0,p0,p,t,s,x1,x2,x3,t0,x4,x5,x6,x7⟩
   all_goals
    simp only [viewI,VI.mk.injEq] at hv
    obtain ⟨rfl,rfl,rfl,rfl,rfl,rfl,rfl⟩:=hv
    simp only [R224_0,sumE,F224_0_s0,G224_0_s0,F224_0_s1,G224_0_s1,decide_eq_false hp,h89,hf,h90,decide_eq_false ht,h92,hm,hsd,wm,k1,k2,c1,c2,c3,c4,c5,c6,l1,l2,w1,e1,e2,Bool.not_false,cond_true,cond_false]
    exact ⟨_,rfl,rfl⟩
  | false =>
   obtain ⟨g1,g2,g3,g4,g5,g6⟩:=O2.i1 f2
   rw [f2] at l2
   rcases s with ⟨p,t,s,x1,x2,x3,t0,v0,r0,p0,x4⟩|⟨v0,r0,p0,p,t,s,x1,x2,x3,t0,x4,x5,x6,x7⟩
   all_goals
    simp only [viewI,VI.mk.injEq] at hv
    obtain ⟨rfl,rfl,rfl,rfl,rfl,rfl,rfl⟩:=hv
    simp only [R224_0,sumE,F224_0_s0,G224_0_s0,F224_0_s1,G224_0_s1,decide_eq_false hp,h89,hf,h90,decide_eq_false ht,h92,hm,hsd,wm,k1,k2,c1,c2,c3,c4,c5,c6,l1,l2,g1,g2,g3,g4,g5,g6,w1,w2,e1,e2,Bool.not_false,cond_true,cond_false]
    exact ⟨_,rfl,rfl⟩
theorem findP_at {ps:List AV} {v:Int} (h:(findP ps v).isSome=true):∃ i:Int,0≤i∧i<ps.length∧el ps i=v:=by
 obtain ⟨j,hj⟩:=Option.isSome_iff_exists.1 h
 obtain ⟨h1,h2,h3⟩:=findF_some _ _ hj
 exact ⟨j,h1,by omega,of_decide_eq_true h3⟩
theorem newm {vs rs ps:List AV} (h:Col vs rs ps) {v a b t k:Int} (hp:Pc vs.length ps v a b t) (a0:0≤a) (ka:a≤k) (kb:k<b) (b1:b≤vs.length)
  (h1:(findP ps (el vs k)).isSome=true) (h2:(findP ps (el vs k+1)).isSome=true):False:=by
 obtain ⟨i,i0,i1,ei⟩:=findP_at h1
 obtain ⟨j,j0,j1,ej⟩:=findP_at h2
 have t0:=hp.t0
 have t1:=hp.t1
 have ea:=hp.ea
 have eb:=hp.eb
 have hi:i<t:=by
  rcases Int.lt_or_le i t with h|hit
  ·exact h
  ·have htl:t<ps.length:=by omega
   rw [if_neg (by omega)] at eb
   have:=(h.part t t0 htl k (by omega) (by omega)).2 (by omega)
   rcases Int.lt_or_le t i with h'|h'
   ·have:=(h.lt t0 h' i1).1
    omega
   ·have:i=t:=by omega
    subst this
    omega
 have hlo:=hp.lo i i0 hi
 have hj:t≤j:=by
  rcases Int.lt_or_le j t with hjt|h
  ·rw [if_neg (by omega)] at ea
   have hn:¬ el vs k<el ps (t - 1):=fun e=>by
    have:=(h.part (t - 1) (by omega) (by omega) k (by omega) (by omega)).1 e
    omega
   rcases Int.lt_or_le j (t - 1) with h'|h'
   ·have:=(h.lt j0 h' (by omega:t - 1<ps.length)).1
    omega
   ·have:j=t - 1:=by omega
    subst this
    omega
  ·exact h
 have hhi:=hp.hi j hj j1
 omega
def InvP (pol thr T c:Int) (nv:Nat) (s:SA ⊕ SB) (s':IA ⊕ IB):Prop:=∃ (vs rs ps:List AV) (seed:Int) (L:List AV) (tl:Int),viewS s=⟨vs,rs,ps,pol,thr,seed,L⟩∧viewI s'=⟨vs,rs,ps,pol,thr,seed,tl⟩ ∧
 Col vs rs ps∧N2 ps∧Sett pol thr seed∧tot L=T+tl∧0≤tl∧tl≤64*ps.length∧(L.length:Int)≤c+ps.length∧vs.length=nv
theorem loop_both {pol thr T c v q:Int} {nv:Nat} (hv : -1000≤v∧v≤1000) (hc:c≤10000000) (s:SA ⊕ SB) (s':IA ⊕ IB) (hI:InvP pol thr T c nv s s') :
  ∃ r r',runW (R226_0 v q) 2100 s=some r∧runW (R224_0 v) 2100 s'=some r'∧InvP pol thr T c nv r r':=by
 refine runW_pair (f:=R226_0 v q) (g:=R224_0 v) (InvP pol thr T c nv) (InvP pol thr T c nv) (fun s=>2050 - (viewS s).ps.length) (fun s s' hI=>?_) 2100 2100 s s' hI (by omega) (by omega)
 obtain ⟨vs,rs,ps,seed,L,tl,e1,e2,hC,hN,hS,hT,t0,t1,hL,lv⟩:=hI
 have hl:=hC.n64
 have hlen:=hC.len
 have hf:=col_few hC
 obtain ⟨f1,f2,f3⟩:=P21 vs rs ps v (by omega)
 obtain ⟨i1,i2⟩:=P143 vs rs ps v (by omega)
 have h83:=q101_ok hC v
 have stop:∀ {r:SA ⊕ SB} {r':IA ⊕ IB},viewS r=viewS s→viewI r'=viewI s'→InvP pol thr T c nv r r':=fun h h'=>⟨vs,rs,ps,seed,L,tl,h.trans e1,h'.trans e2,hC,hN,hS,hT,t0,t1,hL,lv⟩
 by_cases hp:pol=0
 ·obtain ⟨r,k1,k2⟩:=stop72 (v:=v) (q:=q) s e1 h83 f1 (.inl hp)
  obtain ⟨r',l1,l2⟩:=stop79 (v:=v) s' e2 i1 (.inl hp)
  exact .inr ⟨r,r',k1,l1,stop k2 l2⟩
 cases hfd:(findP ps v).isSome with
 | true =>
  obtain ⟨r,k1,k2⟩:=stop72 (v:=v) (q:=q) s e1 h83 f1 (.inr (.inl (by rw [f3,hfd])))
  obtain ⟨r',l1,l2⟩:=stop79 (v:=v) s' e2 i1 (.inr (.inl (by rw [i2,hfd])))
  exact .inr ⟨r,r',k1,l1,stop k2 l2⟩
 | false =>
  have hpc:=pc_of hC hfd
  have hpi:=piece_of hC hpc
  generalize (if place ps v=0 then 0 else pat ps (place ps v - 1))=a at hpc hpi
  generalize (if place ps v=ps.length then (vs.length:Int) else pat ps (place ps v))=b at hpc hpi
  have a0:=hpi.a0
  have ab:=hpi.ab
  have b1:=hpi.b1
  obtain ⟨p1,p2,p3⟩:=P101 hC hv hpc
  obtain ⟨p4,p5,p6⟩:=P144 (rs:=rs) hpc (by omega)
  have wb:IntKind.i64.wrap (b - a)=b - a:=wrap_in (by omega) (by omega)
  by_cases ht:b - a≤thr
  ·obtain ⟨r,k1,k2⟩:=stop72 (v:=v) (q:=q) s e1 h83 f1 (.inr (.inr (by rw [p2,p3,wb];exact ht)))
   obtain ⟨r',l1,l2⟩:=stop79 (v:=v) s' e2 i1 (.inr (.inr ⟨p4,by rw [p5,p6,wb];exact ht⟩))
   exact .inr ⟨r,r',k1,l1,stop k2 l2⟩
  ·have ht0:=hS.t0
   obtain ⟨c1,c2,c3,c4,c5,c6,k,ka,kb,c7⟩:=choose_both hC hS a0 (by omega:a<b) b1
   obtain ⟨m0,m1⟩:=hC.vals k (by omega) (by omega)
   obtain ⟨vs1,rs1,ps1,n1,L1,O1,x1,x2,x3,x4,x5,x6,x7⟩:=one_div hC hN (v:=el vs k) (by omega) q L (by omega)
   have hf1:=col_few O1.ok
   have g1:=O1.grow
   have nn1:=O1.nn
   have n10:=O1.n0
   obtain ⟨vs2,rs2,ps2,n2,L2,O2,y1,y2,y3,y4,y5,y6,y7⟩:=one_div O1.ok O1.n2 (v:=el vs k+1) (by omega) q L1 (by omega)
   have hf2:=col_few O2.ok
   have g2:=O2.grow
   have nn2:=O2.nn
   have n20:=O2.n0
   have hnew:(findP ps (el vs k)).isSome=true→(findP ps1 (el vs k+1)).isSome=false:=fun e=>by
    obtain ⟨_,_,rfl,_⟩:=O1.i2 e
    cases e':(findP ps1 (el vs k+1)).isSome with
    | false=>rfl
    | true=>exact (newm hC hpc a0 ka kb b1 e e').elim
   have hgrow:ps.length<ps2.length:=by
    cases e:(findP ps (el vs k)).isSome with
    | false=>have:=O1.new e;omega
    | true=>have:=O2.new (hnew e);omega
   have wm:IntKind.i64.wrap (el vs k+1)=el vs k+1:=wrap_in (by omega) (by omega)
   obtain ⟨s2,z1,z2⟩:=next72 (v:=v) (q:=q) (sd:=v245_3 vs rs ps pol thr seed a b) s e1 h83 f1 hp (by rw [f3,hfd]) (by rw [p2,p3,wb];exact ht) (by rw [p2,p3];exact c1) (by rw [p2,p3];exact c7) (by rw [p2,p3]) wm x1 x2 x3 x4 x5 y1 y2 y3 y4 y5
   obtain ⟨s2',z3,z4⟩:=next79 (v:=v) (sd:=v245_3 vs rs ps pol thr seed a b) s' e2 i1 p4 hp (by rw [i2,hfd]) (by rw [p5,p6,wb];exact ht) (by rw [p5,p6];exact c2) (by rw [p5,p6];exact c3.trans c7) (by rw [p5,p6];exact c4) wm O1 O2 hnew (wrap_in (by omega) (by omega)) (wrap_in (by omega) (by omega)) (wrap_in (by omega) (by omega))
   refine .inl ⟨s2,s2',z1,z3,⟨vs2,rs2,ps2,v245_3 vs rs ps pol thr seed a b,L2,tl+n1+n2,z2,z4,O2.ok,O2.n2,⟨hS.p0,hS.p1,hS.t0,hS.t1,c5,c6⟩,by omega,by omega,by omega,by omega,by rw [O2.lv,O1.lv];exact lv⟩,?_⟩
   rw [z2,e1]
   simp only
   omega
structure Wit (vs rs ps:List AV) (pol thr seed v q:Int) (L:List AV) (x:Int) (vs' rs' ps':List AV) (seed' tl:Int):Prop where
 ok:Col vs' rs' ps'
 n2:N2 ps'
 st:Sett pol thr seed'
 t0:0≤tl
 t1:tl≤200000
 spec:q226 pol thr seed v q vs rs ps L=true∧v226_0 pol thr seed v q vs rs ps L=vs'∧v226_1 pol thr seed v q vs rs ps L=rs'∧v226_2 pol thr seed v q vs rs ps L=ps' ∧
  v226_3 pol thr seed v q vs rs ps L=pol∧v226_4 pol thr seed v q vs rs ps L=thr∧v226_5 pol thr seed v q vs rs ps L=seed'∧tot (v226_9 pol thr seed v q vs rs ps L)=tot L+tl∧(v226_9 pol thr seed v q vs rs ps L).length≤L.length+2002
 imp:q224 pol thr seed v vs rs ps x=true∧v224_0 pol thr seed v vs rs ps x=vs'∧v224_1 pol thr seed v vs rs ps x=rs'∧v224_2 pol thr seed v vs rs ps x=ps' ∧
  v224_3 pol thr seed v vs rs ps x=pol∧v224_4 pol thr seed v vs rs ps x=thr∧v224_5 pol thr seed v vs rs ps x=seed'∧v224_6 pol thr seed v vs rs ps x=tl
 lv:vs'.length=vs.length
theorem with_both {vs rs ps:List AV} (h:Col vs rs ps) (hN:N2 ps) {pol thr seed v:Int} (hS:Sett pol thr seed) (hv : -1000≤v∧v≤1000) (q:Int) (L:List AV) (hL:L.length≤1000000) (x:Int) :
  ∃ (vs' rs' ps':List AV) (seed' tl:Int),Wit vs rs ps pol thr seed v q L x vs' rs' ps' seed' tl:=by
 obtain ⟨r,r',k1,k2,⟨vs1,rs1,ps1,sd1,L1,tl1,e1,e2,C1,N1,S1,hT,t0,t1,hL1,lv1⟩⟩:=loop_both (nv:=vs.length) (pol:=pol) (thr:=thr) (T:=tot L) (c:=L.length) (v:=v) (q:=q) hv (by omega) (.inl (pol,thr,seed,0,0,0,vs,rs,ps,L)) (.inl (pol,thr,seed,0,0,0,0,vs,rs,ps,x))
  ⟨vs,rs,ps,seed,L,0,rfl,rfl,h,hN,hS,by omega,Int.le_refl _,by omega,by omega,rfl⟩
 have hf1:=col_few C1
 obtain ⟨vs2,rs2,ps2,n2,L2,O2,y1,y2,y3,y4,y5,y6,y7⟩:=one_div C1 N1 (v:=v) hv q L1 (by omega)
 have hf2:=col_few O2.ok
 have n20:=O2.n0
 have n21:=O2.n1
 have w1:IntKind.i64.wrap (tl1+n2)=tl1+n2:=wrap_in (by omega) (by omega)
 obtain ⟨i1,i2⟩:=O2.i0
 refine ⟨vs2,rs2,ps2,sd1,tl1+n2,O2.ok,O2.n2,S1,by omega,by omega,?_,?_,by rw [O2.lv];exact lv1⟩
 ·unfold q226 v226_0 v226_1 v226_2 v226_3 v226_4 v226_5 v226_9
  rw [k1]
  rcases r with ⟨p,t,s,x1,x2,x3,v0,r0,p0,L0⟩|⟨v0,r0,p0,L0,p,t,s,x1,x2,x3,x4,x5,x6⟩
  all_goals
   simp only [viewS,VS.mk.injEq] at e1
   obtain ⟨rfl,rfl,rfl,rfl,rfl,rfl,rfl⟩:=e1
   simp only [ro,sumE,y1,y2,y3,y4,y5]
   refine ⟨trivial,trivial,trivial,trivial,?_,?_,?_,by omega,by omega⟩ <;> trivial
 ·unfold q224 v224_0 v224_1 v224_2 v224_3 v224_4 v224_5 v224_6
  rw [k2]
  cases hfd:(findP ps1 v).isSome with
  | true =>
   obtain ⟨g1,g2,g3,g4⟩:=O2.i2 hfd
   rw [hfd] at i2
   rcases r' with ⟨p,t,s,x1,x2,x3,t0',v0,r0,p0,x4⟩|⟨v0,r0,p0,p,t,s,x1,x2,x3,t0',x4,x5,x6,x7⟩
   all_goals
    simp only [viewI,VI.mk.injEq] at e2
    obtain ⟨rfl,rfl,rfl,rfl,rfl,rfl,rfl⟩:=e2
    subst g1 g2 g3 g4
    simp only [ro,sumE,i1,i2,cond_true,Bool.and_self,Int.add_zero]
    refine ⟨trivial,trivial,trivial,trivial,?_,?_,?_,?_⟩ <;> trivial
  | false =>
   obtain ⟨g1,g2,g3,g4,g5,g6⟩:=O2.i1 hfd
   rw [hfd] at i2
   rcases r' with ⟨p,t,s,x1,x2,x3,t0',v0,r0,p0,x4⟩|⟨v0,r0,p0,p,t,s,x1,x2,x3,t0',x4,x5,x6,x7⟩
   all_goals
    simp only [viewI,VI.mk.injEq] at e2
    obtain ⟨rfl,rfl,rfl,rfl,rfl,rfl,rfl⟩:=e2
    simp only [ro,sumE,i1,i2,cond_false,g1,g2,g3,g4,g5,g6,w1,Bool.and_self]
    refine ⟨trivial,trivial,trivial,trivial,?_,?_,?_,?_⟩ <;> trivial
end Go.Proofs.YtealoedecngaoaaGreatDoor

namespace Go.Proofs.YtealoedecngaoaaGreatDoor
open Go Go.Proofs.VE
set_option linter.unusedVariables false
set_option linter.unusedSimpArgs false
theorem wadd (a b:Int):IntKind.i64.wrap (IntKind.i64.wrap a+b)=IntKind.i64.wrap (a+b):=by
 rw [IntKind.wrap_i64,IntKind.wrap_i64,IntKind.wrap_i64]
 omega
theorem tot_take (L:List AV) (k:Int) (h0:0≤k) (h1:k<L.length):tot (L.take (k+1).toNat)=tot (L.take k.toNat)+fI (L.getD k.toNat .undef) 4:=by
 rw [take_snoc h0 h1,tot_snoc]
theorem P227 (L:List AV) (h:L.length≤1048576):q227 L=true∧v227_0 L=IntKind.i64.wrap (tot L):=by
 obtain ⟨r,h1,h2⟩:=runW_ends (f:=R227_0 L) (fun s:Int × Int=>0≤s.2∧s.2≤L.length∧s.1=IntKind.i64.wrap (tot (L.take s.2.toNat))) (fun r=>r=IntKind.i64.wrap (tot L)) (fun s=>((L.length:Int) - s.2).toNat) (fun s hI=>by
  obtain ⟨t,k⟩:=s
  obtain ⟨k0,k1,e⟩:=hI
  simp only at k0 k1 e
  by_cases hk:k<L.length
  ·have d1:decide (k<(L.length:Int))=true:=decide_eq_true hk
   have d2:decide (0≤k)=true:=decide_eq_true k0
   have wk:IntKind.i64.wrap (k+1)=k+1:=wrap_in (by omega) (by omega)
   refine .inl ⟨(IntKind.i64.wrap (t+fI (L.getD k.toNat AV.undef) 4),k+1),by simp only [R227_0,F227_0,G227_0,d1,d2,wk,Bool.and_self,cond_true],⟨by simp only;omega,by simp only;omega,?_⟩,by simp only;omega⟩
   simp only
   rw [e,wadd,tot_take L k k0 hk]
  ·have d1:decide (k<(L.length:Int))=false:=decide_eq_false hk
   have ek:k.toNat=L.length:=by omega
   exact .inr ⟨t,by simp only [R227_0,F227_0,G227_0,d1,cond_false],by rw [e,ek,List.take_length]⟩) (((L.length:Int) - 0:Int).toNat+1) (0,0) ⟨Int.le_refl _,by simp,by rfl⟩ (by simp only;omega)
 unfold q227 v227_0
 rw [h1]
 exact ⟨rfl,h2⟩
theorem P93 (xs:List AV) (h:xs.length≤1048576):q93 xs=true:=by
 obtain ⟨r,h1,h2⟩:=runW_ends (f:=R93_0 xs) (fun s:Int × Int=>0≤s.2∧s.2≤xs.length) (fun r=>True) (fun s=>((xs.length:Int) - s.2).toNat) (fun s hI=>by
  obtain ⟨t,k⟩:=s
  obtain ⟨k0,k1⟩:=hI
  simp only at k0 k1
  by_cases hk:k<xs.length
  ·have d1:decide (k<(xs.length:Int))=true:=decide_eq_true hk
   have d2:decide (0≤k)=true:=decide_eq_true k0
   have wk:IntKind.i64.wrap (k+1)=k+1:=wrap_in (by omega) (by omega)
   exact .inl ⟨(IntKind.i64.wrap (t+fI (xs.getD k.toNat AV.undef) 0),k+1),by simp only [R93_0,F93_0,G93_0,d1,d2,wk,Bool.and_self,cond_true],⟨by simp only;omega,by simp only;omega⟩,by simp only;omega⟩
  ·have d1:decide (k<(xs.length:Int))=false:=decide_eq_false hk
   exact .inr ⟨t,by simp only [R93_0,F93_0,G93_0,d1,cond_false],trivial⟩) (((xs.length:Int) - 0:Int).toNat+1) (0,0) ⟨Int.le_refl _,by simp⟩ (by simp only;omega)
 unfold q93
 rw [h1]
 rfl
theorem P92 (xs:List AV) (h:xs.length≤1048576):q92 xs=true∧v92_0 xs=v93_0 xs:=⟨P93 xs h,rfl⟩
theorem el_app (xs:List AV) (y:AV) (k:Int) (h0:0≤k):el (xs++[y]) k=if k<xs.length then el xs k else if k=xs.length then fI y 0 else fI .undef 0:=by
 unfold el
 rw [List.getD_eq_getElem?_getD]
 by_cases h:k<xs.length
 ·rw [if_pos h,List.getElem?_append_left (by omega),List.getD_eq_getElem?_getD]
 ·rw [if_neg h,List.getElem?_append_right (by omega)]
  by_cases h':k=xs.length
  ·rw [if_pos h',show k.toNat - xs.length=0 by omega]
   rfl
  ·rw [if_neg h']
   obtain ⟨m,hm⟩:∃ m,k.toNat - xs.length=m+1:=⟨k.toNat - xs.length - 1,by omega⟩
   rw [hm]
   rfl
structure Top (xs:List AV) (n m:Int):Prop where
 m0:0≤m
 up:∀ k:Int,0≤k→k<n→el xs k≤m
 is:m=0∨∃ k:Int,0≤k∧k<n∧el xs k=m
theorem Top.eq {xs:List AV} {n m m':Int} (h:Top xs n m) (h':Top xs n m'):m=m':=by
 have a:m≤m':=by
  rcases h.is with h1|⟨k,k0,k1,e⟩
  ·have:=h'.m0;omega
  ·have:=h'.up k k0 k1;omega
 have b:m'≤m:=by
  rcases h'.is with h1|⟨k,k0,k1,e⟩
  ·have:=h.m0;omega
  ·have:=h.up k k0 k1;omega
 omega
theorem run60 (h1_:List AV) (a b c d e f g i j:Int) (h:h1_.length≤1048576):∃ m,runW (R60_0 a b c d e h1_ f g i j) (((h1_.length:Int) - 0:Int).toNat+1) (0,0)=some m∧Top h1_ h1_.length m:=by
 refine runW_ends (f:=R60_0 a b c d e h1_ f g i j) (fun s:Int × Int=>0≤s.1∧s.1≤h1_.length∧Top h1_ s.1 s.2) (fun m=>Top h1_ h1_.length m) (fun s=>((h1_.length:Int) - s.1).toNat) (fun s hI=>?_) (((h1_.length:Int) - 0:Int).toNat+1) (0,0) ⟨Int.le_refl _,by simp,Int.le_refl _,fun k h0 h1=>by simp only at h1;omega,.inl rfl⟩ (by simp only;omega)
 obtain ⟨k,m⟩:=s
 obtain ⟨k0,k1,t⟩:=hI
 simp only at k0 k1 t
 by_cases hk:k<h1_.length
 ·have d1:decide (k<(h1_.length:Int))=true:=decide_eq_true hk
  have d2:decide (0≤k)=true:=decide_eq_true k0
  have wk:IntKind.i64.wrap (k+1)=k+1:=wrap_in (by omega) (by omega)
  refine .inl ⟨(k+1,if fI (h1_.getD k.toNat AV.undef) 0 > m then fI (h1_.getD k.toNat AV.undef) 0 else m),by simp only [R60_0,F60_0,G60_0,d1,d2,wk,Bool.and_self,cond_true],⟨by simp only;omega,by simp only;omega,?_⟩,by simp only;omega⟩
  simp only
  show Top h1_ (k+1) (if el h1_ k > m then el h1_ k else m)
  have t0:=t.m0
  split
  ·refine ⟨by omega,fun j j0 j1=>?_,.inr ⟨k,k0,by omega,rfl⟩⟩
   by_cases ej:j=k
   ·subst ej;exact Int.le_refl _
   ·have:=t.up j j0 (by omega);omega
  ·refine ⟨t0,fun j j0 j1=>?_,?_⟩
   ·by_cases ej:j=k
    ·subst ej;omega
    ·exact t.up j j0 (by omega)
   ·rcases t.is with h1|⟨j,j0,j1,e⟩
    ·exact .inl h1
    ·exact .inr ⟨j,j0,by omega,e⟩
 ·have d1:decide (k<(h1_.length:Int))=false:=decide_eq_false hk
  have ek:k=h1_.length:=by omega
  exact .inr ⟨m,by simp only [R60_0,F60_0,G60_0,d1,cond_false],ek ▸ t⟩
theorem P123 (xs:List AV) (h:xs.length≤1048576):q123 (xs++[AV.int .i64 0])=true∧Top xs xs.length (v123_0 (xs++[AV.int .i64 0])):=by
 have len:(xs++[AV.int .i64 0]).length=xs.length+1:=by simp
 have eu:∀ k:Int,0≤k→k<xs.length+1→el (xs++[AV.int .i64 0]) k=if k<xs.length then el xs k else 0:=fun k k0 k1=>by
  rw [el_app _ _ _ k0]
  split
  ·rfl
  ·rw [if_pos (by omega)]
   rfl
 generalize xs++[AV.int .i64 0]=ys at len eu ⊢
 have hz:∀ k:Int,0≤k→k<1→el ys k≤fI (ys.getD (0:Int).toNat AV.undef) 0:=fun k k0 k1=>by
  obtain rfl:k=0:=by omega
  exact Int.le_refl _
 obtain ⟨m,h1,h2,i,i0,i1,h3⟩:=runW_ends (f:=R123_0 ys) (fun s:Int × Int=>1≤s.2∧s.2≤ys.length∧(∀ k:Int,0≤k→k<s.2→el ys k≤s.1)∧∃ k:Int,0≤k∧k<s.2∧el ys k=s.1) (fun m=>(∀ k:Int,0≤k→k<ys.length→el ys k≤m)∧∃ k:Int,0≤k∧k<ys.length∧el ys k=m) (fun s=>((ys.length:Int) - s.2).toNat) (fun s hI=>by
  obtain ⟨m,k⟩:=s
  obtain ⟨k0,k1,t1,i,i0,i1,t2⟩:=hI
  simp only at k0 k1 t1 i1 t2
  by_cases hk:k<ys.length
  ·have d1:decide (k<(ys.length:Int))=true:=decide_eq_true hk
   have d2:decide (0≤k)=true:=decide_eq_true (by omega)
   have wk:IntKind.i64.wrap (k+1)=k+1:=wrap_in (by omega) (by omega)
   refine .inl ⟨(if fI (ys.getD k.toNat AV.undef) 0 > m then fI (ys.getD k.toNat AV.undef) 0 else m,k+1),by simp only [R123_0,F123_0,G123_0,d1,d2,wk,Bool.and_self,cond_true],⟨by simp only;omega,by simp only;omega,?_⟩,by simp only;omega⟩
   simp only
   show (∀ j:Int,0≤j→j<k+1→el ys j≤(if el ys k > m then el ys k else m))∧∃ j:Int,0≤j∧j<k+1∧el ys j=(if el ys k > m then el ys k else m)
   split
   ·refine ⟨fun j j0 j1=>?_,k,by omega,by omega,rfl⟩
    by_cases ej:j=k
    ·subst ej;exact Int.le_refl _
    ·have:=t1 j j0 (by omega);omega
   ·refine ⟨fun j j0 j1=>?_,i,i0,by omega,t2⟩
    by_cases ej:j=k
    ·subst ej;omega
    ·exact t1 j j0 (by omega)
  ·have d1:decide (k<(ys.length:Int))=false:=decide_eq_false hk
   exact .inr ⟨m,by simp only [R123_0,F123_0,G123_0,d1,cond_false],fun j j0 j1=>t1 j j0 (by omega),i,i0,by omega,t2⟩) (((ys.length:Int) - 1:Int).toNat+1) (fI (ys.getD (0:Int).toNat AV.undef) 0,1) ⟨Int.le_refl _,by simp only;omega,hz,0,Int.le_refl _,by simp only;omega,rfl⟩ (by simp only;omega)
 have c1:decide ((ys.length:Int)<1)=false:=decide_eq_false (by omega)
 have c2:decide (0<(ys.length:Int))=true:=decide_eq_true (by omega)
 unfold q123 v123_0
 rw [h1,c1,c2]
 refine ⟨rfl,?_,?_,?_⟩
 ·have:=h2 xs.length (by omega) (by omega)
  rw [eu _ (by omega) (by omega),if_neg (by omega)] at this
  exact this
 ·intro k k0 k1
  have:=h2 k k0 (by omega)
  rw [eu _ k0 (by omega),if_pos k1] at this
  exact this
 ·rw [eu i i0 (by omega)] at h3
  by_cases hi:i<xs.length
  ·rw [if_pos hi] at h3
   exact .inr ⟨i,i0,hi,h3⟩
  ·rw [if_neg hi] at h3
   exact .inl h3.symm
theorem isR_eq (a b:Int):v201_0 a b=v178_0 a b:=by
 unfold v201_0 v178_0
 rw [v72,v72]
 by_cases h1 : -1000≤a <;> by_cases h2:a≤b <;> by_cases h3:b≤1000 <;> simp [h1,h2,h3] <;> omega
theorem run127 (xs:List AV) (h:xs.length≤1048576):runW (R127_0 xs) (((xs.length:Int) - 0).toNat+1) 0=some (ro (findF (fun i => !v178_0 (fI (xs.getD i.toNat .undef) 0) (fI (xs.getD i.toNat .undef) 1)) xs.length 0) (.inl ()) fun _ => .inr ()):=by
 refine runW_find (fun i=>i) xs.length _ _ _ (fun i h0 hn=>?_) ?_ xs.length _ 0 (Int.le_refl 0) (by omega) (by omega)
 ·simp only [R127_0,F127_0,G127_0,h0,hn,decide_true,Bool.and_self,cond_true]
  rw [wrap_in (a:=i+1) (by omega) (by omega)]
 ·simp only [R127_0,F127_0,G127_0,Int.lt_irrefl,decide_false,cond_false]
theorem run223 (xs:List AV) (h:xs.length≤1048576):runW (R223_0 xs xs.length) (((xs.length:Int) - 0).toNat+1) 0=some (ro (findF (fun i=>v200_0 (fI (xs.getD i.toNat .undef) 0) (fI (xs.getD i.toNat .undef) 1)) xs.length 0) (.inl ()) fun i => .inr i):=by
 refine runW_find (fun i=>i) xs.length _ _ _ (fun i h0 hn=>?_) ?_ xs.length _ 0 (Int.le_refl 0) (by omega) (by omega)
 ·simp only [R223_0,F223_0,G223_0,h0,hn,decide_true,Bool.and_self,cond_true]
  rw [wrap_in (a:=i+1) (by omega) (by omega)]
 ·simp only [R223_0,F223_0,G223_0,Int.lt_irrefl,decide_false,cond_false]
theorem P127 (xs:List AV) (h:xs.length≤1048576):q127 xs=true∧v127_0 xs=((findF (fun i => !v178_0 (fI (xs.getD i.toNat .undef) 0) (fI (xs.getD i.toNat .undef) 1)) xs.length 0).isNone && decide (xs.length≤30)):=by
 unfold q127 v127_0
 rw [run127 xs h]
 cases findF (fun i => !v178_0 (fI (xs.getD i.toNat .undef) 0) (fI (xs.getD i.toNat .undef) 1)) xs.length 0 with
 | none=>refine ⟨rfl,?_⟩;simp only [ro,sumE,Option.isNone_none,Bool.true_and];congr 1;simp only [eq_iff_iff];omega
 | some j=>exact ⟨rfl,rfl⟩
theorem P175 (xs:List AV) (h:xs.length≤1048576):q175 xs=true∧v175_0 xs=v127_0 xs:=by
 rw [(P127 xs h).2]
 unfold q175 v175_0 v199_0 q199 q223 v223_0
 rw [run223 xs h]
 have e:(fun i:Int=>v200_0 (fI (xs.getD i.toNat .undef) 0) (fI (xs.getD i.toNat .undef) 1))=fun i => !v178_0 (fI (xs.getD i.toNat .undef) 0) (fI (xs.getD i.toNat .undef) 1):=by
  funext i
  unfold v200_0
  rw [isR_eq]
 rw [e]
 have e30:decide ((xs.length:Int)≤30)=decide (xs.length≤30):=by congr 1;simp only [eq_iff_iff];omega
 rw [e30]
 cases hf:findF (fun i => !v178_0 (fI (xs.getD i.toNat .undef) 0) (fI (xs.getD i.toNat .undef) 1)) xs.length 0 with
 | none=>cases decide (xs.length≤30) <;> exact ⟨rfl,rfl⟩
 | some j =>
  have:=(findF_some _ _ hf).1
  cases decide (xs.length≤30)
  ·exact ⟨rfl,rfl⟩
  ·refine ⟨rfl,?_⟩
   simp [ro,sumE]
   omega
theorem rng_ok {xs:List AV} (h:xs.length≤1048576) (hv:v127_0 xs=true):xs.length≤30∧∀ k:Int,0≤k→k<xs.length→(-1000≤fI (xs.getD k.toNat .undef) 0∧fI (xs.getD k.toNat .undef) 0≤1000)∧(-1000≤fI (xs.getD k.toNat .undef) 1∧fI (xs.getD k.toNat .undef) 1≤1000)∧v178_0 (fI (xs.getD k.toNat .undef) 0) (fI (xs.getD k.toNat .undef) 1)=true:=by
 rw [(P127 xs h).2,Bool.and_eq_true,decide_eq_true_eq] at hv
 obtain ⟨h1,h2⟩:=hv
 refine ⟨h2,fun k k0 k1=>?_⟩
 have:=findF_isNone _ _ |>.1 h1 k k0 (by omega)
 simp only [Bool.not_eq_false'] at this
 have t:=this
 unfold v178_0 at this
 rw [v72,v72] at this
 simp only [Bool.cond_eq_ite,Bool.and_eq_true,decide_eq_true_eq] at this
 split at this
 ·simp only [Bool.and_eq_true,decide_eq_true_eq] at this
  exact ⟨by omega,by omega,t⟩
 ·cases this
theorem P121 (vs:List AV) (p t s:Int) (qs:List AV) (h:vs.length≤1048576) (h':qs.length≤1048576):q121 vs p t s qs=true∧v121_0 vs p t s qs=(v100_0 vs && (v126_0 p t s && v127_0 qs)):=by
 obtain ⟨a1,a2⟩:=P95 vs h
 obtain ⟨b1,b2⟩:=P175 qs h'
 obtain ⟨c1,c2⟩:=sett_both p t s
 unfold q121 v121_0
 rw [a1,a2,b1,b2,← c1]
 cases v100_0 vs <;> cases v126_0 p t s <;> exact ⟨rfl,rfl⟩
theorem P204 {vs rs ps:List AV} {pol thr seed v x:Int} {vs' rs' ps':List AV} {seed' tl:Int} (W:Wit vs rs ps pol thr seed v 0 [] x vs' rs' ps' seed' tl) (h:Col vs rs ps) (hS:Sett pol thr seed) (hv : -1000≤v∧v≤1000) :
  q204 vs rs ps pol thr seed v=true∧v204_0 vs rs ps pol thr seed v=vs'∧v204_1 vs rs ps pol thr seed v=rs'∧v204_2 vs rs ps pol thr seed v=ps'∧v204_3 vs rs ps pol thr seed v=pol∧v204_4 vs rs ps pol thr seed v=thr∧v204_5 vs rs ps pol thr seed v=seed'∧v204_6 vs rs ps pol thr seed v=tl:=by
 have h64:=h.n64
 have hlen:=h.len
 have hf:=col_few h
 obtain ⟨a1,a2⟩:=P71 vs rs ps (by omega) (by omega) (by omega)
 rw [(isC_iff vs rs ps (by omega)).2 h] at a2
 have b:=(sett_both pol thr seed).2.2 hS
 have c:=bound_of hv
 obtain ⟨d1,d2,d3,d4⟩:=P138 vs rs ps (by omega) (by omega) (by omega)
 obtain ⟨s0,s1,s2,s3,s4,s5,s6,s7,s8⟩:=W.spec
 have t0:=W.t0
 have t1:=W.t1
 unfold q204 v204_0 v204_1 v204_2 v204_3 v204_4 v204_5 v204_6
 rw [a1,a2,b,c,d1,d2,d3,d4,s0,s1,s2,s3,s4,s5,s6]
 generalize v226_9 pol thr seed v 0 vs rs ps []=L at s7 s8
 obtain ⟨e1,e2⟩:=P227 L (by simp at s8;omega)
 rw [e1,e2,s7,show tot []+tl=tl by show (0:Int)+tl=tl;omega,wrap_in (a:=tl) (by omega) (by omega)]
 exact ⟨rfl,rfl,rfl,rfl,rfl,rfl,rfl,rfl⟩
theorem q205_ok {vs rs ps:List AV} (h:Col vs rs ps) (a b:Int):q205 vs rs ps a b=true:=by
 have h64:=h.n64
 have hlen:=h.len
 have hf:=col_few h
 obtain ⟨a1,a2⟩:=P71 vs rs ps (by omega) (by omega) (by omega)
 rw [(isC_iff vs rs ps (by omega)).2 h] at a2
 unfold q205
 rw [a1,a2,v72]
 cases c1:decide (0≤a) with
 | false=>rfl
 | true =>
  cases c2:decide (a≤b) with
  | false=>rfl
  | true =>
   by_cases c3:b > (rs.length:Int)
   ·rw [decide_eq_true c3]
    rfl
   ·rw [decide_eq_false c3,decide_eq_true (by omega:b≤(rs.length:Int)),(P77 _ (by simp only [List.length_drop,List.length_take];omega)).1]
    rfl
theorem q225_ok {vs rs ps:List AV} (h:Col vs rs ps) (a b:Int):q225 vs rs ps a b=true:=by
 have h64:=h.n64
 have hlen:=h.len
 have hf:=col_few h
 obtain ⟨a1,a2⟩:=P39 vs rs ps (by omega) (by omega) (by omega)
 rw [(isC_iff vs rs ps (by omega)).2 h] at a2
 unfold q225
 rw [a1,a2]
 by_cases c1:a<0
 ·rw [decide_eq_true c1]
  rfl
 by_cases c2:a > b
 ·rw [decide_eq_false c1,decide_eq_true c2]
  rfl
 by_cases c3:b > (rs.length:Int)
 ·rw [decide_eq_false c1,decide_eq_false c2,decide_eq_true c3]
  rfl
 rw [decide_eq_false c1,decide_eq_false c2,decide_eq_false c3,decide_eq_true (by omega:0≤a),decide_eq_true (by omega:a≤b),decide_eq_true (by omega:b≤(rs.length:Int)),(P244 _ (by simp only [List.length_drop,List.length_take];omega)).1]
 rfl
structure Sel (vs rs ps:List AV) (pol thr seed lo hi x:Int) (vs' rs' ps':List AV) (seed' c:Int):Prop where
 ok:Col vs' rs' ps'
 n2:N2 ps'
 st:Sett pol thr seed'
 c0:0≤c
 c1:c≤400000
 spec:q179 vs rs ps pol thr seed lo hi=true∧v179_0 vs rs ps pol thr seed lo hi=vs'∧v179_1 vs rs ps pol thr seed lo hi=rs'∧v179_2 vs rs ps pol thr seed lo hi=ps' ∧
  v179_3 vs rs ps pol thr seed lo hi=pol∧v179_4 vs rs ps pol thr seed lo hi=thr∧v179_5 vs rs ps pol thr seed lo hi=seed'∧v179_7 vs rs ps pol thr seed lo hi=c
 imp:q202 pol thr seed lo hi vs rs ps x=true∧v202_0 pol thr seed lo hi vs rs ps x=vs'∧v202_1 pol thr seed lo hi vs rs ps x=rs'∧v202_2 pol thr seed lo hi vs rs ps x=ps' ∧
  v202_3 pol thr seed lo hi vs rs ps x=pol∧v202_4 pol thr seed lo hi vs rs ps x=thr∧v202_5 pol thr seed lo hi vs rs ps x=seed'∧v202_7 pol thr seed lo hi vs rs ps x=c
 lv:vs'.length=vs.length
theorem sel_both {vs rs ps:List AV} (h:Col vs rs ps) (hN:N2 ps) {pol thr seed lo hi:Int} (hS:Sett pol thr seed) (hlo : -1000≤lo∧lo≤1000) (hhi : -1000≤hi∧hi≤1000) (hr:v178_0 lo hi=true) (x:Int) :
  ∃ (vs' rs' ps':List AV) (seed' c:Int),Sel vs rs ps pol thr seed lo hi x vs' rs' ps' seed' c:=by
 obtain ⟨vs1,rs1,ps1,sd1,t1,W1⟩:=with_both h hN hS hlo 0 [] (by simp) x
 obtain ⟨vs2,rs2,ps2,sd2,t2,W2⟩:=with_both W1.ok W1.n2 W1.st hhi 0 [] (by simp) (v224_7 pol thr seed lo vs rs ps x)
 have h64:=h.n64
 have hlen:=h.len
 have hf:=col_few h
 have hf2:=col_few W2.ok
 obtain ⟨a1,a2⟩:=P71 vs rs ps (by omega) (by omega) (by omega)
 rw [(isC_iff vs rs ps (by omega)).2 h] at a2
 have b:=(sett_both pol thr seed).2.2 hS
 obtain ⟨s0,s1,s2,s3,s4,s5,s6,s7⟩:=P204 W1 h hS hlo
 obtain ⟨u0,u1,u2,u3,u4,u5,u6,u7⟩:=P204 W2 W1.ok W1.st hhi
 obtain ⟨i0,i1,i2,i3,i4,i5,i6,i7⟩:=W1.imp
 obtain ⟨j0,j1,j2,j3,j4,j5,j6,j7⟩:=W2.imp
 have f1:=(P21 vs2 rs2 ps2 lo (by omega)).1
 have f2:=(P21 vs2 rs2 ps2 hi (by omega)).1
 have g1:=(P19 vs2 rs2 ps2 lo (by omega)).1
 have g2:=(P19 vs2 rs2 ps2 hi (by omega)).1
 have c10:=W1.t0
 have c11:=W1.t1
 have c20:=W2.t0
 have c21:=W2.t1
 have wc:IntKind.i64.wrap (t1+t2)=t1+t2:=wrap_in (by omega) (by omega)
 refine ⟨vs2,rs2,ps2,sd2,t1+t2,W2.ok,W2.n2,W2.st,by omega,by omega,?_,?_,by rw [W2.lv];exact W1.lv⟩
 ·unfold q179 v179_0 v179_1 v179_2 v179_3 v179_4 v179_5 v179_7
  rw [a1,a2,b,hr,s0,s1,s2,s3,s4,s5,s6,s7,u0,u1,u2,u3,u4,u5,u6,u7,f1,f2,q205_ok W2.ok,wc]
  exact ⟨rfl,rfl,rfl,rfl,rfl,rfl,rfl,rfl⟩
 ·unfold q202 v202_0 v202_1 v202_2 v202_3 v202_4 v202_5 v202_7
  rw [i0,i1,i2,i3,i4,i5,i6,i7,j0,j1,j2,j3,j4,j5,j6,j7,g1,g2,q225_ok W2.ok,wc]
  exact ⟨rfl,rfl,rfl,rfl,rfl,rfl,rfl,rfl⟩
abbrev QS:=Int × List AV × List AV × List AV × List AV × List AV × Int × Int × Int
abbrev QI:=Int × List AV × List AV × List AV × Int × Int × Int × List AV × List AV
structure QInv (qs:List AV) (pol thr:Int) (nv:Nat) (s:QS) (s':QI):Prop where
 k0:0≤s.1
 k1:s.1≤qs.length
 ek:s'.1=s.1
 e0:s'.2.1=s.2.1
 e1:s'.2.2.1=s.2.2.1
 e2:s'.2.2.2.1=s.2.2.2.1
 e3:s'.2.2.2.2.1=pol∧s.2.2.2.2.2.2.1=pol
 e4:s'.2.2.2.2.2.1=thr∧s.2.2.2.2.2.2.2.1=thr
 e5:s'.2.2.2.2.2.2.1=s.2.2.2.2.2.2.2.2
 e6:s'.2.2.2.2.2.2.2.2=s.2.2.2.2.2.1
 l5:(s.2.2.2.2.1.length:Int)=s.1
 l6:(s.2.2.2.2.2.1.length:Int)=s.1
 l7:(s'.2.2.2.2.2.2.2.1.length:Int)=s.1
 c:Col s.2.1 s.2.2.1 s.2.2.2.1
 n:N2 s.2.2.2.1
 st:Sett pol thr s.2.2.2.2.2.2.2.2
 lv:s.2.1.length=nv
 cb:∀ j:Int,0≤j→j<s.2.2.2.2.2.1.length→0≤el s.2.2.2.2.2.1 j∧el s.2.2.2.2.2.1 j≤400000
structure QEnd (nv:Nat) (r:List AV × List AV × List AV × List AV × List AV × Int × Int × Int) (r':List AV × List AV × List AV × Int × Int × Int × List AV × List AV):Prop where
 e0:r'.1=r.1
 e1:r'.2.1=r.2.1
 e2:r'.2.2.1=r.2.2.1
 e4:r'.2.2.2.2.2.2.2=r.2.2.2.2.1
 l:r.2.2.2.2.1.length≤30
 c:Col r.1 r.2.1 r.2.2.1
 lv:r.1.length=nv
 cb:∀ j:Int,0≤j→j<r.2.2.2.2.1.length→0≤el r.2.2.2.2.1 j∧el r.2.2.2.2.1 j≤400000
theorem room24 (n:Nat) (y:AV) (h:n≤1048576):(decide ((n+[y].length)*24≤140737488355328) && decide (n+[y].length≤140737488355328))=true:=by
 simp only [List.length_singleton,Bool.and_eq_true,decide_eq_true_eq];omega
theorem room8 (n:Nat) (y:AV) (h:n≤1048576):(decide ((n+[y].length)*8≤140737488355328) && decide (n+[y].length≤140737488355328))=true:=by
 simp only [List.length_singleton,Bool.and_eq_true,decide_eq_true_eq];omega
theorem room16 (n:Nat) (y:AV) (h:n≤1048576):(decide ((n+[y].length)*16≤140737488355328) && decide (n+[y].length≤140737488355328))=true:=by
 simp only [List.length_singleton,Bool.and_eq_true,decide_eq_true_eq];omega
theorem run_both {qs:List AV} (h30:qs.length≤30) (hq:∀ k:Int,0≤k→k<qs.length→(-1000≤fI (qs.getD k.toNat .undef) 0∧fI (qs.getD k.toNat .undef) 0≤1000)∧(-1000≤fI (qs.getD k.toNat .undef) 1∧fI (qs.getD k.toNat .undef) 1≤1000)∧v178_0 (fI (qs.getD k.toNat .undef) 0) (fI (qs.getD k.toNat .undef) 1)=true)
  {vs rs ps:List AV} (h:Col vs rs ps) (hN:N2 ps) {pol thr seed:Int} (hS:Sett pol thr seed) :
  ∃ r r',runW (R128_0 qs) (((qs.length:Int) - 0).toNat+1) (0,vs,rs,ps,[],[],pol,thr,seed)=some r∧runW (R176_0 qs qs.length) (((qs.length:Int) - 0).toNat+1) (0,vs,rs,ps,pol,thr,seed,[],[])=some r'∧QEnd vs.length r r':=by
 refine runW_pair (f:=R128_0 qs) (g:=R176_0 qs qs.length) (QInv qs pol thr vs.length) (QEnd vs.length) (fun s=>((qs.length:Int) - s.1).toNat) (fun s s' hI=>?_) _ _ _ _ ⟨Int.le_refl _,by simp,rfl,rfl,rfl,rfl,⟨rfl,rfl⟩,⟨rfl,rfl⟩,rfl,rfl,rfl,rfl,rfl,h,hN,hS,rfl,fun j j0 j1=>by simp at j1;omega⟩ (by simp only;omega) (by simp only;omega)
 obtain ⟨k,a0,a1,a2,h5,h6,p,t,sd⟩:=s
 obtain ⟨k',b0,b1,b2,p',t',sd',h7,h8⟩:=s'
 obtain ⟨k0,k1,ek,e0,e1,e2,⟨e3,e3'⟩,⟨e4,e4'⟩,e5,e6,l5,l6,l7,c,n,st,lv,cb⟩:=hI
 simp only at k0 k1 ek e0 e1 e2 e3 e3' e4 e4' e5 e6 l5 l6 l7 c n st lv cb
 subst ek e0 e1 e2 e3 e4 e5 e6 e3' e4'
 by_cases hk:k'<qs.length
 ·have d1:decide (k'<(qs.length:Int))=true:=decide_eq_true hk
  have d2:decide (0≤k')=true:=decide_eq_true k0
  have wk:IntKind.i64.wrap (k'+1)=k'+1:=wrap_in (by omega) (by omega)
  obtain ⟨r0,r1,r2⟩:=hq k' k0 hk
  obtain ⟨vs1,rs1,ps1,sd1,cst,S⟩:=sel_both c n st r0 r1 r2 k'
  obtain ⟨u0,u1,u2,u3,u4,u5,u6,u7⟩:=S.spec
  obtain ⟨w0,w1,w2,w3,w4,w5,w6,w7⟩:=S.imp
  refine .inl ⟨(k'+1,vs1,rs1,ps1,h5++[AV.sl [.int .i64] (v179_6 b0 b1 b2 p t sd' (fI (qs.getD k'.toNat AV.undef) 0) (fI (qs.getD k'.toNat AV.undef) 1))],h8++[AV.int .i64 cst],p,t,sd1),
   (k'+1,vs1,rs1,ps1,p,t,sd1,h7++[AV.sl [.int .i64] (v202_6 p t sd' (fI (qs.getD k'.toNat AV.undef) 0) (fI (qs.getD k'.toNat AV.undef) 1) b0 b1 b2 k')],h8++[AV.int .i64 cst]),?_,?_,?_,?_⟩
  ·simp only [R128_0,F128_0,G128_0,d1,d2,u0,u1,u2,u3,u4,u5,u6,u7,wk,Bool.and_self,cond_true,room24 h5.length _ (by omega),room8 h8.length _ (by omega)]
  ·simp only [R176_0,F176_0,G176_0,d1,d2,w0,w1,w2,w3,w4,w5,w6,w7,wk,Bool.and_self,cond_true,room24 h7.length _ (by omega),room8 h8.length _ (by omega)]
  ·exact ⟨by simp only;omega,by simp only;omega,rfl,rfl,rfl,rfl,⟨rfl,rfl⟩,⟨rfl,rfl⟩,rfl,rfl,by simp only [List.length_append,List.length_singleton];omega,by simp only [List.length_append,List.length_singleton];omega,by simp only [List.length_append,List.length_singleton];omega,S.ok,S.n2,S.st,S.lv.trans lv,fun j j0 j1=>by
    simp only [List.length_append,List.length_singleton] at j1 ⊢
    rw [el_app _ _ _ j0]
    split
    ·exact cb j j0 (by assumption)
    ·rw [if_pos (by omega)]
     exact ⟨S.c0,S.c1⟩⟩
  ·simp only;omega
 ·have d1:decide (k'<(qs.length:Int))=false:=decide_eq_false hk
  refine .inr ⟨(b0,b1,b2,h5,h8,p,t,sd'),(b0,b1,b2,p,t,sd',h7,h8),?_,?_,rfl,rfl,rfl,rfl,by simp only;omega,c,lv,cb⟩
  ·simp only [R128_0,F128_0,G128_0,d1,cond_false]
  ·simp only [R176_0,F176_0,G176_0,d1,cond_false]
structure Rq (vs:List AV) (pol thr seed:Int) (qs vs' rs' ps' cs:List AV):Prop where
 ok:Col vs' rs' ps'
 l:cs.length≤30
 spec:q128 vs pol thr seed qs=true∧v128_0 vs pol thr seed qs=vs'∧v128_1 vs pol thr seed qs=rs'∧v128_2 vs pol thr seed qs=ps'∧v128_4 vs pol thr seed qs=cs
 imp:q122 vs pol thr seed qs=true∧v122_0 vs pol thr seed qs=vs'∧v122_1 vs pol thr seed qs=rs'∧v122_2 vs pol thr seed qs=ps'∧v122_4 vs pol thr seed qs=cs
 lv:vs'.length=vs.length
 cb:∀ j:Int,0≤j→j<cs.length→0≤el cs j∧el cs j≤400000
theorem rq_both {vs qs:List AV} {pol thr seed:Int} (hl:vs.length≤1048576) (hq:qs.length≤1048576) (h1:v100_0 vs=true) (h2:v126_0 pol thr seed=true) (h3:v127_0 qs=true) :
  ∃ vs' rs' ps' cs,Rq vs pol thr seed qs vs' rs' ps' cs:=by
 obtain ⟨m0,m1⟩:=rng_ok hq h3
 obtain ⟨r,r',k1,k2,k3⟩:=run_both m0 m1 (Col_new vs hl h1) N2_nil ((sett_both pol thr seed).2.1 h2)
 obtain ⟨a0,a1,a2,a3⟩:=P99 vs hl
 obtain ⟨b0,b1,b2,b3⟩:=P96 vs hl
 obtain ⟨c0,c1⟩:=P121 vs pol thr seed qs hl hq
 obtain ⟨d0,d1⟩:=P100 vs hl
 obtain ⟨f0,f1⟩:=P127 qs hq
 rw [h1] at a1 a2 b1 b2
 simp only [cond_true] at a1 a2 b1 b2
 refine ⟨r.1,r.2.1,r.2.2.1,r.2.2.2.2.1,k3.c,k3.l,?_,?_,k3.lv,k3.cb⟩
 ·unfold q128 v128_0 v128_1 v128_2 v128_4
  rw [a0,a1,a2,a3,d0,f0,h1,h2,h3,k1]
  exact ⟨rfl,rfl,rfl,rfl,rfl⟩
 ·unfold q122 v122_0 v122_1 v122_2 v122_4 q176 v176_0 v176_1 v176_2 v176_4
  rw [b0,b1,b2,b3,c0,c1,h1,h2,h3,k2]
  exact ⟨rfl,k3.e0,k3.e1,k3.e2,k3.e4⟩
theorem getD_mapA (f:AV→AV) (xs:List AV) (k:Int) (h0:0≤k) (h1:k<xs.length):(xs.map f).getD k.toNat .undef=f (xs.getD k.toNat .undef):=by
 rw [List.getD_eq_getElem?_getD,List.getD_eq_getElem?_getD,List.getElem?_map,List.getElem?_eq_getElem (by omega)]
 rfl
def cE (x:AV):AV := .int .i64 (fI x 1)
theorem P85 (vs rs ps:List AV) (h:vs.length≤1048576) (h':ps.length≤1048576):q85 vs rs ps=true∧v85_0 vs rs ps=(ps++[mk2 0 vs.length]).map cE:=by
 obtain ⟨r,h1,h2⟩:=runW_ends (f:=R85_0 vs rs ps) (fun s:Int × List AV=>0≤s.1∧s.1≤ps.length∧s.2=(ps.take s.1.toNat).map cE) (fun r=>r=ps.map cE) (fun s=>((ps.length:Int) - s.1).toNat) (fun s hI=>by
  obtain ⟨k,t⟩:=s
  obtain ⟨k0,k1,e⟩:=hI
  simp only at k0 k1 e
  have lt:t.length≤1048576:=by rw [e];simp only [List.length_map,List.length_take];omega
  by_cases hk:k<ps.length
  ·have d1:decide (k<(ps.length:Int))=true:=decide_eq_true hk
   have d2:decide (0≤k)=true:=decide_eq_true k0
   have wk:IntKind.i64.wrap (k+1)=k+1:=wrap_in (by omega) (by omega)
   refine .inl ⟨(k+1,t++[AV.int .i64 (fI (ps.getD k.toNat AV.undef) 1)]),by simp only [R85_0,F85_0,G85_0,d1,d2,wk,Bool.and_self,cond_true,room8 t.length _ lt],⟨by simp only;omega,by simp only;omega,?_⟩,by simp only;omega⟩
   simp only
   rw [e,take_snoc k0 hk,List.map_append]
   rfl
  ·have d1:decide (k<(ps.length:Int))=false:=decide_eq_false hk
   have ek:k.toNat=ps.length:=by omega
   exact .inr ⟨t,by simp only [R85_0,F85_0,G85_0,d1,cond_false],by rw [e,ek,List.take_length]⟩) (((ps.length:Int) - 0:Int).toNat+1) (0,[]) ⟨Int.le_refl _,by simp,rfl⟩ (by simp only;omega)
 subst h2
 unfold q85 v85_0
 rw [h1]
 simp only [ro]
 rw [room8 (ps.map cE).length _ (by rw [List.length_map];exact h'),List.map_append]
 exact ⟨rfl,rfl⟩
def maxW (l:List AV):Int:=l.foldl (fun m x=>if IntKind.i64.wrap (fI x 1 - fI x 0) > m then IntKind.i64.wrap (fI x 1 - fI x 0) else m) 0
theorem maxW_snoc (l:List AV) (x:AV):maxW (l++[x])=if IntKind.i64.wrap (fI x 1 - fI x 0) > maxW l then IntKind.i64.wrap (fI x 1 - fI x 0) else maxW l:=by
 unfold maxW
 rw [List.foldl_append]
 rfl
theorem P125m (l:List AV) (h:l.length≤1048576):runW (R125_0 l.length l) (((l.length:Int) - 0).toNat+1) (0,0)=some (maxW l):=by
 obtain ⟨r,h1,h2⟩:=runW_ends (f:=R125_0 l.length l) (fun s:Int × Int=>0≤s.2∧s.2≤l.length∧s.1=maxW (l.take s.2.toNat)) (fun r=>r=maxW l) (fun s=>((l.length:Int) - s.2).toNat) (fun s hI=>by
  obtain ⟨t,k⟩:=s
  obtain ⟨k0,k1,e⟩:=hI
  simp only at k0 k1 e
  by_cases hk:k<l.length
  ·have d1:decide (k<(l.length:Int))=true:=decide_eq_true hk
   have d2:decide (0≤k)=true:=decide_eq_true k0
   have wk:IntKind.i64.wrap (k+1)=k+1:=wrap_in (by omega) (by omega)
   refine .inl ⟨(if IntKind.i64.wrap (fI (l.getD k.toNat AV.undef) 1 - fI (l.getD k.toNat AV.undef) 0) > t then IntKind.i64.wrap (fI (l.getD k.toNat AV.undef) 1 - fI (l.getD k.toNat AV.undef) 0) else t,k+1),by simp only [R125_0,F125_0,G125_0,d1,d2,wk,Bool.and_self,cond_true],⟨by simp only;omega,by simp only;omega,?_⟩,by simp only;omega⟩
   simp only
   rw [e,take_snoc k0 hk,maxW_snoc]
  ·have d1:decide (k<(l.length:Int))=false:=decide_eq_false hk
   have ek:k.toNat=l.length:=by omega
   exact .inr ⟨t,by simp only [R125_0,F125_0,G125_0,d1,cond_false],by rw [e,ek,List.take_length]⟩) (((l.length:Int) - 0:Int).toNat+1) (0,0) ⟨Int.le_refl _,by simp,rfl⟩ (by simp only;omega)
 rw [h1,h2]
theorem pieces_both {P:List AV} (hP:P.length≤3000) (hb:∀ k:Int,0≤k→k<P.length→0≤pat P k∧pat P k≤64) {vs rs ps:List AV} (hc:q71 vs rs ps=true) (hv:v71_0 vs rs ps=true) :
  ∃ l:List AV,runW (R81_0 P.length P) (((P.length:Int) - 0).toNat+1) (0,0,[])=some l∧l.length≤3000 ∧
   runW (R34_0 vs rs ps (P.map cE)) ((((P.map cE).length:Int) - 0).toNat+1) (0,0,0)=some (l.length:Int) ∧
   runW (R129_0 vs rs ps (P.map cE)) ((((P.map cE).length:Int) - 0).toNat+1) (0,0,0)=some (maxW l):=by
 have lm:(P.map cE).length=P.length:=List.length_map _
 have em:∀ k:Int,0≤k→k<P.length→fI ((P.map cE).getD k.toNat .undef) 0=pat P k:=fun k k0 k1=>by
  rw [getD_mapA cE P k k0 k1]
  rfl
 obtain ⟨l,c,h1,h2,h3,h4⟩:=runW_pair (f:=R81_0 P.length P) (g:=R34_0 vs rs ps (P.map cE)) (fun (s:Int × Int × List AV) (s':Int × Int × Int)=>s'.2.2=s.2.1∧s'.2.1=s.1∧s'.1=s.2.2.length∧0≤s.2.1∧s.2.1≤P.length∧(s.2.2.length:Int)≤s.2.1)
  (fun l c=>c=(l.length:Int)∧l.length≤3000) (fun s=>((P.length:Int) - s.2.1).toNat) (fun s s' hI=>by
   obtain ⟨la,k,l⟩:=s
   obtain ⟨c,la',k'⟩:=s'
   obtain ⟨e1,e2,e3,k0,k1,hl⟩:=hI
   simp only at e1 e2 e3 k0 k1 hl
   subst e1 e2 e3
   by_cases hk:k'<P.length
   ·have d1:decide (k'<(P.length:Int))=true:=decide_eq_true hk
    have d2:decide (0≤k')=true:=decide_eq_true k0
    have wk:IntKind.i64.wrap (k'+1)=k'+1:=wrap_in (by omega) (by omega)
    have wl:IntKind.i64.wrap ((l.length:Int)+1)=(l.length:Int)+1:=wrap_in (by omega) (by omega)
    have e:=em k' k0 hk
    have e':fI (P.getD k'.toNat .undef) 1=pat P k':=rfl
    cases hd:decide (pat P k' > la') with
    | true =>
     refine .inl ⟨(pat P k',k'+1,l++[AV.agg [AV.int .i64 la',AV.int .i64 (pat P k')]]),((l.length:Int)+1,pat P k',k'+1),?_,?_,⟨rfl,rfl,by simp,by simp only;omega,by simp only;omega,by simp only [List.length_append,List.length_singleton];omega⟩,by simp only;omega⟩
     ·simp only [R81_0,F81_0,G81_0,d1,d2,e',hd,wk,Bool.and_self,cond_true,room16 l.length _ (by omega)]
     ·simp only [R34_0,F34_0,G34_0,lm,d1,d2,hc,hv,e,hd,wk,wl,Bool.and_self,cond_true]
    | false =>
     refine .inl ⟨(pat P k',k'+1,l),((l.length:Int),pat P k',k'+1),?_,?_,⟨rfl,rfl,rfl,by simp only;omega,by simp only;omega,by simp only;omega⟩,by simp only;omega⟩
     ·simp only [R81_0,F81_0,G81_0,d1,d2,e',hd,wk,Bool.and_self,cond_true,cond_false]
     ·simp only [R34_0,F34_0,G34_0,lm,d1,d2,hc,hv,e,hd,wk,wl,Bool.and_self,cond_true,cond_false]
   ·have d1:decide (k'<(P.length:Int))=false:=decide_eq_false hk
    refine .inr ⟨l,(l.length:Int),?_,?_,rfl,by omega⟩
    ·simp only [R81_0,F81_0,G81_0,d1,cond_false]
    ·simp only [R34_0,F34_0,G34_0,lm,d1,cond_false]) (((P.length:Int) - 0).toNat+1) ((((P.map cE).length:Int) - 0).toNat+1) (0,0,[]) (0,0,0) ⟨rfl,rfl,rfl,Int.le_refl _,by simp,by simp⟩ (by simp only;omega) (by rw [lm];simp only;omega)
 obtain ⟨l',c',g1,g2,g3⟩:=runW_pair (f:=R81_0 P.length P) (g:=R129_0 vs rs ps (P.map cE)) (fun (s:Int × Int × List AV) (s':Int × Int × Int)=>s'.2.2=s.2.1∧s'.2.1=s.1∧s'.1=maxW s.2.2∧0≤s.2.1∧s.2.1≤P.length∧(s.2.2.length:Int)≤s.2.1∧0≤s.1∧s.1≤64∧0≤maxW s.2.2)
  (fun l c=>c=maxW l) (fun s=>((P.length:Int) - s.2.1).toNat) (fun s s' hI=>by
   obtain ⟨la,k,l⟩:=s
   obtain ⟨c,la',k'⟩:=s'
   obtain ⟨e1,e2,e3,k0,k1,hl,la0,la1,m0⟩:=hI
   simp only at e1 e2 e3 k0 k1 hl la0 la1 m0
   subst e1 e2 e3
   by_cases hk:k'<P.length
   ·have d1:decide (k'<(P.length:Int))=true:=decide_eq_true hk
    have d2:decide (0≤k')=true:=decide_eq_true k0
    have wk:IntKind.i64.wrap (k'+1)=k'+1:=wrap_in (by omega) (by omega)
    have e:=em k' k0 hk
    have e':fI (P.getD k'.toNat .undef) 1=pat P k':=rfl
    obtain ⟨b0,b1⟩:=hb k' k0 hk
    have ws:IntKind.i64.wrap (pat P k' - la')=pat P k' - la':=wrap_in (by omega) (by omega)
    have s1:maxW (l++[AV.agg [AV.int .i64 la',AV.int .i64 (pat P k')]])=if pat P k' - la' > maxW l then pat P k' - la' else maxW l:=by
     rw [maxW_snoc,← ws]
     rfl
    by_cases hd:pat P k' > la'
    ·refine .inl ⟨(pat P k',k'+1,l++[AV.agg [AV.int .i64 la',AV.int .i64 (pat P k')]]),(if pat P k' - la' > maxW l then pat P k' - la' else maxW l,pat P k',k'+1),?_,?_,⟨rfl,rfl,s1.symm,by simp only;omega,by simp only;omega,by simp only [List.length_append,List.length_singleton];omega,b0,b1,?_⟩,by simp only;omega⟩
     ·simp only [R81_0,F81_0,G81_0,d1,d2,e',decide_eq_true hd,wk,Bool.and_self,cond_true,room16 l.length _ (by omega)]
     ·simp only [R129_0,F129_0,G129_0,lm,d1,d2,hc,hv,e,ws,wk,Bool.and_self,cond_true]
     ·simp only;rw [s1];split <;> omega
    ·refine .inl ⟨(pat P k',k'+1,l),(maxW l,pat P k',k'+1),?_,?_,⟨rfl,rfl,rfl,by simp only;omega,by simp only;omega,by simp only;omega,b0,b1,m0⟩,by simp only;omega⟩
     ·simp only [R81_0,F81_0,G81_0,d1,d2,e',decide_eq_false hd,wk,Bool.and_self,cond_true,cond_false]
     ·simp only [R129_0,F129_0,G129_0,lm,d1,d2,hc,hv,e,ws,wk,Bool.and_self,cond_true,if_neg (by omega:¬ pat P k' - la' > maxW l)]
   ·have d1:decide (k'<(P.length:Int))=false:=decide_eq_false hk
    refine .inr ⟨l,maxW l,?_,?_,rfl⟩
    ·simp only [R81_0,F81_0,G81_0,d1,cond_false]
    ·simp only [R129_0,F129_0,G129_0,lm,d1,cond_false]) (((P.length:Int) - 0).toNat+1) ((((P.map cE).length:Int) - 0).toNat+1) (0,0,[]) (0,0,0) ⟨rfl,rfl,rfl,Int.le_refl _,by simp,by simp,Int.le_refl _,by simp,Int.le_refl _⟩ (by simp only;omega) (by rw [lm];simp only;omega)
 rw [h1] at g1
 obtain rfl:=Option.some.inj g1
 exact ⟨l,h1,h4,by rw [h2,h3],by rw [g2,g3]⟩
theorem pat_app (ps:List AV) (y:AV) (k:Int) (h0:0≤k) (h1:k<ps.length+1):pat (ps++[y]) k=if k<ps.length then pat ps k else fI y 1:=by
 unfold pat
 rw [List.getD_eq_getElem?_getD]
 by_cases h:k<ps.length
 ·rw [if_pos h,List.getElem?_append_left (by omega),List.getD_eq_getElem?_getD]
 ·rw [if_neg h,List.getElem?_append_right (by omega),show k.toNat - ps.length=0 by omega]
  rfl
theorem P124 {vs rs ps:List AV} (h:Col vs rs ps):q34 vs rs ps=true∧q129 vs rs ps=true∧q124 vs rs ps=true∧q125 vs rs ps=true∧v124_0 vs rs ps=v34_0 vs rs ps∧v125_0 vs rs ps=v129_0 vs rs ps:=by
 have h64:=h.n64
 have hlen:=h.len
 have hf:=col_few h
 have hi:=(isC_iff vs rs ps (by omega)).2 h
 obtain ⟨a1,a2⟩:=P71 vs rs ps (by omega) (by omega) (by omega)
 obtain ⟨b1,b2⟩:=P39 vs rs ps (by omega) (by omega) (by omega)
 rw [hi] at a2 b2
 obtain ⟨c1,c2⟩:=P85 vs rs ps (by omega) (by omega)
 obtain ⟨d1,d2⟩:=P152 ps (by omega)
 have lp:(ps++[mk2 0 vs.length]).length=ps.length+1:=by simp
 obtain ⟨l,e1,e2,e3,e4⟩:=pieces_both (P:=ps++[mk2 0 vs.length]) (by omega) (fun k k0 k1=>by
  rw [pat_app ps _ k k0 (by omega)]
  split
  ·have:=h.pa k k0 (by assumption)
   omega
  ·show 0≤(vs.length:Int)∧(vs.length:Int)≤64
   omega) a1 a2
 unfold q34 q129 q124 q125 v34_0 v129_0 v124_0 v125_0 q81 v81_0
 rw [b1,b2,c1,c2,d1,d2,e3,e4]
 unfold mk2 at e1
 rw [e1,room16 ps.length _ (by omega)]
 simp only [ro]
 rw [P125m l (by omega)]
 exact ⟨rfl,rfl,rfl,rfl,rfl,rfl⟩
theorem outcome_both (vs qs:List AV) (pol thr seed:Int) (hl:vs.length≤1048576) (hq:qs.length≤1048576) :
  q60 vs pol thr seed qs=true∧q59 vs pol thr seed qs=true∧v59_0 vs pol thr seed qs=v60_0 vs pol thr seed qs∧v59_1 vs pol thr seed qs=v60_1 vs pol thr seed qs∧v59_2 vs pol thr seed qs=v60_2 vs pol thr seed qs ∧
   v59_3 vs pol thr seed qs=v60_3 vs pol thr seed qs∧v59_4 vs pol thr seed qs=v60_4 vs pol thr seed qs∧v59_5 vs pol thr seed qs=v60_5 vs pol thr seed qs:=by
 obtain ⟨c0,c1⟩:=P121 vs pol thr seed qs hl hq
 obtain ⟨d0,d1⟩:=P100 vs hl
 obtain ⟨f0,f1⟩:=P127 qs hq
 unfold q60 q59 v60_0 v60_1 v60_2 v60_3 v60_4 v60_5 v59_0 v59_1 v59_2 v59_3 v59_4 v59_5
 rw [c0,c1,d0,f0]
 cases h1:v100_0 vs with
 | false=>exact ⟨rfl,rfl,rfl,rfl,rfl,rfl,rfl,rfl⟩
 | true =>
  cases h2:v126_0 pol thr seed with
  | false=>exact ⟨rfl,rfl,rfl,rfl,rfl,rfl,rfl,rfl⟩
  | true =>
   cases h3:v127_0 qs with
   | false=>exact ⟨rfl,rfl,rfl,rfl,rfl,rfl,rfl,rfl⟩
   | true =>
    obtain ⟨vs',rs',ps',cs,W⟩:=rq_both hl hq h1 h2 h3
    obtain ⟨s0,s1,s2,s3,s4⟩:=W.spec
    obtain ⟨i0,i1,i2,i3,i4⟩:=W.imp
    have lc:=W.l
    obtain ⟨g1,g2,g3,g4,g5,g6⟩:=P124 W.ok
    obtain ⟨x1,x2⟩:=P92 cs (by omega)
    obtain ⟨m,y1,y2⟩:=run60 cs 0 0 0 0 0 pol (v93_0 cs) (v34_0 vs' rs' ps') (v129_0 vs' rs' ps') (by omega)
    obtain ⟨z1,z2⟩:=P123 cs (by omega)
    rw [s0,s1,s2,s3,s4,i0,i1,i2,i3,i4,g1,g2,g3,g4,g5,g6,x1,x2,P93 cs (by omega),y1,z1,room8 cs.length _ (by omega),Top.eq z2 y2]
    exact ⟨rfl,rfl,rfl,rfl,rfl,rfl,rfl,rfl⟩
theorem room40 (n:Nat) (y:AV) (h:n≤1048576):(decide ((n+[y].length)*40≤140737488355328) && decide (n+[y].length≤140737488355328))=true:=by
 rw [decide_eq_true (by show (n+1)*40≤_;omega),decide_eq_true (by show n+1≤_;omega)];rfl
def oc (vs:List AV) (thr seed:Int) (qs:List AV) (p:Int):AV:=AV.agg [AV.int .i64 (v60_0 vs p thr seed qs),AV.int .i64 (v60_1 vs p thr seed qs),AV.int .i64 (v60_2 vs p thr seed qs),AV.int .i64 (v60_3 vs p thr seed qs),AV.int .i64 (v60_4 vs p thr seed qs)]
theorem step50 {vs qs:List AV} {thr seed:Int} (hl:vs.length≤1048576) (hq:qs.length≤1048576) (p:Int) (p1:p≤2) (p0:0≤p) (L:List AV) (hL:L.length≤1048576) :
  R50_0 vs thr seed qs (p,L) = .next (p+1,bif v60_5 vs p thr seed qs then L++[oc vs thr seed qs p] else L):=by
 obtain ⟨x1,x2,y0,y1,y2,y3,y4,y5⟩:=outcome_both vs qs p thr seed hl hq
 show F50_0 vs thr seed qs p L=_
 unfold F50_0 G50_0
 rw [x1,room40 L.length _ hL,wrap_in (by omega) (by omega),decide_eq_true p1]
 simp only [cond_true]
 cases v60_5 vs p thr seed qs <;> rfl
theorem step49 {vs qs:List AV} {thr seed:Int} (hl:vs.length≤1048576) (hq:qs.length≤1048576) (p:Int) (p1:p≤2) (p0:0≤p) (L:List AV) (hL:L.length≤1048576) :
  R49_0 vs thr seed qs (p,L)=bif v60_5 vs p thr seed qs then .next (p+1,L++[oc vs thr seed qs p]) else .stop (.inr (L,v60_0 vs p thr seed qs,v60_1 vs p thr seed qs,v60_2 vs p thr seed qs,v60_3 vs p thr seed qs,v60_4 vs p thr seed qs)):=by
 obtain ⟨x1,x2,y0,y1,y2,y3,y4,y5⟩:=outcome_both vs qs p thr seed hl hq
 show F49_0 vs thr seed qs p L=_
 unfold F49_0 G49_0
 rw [x2,y0,y1,y2,y3,y4,y5,room40 L.length _ hL,wrap_in (by omega) (by omega),decide_eq_true p1]
 simp only [cond_true]
 cases v60_5 vs p thr seed qs <;> rfl
theorem cmp_both (vs qs:List AV) (thr seed:Int) (hl:vs.length≤1048576) (hq:qs.length≤1048576) :
  q50 vs thr seed qs=true∧q49 vs thr seed qs=true∧v49_0 vs thr seed qs=v50_0 vs thr seed qs ∧
   (v50_0 vs thr seed qs=[]∨v60_5 vs 0 thr seed qs=true∧v50_0 vs thr seed qs=[oc vs thr seed qs 0,oc vs thr seed qs 1,oc vs thr seed qs 2]):=by
 have b1:v60_5 vs 1 thr seed qs=v60_5 vs 0 thr seed qs:=rfl
 have b2:v60_5 vs 2 thr seed qs=v60_5 vs 0 thr seed qs:=rfl
 have s0:=fun L hL=>step50 (thr:=thr) (seed:=seed) hl hq 0 (by decide) (by decide) L hL
 have s1:=fun L hL=>step50 (thr:=thr) (seed:=seed) hl hq 1 (by decide) (by decide) L hL
 have s2:=fun L hL=>step50 (thr:=thr) (seed:=seed) hl hq 2 (by decide) (by decide) L hL
 have i0:=fun L hL=>step49 (thr:=thr) (seed:=seed) hl hq 0 (by decide) (by decide) L hL
 have i1:=fun L hL=>step49 (thr:=thr) (seed:=seed) hl hq 1 (by decide) (by decide) L hL
 have i2:=fun L hL=>step49 (thr:=thr) (seed:=seed) hl hq 2 (by decide) (by decide) L hL
 rw [b1] at s1 i1
 rw [b2] at s2 i2
 have f:(2 - 0+1:Int).toNat+1=4:=rfl
 have e3:∀ L,runW (R50_0 vs thr seed qs) 1 (3,L)=some L:=fun L=>rfl
 have g3:∀ L,runW (R49_0 vs thr seed qs) 1 (3,L)=some (.inl L):=fun L=>rfl
 have n0:([]:List AV).length≤1048576:=by decide
 cases hb:v60_5 vs 0 thr seed qs with
 | false =>
  rw [hb] at s0 s1 s2 i0
  have r:runW (R50_0 vs thr seed qs) 4 (0,[])=some []:=by
   show (R50_0 vs thr seed qs (0,[])).el none (fun s=>runW (R50_0 vs thr seed qs) 3 s) some=_
   rw [s0 [] n0]
   show (R50_0 vs thr seed qs (1,[])).el none (fun s=>runW (R50_0 vs thr seed qs) 2 s) some=_
   rw [s1 [] n0]
   show (R50_0 vs thr seed qs (2,[])).el none (fun s=>runW (R50_0 vs thr seed qs) 1 s) some=_
   rw [s2 [] n0]
   exact e3 _
  have r':∃ x,runW (R49_0 vs thr seed qs) 4 (0,[])=some (.inr x):=by
   refine ⟨([],v60_0 vs 0 thr seed qs,v60_1 vs 0 thr seed qs,v60_2 vs 0 thr seed qs,v60_3 vs 0 thr seed qs,v60_4 vs 0 thr seed qs),?_⟩
   show (R49_0 vs thr seed qs (0,[])).el none (fun s=>runW (R49_0 vs thr seed qs) 3 s) some=_
   rw [i0 [] n0]
   rfl
  obtain ⟨x,r'⟩:=r'
  unfold q50 q49 v50_0 v49_0
  rw [f,r,r']
  exact ⟨rfl,rfl,rfl,.inl rfl⟩
 | true =>
  rw [hb] at s0 s1 s2 i0 i1 i2
  have n1:∀ x:AV,[x].length≤1048576:=fun x=>by show 1≤1048576;decide
  have n2:∀ x y:AV,[x,y].length≤1048576:=fun x y=>by show 2≤1048576;decide
  have r:runW (R50_0 vs thr seed qs) 4 (0,[])=some [oc vs thr seed qs 0,oc vs thr seed qs 1,oc vs thr seed qs 2]:=by
   show (R50_0 vs thr seed qs (0,[])).el none (fun s=>runW (R50_0 vs thr seed qs) 3 s) some=_
   rw [s0 [] n0]
   show (R50_0 vs thr seed qs (1,[oc vs thr seed qs 0])).el none (fun s=>runW (R50_0 vs thr seed qs) 2 s) some=_
   rw [s1 _ (n1 _)]
   show (R50_0 vs thr seed qs (2,[oc vs thr seed qs 0,oc vs thr seed qs 1])).el none (fun s=>runW (R50_0 vs thr seed qs) 1 s) some=_
   rw [s2 _ (n2 _ _)]
   exact e3 _
  have r':runW (R49_0 vs thr seed qs) 4 (0,[])=some (.inl [oc vs thr seed qs 0,oc vs thr seed qs 1,oc vs thr seed qs 2]):=by
   show (R49_0 vs thr seed qs (0,[])).el none (fun s=>runW (R49_0 vs thr seed qs) 3 s) some=_
   rw [i0 [] n0]
   show (R49_0 vs thr seed qs (1,[oc vs thr seed qs 0])).el none (fun s=>runW (R49_0 vs thr seed qs) 2 s) some=_
   rw [i1 _ (n1 _)]
   show (R49_0 vs thr seed qs (2,[oc vs thr seed qs 0,oc vs thr seed qs 1])).el none (fun s=>runW (R49_0 vs thr seed qs) 1 s) some=_
   rw [i2 _ (n2 _ _)]
   exact g3 _
  unfold q50 q49 v50_0 v49_0
  rw [f,r,r']
  exact ⟨rfl,rfl,rfl,.inr ⟨rfl,rfl⟩⟩
structure Bst (l:List AV) (b a c d:Int):Prop where
 e:b=a
 n : -1≤b∧b<l.length
 f:0≤b→c=fI (l.getD b.toNat .undef) 1∧d=fI (l.getD b.toNat .undef) 2
theorem run52 (l:List AV) (hl:l.length≤1048576) (hp:∀ k:Int,0≤k→k<l.length→fI (l.getD k.toNat .undef) 0=k) :
  ∃ r r',runW (R52_0 l) (((l.length:Int) - 0:Int).toNat+1) ((-1),0)=some r∧runW (R51_0 l.length l) (((l.length:Int) - 0:Int).toNat+1) (0,(-1),0,0,0,0)=some r'∧r'.1=r:=by
 refine runW_pair (fun (s:Int × Int) (s':Int × Int × Int × Int × Int × Int)=>s.2=s'.1∧0≤s.2∧s.2≤l.length∧Bst l s.1 s'.2.1 s'.2.2.1 s'.2.2.2.1) (fun (r:Int) (r':Int × Int × Int × Int × Int)=>r'.1=r) (fun (s:Int × Int)=>((l.length:Int) - s.2).toNat) ?_ _ _ _ _ ⟨rfl,by decide,by show (0:Int)≤l.length;omega,⟨rfl,⟨by decide,by show (-1:Int)<l.length;omega⟩,fun h=>absurd h (by decide)⟩⟩ (by show ((l.length:Int) - 0).toNat<_;omega) (by show ((l.length:Int) - 0).toNat<_;omega)
 rintro ⟨b,i⟩ ⟨i',a,c,d,e,f⟩ ⟨rfl,i0,i1,B⟩
 dsimp only at i0 i1 B ⊢
 obtain ⟨rfl,⟨b0,b1⟩,hf⟩:=B
 show (∃ x y,F52_0 l b i = .next x∧F51_0 l.length l i b c d e f = .next y∧_)∨∃ r r',F52_0 l b i = .stop r∧F51_0 l.length l i b c d e f = .stop r'∧_
 by_cases hi:i<(l.length:Int)
 ·left
  have w:IntKind.i64.wrap (i+1)=i+1:=wrap_in (by omega) (by omega)
  have hB:Bst l i (fI (l.getD i.toNat .undef) 0) (fI (l.getD i.toNat .undef) 1) (fI (l.getD i.toNat .undef) 2):=⟨(hp i i0 hi).symm,⟨by omega,hi⟩,fun _=>⟨rfl,rfl⟩⟩
  have hO:Bst l b b c d:=⟨rfl,⟨b0,b1⟩,hf⟩
  have m:((l.length:Int) - (i+1)).toNat<((l.length:Int) - i).toNat:=by omega
  unfold F52_0 G52_0 F51_0 G51_0
  rw [w,decide_eq_true hi,decide_eq_true i0]
  simp only [cond_true,Bool.and_self]
  by_cases hb:b<0
  ·rw [decide_eq_true hb]
   simp only [cond_true]
   exact ⟨_,_,rfl,rfl,⟨rfl,by omega,by omega,hB⟩,m⟩
  ·obtain ⟨h1,h2⟩:=hf (by omega)
   rw [decide_eq_false hb,decide_eq_true (by omega:0≤b),decide_eq_true b1,← h1,← h2]
   simp only [cond_true,cond_false,Bool.and_self]
   cases decide (fI (l.getD i.toNat .undef) 2<d) with
   | true=>exact ⟨_,_,rfl,rfl,⟨rfl,by omega,by omega,hB⟩,m⟩
   | false =>
    cases decide (fI (l.getD i.toNat .undef) 2=d) with
    | false=>exact ⟨_,_,rfl,rfl,⟨rfl,by omega,by omega,hO⟩,m⟩
    | true =>
     cases decide (fI (l.getD i.toNat .undef) 1<c) with
     | true=>exact ⟨_,_,rfl,rfl,⟨rfl,by omega,by omega,hB⟩,m⟩
     | false=>exact ⟨_,_,rfl,rfl,⟨rfl,by omega,by omega,hO⟩,m⟩
 ·right
  unfold F52_0 G52_0 F51_0 G51_0
  rw [decide_eq_false hi]
  exact ⟨_,_,rfl,rfl,rfl⟩
theorem v60_pol {vs qs:List AV} {p thr seed:Int} (h:v60_5 vs p thr seed qs=true):v60_0 vs p thr seed qs=p:=by
 unfold v60_5 at h
 unfold v60_0
 cases h1:v100_0 vs with
 | false=>rw [h1] at h;cases h
 | true =>
  cases h2:v126_0 p thr seed with
  | false=>rw [h1,h2] at h;cases h
  | true =>
   cases h3:v127_0 qs with
   | false=>rw [h1,h2,h3] at h;cases h
   | true=>rfl
theorem best_both (vs qs:List AV) (thr seed:Int) (hl:vs.length≤1048576) (hq:qs.length≤1048576):q52 vs thr seed qs=true∧q51 vs thr seed qs=true∧v51_0 vs thr seed qs=v52_0 vs thr seed qs:=by
 obtain ⟨a1,a2,a3,a4⟩:=cmp_both vs qs thr seed hl hq
 have a5:(v50_0 vs thr seed qs).length≤1048576∧∀ k:Int,0≤k→k<(v50_0 vs thr seed qs).length→fI ((v50_0 vs thr seed qs).getD k.toNat .undef) 0=k:=by
  rcases a4 with a4|⟨h,a4⟩
  ·rw [a4]
   exact ⟨by decide,fun k h0 h1=>by simp at h1;omega⟩
  ·rw [a4]
   refine ⟨by show 3≤1048576;decide,fun k h0 h1=>?_⟩
   have h1':k<3:=h1
   have p0:=v60_pol h
   have p1:v60_0 vs 1 thr seed qs=1:=v60_pol (show v60_5 vs 1 thr seed qs=true from h)
   have p2:v60_0 vs 2 thr seed qs=2:=v60_pol (show v60_5 vs 2 thr seed qs=true from h)
   obtain rfl|rfl|rfl:k=0∨k=1∨k=2:=by omega
   ·exact p0
   ·exact p1
   ·exact p2
 obtain ⟨r,r',e1,e2,e3⟩:=run52 _ a5.1 a5.2
 unfold q52 q51 v52_0 v51_0
 rw [a1,a2,a3,e1,e2]
 exact ⟨rfl,rfl,e3⟩
end Go.Proofs.YtealoedecngaoaaGreatDoor

namespace Go.Proofs.YtealoedecngaoaaGreatDoor
open Go Go.Proofs.VE
set_option linter.unusedVariables false
set_option linter.unusedSimpArgs false
def In64 (n:Int):Prop := -9223372036854775808≤n∧n≤9223372036854775807
theorem u8_digit:∀ d:Fin 10,IntKind.u8.wrap (48+(d.val:Int))=48+(d.val:Int)∧UInt8.ofNat (48+(d.val:Int)).toNat=UInt8.ofNat (48+d.val):=by decide +kernel
theorem digit_wrap (d:Nat) (h:d<10):IntKind.u8.wrap (IntKind.i64.wrap (48+(d:Int)))=48+(d:Int)∧UInt8.ofNat (48+(d:Int)).toNat=UInt8.ofNat (48+d):=by
 rw [wrap_in (by omega) (by omega)]
 exact u8_digit ⟨d,h⟩
theorem bytes_one (x:Int) (s:ByteArray):bytesA [AV.int .u8 x]++s=⟨(UInt8.ofNat x.toNat :: s.data.toList).toArray⟩:=by
 have e:bytesA [AV.int .u8 x]=⟨#[UInt8.ofNat x.toNat]⟩:=rfl
 rw [e]
 apply ByteArray.ext
 simp [ByteArray.data_append]
theorem bytes_one_size (x:Int):(bytesA [AV.int .u8 x]).size=1:=rfl
def digits (n:Int):List UInt8:=if n=0 then [] else Lib.decDigits n.natAbs
theorem digits_step (n:Int) (h:n ≠ 0):digits n=digits (Int.tdiv n 10)++[UInt8.ofNat (48+n.natAbs % 10)]:=by
 have e:(Int.tdiv n 10).natAbs=n.natAbs / 10:=by rw [Int.natAbs_tdiv];rfl
 unfold digits
 rw [if_neg h]
 by_cases h0:n.natAbs<10
 ·have:Int.tdiv n 10=0:=Int.natAbs_eq_zero.1 (by rw [e];omega)
  rw [if_pos this,Lib.decDigits,dif_pos h0,Nat.mod_eq_of_lt h0]
  rfl
 ·have:Int.tdiv n 10 ≠ 0:=fun h2=>by rw [h2] at e;simp at e;omega
  rw [if_neg this,e]
  conv=>lhs;rw [Lib.decDigits,dif_neg h0]
theorem fi_step (b:Bool) (n:Int) (s:ByteArray) (h:n ≠ 0) (h0 : -9223372036854775808≤n) (h1:n≤9223372036854775807) (hs:s.size≤100) :
  R86_0 b (n,s) = .next (Int.tdiv n 10,⟨(UInt8.ofNat (48+n.natAbs % 10) :: s.data.toList).toArray⟩):=by
 unfold R86_0 F86_0 G86_0
 have d0:decide (n=0)=false:=decide_eq_false h
 have d1:decide ((10:Nat)=0)=false:=rfl
 have d2:∀ x,decide ((bytesA [AV.int .u8 x]).size+s.size≤4611686018427387904)=true:=fun x=>decide_eq_true (by rw [bytes_one_size];omega)
 have ht : -9223372036854775808≤Int.tdiv n 10∧Int.tdiv n 10≤9223372036854775807:=by
  have e:(Int.tdiv n 10).natAbs=n.natAbs / 10:=by rw [Int.natAbs_tdiv];rfl
  omega
 rw [wrap_in ht.1 ht.2]
 simp only [d0,d1,d2,Bool.not_false,cond_true]
 rcases Int.lt_or_le n 0 with hn|hn
 ·have et:Int.tmod n 10 = -((n.natAbs % 10:Nat):Int):=by
   have:n = -(n.natAbs:Int):=by omega
   conv=>lhs;rw [this,Int.neg_tmod]
   rfl
  rw [et]
  by_cases hz:n.natAbs % 10=0
  ·rw [hz]
   have:=digit_wrap 0 (by decide)
   simp only [Int.ofNat_zero,Int.neg_zero,Int.add_zero] at this ⊢
   rw [show decide ((0:Int)<0)=false from rfl]
   simp only [cond_false]
   rw [bytes_one,this.1]
   rfl
  ·have d3:decide (-((n.natAbs % 10:Nat):Int)<0)=true:=decide_eq_true (by omega)
   rw [d3]
   simp only [cond_true]
   rw [wrap_in (a:=0 - -((n.natAbs % 10:Nat):Int)) (by omega) (by omega),show 0 - -((n.natAbs % 10:Nat):Int)=((n.natAbs % 10:Nat):Int) by omega,bytes_one]
   obtain ⟨e1,e2⟩:=digit_wrap (n.natAbs % 10) (Nat.mod_lt _ (by decide))
   rw [e1,e2]
 ·have et:Int.tmod n 10=((n.natAbs % 10:Nat):Int):=by
   have:n=(n.natAbs:Int):=by omega
   conv=>lhs;rw [this]
   rfl
  rw [et]
  have d3:decide (((n.natAbs % 10:Nat):Int)<0)=false:=decide_eq_false (by omega)
  rw [d3]
  simp only [cond_false]
  rw [bytes_one]
  obtain ⟨e1,e2⟩:=digit_wrap (n.natAbs % 10) (Nat.mod_lt _ (by decide))
  rw [e1,e2]
theorem fi_run (b:Bool):∀ (f k:Nat) (n:Int) (s:ByteArray),n.natAbs<10 ^ k→n.natAbs<f→s.size+k≤100 → -9223372036854775808≤n→n≤9223372036854775807 →
  runW (R86_0 b) f (n,s)=some (⟨(digits n++s.data.toList).toArray⟩)
 | 0,_,_,_,_,h,_,_,_=>by omega
 | f+1,k,n,s,hk,hf,hs,h0,h1=>by
  by_cases hz:n=0
  ·subst hz
   unfold runW R86_0 F86_0 G86_0 digits
   simp only [decide_true,Bool.not_true,cond_false,Out.el,if_true,List.nil_append]
  ·have e:(Int.tdiv n 10).natAbs=n.natAbs / 10:=by rw [Int.natAbs_tdiv];rfl
   cases k with
   | zero=>simp at hk;omega
   | succ k =>
    rw [Nat.pow_succ] at hk
    unfold runW
    rw [fi_step b n s hz h0 h1 (by omega)]
    simp only [Out.el]
    rw [fi_run b f k _ _ (by rw [e];omega) (by rw [e];omega) (by
     show (_ :: s.data.toList).toArray.size+k≤100
     rw [List.size_toArray,List.length_cons,Array.length_toList]
     have:s.data.size=s.size:=rfl
     omega) (by omega) (by omega),digits_step n hz]
    simp
theorem digits_len (n:Int) (h0 : -9223372036854775808≤n) (h1:n≤9223372036854775807):(Lib.decDigits n.natAbs).length≤19:=by
 rw [Lib.decDigits_length]
 by_cases hz:n.natAbs=0
 ·rw [hz,Lib.nDigits_small (by decide)];decide
 ·obtain ⟨k,h2,h3,hk⟩:∃ k,10 ^ k≤n.natAbs∧n.natAbs<10 ^ (k+1)∧k<19:=by
   have:∀ m,n.natAbs<10 ^ m→∃ k,10 ^ k≤n.natAbs∧n.natAbs<10 ^ (k+1)∧k<m:=by
    intro m
    induction m with
    | zero=>intro h;rw [Nat.pow_zero] at h;omega
    | succ m ih =>
     intro h
     by_cases hm:10 ^ m≤n.natAbs
     ·exact ⟨m,hm,h,Nat.lt_succ_self m⟩
     ·obtain ⟨k,a,b,c⟩:=ih (by omega)
      exact ⟨k,a,b,Nat.lt_succ_of_lt c⟩
   exact this 19 (by omega)
  rw [Lib.nDigits_unique k _ h2 h3]
  omega
theorem itoaB_len (n:Int) (h0 : -9223372036854775808≤n) (h1:n≤9223372036854775807):(itoaB n).size≤20:=by
 have:=digits_len n h0 h1
 have e:(itoaB n).size=(Lib.itoa n).length:=by simp [itoaB,ByteArray.size]
 rw [e]
 unfold Lib.itoa
 split
 ·simp only [List.length_cons];omega
 ·rename_i h
  rw [show n.toNat=n.natAbs by omega]
  omega
theorem fmtInt (n:Int) (h0 : -9223372036854775808≤n) (h1:n≤9223372036854775807):q86 n=true∧v86_0 n=itoaB n:=by
 unfold q86 v86_0
 by_cases hz:n=0
 ·subst hz
  refine ⟨rfl,?_⟩
  have:Lib.itoa 0=[48]:=by unfold Lib.itoa;rw [if_neg (by decide)];exact Lib.decDigits_one (i:=0) (by decide)
  unfold itoaB
  rw [this]
  rfl
 ·have hd:digits n=Lib.decDigits n.natAbs:=by unfold digits;rw [if_neg hz]
  have hl:=digits_len n h0 h1
  rw [decide_eq_false hz,fi_run _ _ 19 n ByteArray.empty (by omega) (Nat.lt_succ_self _) (by decide) h0 h1,hd]
  simp only [cond_false,ro]
  rcases Int.lt_or_le n 0 with hn|hn
  ·rw [decide_eq_true hn]
   simp only [cond_true]
   refine ⟨decide_eq_true ?_,?_⟩
   ·simp [ByteArray.size];omega
   ·unfold itoaB Lib.itoa
    rw [if_pos hn]
    apply ByteArray.ext
    simp [ByteArray.data_append]
  ·rw [decide_eq_false (by omega)]
   refine ⟨rfl,?_⟩
   unfold itoaB Lib.itoa
   rw [if_neg (by omega),show n.toNat=n.natAbs by omega]
   simp
theorem fmtInt' (n:Int) (h0 : -9223372036854775808≤n) (h1:n≤9223372036854775807):q79 n=true∧v79_0 n=itoaB n :=
 ⟨by unfold q79 q150;rw [decide_eq_true h0,decide_eq_true h1];rfl,rfl⟩
theorem lit_size (l:List UInt8):(ByteArray.mk l.toArray).size=l.length:=by simp [ByteArray.size]
theorem pol (a:Int):q117 a=true∧q116 a=true∧v116_0 a=v117_0 a∧(v117_0 a).size≤6∧(((v117_0 a).toList == ByteArray.empty.toList)=true∨((v117_0 a).toList == ByteArray.empty.toList)=false):=by
 refine ⟨?_,?_,?_,?_,by cases (v117_0 a).toList == ByteArray.empty.toList <;> simp⟩
 all_goals
  rcases Int.lt_or_le a 0 with h|h
  ·simp only [q117,q116,v117_0,v116_0,v72_0,decide_eq_true h,decide_eq_false (by omega:¬ a ≥ 0),cond_false,cond_true,Bool.not_false,Bool.not_true] <;> decide
  ·rcases Int.lt_or_le 2 a with h2|h2
   ·simp only [q117,q116,v117_0,v116_0,v72_0,decide_eq_false (by omega:¬ a<0),decide_eq_true (by omega:a ≥ 0),decide_eq_true (by omega:a > 2),decide_eq_false (by omega:¬ a≤2),cond_false,cond_true,Bool.not_false,Bool.not_true] <;> decide
   ·obtain rfl|rfl|rfl:a=0∨a=1∨a=2:=by omega
    all_goals first|rfl|decide
theorem outc (a b c d e:Int) (hb:In64 b) (hc:In64 c) (hd:In64 d) (he:In64 e):q54 a b c d e=true∧q53 a b c d e=true∧v53_0 a b c d e=v54_0 a b c d e:=by
 obtain ⟨p1,p2,p3,p4,p5⟩:=pol a
 obtain ⟨b1,b2⟩:=fmtInt b hb.1 hb.2
 obtain ⟨c1,c2⟩:=fmtInt c hc.1 hc.2
 obtain ⟨d1,d2⟩:=fmtInt d hd.1 hd.2
 obtain ⟨e1,e2⟩:=fmtInt e he.1 he.2
 obtain ⟨B1,B2⟩:=fmtInt' b hb.1 hb.2
 obtain ⟨C1,C2⟩:=fmtInt' c hc.1 hc.2
 obtain ⟨D1,D2⟩:=fmtInt' d hd.1 hd.2
 obtain ⟨E1,E2⟩:=fmtInt' e he.1 he.2
 have lb:=itoaB_len b hb.1 hb.2
 have lc:=itoaB_len c hc.1 hc.2
 have ld:=itoaB_len d hd.1 hd.2
 have le:=itoaB_len e he.1 he.2
 unfold q54 q53 v54_0 v53_0
 rw [p1,p2,p3,b1,b2,c1,c2,d1,d2,e1,e2,B1,B2,C1,C2,D1,D2,E1,E2]
 rcases p5 with h|h
 ·rw [h]
  exact ⟨rfl,rfl,rfl⟩
 ·rw [h]
  simp only [cond_false,Bool.true_and]
  generalize v117_0 a=p at *
  generalize itoaB b=B at *
  generalize itoaB c=C at *
  generalize itoaB d=D at *
  generalize itoaB e=E at *
  have key:v90_0 ([AV.str p,AV.str (ByteArray.mk #[115,119,97,112,115]),AV.str B,AV.str (ByteArray.mk #[119,111,114,115,116]),AV.str C,AV.str (ByteArray.mk #[112,105,101,99,101,115]),AV.str D,AV.str (ByteArray.mk #[108,97,114,103,101,115,116]),AV.str E]) (ByteArray.mk #[32])=((((((((p++(ByteArray.mk #[32,115,119,97,112,115,32]))++B)++(ByteArray.mk #[32,119,111,114,115,116,32]))++C)++(ByteArray.mk #[32,112,105,101,99,101,115,32]))++D)++(ByteArray.mk #[32,108,97,114,103,101,115,116,32]))++E):=by
   apply ByteArray.ext
   simp only [v90_0,joinB,List.map_cons,List.map_nil,ByteArray.data_append]
   apply Array.toList_inj.1
   simp [Lib.join_cons,Lib.joinTail,fS,AV.cells]
  refine ⟨?_,?_,key⟩
  ·simp only [Bool.and_eq_true,decide_eq_true_eq,ByteArray.size_append,lit_size,List.length_cons,List.length_nil]
   omega
  ·unfold q90
   have k2:joinB ([AV.str p,AV.str (ByteArray.mk #[115,119,97,112,115]),AV.str B,AV.str (ByteArray.mk #[119,111,114,115,116]),AV.str C,AV.str (ByteArray.mk #[112,105,101,99,101,115]),AV.str D,AV.str (ByteArray.mk #[108,97,114,103,101,115,116]),AV.str E]) (ByteArray.mk #[32])=_:=key
   rw [k2]
   simp only [Bool.and_eq_true,decide_eq_true_eq,ByteArray.size_append,lit_size,List.length_cons,List.length_nil]
   omega
end Go.Proofs.YtealoedecngaoaaGreatDoor
