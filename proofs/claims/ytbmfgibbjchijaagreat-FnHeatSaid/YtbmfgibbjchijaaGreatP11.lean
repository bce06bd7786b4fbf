import Derived.Test.YtbmfgibbjchijaaGreatP10
import Derived.Test.YtbmfgibbjchijaaGreatProg
import Derived.KernelRfl
import Derived.Test.YtbmfgibbjchijaaGreatP3
namespace Go.Proofs.YtbmfgibbjchijaaGreat
open Go Go.Proofs.VE
set_option linter.unusedVariables false
set_option linter.unusedSimpArgs false
set_option maxRecDepth 100000
set_option maxHeartbeats 4000000
noncomputable section
noncomputable def c88:Cfg:=cfg Tryz.prog [(88,999,[6,7,8])] [(87,m87),(131,m131)] [] [] []
def q88 (a0:List AV) (ya yb yc:Int) (a2:List AV):Bool:=(q87 a0 ya yb yc a2 && (bif !(v87_0 a0 ya yb yc a2) then true else q131 a0 ya yb yc a2))
def v88_0 (a0:List AV) (ya yb yc:Int) (a2:List AV):List AV:=(bif !(v87_0 a0 ya yb yc a2) then ([]:List AV) else (v131_0 a0 ya yb yc a2))
def v88_1 (a0:List AV) (ya yb yc:Int) (a2:List AV):List AV:=(bif !(v87_0 a0 ya yb yc a2) then ([]:List AV) else (v131_1 a0 ya yb yc a2))
def v88_2 (a0:List AV) (ya yb yc:Int) (a2:List AV):List AV:=(bif !(v87_0 a0 ya yb yc a2) then ([]:List AV) else (v131_2 a0 ya yb yc a2))
def v88_3 (a0:List AV) (ya yb yc:Int) (a2:List AV):List AV:=(bif !(v87_0 a0 ya yb yc a2) then ([]:List AV) else (v131_3 a0 ya yb yc a2))
def v88_4 (a0:List AV) (ya yb yc:Int) (a2:List AV):List AV:=(bif !(v87_0 a0 ya yb yc a2) then ([]:List AV) else (v131_4 a0 ya yb yc a2))
theorem e88 (a0:List AV) (ya yb yc:Int) (a2:List AV):funA c88 0 88 [AV.sl [.int .i64] a0,AV.agg [Ai ya,Ai yb,Ai yc],AV.sl [.int .i64,.int .i64] a2]=(bif q87 a0 ya yb yc a2 then (bif !(v87_0 a0 ya yb yc a2) then some (AV.tup [AV.agg [AV.fl [.int .i64] ([]:List AV),AV.fl [.int .i64] ([]:List AV),AV.fl [.int .i64,.int .i64] ([]:List AV)],AV.fl [.sl [.int .i64]] ([]:List AV),AV.fl [.int .i64] ([]:List AV)])
 else (bif q131 a0 ya yb yc a2 then some (AV.tup [AV.agg [AV.fl [.int .i64] (v131_0 a0 ya yb yc a2),AV.fl [.int .i64] (v131_1 a0 ya yb yc a2),AV.fl [.int .i64,.int .i64] (v131_2 a0 ya yb yc a2)],AV.fl [.sl [.int .i64]] (v131_3 a0 ya yb yc a2),AV.fl [.int .i64] (v131_4 a0 ya yb yc a2)])
 else none))
 else none):=by kernel_rfl
def m88:TModel
 | [.sl g0 a0,.agg [.int .i64 ya,.int .i64 yb,.int .i64 yc],.sl g1 a2]=>bif ctsEq g0 ([.int .i64]) && ctsEq g1 ([.int .i64,.int .i64]) then some (q88 a0 ya yb yc a2,AV.tup [AV.agg [AV.fl [.int .i64] (v88_0 a0 ya yb yc a2),AV.fl [.int .i64] (v88_1 a0 ya yb yc a2),AV.fl [.int .i64,.int .i64] (v88_2 a0 ya yb yc a2)],AV.fl [.sl [.int .i64]] (v88_3 a0 ya yb yc a2),AV.fl [.int .i64] (v88_4 a0 ya yb yc a2)]) else none
 | _=>none
theorem k88:Known Tryz.prog 88:=⟨Tryz.f88,Tryz.func88,by kernel_rfl,by kernel_rfl⟩
theorem meets88:Meets Tryz.prog 88 m88:=by
 refine mt (lvl:=0) (cf:=c88) rfl mixed k88 Tryz.func88 (by kernel_rfl) noLoop (allT_cons meets87 (allT_cons meets131 allT_nil)) allM_nil noI fun xs r h=>?_
 unfold m88 at h
 split at h
 ·rename_i g0 a0 ya yb yc g1 a2
  obtain ⟨hg,h⟩:=bif_pair h
  simp only [Bool.and_eq_true] at hg
  obtain ⟨q0,q1⟩:=hg
  obtain rfl:=cE q0
  obtain rfl:=cE q1
  obtain ⟨h1,rfl⟩:=pair_inj h
  exact (e88 a0 ya yb yc a2).trans ((brL (br (fun b=>some (AV.tup [AV.agg [AV.fl [.int .i64] (bif b then ([]:List AV) else (v131_0 a0 ya yb yc a2)),AV.fl [.int .i64] (bif b then ([]:List AV) else (v131_1 a0 ya yb yc a2)),AV.fl [.int .i64,.int .i64] (bif b then ([]:List AV) else (v131_2 a0 ya yb yc a2))],AV.fl [.sl [.int .i64]] (bif b then ([]:List AV) else (v131_3 a0 ya yb yc a2)),AV.fl [.int .i64] (bif b then ([]:List AV) else (v131_4 a0 ya yb yc a2))])) (fun _=>rfl) (brL1 (fun _=>rfl)))) h1)
 ·cases h
def G89_0 {β:Type} (t6:List AV) (t7:Int) (t3:Int) (t8:Int) (N:((Int × Int))→β) (K:(Int)→β) (d:β):β:=(bif decide (t8<t7) then (bif (decide (0≤t8) && decide (t8<(t6.length:Int))) then N (IntKind.i64.wrap (t3+fI (t6.getD t8.toNat .undef) 0),IntKind.i64.wrap (t8+1))
 else d)
 else K t3)
def F89_0 (t6:List AV) (t7 t3 t8:Int):Out ((Int × Int)) (Int):=G89_0 t6 t7 t3 t8 .next .stop .fail
def R89_0 (t6:List AV) (t7:Int):((Int × Int))→Out ((Int × Int)) (Int):=fun s:Int × Int=>F89_0 t6 t7 s.1 s.2
def E89_0 (t6:List AV) (t7:Int):((Int × Int))→St:=fun s:Int × Int=>⟨[(3,Ai s.1),(6,AV.sl [.int .i64] t6),(7,Ai t7),(8,Ai s.2)],[]⟩
def K89_0 (t6:List AV) (t7:Int) (k:Kont):(Int)→Option AV:=fun p:Int=>k (.exit 0) ⟨[(3,Ai p)],[]⟩
def l89_0:LModel:=fun _ _ st k=>match st with
 | ⟨[(3,.int .i64 t3),(6,.sl g0 t6),(7,.int .i64 t7),(8,.int .i64 t8)],[]⟩=>bif ctsEq g0 ([.int .i64]) then ro (runW (R89_0 t6 t7) ((t7 - t8:Int).toNat+1) (t3,t8)) none (K89_0 t6 t7 k) else none
 | _=>none
noncomputable def c89:Cfg:=cfg Tryz.prog [(89,0,[3,6,7,8]),(89,999,[2]),(89,1000,[3]),(89,1001,[3,6,7,8])] [] [] [] [(89,0,l89_0)]
theorem s89_0 (t6:List AV) (t7:Int) (ce:CallE) (k:Kont) (s:Int × Int) (next:St→Option AV):stepA (codeA c89 ce [] 89 0 (sub [1,1,0,1,0,0] (body Tryz.f89))) (normA [] [3,6,7,8]) next ((E89_0 t6 t7) s) k=G89_0 t6 t7 s.1 s.2 (fun s=>next ((E89_0 t6 t7) s)) (K89_0 t6 t7 k) none:=by kernel_rfl
theorem st89_0 (t6:List AV) (t7:Int) (ce:CallE) (k:Kont) (s:(Int × Int)) (next:St→Option AV):stepA (codeA c89 ce [] 89 0 (sub [1,1,0,1,0,0] (body Tryz.f89))) (normA [] [3,6,7,8]) next ((E89_0 t6 t7) s) k=(R89_0 t6 t7 s).el none (fun s=>next ((E89_0 t6 t7) s)) (K89_0 t6 t7 k):=(s89_0 t6 t7 ce k s next).trans (by unfold R89_0;unfold F89_0 G89_0;simp only [el_cond,el_ro,el_sum,el_fail,el_next,el_stop] <;> rfl)
theorem ok89_0 {ce:CallE}:LoopOK c89 ce [] 89 0 (sub [1,1,0,1,0,0] (body Tryz.f89)):=by
 intro m hm st k r h
 obtain rfl:l89_0=m:=Option.some.inj hm
 unfold l89_0 at h
 split at h
 ·rename_i t3 g0 t6 t7 t8
  obtain ⟨hg,h⟩:=bif_some h
  have q0:=hg
  obtain rfl:=cE q0
  refine ⟨((t7 - t8:Int).toNat+1),?_⟩
  rw [← h]
  exact loop_run (E89_0 t6 t7) (K89_0 t6 t7 k) (st89_0 t6 t7 ce k) _ (t3,t8)
 ·cases h
def q89 (a0:List AV):Bool:=(ro (runW (R89_0 a0 (a0.length:Int)) (((a0.length:Int) - 0:Int).toNat+1) (0,0)) false (fun p63=>true))
def v89_0 (a0:List AV):Int:=(ro (runW (R89_0 a0 (a0.length:Int)) (((a0.length:Int) - 0:Int).toNat+1) (0,0)) 0 (fun p63=>p63))
theorem e89 (a0:List AV):funA c89 0 89 [AV.sl [.int .i64] a0]=(ro (runW (R89_0 a0 (a0.length:Int)) (((a0.length:Int) - 0:Int).toNat+1) (0,0)) none (fun p63=>some (Ai p63))):=by kernel_rfl
def m89:TModel
 | [.sl g0 a0]=>bif ctsEq g0 ([.int .i64]) then some (q89 a0,AV.int .i64 (v89_0 a0)) else none
 | _=>none
theorem k89:Known Tryz.prog 89:=⟨Tryz.f89,Tryz.func89,by kernel_rfl,by kernel_rfl⟩
theorem meets89:Meets Tryz.prog 89 m89:=by
 refine mt (lvl:=0) (cf:=c89) rfl mixed k89 Tryz.func89 (by kernel_rfl) (loops_cons ok89_0 noLoop) allT_nil allM_nil noI fun xs r h=>?_
 unfold m89 at h
 split at h
 ·rename_i g0 a0
  obtain ⟨hg,h⟩:=bif_pair h
  have q0:=hg
  obtain rfl:=cE q0
  obtain ⟨h1,rfl⟩:=pair_inj h
  exact (e89 a0).trans ((brO (fun o:Option (Int)=>some (Ai (ro o 0 (fun p63=>p63)))) (fun p63=>(fun _=>rfl))) h1)
 ·cases h
def G38_0 {β:Type} (t0:List AV) (t1:Int) (t2:List AV) (t7:Int) (t8:Int) (t9:Int) (N:((Int × Int × Int))→β) (K:(Int)→β) (d:β):β:=(bif decide (t9≤64) then (bif q88 t0 1 t9 t1 t2 then (bif q89 (v88_4 t0 1 t9 t1 t2) then (bif decide (t7=0) then N (t9,(v89_0 (v88_4 t0 1 t9 t1 t2)),IntKind.i64.wrap (t9*2))
 else (bif decide ((v89_0 (v88_4 t0 1 t9 t1 t2))<t8) then N (t9,(v89_0 (v88_4 t0 1 t9 t1 t2)),IntKind.i64.wrap (t9*2))
 else N (t7,t8,IntKind.i64.wrap (t9*2))))
 else d)
 else d)
 else K t7)
def F38_0 (t0:List AV) (t1:Int) (t2:List AV) (t7 t8 t9:Int):Out ((Int × Int × Int)) (Int):=G38_0 t0 t1 t2 t7 t8 t9 .next .stop .fail
def R38_0 (t0:List AV) (t1:Int) (t2:List AV):((Int × Int × Int))→Out ((Int × Int × Int)) (Int):=fun s:Int × Int × Int=>F38_0 t0 t1 t2 s.1 s.2.1 s.2.2
def E38_0 (t0:List AV) (t1:Int) (t2:List AV):((Int × Int × Int))→St:=fun s:Int × Int × Int=>⟨[(0,AV.sl [.int .i64] t0),(1,Ai t1),(2,AV.sl [.int .i64,.int .i64] t2),(7,Ai s.1),(8,Ai s.2.1),(9,Ai s.2.2)],[]⟩
def K38_0 (t0:List AV) (t1:Int) (t2:List AV) (k:Kont):(Int)→Option AV:=fun p:Int=>k (.exit 0) ⟨[(7,Ai p)],[]⟩
def l38_0:LModel:=fun _ _ st k=>match st with
 | ⟨[(0,.sl g0 t0),(1,.int .i64 t1),(2,.sl g1 t2),(7,.int .i64 t7),(8,.int .i64 t8),(9,.int .i64 t9)],[]⟩=>bif ctsEq g0 ([.int .i64]) && ctsEq g1 ([.int .i64,.int .i64]) then ro (runW (R38_0 t0 t1 t2) ((64 - t9+1:Int).toNat+1) (t7,t8,t9)) none (K38_0 t0 t1 t2 k) else none
 | _=>none
noncomputable def c38:Cfg:=cfg Tryz.prog [(38,0,[0,1,2,7,8,9]),(38,999,[6]),(38,1000,[7]),(38,1001,[0,1,2,7,8,9])] [(87,m87),(88,m88),(89,m89)] [] [] [(38,0,l38_0)]
theorem s38_0 (t0:List AV) (t1:Int) (t2:List AV) (ce:CallE) (k:Kont) (s:Int × Int × Int) (next:St→Option AV):stepA (codeA c38 ce [] 38 0 (sub [1,1,1,0,1,0,0] (body Tryz.f38))) (normA [] [0,1,2,7,8,9]) next ((E38_0 t0 t1 t2) s) k=G38_0 t0 t1 t2 s.1 s.2.1 s.2.2 (fun s=>next ((E38_0 t0 t1 t2) s)) (K38_0 t0 t1 t2 k) none:=by kernel_rfl
theorem st38_0 (t0:List AV) (t1:Int) (t2:List AV) (ce:CallE) (k:Kont) (s:(Int × Int × Int)) (next:St→Option AV):stepA (codeA c38 ce [] 38 0 (sub [1,1,1,0,1,0,0] (body Tryz.f38))) (normA [] [0,1,2,7,8,9]) next ((E38_0 t0 t1 t2) s) k=(R38_0 t0 t1 t2 s).el none (fun s=>next ((E38_0 t0 t1 t2) s)) (K38_0 t0 t1 t2 k):=(s38_0 t0 t1 t2 ce k s next).trans (by unfold R38_0;unfold F38_0 G38_0;simp only [el_cond,el_ro,el_sum,el_fail,el_next,el_stop] <;> rfl)
theorem ok38_0 {ce:CallE}:LoopOK c38 ce [] 38 0 (sub [1,1,1,0,1,0,0] (body Tryz.f38)):=by
 intro m hm st k r h
 obtain rfl:l38_0=m:=Option.some.inj hm
 unfold l38_0 at h
 split at h
 ·rename_i g0 t0 t1 g1 t2 t7 t8 t9
  obtain ⟨hg,h⟩:=bif_some h
  simp only [Bool.and_eq_true] at hg
  obtain ⟨q0,q1⟩:=hg
  obtain rfl:=cE q0
  obtain rfl:=cE q1
  refine ⟨((64 - t9+1:Int).toNat+1),?_⟩
  rw [← h]
  exact loop_run (E38_0 t0 t1 t2) (K38_0 t0 t1 t2 k) (st38_0 t0 t1 t2 ce k) _ (t7,t8,t9)
 ·cases h
def q38 (a0:List AV) (a1:Int) (a2:List AV):Bool:=(q87 a0 1 1 a1 a2 && (bif !(v87_0 a0 1 1 a1 a2) then true else (ro (runW (R38_0 a0 a1 a2) ((64 - 1+1:Int).toNat+1) (0,0,1)) false (fun p64=>true))))
def v38_0 (a0:List AV) (a1:Int) (a2:List AV):Int:=(bif !(v87_0 a0 1 1 a1 a2) then 0 else (ro (runW (R38_0 a0 a1 a2) ((64 - 1+1:Int).toNat+1) (0,0,1)) 0 (fun p64=>p64)))
theorem e38 (a0:List AV) (a1:Int) (a2:List AV):funA c38 0 38 [AV.sl [.int .i64] a0,Ai a1,AV.sl [.int .i64,.int .i64] a2]=(bif q87 a0 1 1 a1 a2 then (bif !(v87_0 a0 1 1 a1 a2) then some (Ai 0)
 else (ro (runW (R38_0 a0 a1 a2) ((64 - 1+1:Int).toNat+1) (0,0,1)) none (fun p64=>some (Ai p64))))
 else none):=by kernel_rfl
def m38:TModel
 | [.sl g0 a0,.int .i64 a1,.sl g1 a2]=>bif ctsEq g0 ([.int .i64]) && ctsEq g1 ([.int .i64,.int .i64]) then some (q38 a0 a1 a2,AV.int .i64 (v38_0 a0 a1 a2)) else none
 | _=>none
theorem k38:Known Tryz.prog 38:=⟨Tryz.f38,Tryz.func38,by kernel_rfl,by kernel_rfl⟩
theorem meets38:Meets Tryz.prog 38 m38:=by
 refine mt (lvl:=0) (cf:=c38) rfl mixed k38 Tryz.func38 (by kernel_rfl) (loops_cons ok38_0 noLoop) (allT_cons meets87 (allT_cons meets88 (allT_cons meets89 allT_nil))) allM_nil noI fun xs r h=>?_
 unfold m38 at h
 split at h
 ·rename_i g0 a0 a1 g1 a2
  obtain ⟨hg,h⟩:=bif_pair h
  simp only [Bool.and_eq_true] at hg
  obtain ⟨q0,q1⟩:=hg
  obtain rfl:=cE q0
  obtain rfl:=cE q1
  obtain ⟨h1,rfl⟩:=pair_inj h
  exact (e38 a0 a1 a2).trans ((brL (br (fun b=>some (Ai (bif b then 0 else (ro (runW (R38_0 a0 a1 a2) ((64 - 1+1:Int).toNat+1) (0,0,1)) 0 (fun p64=>p64))))) (fun _=>rfl) (brO (fun o:Option (Int)=>some (Ai (ro o 0 (fun p64=>p64)))) (fun p64=>(fun _=>rfl))))) h1)
 ·cases h
noncomputable def c133:Cfg:=cfg Tryz.prog [(133,999,[2])] [(52,m52)] [] [] []
def v133_0 (xa xb xc:Int):Bool:=(bif (v52_0 xa 0 2) then (bif (v52_0 xb 1 64) then (v52_0 xc 0 10006) else false) else false)
theorem e133 (xa xb xc:Int):funA c133 0 133 [AV.agg [Ai xa,Ai xb,Ai xc]]=(bif (v52_0 xa 0 2) then (bif (v52_0 xb 1 64) then some (AV.bool (v52_0 xc 0 10006))
 else some (AV.bool false))
 else some (AV.bool false)):=by kernel_rfl
def m133:TModel
 | [.agg [.int .i64 xa,.int .i64 xb,.int .i64 xc]]=>some (true,AV.bool (v133_0 xa xb xc))
 | _=>none
theorem k133:Known Tryz.prog 133:=⟨Tryz.f133,Tryz.func133,by kernel_rfl,by kernel_rfl⟩
theorem meets133:Meets Tryz.prog 133 m133:=by
 refine mt (lvl:=0) (cf:=c133) rfl mixed k133 Tryz.func133 (by kernel_rfl) noLoop (allT_cons meets52 allT_nil) allM_nil noI fun xs r h=>?_
 unfold m133 at h
 split at h
 ·rename_i xa xb xc
  obtain ⟨h1,rfl⟩:=pair_inj h
  exact (e133 xa xb xc).trans (of_tt (brT (fun b=>some (AV.bool (bif b then (bif (v52_0 xb 1 64) then (v52_0 xc 0 10006) else false) else false))) (brT (fun b=>some (AV.bool (bif b then (v52_0 xc 0 10006) else false))) (fun _=>rfl) (fun _=>rfl)) (fun _=>rfl)))
 ·cases h
def G54_0 {β:Type} (t0:List AV) (t1:Int) (t5:Int) (N:(Int)→β) (K:(Unit ⊕ Unit)→β) (d:β):β:=(bif decide (t5<(t0.length:Int)) then (bif (decide (0≤t5) && decide (t5<(t0.length:Int))) then (bif decide (fI (t0.getD t5.toNat .undef) 0=t1) then K (.inr ())
 else N (IntKind.i64.wrap (t5+1)))
 else d)
 else K (.inl ()))
def F54_0 (t0:List AV) (t1 t5:Int):Out (Int) (Unit ⊕ Unit):=G54_0 t0 t1 t5 .next .stop .fail
def R54_0 (t0:List AV) (t1:Int):(Int)→Out (Int) (Unit ⊕ Unit):=fun s:Int=>F54_0 t0 t1 s
def E54_0 (t0:List AV) (t1:Int):(Int)→St:=fun s:Int=>⟨[(0,AV.sl [.int .i64] t0),(1,Ai t1),(5,Ai s)],[]⟩
def K54_0 (t0:List AV) (t1:Int) (k:Kont):(Unit ⊕ Unit)→Option AV:=sumE (fun _:Unit=>k (.exit 0) ⟨[],[]⟩) (fun _:Unit=>k .ret ⟨[(4,AV.bool true)],[]⟩)
def l54_0:LModel:=fun _ _ st k=>match st with
 | ⟨[(0,.sl g0 t0),(1,.int .i64 t1),(5,.int .i64 t5)],[]⟩=>bif ctsEq g0 ([.int .i64]) then ro (runW (R54_0 t0 t1) (((t0.length:Int) - t5:Int).toNat+1) t5) none (K54_0 t0 t1 k) else none
 | _=>none
noncomputable def c54:Cfg:=cfg Tryz.prog [(54,0,[0,1,5]),(54,999,[4]),(54,1000,[]),(54,1001,[0,1,5])] [] [] [] [(54,0,l54_0)]
theorem s54_0 (t0:List AV) (t1:Int) (ce:CallE) (k:Kont) (s:Int) (next:St→Option AV):stepA (codeA c54 ce [] 54 0 (sub [1,0,1,0,0] (body Tryz.f54))) (normA [] [0,1,5]) next ((E54_0 t0 t1) s) k=G54_0 t0 t1 s (fun s=>next ((E54_0 t0 t1) s)) (K54_0 t0 t1 k) none:=by kernel_rfl
theorem st54_0 (t0:List AV) (t1:Int) (ce:CallE) (k:Kont) (s:Int) (next:St→Option AV):stepA (codeA c54 ce [] 54 0 (sub [1,0,1,0,0] (body Tryz.f54))) (normA [] [0,1,5]) next ((E54_0 t0 t1) s) k=(R54_0 t0 t1 s).el none (fun s=>next ((E54_0 t0 t1) s)) (K54_0 t0 t1 k):=(s54_0 t0 t1 ce k s next).trans (by unfold R54_0;unfold F54_0 G54_0;simp only [el_cond,el_ro,el_sum,el_fail,el_next,el_stop] <;> rfl)
theorem ok54_0 {ce:CallE}:LoopOK c54 ce [] 54 0 (sub [1,0,1,0,0] (body Tryz.f54)):=by
 intro m hm st k r h
 obtain rfl:l54_0=m:=Option.some.inj hm
 unfold l54_0 at h
 split at h
 ·rename_i g0 t0 t1 t5
  obtain ⟨hg,h⟩:=bif_some h
  have q0:=hg
  obtain rfl:=cE q0
  refine ⟨(((t0.length:Int) - t5:Int).toNat+1),?_⟩
  rw [← h]
  exact loop_run (E54_0 t0 t1) (K54_0 t0 t1 k) (st54_0 t0 t1 ce k) _ t5
 ·cases h
def q54 (a0:List AV) (a1:Int):Bool:=(ro (runW (R54_0 a0 a1) (((a0.length:Int) - 0:Int).toNat+1) 0) false (sumE (fun _=>true) (fun _=>true)))
def v54_0 (a0:List AV) (a1:Int):Bool:=(ro (runW (R54_0 a0 a1) (((a0.length:Int) - 0:Int).toNat+1) 0) false (sumE (fun _=>false) (fun _=>true)))
theorem e54 (a0:List AV) (a1:Int):funA c54 0 54 [AV.sl [.int .i64] a0,Ai a1]=(ro (runW (R54_0 a0 a1) (((a0.length:Int) - 0:Int).toNat+1) 0) none (sumE (fun _=>some (AV.bool false)) (fun _=>some (AV.bool true)))):=by kernel_rfl
def m54:TModel
 | [.sl g0 a0,.int .i64 a1]=>bif ctsEq g0 ([.int .i64]) then some (q54 a0 a1,AV.bool (v54_0 a0 a1)) else none
 | _=>none
theorem k54:Known Tryz.prog 54:=⟨Tryz.f54,Tryz.func54,by kernel_rfl,by kernel_rfl⟩
theorem meets54:Meets Tryz.prog 54 m54:=by
 refine mt (lvl:=0) (cf:=c54) rfl mixed k54 Tryz.func54 (by kernel_rfl) (loops_cons ok54_0 noLoop) allT_nil allM_nil noI fun xs r h=>?_
 unfold m54 at h
 split at h
 ·rename_i g0 a0 a1
  obtain ⟨hg,h⟩:=bif_pair h
  have q0:=hg
  obtain rfl:=cE q0
  obtain ⟨h1,rfl⟩:=pair_inj h
  exact (e54 a0 a1).trans ((brO (fun o:Option (Unit ⊕ Unit)=>some (AV.bool (ro o false (sumE (fun _=>false) (fun _=>true))))) (brS (fun o:Unit ⊕ Unit=>some (AV.bool ((sumE (fun _=>false) (fun _=>true)) o))) (fun _=>(fun _=>rfl)) (fun _=>(fun _=>rfl)))) h1)
 ·cases h
def G117_2 {β:Type} (t0:List AV) (t1:List AV) (t5:Int) (h0_0:Int) (h0_1:Int) (t7:Int) (N:(Int)→β) (K:(Unit ⊕ Unit)→β) (d:β):β:=(bif decide (t7<(t0.length:Int)) then (bif (decide (0≤t7) && decide (t7<(t0.length:Int))) then (bif !(decide (fI (t0.getD t7.toNat .undef) 0<h0_0) == decide (t7<h0_1)) then K (.inr ())
 else N (IntKind.i64.wrap (t7+1)))
 else d)
 else K (.inl ()))
def F117_2 (t0 t1:List AV) (t5 h0_0 h0_1 t7:Int):Out (Int) (Unit ⊕ Unit):=G117_2 t0 t1 t5 h0_0 h0_1 t7 .next .stop .fail
def R117_2 (t0 t1:List AV) (t5 h0_0 h0_1:Int):(Int)→Out (Int) (Unit ⊕ Unit):=fun s:Int=>F117_2 t0 t1 t5 h0_0 h0_1 s
def E117_2 (t0 t1:List AV) (t5 h0_0 h0_1:Int):(Int)→St:=fun s:Int=>⟨[(0,AV.sl [.int .i64] t0),(1,AV.sl [.int .i64,.int .i64] t1),(5,Ai t5),(6,AV.ptr [0,6] 0 0),(7,Ai s)],[([0,6],⟨true,[],[AV.agg [Ai h0_0,Ai h0_1]]⟩)]⟩
def K117_2 (t0 t1:List AV) (t5 h0_0 h0_1:Int) (k:Kont):(Unit ⊕ Unit)→Option AV:=sumE (fun _:Unit=>k (.exit 2) ⟨[(0,AV.sl [.int .i64] t0),(1,AV.sl [.int .i64,.int .i64] t1),(5,Ai t5)],[([0,6],⟨true,[],[AV.agg [Ai h0_0,Ai h0_1]]⟩)]⟩) (fun _:Unit=>k .ret ⟨[(4,AV.bool false)],[([0,6],⟨true,[],[AV.agg [Ai h0_0,Ai h0_1]]⟩)]⟩)
def l117_2:LModel:=fun _ _ st k=>match st with
 | ⟨[(0,.sl g0 t0),(1,.sl g1 t1),(5,.int .i64 t5),(6,.ptr g2 g3 g4),(7,.int .i64 t7)],[(g5,⟨true,[],[.agg [.int .i64 h0_0,.int .i64 h0_1]]⟩)]⟩=>bif ctsEq g0 ([.int .i64]) && ctsEq g1 ([.int .i64,.int .i64]) && nmEq g2 ([0,6]) && Nat.beq g3 0 && Nat.beq g4 0 && nmEq g5 ([0,6]) then ro (runW (R117_2 t0 t1 t5 h0_0 h0_1) (((t0.length:Int) - t7:Int).toNat+1) t7) none (K117_2 t0 t1 t5 h0_0 h0_1 k) else none
 | _=>none
def G117_0 {β:Type} (t0:List AV) (t1:List AV) (t5:Int) (N:(Int)→β) (K:(Unit ⊕ (Int × Int) ⊕ (Int × Int))→β) (d:β):β:=(bif decide (t5<(t1.length:Int)) then (bif (decide (0≤t5) && decide (t5<(t1.length:Int))) then (bif !(v52_0 (fI (t1.getD t5.toNat .undef) 0) (-1000) 1000) then K (.inr (.inl (fI (t1.getD t5.toNat .undef) 0,fI (t1.getD t5.toNat .undef) 1)))
 else (bif !(v52_0 (fI (t1.getD t5.toNat .undef) 1) 0 (t0.length:Int)) then K (.inr (.inl (fI (t1.getD t5.toNat .undef) 0,fI (t1.getD t5.toNat .undef) 1)))
 else (bif decide (t5 > 0) then (bif (decide (0≤IntKind.i64.wrap (t5 - 1)) && decide (IntKind.i64.wrap (t5 - 1)<(t1.length:Int))) then (bif decide (fI (t1.getD t5.toNat .undef) 0≤fI (t1.getD (IntKind.i64.wrap (t5 - 1)).toNat .undef) 0) then K (.inr (.inl (fI (t1.getD t5.toNat .undef) 0,fI (t1.getD t5.toNat .undef) 1)))
 else (bif (decide (0≤IntKind.i64.wrap (t5 - 1)) && decide (IntKind.i64.wrap (t5 - 1)<(t1.length:Int))) then (bif decide (fI (t1.getD t5.toNat .undef) 1<fI (t1.getD (IntKind.i64.wrap (t5 - 1)).toNat .undef) 1) then K (.inr (.inl (fI (t1.getD t5.toNat .undef) 0,fI (t1.getD t5.toNat .undef) 1)))
 else (ro (runW (R117_2 t0 t1 t5 (fI (t1.getD t5.toNat .undef) 0) (fI (t1.getD t5.toNat .undef) 1)) (((t0.length:Int) - 0:Int).toNat+1) 0) d (sumE (fun _=>N (IntKind.i64.wrap (t5+1))) (fun _=>K (.inr (.inr (fI (t1.getD t5.toNat .undef) 0,fI (t1.getD t5.toNat .undef) 1)))))))
 else d))
 else d)
 else (ro (runW (R117_2 t0 t1 t5 (fI (t1.getD t5.toNat .undef) 0) (fI (t1.getD t5.toNat .undef) 1)) (((t0.length:Int) - 0:Int).toNat+1) 0) d (sumE (fun _=>N (IntKind.i64.wrap (t5+1))) (fun _=>K (.inr (.inr (fI (t1.getD t5.toNat .undef) 0,fI (t1.getD t5.toNat .undef) 1)))))))))
 else d)
 else K (.inl ()))
def F117_0 (t0 t1:List AV) (t5:Int):Out (Int) (Unit ⊕ (Int × Int) ⊕ (Int × Int)):=G117_0 t0 t1 t5 .next .stop .fail
def R117_0 (t0 t1:List AV):(Int)→Out (Int) (Unit ⊕ (Int × Int) ⊕ (Int × Int)):=fun s:Int=>F117_0 t0 t1 s
def E117_0 (t0 t1:List AV):(Int)→St:=fun s:Int=>⟨[(0,AV.sl [.int .i64] t0),(1,AV.sl [.int .i64,.int .i64] t1),(5,Ai s)],[]⟩
def K117_0 (t0 t1:List AV) (k:Kont):(Unit ⊕ (Int × Int) ⊕ (Int × Int))→Option AV:=sumE (fun _:Unit=>k (.exit 0) ⟨[],[]⟩) (sumE (fun p:Int × Int=>k .ret ⟨[(4,AV.bool false)],[([1,6],⟨true,[],[AV.agg [Ai p.1,Ai p.2]]⟩)]⟩) (fun p:Int × Int=>k .ret ⟨[(4,AV.bool false)],[([0,6],⟨true,[],[AV.agg [Ai p.1,Ai p.2]]⟩)]⟩))
def l117_0:LModel:=fun _ _ st k=>match st with
 | ⟨[(0,.sl g0 t0),(1,.sl g1 t1),(5,.int .i64 t5)],[]⟩=>bif ctsEq g0 ([.int .i64]) && ctsEq g1 ([.int .i64,.int .i64]) then ro (runW (R117_0 t0 t1) (((t1.length:Int) - t5:Int).toNat+1) t5) none (K117_0 t0 t1 k) else none
 | _=>none
noncomputable def c117:Cfg:=cfg Tryz.prog [(117,0,[0,1,5]),(117,2,[0,1,5,6,7]),(117,999,[4]),(117,1000,[]),(117,1001,[0,1,5]),(117,1002,[0,1,5]),(117,1003,[0,1,5,6,7])] [(52,m52)] [] [] [(117,0,l117_0),(117,2,l117_2)]
theorem s117_2 (t0 t1:List AV) (t5 h0_0 h0_1:Int) (ce:CallE) (k:Kont) (s:Int) (next:St→Option AV):stepA (codeA c117 ce [] 117 2 (sub [1,0,1,0,0,1,0,0,1,1,1,0,0] (body Tryz.f117))) (normA [] [0,1,5,6,7]) next ((E117_2 t0 t1 t5 h0_0 h0_1) s) k=G117_2 t0 t1 t5 h0_0 h0_1 s (fun s=>next ((E117_2 t0 t1 t5 h0_0 h0_1) s)) (K117_2 t0 t1 t5 h0_0 h0_1 k) none:=by kernel_rfl
theorem st117_2 (t0 t1:List AV) (t5 h0_0 h0_1:Int) (ce:CallE) (k:Kont) (s:Int) (next:St→Option AV):stepA (codeA c117 ce [] 117 2 (sub [1,0,1,0,0,1,0,0,1,1,1,0,0] (body Tryz.f117))) (normA [] [0,1,5,6,7]) next ((E117_2 t0 t1 t5 h0_0 h0_1) s) k=(R117_2 t0 t1 t5 h0_0 h0_1 s).el none (fun s=>next ((E117_2 t0 t1 t5 h0_0 h0_1) s)) (K117_2 t0 t1 t5 h0_0 h0_1 k):=(s117_2 t0 t1 t5 h0_0 h0_1 ce k s next).trans (by unfold R117_2;unfold F117_2 G117_2;simp only [el_cond,el_ro,el_sum,el_fail,el_next,el_stop] <;> rfl)
theorem ok117_2 {ce:CallE}:LoopOK c117 ce [] 117 2 (sub [1,0,1,0,0,1,0,0,1,1,1,0,0] (body Tryz.f117)):=by
 intro m hm st k r h
 obtain rfl:l117_2=m:=Option.some.inj hm
 unfold l117_2 at h
 split at h
 ·rename_i g0 t0 g1 t1 t5 g2 g3 g4 t7 g5 h0_0 h0_1
  obtain ⟨hg,h⟩:=bif_some h
  simp only [Bool.and_eq_true] at hg
  obtain ⟨⟨⟨⟨⟨q0,q1⟩,q2⟩,q3⟩,q4⟩,q5⟩:=hg
  obtain rfl:=cE q0
  obtain rfl:=cE q1
  obtain rfl:=nE q2
  obtain rfl:=bE q3
  obtain rfl:=bE q4
  obtain rfl:=nE q5
  refine ⟨(((t0.length:Int) - t7:Int).toNat+1),?_⟩
  rw [← h]
  exact loop_run (E117_2 t0 t1 t5 h0_0 h0_1) (K117_2 t0 t1 t5 h0_0 h0_1 k) (st117_2 t0 t1 t5 h0_0 h0_1 ce k) _ t7
 ·cases h
theorem s117_0 (t0 t1:List AV) (ce:CallE) (k:Kont) (s:Int) (next:St→Option AV):stepA (codeA c117 ce [] 117 0 (sub [1,0,1,0,0] (body Tryz.f117))) (normA [] [0,1,5]) next ((E117_0 t0 t1) s) k=G117_0 t0 t1 s (fun s=>next ((E117_0 t0 t1) s)) (K117_0 t0 t1 k) none:=by kernel_rfl
theorem st117_0 (t0 t1:List AV) (ce:CallE) (k:Kont) (s:Int) (next:St→Option AV):stepA (codeA c117 ce [] 117 0 (sub [1,0,1,0,0] (body Tryz.f117))) (normA [] [0,1,5]) next ((E117_0 t0 t1) s) k=(R117_0 t0 t1 s).el none (fun s=>next ((E117_0 t0 t1) s)) (K117_0 t0 t1 k):=(s117_0 t0 t1 ce k s next).trans (by unfold R117_0;unfold F117_0 G117_0;simp only [el_cond,el_ro,el_sum,el_fail,el_next,el_stop] <;> rfl)
theorem ok117_0 {ce:CallE}:LoopOK c117 ce [] 117 0 (sub [1,0,1,0,0] (body Tryz.f117)):=by
 intro m hm st k r h
 obtain rfl:l117_0=m:=Option.some.inj hm
 unfold l117_0 at h
 split at h
 ·rename_i g0 t0 g1 t1 t5
  obtain ⟨hg,h⟩:=bif_some h
  simp only [Bool.and_eq_true] at hg
  obtain ⟨q0,q1⟩:=hg
  obtain rfl:=cE q0
  obtain rfl:=cE q1
  refine ⟨(((t1.length:Int) - t5:Int).toNat+1),?_⟩
  rw [← h]
  exact loop_run (E117_0 t0 t1) (K117_0 t0 t1 k) (st117_0 t0 t1 ce k) _ t5
 ·cases h
def q117 (a0 a1:List AV):Bool:=(ro (runW (R117_0 a0 a1) (((a1.length:Int) - 0:Int).toNat+1) 0) false (sumE (fun _=>true) (sumE (fun p73=>true) (fun p74=>true))))
def v117_0 (a0 a1:List AV):Bool:=(ro (runW (R117_0 a0 a1) (((a1.length:Int) - 0:Int).toNat+1) 0) false (sumE (fun _=>true) (sumE (fun p73=>false) (fun p74=>false))))
theorem e117 (a0 a1:List AV):funA c117 0 117 [AV.sl [.int .i64] a0,AV.sl [.int .i64,.int .i64] a1]=(ro (runW (R117_0 a0 a1) (((a1.length:Int) - 0:Int).toNat+1) 0) none (sumE (fun _=>some (AV.bool true)) (sumE (fun p73=>some (AV.bool false)) (fun p74=>some (AV.bool false))))):=by kernel_rfl
def m117:TModel
 | [.sl g0 a0,.sl g1 a1]=>bif ctsEq g0 ([.int .i64]) && ctsEq g1 ([.int .i64,.int .i64]) then some (q117 a0 a1,AV.bool (v117_0 a0 a1)) else none
 | _=>none
theorem k117:Known Tryz.prog 117:=⟨Tryz.f117,Tryz.func117,by kernel_rfl,by kernel_rfl⟩
theorem meets117:Meets Tryz.prog 117 m117:=by
 refine mt (lvl:=0) (cf:=c117) rfl mixed k117 Tryz.func117 (by kernel_rfl) (loops_cons ok117_0 (loops_cons ok117_2 noLoop)) (allT_cons meets52 allT_nil) allM_nil noI fun xs r h=>?_
 unfold m117 at h
 split at h
 ·rename_i g0 a0 g1 a1
  obtain ⟨hg,h⟩:=bif_pair h
  simp only [Bool.and_eq_true] at hg
  obtain ⟨q0,q1⟩:=hg
  obtain rfl:=cE q0
  obtain rfl:=cE q1
  obtain ⟨h1,rfl⟩:=pair_inj h
  exact (e117 a0 a1).trans ((brO (fun o:Option (Unit ⊕ (Int × Int) ⊕ (Int × Int))=>some (AV.bool (ro o false (sumE (fun _=>true) (sumE (fun p73=>false) (fun p74=>false)))))) (brS (fun o:Unit ⊕ (Int × Int) ⊕ (Int × Int)=>some (AV.bool ((sumE (fun _=>true) (sumE (fun p73=>false) (fun p74=>false))) o))) (fun _=>(fun _=>rfl)) (brS (fun o:(Int × Int) ⊕ (Int × Int)=>some (AV.bool ((sumE (fun p73=>false) (fun p74=>false)) o))) (fun p73=>(fun _=>rfl)) (fun p74=>(fun _=>rfl))))) h1)
 ·cases h
def G68_0 {β:Type} (h0_0:List AV) (h0_1:List AV) (h0_2:List AV) (t3:Int) (N:(Int)→β) (K:(Unit ⊕ Unit)→β) (d:β):β:=(bif decide (t3<(h0_1.length:Int)) then (bif (decide (0≤t3) && decide (t3<(h0_1.length:Int))) then (bif !(v52_0 (fI (h0_1.getD t3.toNat .undef) 0) 0 999) then K (.inr ())
 else (bif (decide (0≤0) && decide (0≤t3) && decide (t3≤(h0_1.length:Int))) then (bif (decide (0≤t3) && decide (t3<(h0_1.length:Int))) then (bif q54 ((h0_1.take (Int.toNat t3)).drop (Int.toNat 0)) (fI (h0_1.getD t3.toNat .undef) 0) then (bif (v54_0 ((h0_1.take (Int.toNat t3)).drop (Int.toNat 0)) (fI (h0_1.getD t3.toNat .undef) 0)) then K (.inr ())
 else N (IntKind.i64.wrap (t3+1)))
 else d)
 else d)
 else d))
 else d)
 else K (.inl ()))
def F68_0 (h0_0 h0_1 h0_2:List AV) (t3:Int):Out (Int) (Unit ⊕ Unit):=G68_0 h0_0 h0_1 h0_2 t3 .next .stop .fail
def R68_0 (h0_0 h0_1 h0_2:List AV):(Int)→Out (Int) (Unit ⊕ Unit):=fun s:Int=>F68_0 h0_0 h0_1 h0_2 s
def E68_0 (h0_0 h0_1 h0_2:List AV):(Int)→St:=fun s:Int=>⟨[(1,AV.ptr [0,1] 0 0),(3,Ai s)],[([0,1],⟨true,[],[AV.agg [AV.sl [.int .i64] h0_0,AV.sl [.int .i64] h0_1,AV.sl [.int .i64,.int .i64] h0_2]]⟩)]⟩
def K68_0 (h0_0 h0_1 h0_2:List AV) (k:Kont):(Unit ⊕ Unit)→Option AV:=sumE (fun _:Unit=>k (.exit 0) ⟨[(1,AV.ptr [0,1] 0 0)],[([0,1],⟨true,[],[AV.agg [AV.sl [.int .i64] h0_0,AV.sl [.int .i64] h0_1,AV.sl [.int .i64,.int .i64] h0_2]]⟩)]⟩) (fun _:Unit=>k .ret ⟨[(2,AV.bool false)],[([0,1],⟨true,[],[AV.agg [AV.sl [.int .i64] h0_0,AV.sl [.int .i64] h0_1,AV.sl [.int .i64,.int .i64] h0_2]]⟩)]⟩)
def l68_0:LModel:=fun _ _ st k=>match st with
 | ⟨[(1,.ptr g0 g1 g2),(3,.int .i64 t3)],[(g3,⟨true,[],[.agg [.sl g4 h0_0,.sl g5 h0_1,.sl g6 h0_2]]⟩)]⟩=>bif nmEq g0 ([0,1]) && Nat.beq g1 0 && Nat.beq g2 0 && nmEq g3 ([0,1]) && ctsEq g4 ([.int .i64]) && ctsEq g5 ([.int .i64]) && ctsEq g6 ([.int .i64,.int .i64]) then ro (runW (R68_0 h0_0 h0_1 h0_2) (((h0_1.length:Int) - t3:Int).toNat+1) t3) none (K68_0 h0_0 h0_1 h0_2 k) else none
 | _=>none
noncomputable def c68:Cfg:=cfg Tryz.prog [(68,0,[1,3]),(68,999,[2]),(68,1000,[1]),(68,1001,[1,3])] [(52,m52),(54,m54),(116,m116),(117,m117)] [] [] [(68,0,l68_0)]
theorem s68_0 (h0_0 h0_1 h0_2:List AV) (ce:CallE) (k:Kont) (s:Int) (next:St→Option AV):stepA (codeA c68 ce [] 68 0 (sub [1,1,0,1,0,0] (body Tryz.f68))) (normA [] [1,3]) next ((E68_0 h0_0 h0_1 h0_2) s) k=G68_0 h0_0 h0_1 h0_2 s (fun s=>next ((E68_0 h0_0 h0_1 h0_2) s)) (K68_0 h0_0 h0_1 h0_2 k) none:=by kernel_rfl
theorem st68_0 (h0_0 h0_1 h0_2:List AV) (ce:CallE) (k:Kont) (s:Int) (next:St→Option AV):stepA (codeA c68 ce [] 68 0 (sub [1,1,0,1,0,0] (body Tryz.f68))) (normA [] [1,3]) next ((E68_0 h0_0 h0_1 h0_2) s) k=(R68_0 h0_0 h0_1 h0_2 s).el none (fun s=>next ((E68_0 h0_0 h0_1 h0_2) s)) (K68_0 h0_0 h0_1 h0_2 k):=(s68_0 h0_0 h0_1 h0_2 ce k s next).trans (by unfold R68_0;unfold F68_0 G68_0;simp only [el_cond,el_ro,el_sum,el_fail,el_next,el_stop] <;> rfl)
theorem ok68_0 {ce:CallE}:LoopOK c68 ce [] 68 0 (sub [1,1,0,1,0,0] (body Tryz.f68)):=by
 intro m hm st k r h
 obtain rfl:l68_0=m:=Option.some.inj hm
 unfold l68_0 at h
 split at h
 ·rename_i g0 g1 g2 t3 g3 g4 h0_0 g5 h0_1 g6 h0_2
  obtain ⟨hg,h⟩:=bif_some h
  simp only [Bool.and_eq_true] at hg
  obtain ⟨⟨⟨⟨⟨⟨q0,q1⟩,q2⟩,q3⟩,q4⟩,q5⟩,q6⟩:=hg
  obtain rfl:=nE q0
  obtain rfl:=bE q1
  obtain rfl:=bE q2
  obtain rfl:=nE q3
  obtain rfl:=cE q4
  obtain rfl:=cE q5
  obtain rfl:=cE q6
  refine ⟨(((h0_1.length:Int) - t3:Int).toNat+1),?_⟩
  rw [← h]
  exact loop_run (E68_0 h0_0 h0_1 h0_2) (K68_0 h0_0 h0_1 h0_2 k) (st68_0 h0_0 h0_1 h0_2 ce k) _ t3
 ·cases h
def q68 (xa xb xc:List AV):Bool:=(q116 xa && (bif !(v116_0 xa) then true else (bif !decide ((xb.length:Int)=(xa.length:Int)) then true else (ro (runW (R68_0 xa xb xc) (((xb.length:Int) - 0:Int).toNat+1) 0) false (sumE (fun _=>q117 xa xc) (fun _=>true))))))
def v68_0 (xa xb xc:List AV):Bool:=(bif !(v116_0 xa) then false else (bif !decide ((xb.length:Int)=(xa.length:Int)) then false else (ro (runW (R68_0 xa xb xc) (((xb.length:Int) - 0:Int).toNat+1) 0) false (sumE (fun _=>(v117_0 xa xc)) (fun _=>false)))))
theorem e68 (xa xb xc:List AV):funA c68 0 68 [AV.agg [AV.sl [.int .i64] xa,AV.sl [.int .i64] xb,AV.sl [.int .i64,.int .i64] xc]]=(bif q116 xa then (bif !(v116_0 xa) then some (AV.bool false)
 else (bif !decide ((xb.length:Int)=(xa.length:Int)) then some (AV.bool false)
 else (ro (runW (R68_0 xa xb xc) (((xb.length:Int) - 0:Int).toNat+1) 0) none (sumE (fun _=>(bif q117 xa xc then some (AV.bool (v117_0 xa xc))
 else none)) (fun _=>some (AV.bool false))))))
 else none):=by kernel_rfl
def m68:TModel
 | [.agg [.sl g0 xa,.sl g1 xb,.sl g2 xc]]=>bif ctsEq g0 ([.int .i64]) && ctsEq g1 ([.int .i64]) && ctsEq g2 ([.int .i64,.int .i64]) then some (q68 xa xb xc,AV.bool (v68_0 xa xb xc)) else none
 | _=>none
theorem k68:Known Tryz.prog 68:=⟨Tryz.f68,Tryz.func68,by kernel_rfl,by kernel_rfl⟩
theorem meets68:Meets Tryz.prog 68 m68:=by
 refine mt (lvl:=0) (cf:=c68) rfl mixed k68 Tryz.func68 (by kernel_rfl) (loops_cons ok68_0 noLoop) (allT_cons meets52 (allT_cons meets54 (allT_cons meets116 (allT_cons meets117 allT_nil)))) allM_nil noI fun xs r h=>?_
 unfold m68 at h
 split at h
 ·rename_i g0 xa g1 xb g2 xc
  obtain ⟨hg,h⟩:=bif_pair h
  simp only [Bool.and_eq_true] at hg
  obtain ⟨⟨q0,q1⟩,q2⟩:=hg
  obtain rfl:=cE q0
  obtain rfl:=cE q1
  obtain rfl:=cE q2
  obtain ⟨h1,rfl⟩:=pair_inj h
  exact (e68 xa xb xc).trans ((brL (br (fun b=>some (AV.bool (bif b then false else (bif !decide ((xb.length:Int)=(xa.length:Int)) then false else (ro (runW (R68_0 xa xb xc) (((xb.length:Int) - 0:Int).toNat+1) 0) false (sumE (fun _=>(v117_0 xa xc)) (fun _=>false))))))) (fun _=>rfl) (br (fun b=>some (AV.bool (bif b then false else (ro (runW (R68_0 xa xb xc) (((xb.length:Int) - 0:Int).toNat+1) 0) false (sumE (fun _=>(v117_0 xa xc)) (fun _=>false)))))) (fun _=>rfl) (brO (fun o:Option (Unit ⊕ Unit)=>some (AV.bool (ro o false (sumE (fun _=>(v117_0 xa xc)) (fun _=>false))))) (brS (fun o:Unit ⊕ Unit=>some (AV.bool ((sumE (fun _=>(v117_0 xa xc)) (fun _=>false)) o))) (fun _=>(brL1 (fun _=>rfl))) (fun _=>(fun _=>rfl))))))) h1)
 ·cases h
noncomputable def c69:Cfg:=cfg Tryz.prog [(69,999,[2])] [] [] [] []
def q69 (xa xb xc:List AV):Bool:=((decide ((([]:List AV).length+xa.length)*8≤140737488355328) && decide ((([]:List AV).length+xa.length)≤140737488355328)) && ((decide ((([]:List AV).length+xb.length)*8≤140737488355328) && decide ((([]:List AV).length+xb.length)≤140737488355328)) && (decide ((([]:List AV).length+xc.length)*16≤140737488355328) && decide ((([]:List AV).length+xc.length)≤140737488355328))))
def v69_0 (xa xb xc:List AV):List AV:=([]:List AV)++xa
def v69_1 (xa xb xc:List AV):List AV:=([]:List AV)++xb
def v69_2 (xa xb xc:List AV):List AV:=([]:List AV)++xc
theorem e69 (xa xb xc:List AV):funA c69 0 69 [AV.agg [AV.sl [.int .i64] xa,AV.sl [.int .i64] xb,AV.sl [.int .i64,.int .i64] xc]]=(bif (decide ((([]:List AV).length+xa.length)*8≤140737488355328) && decide ((([]:List AV).length+xa.length)≤140737488355328)) then (bif (decide ((([]:List AV).length+xb.length)*8≤140737488355328) && decide ((([]:List AV).length+xb.length)≤140737488355328)) then (bif (decide ((([]:List AV).length+xc.length)*16≤140737488355328) && decide ((([]:List AV).length+xc.length)≤140737488355328)) then some (AV.agg [AV.fl [.int .i64] (([]:List AV)++xa),AV.fl [.int .i64] (([]:List AV)++xb),AV.fl [.int .i64,.int .i64] (([]:List AV)++xc)])
 else none)
 else none)
 else none):=by kernel_rfl
def m69:TModel
 | [.agg [.sl g0 xa,.sl g1 xb,.sl g2 xc]]=>bif ctsEq g0 ([.int .i64]) && ctsEq g1 ([.int .i64]) && ctsEq g2 ([.int .i64,.int .i64]) then some (q69 xa xb xc,AV.agg [AV.fl [.int .i64] (v69_0 xa xb xc),AV.fl [.int .i64] (v69_1 xa xb xc),AV.fl [.int .i64,.int .i64] (v69_2 xa xb xc)]) else none
 | _=>none
theorem k69:Known Tryz.prog 69:=⟨Tryz.f69,Tryz.func69,by kernel_rfl,by kernel_rfl⟩
theorem meets69:Meets Tryz.prog 69 m69:=by
 refine mt (lvl:=0) (cf:=c69) rfl mixed k69 Tryz.func69 (by kernel_rfl) noLoop allT_nil allM_nil noI fun xs r h=>?_
 unfold m69 at h
 split at h
 ·rename_i g0 xa g1 xb g2 xc
  obtain ⟨hg,h⟩:=bif_pair h
  simp only [Bool.and_eq_true] at hg
  obtain ⟨⟨q0,q1⟩,q2⟩:=hg
  obtain rfl:=cE q0
  obtain rfl:=cE q1
  obtain rfl:=cE q2
  obtain ⟨h1,rfl⟩:=pair_inj h
  exact (e69 xa xb xc).trans ((brL (brL (brL1 (fun _=>rfl)))) h1)
 ·cases h
def G177_2 {β:Type} (t1:List AV) (t2:Int) (t8:Int) (t9:Int) (t11:Int) (N:((Int × Int))→β) (K:(Int)→β) (d:β):β:=(bif decide (t11 ≥ 0) then (bif (decide (0≤t11) && decide (t11<(t1.length:Int))) then (bif decide (fI (t1.getD t11.toNat .undef) 0 ≥ t2) then (bif (decide (0≤t11) && decide (t11<(t1.length:Int))) then N (fI (t1.getD t11.toNat .undef) 1,IntKind.i64.wrap (t11 - 1))
 else d)
 else N (t9,IntKind.i64.wrap (t11 - 1)))
 else d)
 else K t9)
def F177_2 (t1:List AV) (t2 t8 t9 t11:Int):Out ((Int × Int)) (Int):=G177_2 t1 t2 t8 t9 t11 .next .stop .fail
def R177_2 (t1:List AV) (t2 t8:Int):((Int × Int))→Out ((Int × Int)) (Int):=fun s:Int × Int=>F177_2 t1 t2 t8 s.1 s.2
def E177_2 (t1:List AV) (t2 t8:Int):((Int × Int))→St:=fun s:Int × Int=>⟨[(1,AV.sl [.int .i64,.int .i64] t1),(2,Ai t2),(8,Ai t8),(9,Ai s.1),(11,Ai s.2)],[]⟩
def K177_2 (t1:List AV) (t2 t8:Int) (k:Kont):(Int)→Option AV:=fun p:Int=>k (.exit 2) ⟨[(8,Ai t8),(9,Ai p)],[]⟩
def l177_2:LModel:=fun _ _ st k=>match st with
 | ⟨[(1,.sl g0 t1),(2,.int .i64 t2),(8,.int .i64 t8),(9,.int .i64 t9),(11,.int .i64 t11)],[]⟩=>bif ctsEq g0 ([.int .i64,.int .i64]) then ro (runW (R177_2 t1 t2 t8) ((t11 - 0+1:Int).toNat+1) (t9,t11)) none (K177_2 t1 t2 t8 k) else none
 | _=>none
def G177_0 {β:Type} (t1:List AV) (t2:Int) (t9:Int) (t8:Int) (t10:Int) (N:((Int × Int))→β) (K:(Int)→β) (d:β):β:=(bif decide (t10<(t1.length:Int)) then (bif (decide (0≤t10) && decide (t10<(t1.length:Int))) then (bif decide (fI (t1.getD t10.toNat .undef) 0≤t2) then (bif (decide (0≤t10) && decide (t10<(t1.length:Int))) then N (fI (t1.getD t10.toNat .undef) 1,IntKind.i64.wrap (t10+1))
 else d)
 else N (t8,IntKind.i64.wrap (t10+1)))
 else d)
 else K t8)
def F177_0 (t1:List AV) (t2 t9 t8 t10:Int):Out ((Int × Int)) (Int):=G177_0 t1 t2 t9 t8 t10 .next .stop .fail
def R177_0 (t1:List AV) (t2 t9:Int):((Int × Int))→Out ((Int × Int)) (Int):=fun s:Int × Int=>F177_0 t1 t2 t9 s.1 s.2
def E177_0 (t1:List AV) (t2 t9:Int):((Int × Int))→St:=fun s:Int × Int=>⟨[(1,AV.sl [.int .i64,.int .i64] t1),(2,Ai t2),(8,Ai s.1),(9,Ai t9),(10,Ai s.2)],[]⟩
def K177_0 (t1:List AV) (t2 t9:Int) (k:Kont):(Int)→Option AV:=fun p:Int=>k (.exit 0) ⟨[(1,AV.sl [.int .i64,.int .i64] t1),(2,Ai t2),(8,Ai p),(9,Ai t9)],[]⟩
def l177_0:LModel:=fun _ _ st k=>match st with
 | ⟨[(1,.sl g0 t1),(2,.int .i64 t2),(8,.int .i64 t8),(9,.int .i64 t9),(10,.int .i64 t10)],[]⟩=>bif ctsEq g0 ([.int .i64,.int .i64]) then ro (runW (R177_0 t1 t2 t9) (((t1.length:Int) - t10:Int).toNat+1) (t8,t10)) none (K177_0 t1 t2 t9 k) else none
 | _=>none
noncomputable def c177:Cfg:=cfg Tryz.prog [(177,0,[1,2,8,9,10]),(177,2,[1,2,8,9,11]),(177,999,[6,7]),(177,1000,[1,2,8,9]),(177,1001,[1,2,8,9,10]),(177,1002,[8,9]),(177,1003,[1,2,8,9,11])] [] [] [] [(177,0,l177_0),(177,2,l177_2)]
theorem s177_2 (t1:List AV) (t2 t8:Int) (ce:CallE) (k:Kont) (s:Int × Int) (next:St→Option AV):stepA (codeA c177 ce [] 177 2 (sub [1,1,1,1,0,1,0,0] (body Tryz.f177))) (normA [] [1,2,8,9,11]) next ((E177_2 t1 t2 t8) s) k=G177_2 t1 t2 t8 s.1 s.2 (fun s=>next ((E177_2 t1 t2 t8) s)) (K177_2 t1 t2 t8 k) none:=by kernel_rfl
theorem st177_2 (t1:List AV) (t2 t8:Int) (ce:CallE) (k:Kont) (s:(Int × Int)) (next:St→Option AV):stepA (codeA c177 ce [] 177 2 (sub [1,1,1,1,0,1,0,0] (body Tryz.f177))) (normA [] [1,2,8,9,11]) next ((E177_2 t1 t2 t8) s) k=(R177_2 t1 t2 t8 s).el none (fun s=>next ((E177_2 t1 t2 t8) s)) (K177_2 t1 t2 t8 k):=(s177_2 t1 t2 t8 ce k s next).trans (by unfold R177_2;unfold F177_2 G177_2;simp only [el_cond,el_ro,el_sum,el_fail,el_next,el_stop] <;> rfl)
theorem ok177_2 {ce:CallE}:LoopOK c177 ce [] 177 2 (sub [1,1,1,1,0,1,0,0] (body Tryz.f177)):=by
 intro m hm st k r h
 obtain rfl:l177_2=m:=Option.some.inj hm
 unfold l177_2 at h
 split at h
 ·rename_i g0 t1 t2 t8 t9 t11
  obtain ⟨hg,h⟩:=bif_some h
  have q0:=hg
  obtain rfl:=cE q0
  refine ⟨((t11 - 0+1:Int).toNat+1),?_⟩
  rw [← h]
  exact loop_run (E177_2 t1 t2 t8) (K177_2 t1 t2 t8 k) (st177_2 t1 t2 t8 ce k) _ (t9,t11)
 ·cases h
theorem s177_0 (t1:List AV) (t2 t9:Int) (ce:CallE) (k:Kont) (s:Int × Int) (next:St→Option AV):stepA (codeA c177 ce [] 177 0 (sub [1,1,1,0,1,0,0] (body Tryz.f177))) (normA [] [1,2,8,9,10]) next ((E177_0 t1 t2 t9) s) k=G177_0 t1 t2 t9 s.1 s.2 (fun s=>next ((E177_0 t1 t2 t9) s)) (K177_0 t1 t2 t9 k) none:=by kernel_rfl
theorem st177_0 (t1:List AV) (t2 t9:Int) (ce:CallE) (k:Kont) (s:(Int × Int)) (next:St→Option AV):stepA (codeA c177 ce [] 177 0 (sub [1,1,1,0,1,0,0] (body Tryz.f177))) (normA [] [1,2,8,9,10]) next ((E177_0 t1 t2 t9) s) k=(R177_0 t1 t2 t9 s).el none (fun s=>next ((E177_0 t1 t2 t9) s)) (K177_0 t1 t2 t9 k):=(s177_0 t1 t2 t9 ce k s next).trans (by unfold R177_0;unfold F177_0 G177_0;simp only [el_cond,el_ro,el_sum,el_fail,el_next,el_stop] <;> rfl)
theorem ok177_0 {ce:CallE}:LoopOK c177 ce [] 177 0 (sub [1,1,1,0,1,0,0] (body Tryz.f177)):=by
 intro m hm st k r h
 obtain rfl:l177_0=m:=Option.some.inj hm
 unfold l177_0 at h
 split at h
 ·rename_i g0 t1 t2 t8 t9 t10
  obtain ⟨hg,h⟩:=bif_some h
  have q0:=hg
  obtain rfl:=cE q0
  refine ⟨(((t1.length:Int) - t10:Int).toNat+1),?_⟩
  rw [← h]
  exact loop_run (E177_0 t1 t2 t9) (K177_0 t1 t2 t9 k) (st177_0 t1 t2 t9 ce k) _ (t8,t10)
 ·cases h
def q177 (a0:Int) (a1:List AV) (a2:Int):Bool:=(ro (runW (R177_0 a1 a2 a0) (((a1.length:Int) - 0:Int).toNat+1) (0,0)) false (fun p76=>(ro (runW (R177_2 a1 a2 p76) (((IntKind.i64.wrap ((a1.length:Int) - 1)) - 0+1:Int).toNat+1) (a0,IntKind.i64.wrap ((a1.length:Int) - 1))) false (fun p77=>true))))
def v177_0 (a0:Int) (a1:List AV) (a2:Int):Int:=(ro (runW (R177_0 a1 a2 a0) (((a1.length:Int) - 0:Int).toNat+1) (0,0)) 0 (fun p76=>p76))
def v177_1 (a0:Int) (a1:List AV) (a2:Int):Int:=(ro (runW (R177_0 a1 a2 a0) (((a1.length:Int) - 0:Int).toNat+1) (0,0)) 0 (fun p76=>(ro (runW (R177_2 a1 a2 p76) (((IntKind.i64.wrap ((a1.length:Int) - 1)) - 0+1:Int).toNat+1) (a0,IntKind.i64.wrap ((a1.length:Int) - 1))) 0 (fun p77=>p77))))
theorem e177 (a0:Int) (a1:List AV) (a2:Int):funA c177 0 177 [Ai a0,AV.sl [.int .i64,.int .i64] a1,Ai a2]=(ro (runW (R177_0 a1 a2 a0) (((a1.length:Int) - 0:Int).toNat+1) (0,0)) none (fun p76=>(ro (runW (R177_2 a1 a2 p76) (((IntKind.i64.wrap ((a1.length:Int) - 1)) - 0+1:Int).toNat+1) (a0,IntKind.i64.wrap ((a1.length:Int) - 1))) none (fun p77=>some (AV.tup [Ai p76,Ai p77]))))):=by kernel_rfl
def m177:TModel
 | [.int .i64 a0,.sl g0 a1,.int .i64 a2]=>bif ctsEq g0 ([.int .i64,.int .i64]) then some (q177 a0 a1 a2,AV.tup [AV.int .i64 (v177_0 a0 a1 a2),AV.int .i64 (v177_1 a0 a1 a2)]) else none
 | _=>none
theorem k177:Known Tryz.prog 177:=⟨Tryz.f177,Tryz.func177,by kernel_rfl,by kernel_rfl⟩
theorem meets177:Meets Tryz.prog 177 m177:=by
 refine mt (lvl:=0) (cf:=c177) rfl mixed k177 Tryz.func177 (by kernel_rfl) (loops_cons ok177_0 (loops_cons ok177_2 noLoop)) allT_nil allM_nil noI fun xs r h=>?_
 unfold m177 at h
 split at h
 ·rename_i a0 g0 a1 a2
  obtain ⟨hg,h⟩:=bif_pair h
  have q0:=hg
  obtain rfl:=cE q0
  obtain ⟨h1,rfl⟩:=pair_inj h
  exact (e177 a0 a1 a2).trans ((brO (fun o:Option (Int)=>some (AV.tup [Ai (ro o 0 (fun p76=>p76)),Ai (ro o 0 (fun p76=>(ro (runW (R177_2 a1 a2 p76) (((IntKind.i64.wrap ((a1.length:Int) - 1)) - 0+1:Int).toNat+1) (a0,IntKind.i64.wrap ((a1.length:Int) - 1))) 0 (fun p77=>p77))))])) (fun p76=>(brO (fun o:Option (Int)=>some (AV.tup [Ai p76,Ai (ro o 0 (fun p77=>p77))])) (fun p77=>(fun _=>rfl))))) h1)
 ·cases h
noncomputable def c150:Cfg:=cfg Tryz.prog [(150,999,[4,5])] [(52,m52),(68,m68),(177,m177)] [] [] []
def q150 (xa xb xc:List AV) (a1:Int):Bool:=(q68 xa xb xc && (bif !(v68_0 xa xb xc) then true else (bif !(v52_0 a1 (-1000) 1000) then true else q177 (xa.length:Int) xc a1)))
def v150_0 (xa xb xc:List AV) (a1:Int):Int:=(bif !(v68_0 xa xb xc) then 0 else (bif !(v52_0 a1 (-1000) 1000) then 0 else (v177_0 (xa.length:Int) xc a1)))
def v150_1 (xa xb xc:List AV) (a1:Int):Int:=(bif !(v68_0 xa xb xc) then 0 else (bif !(v52_0 a1 (-1000) 1000) then 0 else (v177_1 (xa.length:Int) xc a1)))
theorem e150 (xa xb xc:List AV) (a1:Int):funA c150 0 150 [AV.agg [AV.sl [.int .i64] xa,AV.sl [.int .i64] xb,AV.sl [.int .i64,.int .i64] xc],Ai a1]=(bif q68 xa xb xc then (bif !(v68_0 xa xb xc) then some (AV.tup [Ai 0,Ai 0])
 else (bif !(v52_0 a1 (-1000) 1000) then some (AV.tup [Ai 0,Ai 0])
 else (bif q177 (xa.length:Int) xc a1 then some (AV.tup [Ai (v177_0 (xa.length:Int) xc a1),Ai (v177_1 (xa.length:Int) xc a1)])
 else none)))
 else none):=by kernel_rfl
def m150:TModel
 | [.agg [.sl g0 xa,.sl g1 xb,.sl g2 xc],.int .i64 a1]=>bif ctsEq g0 ([.int .i64]) && ctsEq g1 ([.int .i64]) && ctsEq g2 ([.int .i64,.int .i64]) then some (q150 xa xb xc a1,AV.tup [AV.int .i64 (v150_0 xa xb xc a1),AV.int .i64 (v150_1 xa xb xc a1)]) else none
 | _=>none
theorem k150:Known Tryz.prog 150:=⟨Tryz.f150,Tryz.func150,by kernel_rfl,by kernel_rfl⟩
theorem meets150:Meets Tryz.prog 150 m150:=by
 refine mt (lvl:=0) (cf:=c150) rfl mixed k150 Tryz.func150 (by kernel_rfl) noLoop (allT_cons meets52 (allT_cons meets68 (allT_cons meets177 allT_nil))) allM_nil noI fun xs r h=>?_
 unfold m150 at h
 split at h
 ·rename_i g0 xa g1 xb g2 xc a1
  obtain ⟨hg,h⟩:=bif_pair h
  simp only [Bool.and_eq_true] at hg
  obtain ⟨⟨q0,q1⟩,q2⟩:=hg
  obtain rfl:=cE q0
  obtain rfl:=cE q1
  obtain rfl:=cE q2
  obtain ⟨h1,rfl⟩:=pair_inj h
  exact (e150 xa xb xc a1).trans ((brL (br (fun b=>some (AV.tup [Ai (bif b then 0 else (bif !(v52_0 a1 (-1000) 1000) then 0 else (v177_0 (xa.length:Int) xc a1))),Ai (bif b then 0 else (bif !(v52_0 a1 (-1000) 1000) then 0 else (v177_1 (xa.length:Int) xc a1)))])) (fun _=>rfl) (br (fun b=>some (AV.tup [Ai (bif b then 0 else (v177_0 (xa.length:Int) xc a1)),Ai (bif b then 0 else (v177_1 (xa.length:Int) xc a1))])) (fun _=>rfl) (brL1 (fun _=>rfl))))) h1)
 ·cases h
def G119_0 {β:Type} (t1:Int) (h0_0:List AV) (h0_1:List AV) (h0_2:List AV) (t6:Int) (N:(Int)→β) (K:(Unit ⊕ Int)→β) (d:β):β:=(bif decide (t6<(h0_2.length:Int)) then (bif (decide (0≤t6) && decide (t6<(h0_2.length:Int))) then (bif decide (fI (h0_2.getD t6.toNat .undef) 0=t1) then (bif (decide (0≤t6) && decide (t6<(h0_2.length:Int))) then K (.inr (fI (h0_2.getD t6.toNat .undef) 1))
 else d)
 else N (IntKind.i64.wrap (t6+1)))
 else d)
 else K (.inl ()))
def F119_0 (t1:Int) (h0_0 h0_1 h0_2:List AV) (t6:Int):Out (Int) (Unit ⊕ Int):=G119_0 t1 h0_0 h0_1 h0_2 t6 .next .stop .fail
def R119_0 (t1:Int) (h0_0 h0_1 h0_2:List AV):(Int)→Out (Int) (Unit ⊕ Int):=fun s:Int=>F119_0 t1 h0_0 h0_1 h0_2 s
def E119_0 (t1:Int) (h0_0 h0_1 h0_2:List AV):(Int)→St:=fun s:Int=>⟨[(1,Ai t1),(2,AV.ptr [0,2] 0 0),(6,Ai s)],[([0,2],⟨true,[],[AV.agg [AV.sl [.int .i64] h0_0,AV.sl [.int .i64] h0_1,AV.sl [.int .i64,.int .i64] h0_2]]⟩)]⟩
def K119_0 (t1:Int) (h0_0 h0_1 h0_2:List AV) (k:Kont):(Unit ⊕ Int)→Option AV:=sumE (fun _:Unit=>k (.exit 0) ⟨[],[([0,2],⟨true,[],[AV.agg [AV.sl [.int .i64] h0_0,AV.sl [.int .i64] h0_1,AV.sl [.int .i64,.int .i64] h0_2]]⟩)]⟩) (fun p:Int=>k .ret ⟨[(4,Ai p),(5,AV.bool true)],[([0,2],⟨true,[],[AV.agg [AV.sl [.int .i64] h0_0,AV.sl [.int .i64] h0_1,AV.sl [.int .i64,.int .i64] h0_2]]⟩)]⟩)
def l119_0:LModel:=fun _ _ st k=>match st with
 | ⟨[(1,.int .i64 t1),(2,.ptr g0 g1 g2),(6,.int .i64 t6)],[(g3,⟨true,[],[.agg [.sl g4 h0_0,.sl g5 h0_1,.sl g6 h0_2]]⟩)]⟩=>bif nmEq g0 ([0,2]) && Nat.beq g1 0 && Nat.beq g2 0 && nmEq g3 ([0,2]) && ctsEq g4 ([.int .i64]) && ctsEq g5 ([.int .i64]) && ctsEq g6 ([.int .i64,.int .i64]) then ro (runW (R119_0 t1 h0_0 h0_1 h0_2) (((h0_2.length:Int) - t6:Int).toNat+1) t6) none (K119_0 t1 h0_0 h0_1 h0_2 k) else none
 | _=>none
noncomputable def c119:Cfg:=cfg Tryz.prog [(119,0,[1,2,6]),(119,999,[4,5]),(119,1000,[]),(119,1001,[1,2,6])] [] [] [] [(119,0,l119_0)]
theorem s119_0 (t1:Int) (h0_0 h0_1 h0_2:List AV) (ce:CallE) (k:Kont) (s:Int) (next:St→Option AV):stepA (codeA c119 ce [] 119 0 (sub [1,0,1,0,0] (body Tryz.f119))) (normA [] [1,2,6]) next ((E119_0 t1 h0_0 h0_1 h0_2) s) k=G119_0 t1 h0_0 h0_1 h0_2 s (fun s=>next ((E119_0 t1 h0_0 h0_1 h0_2) s)) (K119_0 t1 h0_0 h0_1 h0_2 k) none:=by kernel_rfl
theorem st119_0 (t1:Int) (h0_0 h0_1 h0_2:List AV) (ce:CallE) (k:Kont) (s:Int) (next:St→Option AV):stepA (codeA c119 ce [] 119 0 (sub [1,0,1,0,0] (body Tryz.f119))) (normA [] [1,2,6]) next ((E119_0 t1 h0_0 h0_1 h0_2) s) k=(R119_0 t1 h0_0 h0_1 h0_2 s).el none (fun s=>next ((E119_0 t1 h0_0 h0_1 h0_2) s)) (K119_0 t1 h0_0 h0_1 h0_2 k):=(s119_0 t1 h0_0 h0_1 h0_2 ce k s next).trans (by unfold R119_0;unfold F119_0 G119_0;simp only [el_cond,el_ro,el_sum,el_fail,el_next,el_stop] <;> rfl)
theorem ok119_0 {ce:CallE}:LoopOK c119 ce [] 119 0 (sub [1,0,1,0,0] (body Tryz.f119)):=by
 intro m hm st k r h
 obtain rfl:l119_0=m:=Option.some.inj hm
 unfold l119_0 at h
 split at h
 ·rename_i t1 g0 g1 g2 t6 g3 g4 h0_0 g5 h0_1 g6 h0_2
  obtain ⟨hg,h⟩:=bif_some h
  simp only [Bool.and_eq_true] at hg
  obtain ⟨⟨⟨⟨⟨⟨q0,q1⟩,q2⟩,q3⟩,q4⟩,q5⟩,q6⟩:=hg
  obtain rfl:=nE q0
  obtain rfl:=bE q1
  obtain rfl:=bE q2
  obtain rfl:=nE q3
  obtain rfl:=cE q4
  obtain rfl:=cE q5
  obtain rfl:=cE q6
  refine ⟨(((h0_2.length:Int) - t6:Int).toNat+1),?_⟩
  rw [← h]
  exact loop_run (E119_0 t1 h0_0 h0_1 h0_2) (K119_0 t1 h0_0 h0_1 h0_2 k) (st119_0 t1 h0_0 h0_1 h0_2 ce k) _ t6
 ·cases h
def q119 (xa xb xc:List AV) (a1:Int):Bool:=(ro (runW (R119_0 a1 xa xb xc) (((xc.length:Int) - 0:Int).toNat+1) 0) false (sumE (fun _=>true) (fun p79=>true)))
def v119_0 (xa xb xc:List AV) (a1:Int):Int:=(ro (runW (R119_0 a1 xa xb xc) (((xc.length:Int) - 0:Int).toNat+1) 0) 0 (sumE (fun _=>0) (fun p79=>p79)))
def v119_1 (xa xb xc:List AV) (a1:Int):Bool:=(ro (runW (R119_0 a1 xa xb xc) (((xc.length:Int) - 0:Int).toNat+1) 0) false (sumE (fun _=>false) (fun p79=>true)))
theorem e119 (xa xb xc:List AV) (a1:Int):funA c119 0 119 [AV.agg [AV.sl [.int .i64] xa,AV.sl [.int .i64] xb,AV.sl [.int .i64,.int .i64] xc],Ai a1]=(ro (runW (R119_0 a1 xa xb xc) (((xc.length:Int) - 0:Int).toNat+1) 0) none (sumE (fun _=>some (AV.tup [Ai 0,AV.bool false])) (fun p79=>some (AV.tup [Ai p79,AV.bool true])))):=by kernel_rfl
def m119:TModel
 | [.agg [.sl g0 xa,.sl g1 xb,.sl g2 xc],.int .i64 a1]=>bif ctsEq g0 ([.int .i64]) && ctsEq g1 ([.int .i64]) && ctsEq g2 ([.int .i64,.int .i64]) then some (q119 xa xb xc a1,AV.tup [AV.int .i64 (v119_0 xa xb xc a1),AV.bool (v119_1 xa xb xc a1)]) else none
 | _=>none
theorem k119:Known Tryz.prog 119:=⟨Tryz.f119,Tryz.func119,by kernel_rfl,by kernel_rfl⟩
theorem meets119:Meets Tryz.prog 119 m119:=by
 refine mt (lvl:=0) (cf:=c119) rfl mixed k119 Tryz.func119 (by kernel_rfl) (loops_cons ok119_0 noLoop) allT_nil allM_nil noI fun xs r h=>?_
 unfold m119 at h
 split at h
 ·rename_i g0 xa g1 xb g2 xc a1
  obtain ⟨hg,h⟩:=bif_pair h
  simp only [Bool.and_eq_true] at hg
  obtain ⟨⟨q0,q1⟩,q2⟩:=hg
  obtain rfl:=cE q0
  obtain rfl:=cE q1
  obtain rfl:=cE q2
  obtain ⟨h1,rfl⟩:=pair_inj h
  exact (e119 xa xb xc a1).trans ((brO (fun o:Option (Unit ⊕ Int)=>some (AV.tup [Ai (ro o 0 (sumE (fun _=>0) (fun p79=>p79))),AV.bool (ro o false (sumE (fun _=>false) (fun p79=>true)))])) (brS (fun o:Unit ⊕ Int=>some (AV.tup [Ai ((sumE (fun _=>0) (fun p79=>p79)) o),AV.bool ((sumE (fun _=>false) (fun p79=>true)) o)])) (fun _=>(fun _=>rfl)) (fun p79=>(fun _=>rfl)))) h1)
 ·cases h
noncomputable def c210:Cfg:=cfg Tryz.prog [(210,999,[2])] [] [] [] []
def q210 (a0:Int):Bool:=(!decide (10007=0) && (!decide (10007=0) && !decide (10007=0)))
def v210_0 (a0:Int):Int:=Int.tmod (IntKind.i64.wrap (IntKind.i64.wrap (Int.tmod (IntKind.i64.wrap (Int.tmod a0 10007+10007)) 10007*1103)+2345)) 10007
theorem e210 (a0:Int):funA c210 0 210 [Ai a0]=(bif !decide (10007=0) then (bif !decide (10007=0) then (bif !decide (10007=0) then some (Ai (Int.tmod (IntKind.i64.wrap (IntKind.i64.wrap (Int.tmod (IntKind.i64.wrap (Int.tmod a0 10007+10007)) 10007*1103)+2345)) 10007))
 else none)
 else none)
 else none):=by kernel_rfl
def m210:TModel
 | [.int .i64 a0]=>some (q210 a0,AV.int .i64 (v210_0 a0))
 | _=>none
theorem k210:Known Tryz.prog 210:=⟨Tryz.f210,Tryz.func210,by kernel_rfl,by kernel_rfl⟩
theorem meets210:Meets Tryz.prog 210 m210:=by
 refine mt (lvl:=0) (cf:=c210) rfl mixed k210 Tryz.func210 (by kernel_rfl) noLoop allT_nil allM_nil noI fun xs r h=>?_
 unfold m210 at h
 split at h
 ·rename_i a0
  obtain ⟨h1,rfl⟩:=pair_inj h
  exact (e210 a0).trans ((brL (brL (brL1 (fun _=>rfl)))) h1)
 ·cases h
noncomputable def c211:Cfg:=cfg Tryz.prog [(211,999,[2])] [(77,m77)] [] [] []
def q211 (a0:List AV):Bool:=(bif decide ((a0.length:Int)=0) then true else (bif decide ((a0.length:Int) > 64) then true else (q77 a0 && (!decide (2=0) && (decide (0≤IntKind.i64.wrap (Int.tdiv (IntKind.i64.wrap ((a0.length:Int) - 1)) 2)) && decide (IntKind.i64.wrap (Int.tdiv (IntKind.i64.wrap ((a0.length:Int) - 1)) 2)<((v77_0 a0).length:Int)))))))
def v211_0 (a0:List AV):Int:=(bif decide ((a0.length:Int)=0) then 0 else (bif decide ((a0.length:Int) > 64) then 0 else fI ((v77_0 a0).getD (IntKind.i64.wrap (Int.tdiv (IntKind.i64.wrap ((a0.length:Int) - 1)) 2)).toNat .undef) 0))
theorem e211 (a0:List AV):funA c211 0 211 [AV.sl [.int .i64] a0]=(bif decide ((a0.length:Int)=0) then some (Ai 0)
 else (bif decide ((a0.length:Int) > 64) then some (Ai 0)
 else (bif q77 a0 then (bif !decide (2=0) then (bif (decide (0≤IntKind.i64.wrap (Int.tdiv (IntKind.i64.wrap ((a0.length:Int) - 1)) 2)) && decide (IntKind.i64.wrap (Int.tdiv (IntKind.i64.wrap ((a0.length:Int) - 1)) 2)<((v77_0 a0).length:Int))) then some (Ai (fI ((v77_0 a0).getD (IntKind.i64.wrap (Int.tdiv (IntKind.i64.wrap ((a0.length:Int) - 1)) 2)).toNat .undef) 0))
 else none)
 else none)
 else none))):=by kernel_rfl
def m211:TModel
 | [.sl g0 a0]=>bif ctsEq g0 ([.int .i64]) then some (q211 a0,AV.int .i64 (v211_0 a0)) else none
 | _=>none
theorem k211:Known Tryz.prog 211:=⟨Tryz.f211,Tryz.func211,by kernel_rfl,by kernel_rfl⟩
theorem meets211:Meets Tryz.prog 211 m211:=by
 refine mt (lvl:=0) (cf:=c211) rfl mixed k211 Tryz.func211 (by kernel_rfl) noLoop (allT_cons meets77 allT_nil) allM_nil noI fun xs r h=>?_
 unfold m211 at h
 split at h
 ·rename_i g0 a0
  obtain ⟨hg,h⟩:=bif_pair h
  have q0:=hg
  obtain rfl:=cE q0
  obtain ⟨h1,rfl⟩:=pair_inj h
  exact (e211 a0).trans ((br (fun b=>some (Ai (bif b then 0 else (bif decide ((a0.length:Int) > 64) then 0 else fI ((v77_0 a0).getD (IntKind.i64.wrap (Int.tdiv (IntKind.i64.wrap ((a0.length:Int) - 1)) 2)).toNat .undef) 0)))) (fun _=>rfl) (br (fun b=>some (Ai (bif b then 0 else fI ((v77_0 a0).getD (IntKind.i64.wrap (Int.tdiv (IntKind.i64.wrap ((a0.length:Int) - 1)) 2)).toNat .undef) 0))) (fun _=>rfl) (brL (brL (brL1 (fun _=>rfl)))))) h1)
 ·cases h
noncomputable def c203:Cfg:=cfg Tryz.prog [(203,999,[8,9])] [(68,m68),(133,m133),(210,m210),(211,m211)] [] [] []
def q203 (xa xb xc:List AV) (ya yb yc a2 a3:Int):Bool:=(q68 xa xb xc && (bif !(v68_0 xa xb xc) then true else (bif !(v133_0 ya yb yc) then true else (bif decide (a2<0) then true else (bif decide (a2 ≥ a3) then true else (bif decide (a3 > (xa.length:Int)) then true else (bif decide (ya=2) then (q210 yc && (!decide (IntKind.i64.wrap (a3 - a2)=0) && (decide (0≤IntKind.i64.wrap (a2+Int.tmod (v210_0 yc) (IntKind.i64.wrap (a3 - a2)))) && decide (IntKind.i64.wrap (a2+Int.tmod (v210_0 yc) (IntKind.i64.wrap (a3 - a2)))<(xa.length:Int))))) else ((decide (0≤a2) && decide (a2≤a3) && decide (a3≤(xa.length:Int))) && q211 ((xa.take (Int.toNat a3)).drop (Int.toNat a2))))))))))
def v203_0 (xa xb xc:List AV) (ya yb yc a2 a3:Int):Int:=(bif !(v68_0 xa xb xc) then 0 else (bif !(v133_0 ya yb yc) then 0 else (bif decide (a2<0) then 0 else (bif decide (a2 ≥ a3) then 0 else (bif decide (a3 > (xa.length:Int)) then 0 else (bif decide (ya=2) then fI (xa.getD (IntKind.i64.wrap (a2+Int.tmod (v210_0 yc) (IntKind.i64.wrap (a3 - a2)))).toNat .undef) 0 else (v211_0 ((xa.take (Int.toNat a3)).drop (Int.toNat a2)))))))))
def v203_1 (xa xb xc:List AV) (ya yb yc a2 a3:Int):Int:=ya
def v203_2 (xa xb xc:List AV) (ya yb yc a2 a3:Int):Int:=yb
def v203_3 (xa xb xc:List AV) (ya yb yc a2 a3:Int):Int:=(bif !(v68_0 xa xb xc) then yc else (bif !(v133_0 ya yb yc) then yc else (bif decide (a2<0) then yc else (bif decide (a2 ≥ a3) then yc else (bif decide (a3 > (xa.length:Int)) then yc else (bif decide (ya=2) then (v210_0 yc) else yc))))))
theorem e203 (xa xb xc:List AV) (ya yb yc a2 a3:Int):funA c203 0 203 [AV.agg [AV.sl [.int .i64] xa,AV.sl [.int .i64] xb,AV.sl [.int .i64,.int .i64] xc],AV.agg [Ai ya,Ai yb,Ai yc],Ai a2,Ai a3]=(bif q68 xa xb xc then (bif !(v68_0 xa xb xc) then some (AV.tup [Ai 0,AV.agg [Ai ya,Ai yb,Ai yc]])
 else (bif !(v133_0 ya yb yc) then some (AV.tup [Ai 0,AV.agg [Ai ya,Ai yb,Ai yc]])
 else (bif decide (a2<0) then some (AV.tup [Ai 0,AV.agg [Ai ya,Ai yb,Ai yc]])
 else (bif decide (a2 ≥ a3) then some (AV.tup [Ai 0,AV.agg [Ai ya,Ai yb,Ai yc]])
 else (bif decide (a3 > (xa.length:Int)) then some (AV.tup [Ai 0,AV.agg [Ai ya,Ai yb,Ai yc]])
 else (bif decide (ya=2) then (bif q210 yc then (bif !decide (IntKind.i64.wrap (a3 - a2)=0) then (bif (decide (0≤IntKind.i64.wrap (a2+Int.tmod (v210_0 yc) (IntKind.i64.wrap (a3 - a2)))) && decide (IntKind.i64.wrap (a2+Int.tmod (v210_0 yc) (IntKind.i64.wrap (a3 - a2)))<(xa.length:Int))) then some (AV.tup [Ai (fI (xa.getD (IntKind.i64.wrap (a2+Int.tmod (v210_0 yc) (IntKind.i64.wrap (a3 - a2)))).toNat .undef) 0),AV.agg [Ai ya,Ai yb,Ai (v210_0 yc)]])
 else none)
 else none)
 else none)
 else (bif (decide (0≤a2) && decide (a2≤a3) && decide (a3≤(xa.length:Int))) then (bif q211 ((xa.take (Int.toNat a3)).drop (Int.toNat a2)) then some (AV.tup [Ai (v211_0 ((xa.take (Int.toNat a3)).drop (Int.toNat a2))),AV.agg [Ai ya,Ai yb,Ai yc]])
 else none)
 else none)))))))
 else none):=by kernel_rfl
theorem r203 (xa xb xc:List AV) (ya yb yc a2 a3:Int) (h:q203 xa xb xc ya yb yc a2 a3=true):funA c203 0 203 [AV.agg [AV.sl [.int .i64] xa,AV.sl [.int .i64] xb,AV.sl [.int .i64,.int .i64] xc],AV.agg [AV.int .i64 ya,AV.int .i64 yb,AV.int .i64 yc],AV.int .i64 a2,AV.int .i64 a3]=some (AV.tup [AV.int .i64 (v203_0 xa xb xc ya yb yc a2 a3),AV.agg [AV.int .i64 (v203_1 xa xb xc ya yb yc a2 a3),AV.int .i64 (v203_2 xa xb xc ya yb yc a2 a3),AV.int .i64 (v203_3 xa xb xc ya yb yc a2 a3)]]):=by
 refine (e203 xa xb xc ya yb yc a2 a3).trans ?_
 unfold q203 at h
 unfold v203_0 v203_1 v203_2 v203_3
 refine ifG (fun hc=>?_) (fun hc=>?_) <;> first|rw [hc] at h ⊢|rw [hc] at h|rw [hc]|skip
 ·refine ifG (fun hc=>?_) (fun hc=>?_) <;> first|rw [hc] at h ⊢|rw [hc] at h|rw [hc]|skip
  ·rfl
  ·refine ifG (fun hc=>?_) (fun hc=>?_) <;> first|rw [hc] at h ⊢|rw [hc] at h|rw [hc]|skip
   ·rfl
   ·refine ifG (fun hc=>?_) (fun hc=>?_) <;> first|rw [hc] at h ⊢|rw [hc] at h|rw [hc]|skip
    ·rfl
    ·refine ifG (fun hc=>?_) (fun hc=>?_) <;> first|rw [hc] at h ⊢|rw [hc] at h|rw [hc]|skip
     ·rfl
     ·refine ifG (fun hc=>?_) (fun hc=>?_) <;> first|rw [hc] at h ⊢|rw [hc] at h|rw [hc]|skip
      ·rfl
      ·refine ifG (fun hc=>?_) (fun hc=>?_) <;> first|rw [hc] at h ⊢|rw [hc] at h|rw [hc]|skip
       ·refine ifG (fun hc=>?_) (fun hc=>?_) <;> first|rw [hc] at h ⊢|rw [hc] at h|rw [hc]|skip
        ·refine ifG (fun hc=>?_) (fun hc=>?_) <;> first|rw [hc] at h ⊢|rw [hc] at h|rw [hc]|skip
         ·refine ifG (fun hc=>?_) (fun hc=>?_) <;> first|rw [hc] at h ⊢|rw [hc] at h|rw [hc]|skip
          ·rfl
          ·first|exact Bool.noConfusion h|exact Bool.noConfusion hc
         ·first|exact Bool.noConfusion h|exact Bool.noConfusion hc
        ·first|exact Bool.noConfusion h|exact Bool.noConfusion hc
       ·refine ifG (fun hc=>?_) (fun hc=>?_) <;> first|rw [hc] at h ⊢|rw [hc] at h|rw [hc]|skip
        ·refine ifG (fun hc=>?_) (fun hc=>?_) <;> first|rw [hc] at h ⊢|rw [hc] at h|rw [hc]|skip
         ·rfl
         ·first|exact Bool.noConfusion h|exact Bool.noConfusion hc
        ·first|exact Bool.noConfusion h|exact Bool.noConfusion hc
 ·first|exact Bool.noConfusion h|exact Bool.noConfusion hc
def m203:TModel
 | [.agg [.sl g0 xa,.sl g1 xb,.sl g2 xc],.agg [.int .i64 ya,.int .i64 yb,.int .i64 yc],.int .i64 a2,.int .i64 a3]=>bif ctsEq g0 ([.int .i64]) && ctsEq g1 ([.int .i64]) && ctsEq g2 ([.int .i64,.int .i64]) then some (q203 xa xb xc ya yb yc a2 a3,AV.tup [AV.int .i64 (v203_0 xa xb xc ya yb yc a2 a3),AV.agg [AV.int .i64 (v203_1 xa xb xc ya yb yc a2 a3),AV.int .i64 (v203_2 xa xb xc ya yb yc a2 a3),AV.int .i64 (v203_3 xa xb xc ya yb yc a2 a3)]]) else none
 | _=>none
theorem k203:Known Tryz.prog 203:=⟨Tryz.f203,Tryz.func203,by kernel_rfl,by kernel_rfl⟩
theorem meets203:Meets Tryz.prog 203 m203:=by
 refine mt (lvl:=0) (cf:=c203) rfl mixed k203 Tryz.func203 (by kernel_rfl) noLoop (allT_cons meets68 (allT_cons meets133 (allT_cons meets210 (allT_cons meets211 allT_nil)))) allM_nil noI fun xs r h=>?_
 unfold m203 at h
 split at h
 ·rename_i g0 xa g1 xb g2 xc ya yb yc a2 a3
  obtain ⟨hg,h⟩:=bif_pair h
  simp only [Bool.and_eq_true] at hg
  obtain ⟨⟨q0,q1⟩,q2⟩:=hg
  obtain rfl:=cE q0
  obtain rfl:=cE q1
  obtain rfl:=cE q2
  obtain ⟨h1,rfl⟩:=pair_inj h
  exact r203 xa xb xc ya yb yc a2 a3 h1
 ·cases h
def G151_0 {β:Type} (t0:List AV) (t3:Int) (t11:Int) (t12:Int) (h0:List AV) (N:((Int × Int × (List AV)))→β) (K:((Int × (List AV)))→β) (d:β):β:=(bif decide (t11≤t12) then (bif (decide (0≤t11) && decide (t11<(t0.length:Int))) then (bif decide (fI (t0.getD t11.toNat .undef) 0<t3) then N (IntKind.i64.wrap (t11+1),t12,h0)
 else (bif (decide (0≤t12) && decide (t12<(t0.length:Int))) then (bif decide (fI (t0.getD t12.toNat .undef) 0 ≥ t3) then N (t11,IntKind.i64.wrap (t12 - 1),h0)
 else (bif (decide ((h0.length+([AV.agg [AV.int .i64 t11,AV.int .i64 t12]]).length)*16≤140737488355328) && decide ((h0.length+([AV.agg [AV.int .i64 t11,AV.int .i64 t12]]).length)≤140737488355328)) then N (IntKind.i64.wrap (t11+1),IntKind.i64.wrap (t12 - 1),h0++([AV.agg [AV.int .i64 t11,AV.int .i64 t12]]))
 else d))
 else d))
 else d)
 else K (t11,h0))
def F151_0 (t0:List AV) (t3 t11 t12:Int) (h0:List AV):Out ((Int × Int × (List AV))) ((Int × (List AV))):=G151_0 t0 t3 t11 t12 h0 .next .stop .fail
def R151_0 (t0:List AV) (t3:Int):((Int × Int × (List AV)))→Out ((Int × Int × (List AV))) ((Int × (List AV))):=fun s:Int × Int × (List AV)=>F151_0 t0 t3 s.1 s.2.1 s.2.2
def E151_0 (t0:List AV) (t3:Int):((Int × Int × (List AV)))→St:=fun s:Int × Int × (List AV)=>⟨[(0,AV.sl [.int .i64] t0),(3,Ai t3),(10,AV.own [0,10]),(11,Ai s.1),(12,Ai s.2.1)],[([0,10],⟨false,[.int .i64,.int .i64],s.2.2⟩)]⟩
def K151_0 (t0:List AV) (t3:Int) (k:Kont):((Int × (List AV)))→Option AV:=fun p:Int × (List AV)=>k (.exit 0) ⟨[(10,AV.own [0,10]),(11,Ai p.1)],[([0,10],⟨false,[.int .i64,.int .i64],p.2⟩)]⟩
def l151_0:LModel:=fun _ _ st k=>match st with
 | ⟨[(0,.sl g0 t0),(3,.int .i64 t3),(10,.own g1),(11,.int .i64 t11),(12,.int .i64 t12)],[(g2,⟨false,g3,h0⟩)]⟩=>bif ctsEq g0 ([.int .i64]) && nmEq g1 ([0,10]) && nmEq g2 ([0,10]) && ctsEq g3 ([.int .i64,.int .i64]) then ro (runW (R151_0 t0 t3) ((t12 - t11+1:Int).toNat+1) (t11,t12,h0)) none (K151_0 t0 t3 k) else none
 | _=>none
noncomputable def c151:Cfg:=cfg Tryz.prog [(151,0,[0,3,10,11,12]),(151,999,[8,9]),(151,1000,[10,11]),(151,1001,[0,3,10,11,12]),(151,1002,[0,3,10,11,12])] [(52,m52)] [] [] [(151,0,l151_0)]
theorem s151_0 (t0:List AV) (t3:Int) (ce:CallE) (k:Kont) (s:Int × Int × (List AV)) (next:St→Option AV):stepA (codeA c151 ce [] 151 0 (sub [1,1,1,1,1,0,0,0] (body Tryz.f151))) (normA [] [0,3,10,11,12]) next ((E151_0 t0 t3) s) k=G151_0 t0 t3 s.1 s.2.1 s.2.2 (fun s=>next ((E151_0 t0 t3) s)) (K151_0 t0 t3 k) none:=by kernel_rfl
theorem st151_0 (t0:List AV) (t3:Int) (ce:CallE) (k:Kont) (s:(Int × Int × (List AV))) (next:St→Option AV):stepA (codeA c151 ce [] 151 0 (sub [1,1,1,1,1,0,0,0] (body Tryz.f151))) (normA [] [0,3,10,11,12]) next ((E151_0 t0 t3) s) k=(R151_0 t0 t3 s).el none (fun s=>next ((E151_0 t0 t3) s)) (K151_0 t0 t3 k):=(s151_0 t0 t3 ce k s next).trans (by unfold R151_0;unfold F151_0 G151_0;simp only [el_cond,el_ro,el_sum,el_fail,el_next,el_stop] <;> rfl)
theorem ok151_0 {ce:CallE}:LoopOK c151 ce [] 151 0 (sub [1,1,1,1,1,0,0,0] (body Tryz.f151)):=by
 intro m hm st k r h
 obtain rfl:l151_0=m:=Option.some.inj hm
 unfold l151_0 at h
 split at h
 ·rename_i g0 t0 t3 g1 t11 t12 g2 g3 h0
  obtain ⟨hg,h⟩:=bif_some h
  simp only [Bool.and_eq_true] at hg
  obtain ⟨⟨⟨q0,q1⟩,q2⟩,q3⟩:=hg
  obtain rfl:=cE q0
  obtain rfl:=nE q1
  obtain rfl:=nE q2
  obtain rfl:=cE q3
  refine ⟨((t12 - t11+1:Int).toNat+1),?_⟩
  rw [← h]
  exact loop_run (E151_0 t0 t3) (K151_0 t0 t3 k) (st151_0 t0 t3 ce k) _ (t11,t12,h0)
 ·cases h
def q151 (a0:List AV) (a1 a2 a3:Int):Bool:=(bif !(v52_0 a1 0 a2) then true else (bif decide (a2 > (a0.length:Int)) then true else (ro (runW (R151_0 a0 a3) (((IntKind.i64.wrap (a2 - 1)) - a1+1:Int).toNat+1) (a1,IntKind.i64.wrap (a2 - 1),([]:List AV))) false (fun p80=>true))))
def v151_0 (a0:List AV) (a1 a2 a3:Int):List AV:=(bif !(v52_0 a1 0 a2) then ([]:List AV) else (bif decide (a2 > (a0.length:Int)) then ([]:List AV) else (ro (runW (R151_0 a0 a3) (((IntKind.i64.wrap (a2 - 1)) - a1+1:Int).toNat+1) (a1,IntKind.i64.wrap (a2 - 1),([]:List AV))) [] (fun p80=>p80.2))))
def v151_1 (a0:List AV) (a1 a2 a3:Int):Int:=(bif !(v52_0 a1 0 a2) then 0 else (bif decide (a2 > (a0.length:Int)) then 0 else (ro (runW (R151_0 a0 a3) (((IntKind.i64.wrap (a2 - 1)) - a1+1:Int).toNat+1) (a1,IntKind.i64.wrap (a2 - 1),([]:List AV))) 0 (fun p80=>p80.1))))
theorem e151 (a0:List AV) (a1 a2 a3:Int):funA c151 0 151 [AV.sl [.int .i64] a0,Ai a1,Ai a2,Ai a3]=(bif !(v52_0 a1 0 a2) then some (AV.tup [AV.fl [.int .i64,.int .i64] ([]:List AV),Ai 0])
 else (bif decide (a2 > (a0.length:Int)) then some (AV.tup [AV.fl [.int .i64,.int .i64] ([]:List AV),Ai 0])
 else (ro (runW (R151_0 a0 a3) (((IntKind.i64.wrap (a2 - 1)) - a1+1:Int).toNat+1) (a1,IntKind.i64.wrap (a2 - 1),([]:List AV))) none (fun p80=>some (AV.tup [AV.fl [.int .i64,.int .i64] p80.2,Ai p80.1]))))):=by kernel_rfl
def m151:TModel
 | [.sl g0 a0,.int .i64 a1,.int .i64 a2,.int .i64 a3]=>bif ctsEq g0 ([.int .i64]) then some (q151 a0 a1 a2 a3,AV.tup [AV.fl [.int .i64,.int .i64] (v151_0 a0 a1 a2 a3),AV.int .i64 (v151_1 a0 a1 a2 a3)]) else none
 | _=>none
theorem k151:Known Tryz.prog 151:=⟨Tryz.f151,Tryz.func151,by kernel_rfl,by kernel_rfl⟩
theorem meets151:Meets Tryz.prog 151 m151:=by
 refine mt (lvl:=0) (cf:=c151) rfl mixed k151 Tryz.func151 (by kernel_rfl) (loops_cons ok151_0 noLoop) (allT_cons meets52 allT_nil) allM_nil noI fun xs r h=>?_
 unfold m151 at h
 split at h
 ·rename_i g0 a0 a1 a2 a3
  obtain ⟨hg,h⟩:=bif_pair h
  have q0:=hg
  obtain rfl:=cE q0
  obtain ⟨h1,rfl⟩:=pair_inj h
  exact (e151 a0 a1 a2 a3).trans ((br (fun b=>some (AV.tup [AV.fl [.int .i64,.int .i64] (bif b then ([]:List AV) else (bif decide (a2 > (a0.length:Int)) then ([]:List AV) else (ro (runW (R151_0 a0 a3) (((IntKind.i64.wrap (a2 - 1)) - a1+1:Int).toNat+1) (a1,IntKind.i64.wrap (a2 - 1),([]:List AV))) [] (fun p80=>p80.2)))),Ai (bif b then 0 else (bif decide (a2 > (a0.length:Int)) then 0 else (ro (runW (R151_0 a0 a3) (((IntKind.i64.wrap (a2 - 1)) - a1+1:Int).toNat+1) (a1,IntKind.i64.wrap (a2 - 1),([]:List AV))) 0 (fun p80=>p80.1))))])) (fun _=>rfl) (br (fun b=>some (AV.tup [AV.fl [.int .i64,.int .i64] (bif b then ([]:List AV) else (ro (runW (R151_0 a0 a3) (((IntKind.i64.wrap (a2 - 1)) - a1+1:Int).toNat+1) (a1,IntKind.i64.wrap (a2 - 1),([]:List AV))) [] (fun p80=>p80.2))),Ai (bif b then 0 else (ro (runW (R151_0 a0 a3) (((IntKind.i64.wrap (a2 - 1)) - a1+1:Int).toNat+1) (a1,IntKind.i64.wrap (a2 - 1),([]:List AV))) 0 (fun p80=>p80.1)))])) (fun _=>rfl) (brO (fun o:Option ((Int × (List AV)))=>some (AV.tup [AV.fl [.int .i64,.int .i64] (ro o [] (fun p80=>p80.2)),Ai (ro o 0 (fun p80=>p80.1))])) (fun p80=>(fun _=>rfl))))) h1)
 ·cases h
def G152_0 {β:Type} (t1:List AV) (h2_0:List AV) (h2_1:List AV) (h2_2:List AV) (h3:List AV) (t7:Int) (h0:List AV) (h1:List AV) (N:((Int × (List AV) × (List AV)))→β) (K:(((List AV) × (List AV)) ⊕ ((List AV) × (List AV) × (List AV) × (List AV) × (List AV)))→β) (d:β):β:=(bif decide (t7<(t1.length:Int)) then (bif (decide (0≤t7) && decide (t7<(t1.length:Int))) then (bif (decide (0≤t7) && decide (t7<(t1.length:Int))) then (bif !(v52_0 (fI (t1.getD t7.toNat .undef) 0) 0 (IntKind.i64.wrap ((h0.length:Int) - 1))) then (bif q69 h2_0 h2_1 h2_2 then K (.inr (h0,h1,(v69_0 h2_0 h2_1 h2_2),(v69_1 h2_0 h2_1 h2_2),(v69_2 h2_0 h2_1 h2_2)))
 else d)
 else (bif !(v52_0 (fI (t1.getD t7.toNat .undef) 1) 0 (IntKind.i64.wrap ((h0.length:Int) - 1))) then (bif q69 h2_0 h2_1 h2_2 then K (.inr (h0,h1,(v69_0 h2_0 h2_1 h2_2),(v69_1 h2_0 h2_1 h2_2),(v69_2 h2_0 h2_1 h2_2)))
 else d)
 else (bif q122 (fI (t1.getD t7.toNat .undef) 0) (fI (t1.getD t7.toNat .undef) 1) h0 then (bif q122 (fI (t1.getD t7.toNat .undef) 0) (fI (t1.getD t7.toNat .undef) 1) h1 then N (IntKind.i64.wrap (t7+1),(v122_0 (fI (t1.getD t7.toNat .undef) 0) (fI (t1.getD t7.toNat .undef) 1) h0),(v122_0 (fI (t1.getD t7.toNat .undef) 0) (fI (t1.getD t7.toNat .undef) 1) h1))
 else d)
 else d)))
 else d)
 else d)
 else K (.inl (h0,h1)))
def F152_0 (t1 h2_0 h2_1 h2_2 h3:List AV) (t7:Int) (h0 h1:List AV):Out ((Int × (List AV) × (List AV))) (((List AV) × (List AV)) ⊕ ((List AV) × (List AV) × (List AV) × (List AV) × (List AV))):=G152_0 t1 h2_0 h2_1 h2_2 h3 t7 h0 h1 .next .stop .fail
def R152_0 (t1 h2_0 h2_1 h2_2 h3:List AV):((Int × (List AV) × (List AV)))→Out ((Int × (List AV) × (List AV))) (((List AV) × (List AV)) ⊕ ((List AV) × (List AV) × (List AV) × (List AV) × (List AV))):=fun s:Int × (List AV) × (List AV)=>F152_0 t1 h2_0 h2_1 h2_2 h3 s.1 s.2.1 s.2.2
def E152_0 (t1 h2_0 h2_1 h2_2 h3:List AV):((Int × (List AV) × (List AV)))→St:=fun s:Int × (List AV) × (List AV)=>⟨[(1,AV.sl [.int .i64,.int .i64] t1),(2,AV.ptr [0,2] 0 0),(4,AV.ptr [0,4] 0 0),(6,AV.ptr [0,6] 0 0),(7,Ai s.1)],[([0,0,6],⟨false,[.int .i64],s.2.1⟩),([0,1,6],⟨false,[.int .i64],s.2.2⟩),([0,2],⟨true,[],[AV.agg [AV.sl [.int .i64] h2_0,AV.sl [.int .i64] h2_1,AV.sl [.int .i64,.int .i64] h2_2]]⟩),([0,2,6],⟨false,[.int .i64,.int .i64],h3⟩),([0,4],⟨true,[],[AV.agg [AV.snil,AV.snil,AV.snil]]⟩),([0,6],⟨true,[],[AV.agg [AV.own [0,0,6],AV.own [0,1,6],AV.own [0,2,6]]]⟩)]⟩
def K152_0 (t1 h2_0 h2_1 h2_2 h3:List AV) (k:Kont):(((List AV) × (List AV)) ⊕ ((List AV) × (List AV) × (List AV) × (List AV) × (List AV)))→Option AV:=sumE (fun p:(List AV) × (List AV)=>k (.exit 0) ⟨[(4,AV.ptr [0,4] 0 0),(6,AV.ptr [0,6] 0 0)],[([0,0,6],⟨false,[.int .i64],p.1⟩),([0,1,6],⟨false,[.int .i64],p.2⟩),([0,2],⟨true,[],[AV.agg [AV.sl [.int .i64] h2_0,AV.sl [.int .i64] h2_1,AV.sl [.int .i64,.int .i64] h2_2]]⟩),([0,2,6],⟨false,[.int .i64,.int .i64],h3⟩),([0,4],⟨true,[],[AV.agg [AV.snil,AV.snil,AV.snil]]⟩),([0,6],⟨true,[],[AV.agg [AV.own [0,0,6],AV.own [0,1,6],AV.own [0,2,6]]]⟩)]⟩) (fun p:(List AV) × (List AV) × (List AV) × (List AV) × (List AV)=>k .ret ⟨[(4,AV.ptr [0,4] 0 0),(5,AV.bool false)],[([0,0,6],⟨false,[.int .i64],p.1⟩),([0,1,6],⟨false,[.int .i64],p.2.1⟩),([0,1,53],⟨false,[.int .i64],p.2.2.1⟩),([0,2],⟨true,[],[AV.agg [AV.sl [.int .i64] h2_0,AV.sl [.int .i64] h2_1,AV.sl [.int .i64,.int .i64] h2_2]]⟩),([0,2,6],⟨false,[.int .i64,.int .i64],h3⟩),([0,4],⟨true,[],[AV.agg [AV.own [0,1,53],AV.own [1,1,53],AV.own [2,1,53]]]⟩),([0,6],⟨true,[],[AV.agg [AV.own [0,0,6],AV.own [0,1,6],AV.own [0,2,6]]]⟩),([1,1,53],⟨false,[.int .i64],p.2.2.2.1⟩),([2,1,53],⟨false,[.int .i64,.int .i64],p.2.2.2.2⟩)]⟩)
def l152_0:LModel:=fun _ _ st k=>match st with
 | ⟨[(1,.sl g0 t1),(2,.ptr g1 g2 g3),(4,.ptr g4 g5 g6),(6,.ptr g7 g8 g9),(7,.int .i64 t7)],[(g10,⟨false,g11,h0⟩),(g12,⟨false,g13,h1⟩),(g14,⟨true,[],[.agg [.sl g15 h2_0,.sl g16 h2_1,.sl g17 h2_2]]⟩),(g18,⟨false,g19,h3⟩),(g20,⟨true,[],[.agg [.snil,.snil,.snil]]⟩),(g21,⟨true,[],[.agg [.own g22,.own g23,.own g24]]⟩)]⟩=>bif ctsEq g0 ([.int .i64,.int .i64]) && nmEq g1 ([0,2]) && Nat.beq g2 0 && Nat.beq g3 0 && nmEq g4 ([0,4]) && Nat.beq g5 0 && Nat.beq g6 0 && nmEq g7 ([0,6]) && Nat.beq g8 0 && Nat.beq g9 0 && nmEq g10 ([0,0,6]) && ctsEq g11 ([.int .i64]) && nmEq g12 ([0,1,6]) && ctsEq g13 ([.int .i64]) && nmEq g14 ([0,2]) && ctsEq g15 ([.int .i64]) && ctsEq g16 ([.int .i64]) && ctsEq g17 ([.int .i64,.int .i64]) && nmEq g18 ([0,2,6]) && ctsEq g19 ([.int .i64,.int .i64]) && nmEq g20 ([0,4]) && nmEq g21 ([0,6]) && nmEq g22 ([0,0,6]) && nmEq g23 ([0,1,6]) && nmEq g24 ([0,2,6]) then ro (runW (R152_0 t1 h2_0 h2_1 h2_2 h3) (((t1.length:Int) - t7:Int).toNat+1) (t7,h0,h1)) none (K152_0 t1 h2_0 h2_1 h2_2 h3 k) else none
 | _=>none
noncomputable def c152:Cfg:=cfg Tryz.prog [(152,0,[1,2,4,6,7]),(152,999,[4,5]),(152,1000,[4,6]),(152,1001,[1,2,4,6,7])] [(52,m52),(69,m69)] [(122,.w m122)] [] [(152,0,l152_0)]
theorem s152_0 (t1 h2_0 h2_1 h2_2 h3:List AV) (ce:CallE) (k:Kont) (s:Int × (List AV) × (List AV)) (next:St→Option AV):stepA (codeA c152 ce [] 152 0 (sub [1,1,1,0,1,0,0] (body Tryz.f152))) (normA [] [1,2,4,6,7]) next ((E152_0 t1 h2_0 h2_1 h2_2 h3) s) k=G152_0 t1 h2_0 h2_1 h2_2 h3 s.1 s.2.1 s.2.2 (fun s=>next ((E152_0 t1 h2_0 h2_1 h2_2 h3) s)) (K152_0 t1 h2_0 h2_1 h2_2 h3 k) none:=by kernel_rfl
theorem st152_0 (t1 h2_0 h2_1 h2_2 h3:List AV) (ce:CallE) (k:Kont) (s:(Int × (List AV) × (List AV))) (next:St→Option AV):stepA (codeA c152 ce [] 152 0 (sub [1,1,1,0,1,0,0] (body Tryz.f152))) (normA [] [1,2,4,6,7]) next ((E152_0 t1 h2_0 h2_1 h2_2 h3) s) k=(R152_0 t1 h2_0 h2_1 h2_2 h3 s).el none (fun s=>next ((E152_0 t1 h2_0 h2_1 h2_2 h3) s)) (K152_0 t1 h2_0 h2_1 h2_2 h3 k):=(s152_0 t1 h2_0 h2_1 h2_2 h3 ce k s next).trans (by unfold R152_0;unfold F152_0 G152_0;simp only [el_cond,el_ro,el_sum,el_fail,el_next,el_stop] <;> rfl)
theorem ok152_0 {ce:CallE}:LoopOK c152 ce [] 152 0 (sub [1,1,1,0,1,0,0] (body Tryz.f152)):=by
 intro m hm st k r h
 obtain rfl:l152_0=m:=Option.some.inj hm
 unfold l152_0 at h
 split at h
 ·rename_i g0 t1 g1 g2 g3 g4 g5 g6 g7 g8 g9 t7 g10 g11 h0 g12 g13 h1 g14 g15 h2_0 g16 h2_1 g17 h2_2 g18 g19 h3 g20 g21 g22 g23 g24
  obtain ⟨hg,h⟩:=bif_some h
  simp only [Bool.and_eq_true] at hg
  obtain ⟨⟨⟨⟨⟨⟨⟨⟨⟨⟨⟨⟨⟨⟨⟨⟨⟨⟨⟨⟨⟨⟨⟨⟨q0,q1⟩,q2⟩,q3⟩,q4⟩,q5⟩,q6⟩,q7⟩,q8⟩,q9⟩,q10⟩,q11⟩,q12⟩,q13⟩,q14⟩,q15⟩,q16⟩,q17⟩,q18⟩,q19⟩,q20⟩,q21⟩,q22⟩,q23⟩,q24⟩:=hg
  obtain rfl:=cE q0
  obtain rfl:=nE q1
  obtain rfl:=bE q2
  obtain rfl:=bE q3
  obtain rfl:=nE q4
  obtain rfl:=bE q5
  obtain rfl:=bE q6
  obtain rfl:=nE q7
  obtain rfl:=bE q8
  obtain rfl:=bE q9
  obtain rfl:=nE q10
  obtain rfl:=cE q11
  obtain rfl:=nE q12
  obtain rfl:=cE q13
  obtain rfl:=nE q14
  obtain rfl:=cE q15
  obtain rfl:=cE q16
  obtain rfl:=cE q17
  obtain rfl:=nE q18
  obtain rfl:=cE q19
  obtain rfl:=nE q20
  obtain rfl:=nE q21
  obtain rfl:=nE q22
  obtain rfl:=nE q23
  obtain rfl:=nE q24
  refine ⟨(((t1.length:Int) - t7:Int).toNat+1),?_⟩
  rw [← h]
  exact loop_run (E152_0 t1 h2_0 h2_1 h2_2 h3) (K152_0 t1 h2_0 h2_1 h2_2 h3 k) (st152_0 t1 h2_0 h2_1 h2_2 h3 ce k) _ (t7,h0,h1)
 ·cases h
def q152 (xa xb xc a1:List AV):Bool:=(q69 xa xb xc && (bif !decide (((v69_1 xa xb xc).length:Int)=((v69_0 xa xb xc).length:Int)) then true else (ro (runW (R152_0 a1 xa xb xc (v69_2 xa xb xc)) (((a1.length:Int) - 0:Int).toNat+1) (0,(v69_0 xa xb xc),(v69_1 xa xb xc))) false (sumE (fun p81=>true) (fun p82=>true)))))
def v152_0 (xa xb xc a1:List AV):List AV:=(bif !decide (((v69_1 xa xb xc).length:Int)=((v69_0 xa xb xc).length:Int)) then (v69_0 xa xb xc) else (ro (runW (R152_0 a1 xa xb xc (v69_2 xa xb xc)) (((a1.length:Int) - 0:Int).toNat+1) (0,(v69_0 xa xb xc),(v69_1 xa xb xc))) [] (sumE (fun p81=>p81.1) (fun p82=>p82.2.2.1))))
def v152_1 (xa xb xc a1:List AV):List AV:=(bif !decide (((v69_1 xa xb xc).length:Int)=((v69_0 xa xb xc).length:Int)) then (v69_1 xa xb xc) else (ro (runW (R152_0 a1 xa xb xc (v69_2 xa xb xc)) (((a1.length:Int) - 0:Int).toNat+1) (0,(v69_0 xa xb xc),(v69_1 xa xb xc))) [] (sumE (fun p81=>p81.2) (fun p82=>p82.2.2.2.1))))
def v152_2 (xa xb xc a1:List AV):List AV:=(bif !decide (((v69_1 xa xb xc).length:Int)=((v69_0 xa xb xc).length:Int)) then (v69_2 xa xb xc) else (ro (runW (R152_0 a1 xa xb xc (v69_2 xa xb xc)) (((a1.length:Int) - 0:Int).toNat+1) (0,(v69_0 xa xb xc),(v69_1 xa xb xc))) [] (sumE (fun p81=>(v69_2 xa xb xc)) (fun p82=>p82.2.2.2.2))))
def v152_3 (xa xb xc a1:List AV):Bool:=(bif !decide (((v69_1 xa xb xc).length:Int)=((v69_0 xa xb xc).length:Int)) then false else (ro (runW (R152_0 a1 xa xb xc (v69_2 xa xb xc)) (((a1.length:Int) - 0:Int).toNat+1) (0,(v69_0 xa xb xc),(v69_1 xa xb xc))) false (sumE (fun p81=>true) (fun p82=>false))))
theorem e152 (xa xb xc a1:List AV):funA c152 0 152 [AV.agg [AV.sl [.int .i64] xa,AV.sl [.int .i64] xb,AV.sl [.int .i64,.int .i64] xc],AV.sl [.int .i64,.int .i64] a1]=(bif q69 xa xb xc then (bif !decide (((v69_1 xa xb xc).length:Int)=((v69_0 xa xb xc).length:Int)) then some (AV.tup [AV.agg [AV.fl [.int .i64] (v69_0 xa xb xc),AV.fl [.int .i64] (v69_1 xa xb xc),AV.fl [.int .i64,.int .i64] (v69_2 xa xb xc)],AV.bool false])
 else (ro (runW (R152_0 a1 xa xb xc (v69_2 xa xb xc)) (((a1.length:Int) - 0:Int).toNat+1) (0,(v69_0 xa xb xc),(v69_1 xa xb xc))) none (sumE (fun p81=>some (AV.tup [AV.agg [AV.fl [.int .i64] p81.1,AV.fl [.int .i64] p81.2,AV.fl [.int .i64,.int .i64] (v69_2 xa xb xc)],AV.bool true])) (fun p82=>some (AV.tup [AV.agg [AV.fl [.int .i64] p82.2.2.1,AV.fl [.int .i64] p82.2.2.2.1,AV.fl [.int .i64,.int .i64] p82.2.2.2.2],AV.bool false])))))
 else none):=by kernel_rfl
theorem r152 (xa xb xc a1:List AV) (h:q152 xa xb xc a1=true):funA c152 0 152 [AV.agg [AV.sl [.int .i64] xa,AV.sl [.int .i64] xb,AV.sl [.int .i64,.int .i64] xc],AV.sl [.int .i64,.int .i64] a1]=some (AV.tup [AV.agg [AV.fl [.int .i64] (v152_0 xa xb xc a1),AV.fl [.int .i64] (v152_1 xa xb xc a1),AV.fl [.int .i64,.int .i64] (v152_2 xa xb xc a1)],AV.bool (v152_3 xa xb xc a1)]):=by
 refine (e152 xa xb xc a1).trans ?_
 unfold q152 at h
 unfold v152_0 v152_1 v152_2 v152_3
 refine ifG (fun hc=>?_) (fun hc=>?_) <;> first|rw [hc] at h ⊢|rw [hc] at h|rw [hc]|skip
 ·refine ifG (fun hc=>?_) (fun hc=>?_) <;> first|rw [hc] at h ⊢|rw [hc] at h|rw [hc]|skip
  ·rfl
  ·refine roG (fun hc=>?_) (fun r hc=>?_) <;> first|rw [hc] at h ⊢|rw [hc] at h|rw [hc]|skip
   ·exact Bool.noConfusion h
   ·try simp only [ro] at h ⊢
    cases r with
    | inl p81 =>
     try simp only [sumE] at h ⊢
     rfl
    | inr p82 =>
     try simp only [sumE] at h ⊢
     rfl
 ·first|exact Bool.noConfusion h|exact Bool.noConfusion hc
def m152:TModel
 | [.agg [.sl g0 xa,.sl g1 xb,.sl g2 xc],.sl g3 a1]=>bif ctsEq g0 ([.int .i64]) && ctsEq g1 ([.int .i64]) && ctsEq g2 ([.int .i64,.int .i64]) && ctsEq g3 ([.int .i64,.int .i64]) then some (q152 xa xb xc a1,AV.tup [AV.agg [AV.fl [.int .i64] (v152_0 xa xb xc a1),AV.fl [.int .i64] (v152_1 xa xb xc a1),AV.fl [.int .i64,.int .i64] (v152_2 xa xb xc a1)],AV.bool (v152_3 xa xb xc a1)]) else none
 | _=>none
theorem k152:Known Tryz.prog 152:=⟨Tryz.f152,Tryz.func152,by kernel_rfl,by kernel_rfl⟩
theorem meets152:Meets Tryz.prog 152 m152:=by
 refine mt (lvl:=0) (cf:=c152) rfl mixed k152 Tryz.func152 (by kernel_rfl) (loops_cons ok152_0 noLoop) (allT_cons meets52 (allT_cons meets69 allT_nil)) (allM_cons meets122 allM_nil) noI fun xs r h=>?_
 unfold m152 at h
 split at h
 ·rename_i g0 xa g1 xb g2 xc g3 a1
  obtain ⟨hg,h⟩:=bif_pair h
  simp only [Bool.and_eq_true] at hg
  obtain ⟨⟨⟨q0,q1⟩,q2⟩,q3⟩:=hg
  obtain rfl:=cE q0
  obtain rfl:=cE q1
  obtain rfl:=cE q2
  obtain rfl:=cE q3
  obtain ⟨h1,rfl⟩:=pair_inj h
  exact r152 xa xb xc a1 h1
 ·cases h
def G153_0 {β:Type} (h0:List AV) (h1:List AV) (h2_0:List AV) (h2_1:List AV) (h2_2:List AV) (h4_0:Int) (h4_1:Int) (t7:Bool) (t8:Int) (h3:List AV) (N:((Bool × Int × (List AV)))→β) (K:((Bool × (List AV)))→β) (d:β):β:=(bif decide (t8<(h2_2.length:Int)) then (bif !t7 then (bif (decide (0≤t8) && decide (t8<(h2_2.length:Int))) then (bif decide (fI (h2_2.getD t8.toNat .undef) 0 > h4_0) then (bif (decide ((h3.length+([AV.agg [AV.int .i64 h4_0,AV.int .i64 h4_1]]).length)*16≤140737488355328) && decide ((h3.length+([AV.agg [AV.int .i64 h4_0,AV.int .i64 h4_1]]).length)≤140737488355328)) then (bif (decide (0≤t8) && decide (t8<(h2_2.length:Int))) then (bif (decide (((h3++([AV.agg [AV.int .i64 h4_0,AV.int .i64 h4_1]])).length+([AV.agg [AV.int .i64 (fI (h2_2.getD t8.toNat .undef) 0),AV.int .i64 (fI (h2_2.getD t8.toNat .undef) 1)]]).length)*16≤140737488355328) && decide (((h3++([AV.agg [AV.int .i64 h4_0,AV.int .i64 h4_1]])).length+([AV.agg [AV.int .i64 (fI (h2_2.getD t8.toNat .undef) 0),AV.int .i64 (fI (h2_2.getD t8.toNat .undef) 1)]]).length)≤140737488355328)) then N (true,IntKind.i64.wrap (t8+1),(h3++([AV.agg [AV.int .i64 h4_0,AV.int .i64 h4_1]]))++([AV.agg [AV.int .i64 (fI (h2_2.getD t8.toNat .undef) 0),AV.int .i64 (fI (h2_2.getD t8.toNat .undef) 1)]]))
 else d)
 else d)
 else d)
 else (bif (decide (0≤t8) && decide (t8<(h2_2.length:Int))) then (bif (decide ((h3.length+([AV.agg [AV.int .i64 (fI (h2_2.getD t8.toNat .undef) 0),AV.int .i64 (fI (h2_2.getD t8.toNat .undef) 1)]]).length)*16≤140737488355328) && decide ((h3.length+([AV.agg [AV.int .i64 (fI (h2_2.getD t8.toNat .undef) 0),AV.int .i64 (fI (h2_2.getD t8.toNat .undef) 1)]]).length)≤140737488355328)) then N (t7,IntKind.i64.wrap (t8+1),h3++([AV.agg [AV.int .i64 (fI (h2_2.getD t8.toNat .undef) 0),AV.int .i64 (fI (h2_2.getD t8.toNat .undef) 1)]]))
 else d)
 else d))
 else d)
 else (bif (decide (0≤t8) && decide (t8<(h2_2.length:Int))) then (bif (decide ((h3.length+([AV.agg [AV.int .i64 (fI (h2_2.getD t8.toNat .undef) 0),AV.int .i64 (fI (h2_2.getD t8.toNat .undef) 1)]]).length)*16≤140737488355328) && decide ((h3.length+([AV.agg [AV.int .i64 (fI (h2_2.getD t8.toNat .undef) 0),AV.int .i64 (fI (h2_2.getD t8.toNat .undef) 1)]]).length)≤140737488355328)) then N (t7,IntKind.i64.wrap (t8+1),h3++([AV.agg [AV.int .i64 (fI (h2_2.getD t8.toNat .undef) 0),AV.int .i64 (fI (h2_2.getD t8.toNat .undef) 1)]]))
 else d)
 else d))
 else K (t7,h3))
def F153_0 (h0 h1 h2_0 h2_1 h2_2:List AV) (h4_0 h4_1:Int) (t7:Bool) (t8:Int) (h3:List AV):Out ((Bool × Int × (List AV))) ((Bool × (List AV))):=G153_0 h0 h1 h2_0 h2_1 h2_2 h4_0 h4_1 t7 t8 h3 .next .stop .fail
def R153_0 (h0 h1 h2_0 h2_1 h2_2:List AV) (h4_0 h4_1:Int):((Bool × Int × (List AV)))→Out ((Bool × Int × (List AV))) ((Bool × (List AV))):=fun s:Bool × Int × (List AV)=>F153_0 h0 h1 h2_0 h2_1 h2_2 h4_0 h4_1 s.1 s.2.1 s.2.2
def E153_0 (h0 h1 h2_0 h2_1 h2_2:List AV) (h4_0 h4_1:Int):((Bool × Int × (List AV)))→St:=fun s:Bool × Int × (List AV)=>⟨[(2,AV.ptr [0,2] 0 0),(3,AV.ptr [0,3] 0 0),(4,AV.ptr [0,4] 0 0),(6,AV.ptr [0,6] 0 0),(7,AV.bool s.1),(8,Ai s.2.1)],[([0,0,6],⟨false,[.int .i64],h0⟩),([0,1,6],⟨false,[.int .i64],h1⟩),([0,2],⟨true,[],[AV.agg [AV.sl [.int .i64] h2_0,AV.sl [.int .i64] h2_1,AV.sl [.int .i64,.int .i64] h2_2]]⟩),([0,2,6],⟨false,[.int .i64,.int .i64],s.2.2⟩),([0,3],⟨true,[],[AV.agg [Ai h4_0,Ai h4_1]]⟩),([0,4],⟨true,[],[AV.agg [AV.snil,AV.snil,AV.snil]]⟩),([0,6],⟨true,[],[AV.agg [AV.own [0,0,6],AV.own [0,1,6],AV.own [0,2,6]]]⟩)]⟩
def K153_0 (h0 h1 h2_0 h2_1 h2_2:List AV) (h4_0 h4_1:Int) (k:Kont):((Bool × (List AV)))→Option AV:=fun p:Bool × (List AV)=>k (.exit 0) ⟨[(2,AV.ptr [0,2] 0 0),(3,AV.ptr [0,3] 0 0),(4,AV.ptr [0,4] 0 0),(6,AV.ptr [0,6] 0 0),(7,AV.bool p.1)],[([0,0,6],⟨false,[.int .i64],h0⟩),([0,1,6],⟨false,[.int .i64],h1⟩),([0,2],⟨true,[],[AV.agg [AV.sl [.int .i64] h2_0,AV.sl [.int .i64] h2_1,AV.sl [.int .i64,.int .i64] h2_2]]⟩),([0,2,6],⟨false,[.int .i64,.int .i64],p.2⟩),([0,3],⟨true,[],[AV.agg [Ai h4_0,Ai h4_1]]⟩),([0,4],⟨true,[],[AV.agg [AV.snil,AV.snil,AV.snil]]⟩),([0,6],⟨true,[],[AV.agg [AV.own [0,0,6],AV.own [0,1,6],AV.own [0,2,6]]]⟩)]⟩
def l153_0:LModel:=fun _ _ st k=>match st with
 | ⟨[(2,.ptr g0 g1 g2),(3,.ptr g3 g4 g5),(4,.ptr g6 g7 g8),(6,.ptr g9 g10 g11),(7,.bool t7),(8,.int .i64 t8)],[(g12,⟨false,g13,h0⟩),(g14,⟨false,g15,h1⟩),(g16,⟨true,[],[.agg [.sl g17 h2_0,.sl g18 h2_1,.sl g19 h2_2]]⟩),(g20,⟨false,g21,h3⟩),(g22,⟨true,[],[.agg [.int .i64 h4_0,.int .i64 h4_1]]⟩),(g23,⟨true,[],[.agg [.snil,.snil,.snil]]⟩),(g24,⟨true,[],[.agg [.own g25,.own g26,.own g27]]⟩)]⟩=>bif nmEq g0 ([0,2]) && Nat.beq g1 0 && Nat.beq g2 0 && nmEq g3 ([0,3]) && Nat.beq g4 0 && Nat.beq g5 0 && nmEq g6 ([0,4]) && Nat.beq g7 0 && Nat.beq g8 0 && nmEq g9 ([0,6]) && Nat.beq g10 0 && Nat.beq g11 0 && nmEq g12 ([0,0,6]) && ctsEq g13 ([.int .i64]) && nmEq g14 ([0,1,6]) && ctsEq g15 ([.int .i64]) && nmEq g16 ([0,2]) && ctsEq g17 ([.int .i64]) && ctsEq g18 ([.int .i64]) && ctsEq g19 ([.int .i64,.int .i64]) && nmEq g20 ([0,2,6]) && ctsEq g21 ([.int .i64,.int .i64]) && nmEq g22 ([0,3]) && nmEq g23 ([0,4]) && nmEq g24 ([0,6]) && nmEq g25 ([0,0,6]) && nmEq g26 ([0,1,6]) && nmEq g27 ([0,2,6]) then ro (runW (R153_0 h0 h1 h2_0 h2_1 h2_2 h4_0 h4_1) (((h2_2.length:Int) - t8:Int).toNat+1) (t7,t8,h3)) none (K153_0 h0 h1 h2_0 h2_1 h2_2 h4_0 h4_1 k) else none
 | _=>none
noncomputable def c153:Cfg:=cfg Tryz.prog [(153,0,[2,3,4,6,7,8]),(153,999,[4,5]),(153,1000,[2,3,4,6,7]),(153,1001,[2,3,4,6,7,8])] [(68,m68),(69,m69)] [] [] [(153,0,l153_0)]
theorem s153_0 (h0 h1 h2_0 h2_1 h2_2:List AV) (h4_0 h4_1:Int) (ce:CallE) (k:Kont) (s:Bool × Int × (List AV)) (next:St→Option AV):stepA (codeA c153 ce [] 153 0 (sub [1,1,1,1,0,1,0,0] (body Tryz.f153))) (normA [] [2,3,4,6,7,8]) next ((E153_0 h0 h1 h2_0 h2_1 h2_2 h4_0 h4_1) s) k=G153_0 h0 h1 h2_0 h2_1 h2_2 h4_0 h4_1 s.1 s.2.1 s.2.2 (fun s=>next ((E153_0 h0 h1 h2_0 h2_1 h2_2 h4_0 h4_1) s)) (K153_0 h0 h1 h2_0 h2_1 h2_2 h4_0 h4_1 k) none:=by kernel_rfl
theorem st153_0 (h0 h1 h2_0 h2_1 h2_2:List AV) (h4_0 h4_1:Int) (ce:CallE) (k:Kont) (s:(Bool × Int × (List AV))) (next:St→Option AV):stepA (codeA c153 ce [] 153 0 (sub [1,1,1,1,0,1,0,0] (body Tryz.f153))) (normA [] [2,3,4,6,7,8]) next ((E153_0 h0 h1 h2_0 h2_1 h2_2 h4_0 h4_1) s) k=(R153_0 h0 h1 h2_0 h2_1 h2_2 h4_0 h4_1 s).el none (fun s=>next ((E153_0 h0 h1 h2_0 h2_1 h2_2 h4_0 h4_1) s)) (K153_0 h0 h1 h2_0 h2_1 h2_2 h4_0 h4_1 k):=(s153_0 h0 h1 h2_0 h2_1 h2_2 h4_0 h4_1 ce k s next).trans (by unfold R153_0;unfold F153_0 G153_0;simp only [el_cond,el_ro,el_sum,el_fail,el_next,el_stop] <;> rfl)
theorem ok153_0 {ce:CallE}:LoopOK c153 ce [] 153 0 (sub [1,1,1,1,0,1,0,0] (body Tryz.f153)):=by
 intro m hm st k r h
 obtain rfl:l153_0=m:=Option.some.inj hm
 unfold l153_0 at h
 split at h
 ·rename_i g0 g1 g2 g3 g4 g5 g6 g7 g8 g9 g10 g11 t7 t8 g12 g13 h0 g14 g15 h1 g16 g17 h2_0 g18 h2_1 g19 h2_2 g20 g21 h3 g22 h4_0 h4_1 g23 g24 g25 g26 g27
  obtain ⟨hg,h⟩:=bif_some h
  simp only [Bool.and_eq_true] at hg
  obtain ⟨⟨⟨⟨⟨⟨⟨⟨⟨⟨⟨⟨⟨⟨⟨⟨⟨⟨⟨⟨⟨⟨⟨⟨⟨⟨⟨q0,q1⟩,q2⟩,q3⟩,q4⟩,q5⟩,q6⟩,q7⟩,q8⟩,q9⟩,q10⟩,q11⟩,q12⟩,q13⟩,q14⟩,q15⟩,q16⟩,q17⟩,q18⟩,q19⟩,q20⟩,q21⟩,q22⟩,q23⟩,q24⟩,q25⟩,q26⟩,q27⟩:=hg
  obtain rfl:=nE q0
  obtain rfl:=bE q1
  obtain rfl:=bE q2
  obtain rfl:=nE q3
  obtain rfl:=bE q4
  obtain rfl:=bE q5
  obtain rfl:=nE q6
  obtain rfl:=bE q7
  obtain rfl:=bE q8
  obtain rfl:=nE q9
  obtain rfl:=bE q10
  obtain rfl:=bE q11
  obtain rfl:=nE q12
  obtain rfl:=cE q13
  obtain rfl:=nE q14
  obtain rfl:=cE q15
  obtain rfl:=nE q16
  obtain rfl:=cE q17
  obtain rfl:=cE q18
  obtain rfl:=cE q19
  obtain rfl:=nE q20
  obtain rfl:=cE q21
  obtain rfl:=nE q22
  obtain rfl:=nE q23
  obtain rfl:=nE q24
  obtain rfl:=nE q25
  obtain rfl:=nE q26
  obtain rfl:=nE q27
  refine ⟨(((h2_2.length:Int) - t8:Int).toNat+1),?_⟩
  rw [← h]
  exact loop_run (E153_0 h0 h1 h2_0 h2_1 h2_2 h4_0 h4_1) (K153_0 h0 h1 h2_0 h2_1 h2_2 h4_0 h4_1 k) (st153_0 h0 h1 h2_0 h2_1 h2_2 h4_0 h4_1 ce k) _ (t7,t8,h3)
 ·cases h
def q153 (xa xb xc:List AV) (ya yb:Int):Bool:=(q69 xa xb xc && (ro (runW (R153_0 (v69_0 xa xb xc) (v69_1 xa xb xc) xa xb xc ya yb) (((xc.length:Int) - 0:Int).toNat+1) (false,0,([]:List AV))) false (fun p83=>(bif !p83.1 then ((decide ((p83.2.length+([AV.agg [AV.int .i64 ya,AV.int .i64 yb]]).length)*16≤140737488355328) && decide ((p83.2.length+([AV.agg [AV.int .i64 ya,AV.int .i64 yb]]).length)≤140737488355328)) && (q68 xa xb xc && (bif !(v68_0 xa xb xc) then q69 xa xb xc else (q68 (v69_0 xa xb xc) (v69_1 xa xb xc) (p83.2++([AV.agg [AV.int .i64 ya,AV.int .i64 yb]])) && (bif !(v68_0 (v69_0 xa xb xc) (v69_1 xa xb xc) (p83.2++([AV.agg [AV.int .i64 ya,AV.int .i64 yb]]))) then q69 xa xb xc else true))))) else (q68 xa xb xc && (bif !(v68_0 xa xb xc) then q69 xa xb xc else (q68 (v69_0 xa xb xc) (v69_1 xa xb xc) p83.2 && (bif !(v68_0 (v69_0 xa xb xc) (v69_1 xa xb xc) p83.2) then q69 xa xb xc else true))))))))
def v153_0 (xa xb xc:List AV) (ya yb:Int):List AV:=(v69_0 xa xb xc)
def v153_1 (xa xb xc:List AV) (ya yb:Int):List AV:=(v69_1 xa xb xc)
def v153_2 (xa xb xc:List AV) (ya yb:Int):List AV:=(ro (runW (R153_0 (v69_0 xa xb xc) (v69_1 xa xb xc) xa xb xc ya yb) (((xc.length:Int) - 0:Int).toNat+1) (false,0,([]:List AV))) [] (fun p83=>(bif !p83.1 then (bif !(v68_0 xa xb xc) then (v69_2 xa xb xc) else (bif !(v68_0 (v69_0 xa xb xc) (v69_1 xa xb xc) (p83.2++([AV.agg [AV.int .i64 ya,AV.int .i64 yb]]))) then (v69_2 xa xb xc) else p83.2++([AV.agg [AV.int .i64 ya,AV.int .i64 yb]]))) else (bif !(v68_0 xa xb xc) then (v69_2 xa xb xc) else (bif !(v68_0 (v69_0 xa xb xc) (v69_1 xa xb xc) p83.2) then (v69_2 xa xb xc) else p83.2)))))
def v153_3 (xa xb xc:List AV) (ya yb:Int):Bool:=(ro (runW (R153_0 (v69_0 xa xb xc) (v69_1 xa xb xc) xa xb xc ya yb) (((xc.length:Int) - 0:Int).toNat+1) (false,0,([]:List AV))) false (fun p83=>(bif !p83.1 then (bif !(v68_0 xa xb xc) then false else (bif !(v68_0 (v69_0 xa xb xc) (v69_1 xa xb xc) (p83.2++([AV.agg [AV.int .i64 ya,AV.int .i64 yb]]))) then false else true)) else (bif !(v68_0 xa xb xc) then false else (bif !(v68_0 (v69_0 xa xb xc) (v69_1 xa xb xc) p83.2) then false else true)))))
theorem e153 (xa xb xc:List AV) (ya yb:Int):funA c153 0 153 [AV.agg [AV.sl [.int .i64] xa,AV.sl [.int .i64] xb,AV.sl [.int .i64,.int .i64] xc],AV.agg [Ai ya,Ai yb]]=((fun (x1:List AV) (x2:List AV) (x3:List AV)=>(bif q69 xa xb xc then (ro (runW (R153_0 x1 x2 xa xb xc ya yb) (((xc.length:Int) - 0:Int).toNat+1) (false,0,([]:List AV))) none (fun p83=>(bif !p83.1 then (bif (decide ((p83.2.length+([AV.agg [Ai ya,Ai yb]]).length)*16≤140737488355328) && decide ((p83.2.length+([AV.agg [Ai ya,Ai yb]]).length)≤140737488355328)) then (bif q68 xa xb xc then (bif !(v68_0 xa xb xc) then (bif q69 xa xb xc then some (AV.tup [AV.agg [AV.fl [.int .i64] x1,AV.fl [.int .i64] x2,AV.fl [.int .i64,.int .i64] x3],AV.bool false])
 else none)
 else (bif q68 x1 x2 (p83.2++([AV.agg [Ai ya,Ai yb]])) then (bif !(v68_0 x1 x2 (p83.2++([AV.agg [Ai ya,Ai yb]]))) then (bif q69 xa xb xc then some (AV.tup [AV.agg [AV.fl [.int .i64] x1,AV.fl [.int .i64] x2,AV.fl [.int .i64,.int .i64] x3],AV.bool false])
 else none)
 else some (AV.tup [AV.agg [AV.fl [.int .i64] x1,AV.fl [.int .i64] x2,AV.fl [.int .i64,.int .i64] (p83.2++([AV.agg [Ai ya,Ai yb]]))],AV.bool true]))
 else none))
 else none)
 else none)
 else (bif q68 xa xb xc then (bif !(v68_0 xa xb xc) then (bif q69 xa xb xc then some (AV.tup [AV.agg [AV.fl [.int .i64] x1,AV.fl [.int .i64] x2,AV.fl [.int .i64,.int .i64] x3],AV.bool false])
 else none)
 else (bif q68 x1 x2 p83.2 then (bif !(v68_0 x1 x2 p83.2) then (bif q69 xa xb xc then some (AV.tup [AV.agg [AV.fl [.int .i64] x1,AV.fl [.int .i64] x2,AV.fl [.int .i64,.int .i64] x3],AV.bool false])
 else none)
 else some (AV.tup [AV.agg [AV.fl [.int .i64] x1,AV.fl [.int .i64] x2,AV.fl [.int .i64,.int .i64] p83.2],AV.bool true]))
 else none))
 else none))))
 else none)) (v69_0 xa xb xc) (v69_1 xa xb xc) (v69_2 xa xb xc)):=by kernel_rfl
theorem r153 (xa xb xc:List AV) (ya yb:Int) (h:q153 xa xb xc ya yb=true):funA c153 0 153 [AV.agg [AV.sl [.int .i64] xa,AV.sl [.int .i64] xb,AV.sl [.int .i64,.int .i64] xc],AV.agg [AV.int .i64 ya,AV.int .i64 yb]]=some (AV.tup [AV.agg [AV.fl [.int .i64] (v153_0 xa xb xc ya yb),AV.fl [.int .i64] (v153_1 xa xb xc ya yb),AV.fl [.int .i64,.int .i64] (v153_2 xa xb xc ya yb)],AV.bool (v153_3 xa xb xc ya yb)]):=by
 refine (e153 xa xb xc ya yb).trans ?_
 unfold q153 at h
 unfold v153_0 v153_1 v153_2 v153_3
 refine ifG (fun hc=>?_) (fun hc=>?_) <;> first|rw [hc] at h ⊢|rw [hc] at h|rw [hc]|skip
 ·refine roG (fun hc=>?_) (fun r hc=>?_) <;> first|rw [hc] at h ⊢|rw [hc] at h|rw [hc]|skip
  ·exact Bool.noConfusion h
  ·try simp only [ro] at h ⊢
   refine ifG (fun hc=>?_) (fun hc=>?_) <;> first|rw [hc] at h ⊢|rw [hc] at h|rw [hc]|skip
   ·refine ifG (fun hc=>?_) (fun hc=>?_) <;> first|rw [hc] at h ⊢|rw [hc] at h|rw [hc]|skip
    ·refine ifG (fun hc=>?_) (fun hc=>?_) <;> first|rw [hc] at h ⊢|rw [hc] at h|rw [hc]|skip
     ·refine ifG (fun hc=>?_) (fun hc=>?_) <;> first|rw [hc] at h ⊢|rw [hc] at h|rw [hc]|skip
      ·refine ifT ?_
       rfl
      ·refine ifG (fun hc=>?_) (fun hc=>?_) <;> first|rw [hc] at h ⊢|rw [hc] at h|rw [hc]|skip
       ·refine ifG (fun hc=>?_) (fun hc=>?_) <;> first|rw [hc] at h ⊢|rw [hc] at h|rw [hc]|skip
        ·refine ifT ?_
         rfl
        ·rfl
       ·first|exact Bool.noConfusion h|exact Bool.noConfusion hc
     ·first|exact Bool.noConfusion h|exact Bool.noConfusion hc
    ·first|exact Bool.noConfusion h|exact Bool.noConfusion hc
   ·refine ifG (fun hc=>?_) (fun hc=>?_) <;> first|rw [hc] at h ⊢|rw [hc] at h|rw [hc]|skip
    ·refine ifG (fun hc=>?_) (fun hc=>?_) <;> first|rw [hc] at h ⊢|rw [hc] at h|rw [hc]|skip
     ·refine ifT ?_
      rfl
     ·refine ifG (fun hc=>?_) (fun hc=>?_) <;> first|rw [hc] at h ⊢|rw [hc] at h|rw [hc]|skip
      ·refine ifG (fun hc=>?_) (fun hc=>?_) <;> first|rw [hc] at h ⊢|rw [hc] at h|rw [hc]|skip
       ·refine ifT ?_
        rfl
       ·rfl
      ·first|exact Bool.noConfusion h|exact Bool.noConfusion hc
    ·first|exact Bool.noConfusion h|exact Bool.noConfusion hc
 ·first|exact Bool.noConfusion h|exact Bool.noConfusion hc
def m153:TModel
 | [.agg [.sl g0 xa,.sl g1 xb,.sl g2 xc],.agg [.int .i64 ya,.int .i64 yb]]=>bif ctsEq g0 ([.int .i64]) && ctsEq g1 ([.int .i64]) && ctsEq g2 ([.int .i64,.int .i64]) then some (q153 xa xb xc ya yb,AV.tup [AV.agg [AV.fl [.int .i64] (v153_0 xa xb xc ya yb),AV.fl [.int .i64] (v153_1 xa xb xc ya yb),AV.fl [.int .i64,.int .i64] (v153_2 xa xb xc ya yb)],AV.bool (v153_3 xa xb xc ya yb)]) else none
 | _=>none
theorem k153:Known Tryz.prog 153:=⟨Tryz.f153,Tryz.func153,by kernel_rfl,by kernel_rfl⟩
theorem meets153:Meets Tryz.prog 153 m153:=by
 refine mt (lvl:=0) (cf:=c153) rfl mixed k153 Tryz.func153 (by kernel_rfl) (loops_cons ok153_0 noLoop) (allT_cons meets68 (allT_cons meets69 allT_nil)) allM_nil noI fun xs r h=>?_
 unfold m153 at h
 split at h
 ·rename_i g0 xa g1 xb g2 xc ya yb
  obtain ⟨hg,h⟩:=bif_pair h
  simp only [Bool.and_eq_true] at hg
  obtain ⟨⟨q0,q1⟩,q2⟩:=hg
  obtain rfl:=cE q0
  obtain rfl:=cE q1
  obtain rfl:=cE q2
  obtain ⟨h1,rfl⟩:=pair_inj h
  exact r153 xa xb xc ya yb h1
 ·cases h
noncomputable def c118:Cfg:=cfg Tryz.prog [(118,999,[4,5,6])] [(52,m52),(68,m68),(69,m69),(119,m119),(150,m150),(151,m151),(152,m152),(153,m153)] [] [] []
def q118 (xa xb xc:List AV) (a1:Int):Bool:=(q68 xa xb xc && (bif !(v68_0 xa xb xc) then q69 xa xb xc else (bif !(v52_0 a1 (-1000) 1000) then q69 xa xb xc else (q119 xa xb xc a1 && (bif (v119_1 xa xb xc a1) then q69 xa xb xc else (q150 xa xb xc a1 && (q151 xa (v150_0 xa xb xc a1) (v150_1 xa xb xc a1) a1 && (q152 xa xb xc (v151_0 xa (v150_0 xa xb xc a1) (v150_1 xa xb xc a1) a1) && q153 (v152_0 xa xb xc (v151_0 xa (v150_0 xa xb xc a1) (v150_1 xa xb xc a1) a1)) (v152_1 xa xb xc (v151_0 xa (v150_0 xa xb xc a1) (v150_1 xa xb xc a1) a1)) (v152_2 xa xb xc (v151_0 xa (v150_0 xa xb xc a1) (v150_1 xa xb xc a1) a1)) a1 (v151_1 xa (v150_0 xa xb xc a1) (v150_1 xa xb xc a1) a1)))))))))
def v118_0 (xa xb xc:List AV) (a1:Int):List AV:=(bif !(v68_0 xa xb xc) then (v69_0 xa xb xc) else (bif !(v52_0 a1 (-1000) 1000) then (v69_0 xa xb xc) else (bif (v119_1 xa xb xc a1) then (v69_0 xa xb xc) else (v153_0 (v152_0 xa xb xc (v151_0 xa (v150_0 xa xb xc a1) (v150_1 xa xb xc a1) a1)) (v152_1 xa xb xc (v151_0 xa (v150_0 xa xb xc a1) (v150_1 xa xb xc a1) a1)) (v152_2 xa xb xc (v151_0 xa (v150_0 xa xb xc a1) (v150_1 xa xb xc a1) a1)) a1 (v151_1 xa (v150_0 xa xb xc a1) (v150_1 xa xb xc a1) a1)))))
def v118_1 (xa xb xc:List AV) (a1:Int):List AV:=(bif !(v68_0 xa xb xc) then (v69_1 xa xb xc) else (bif !(v52_0 a1 (-1000) 1000) then (v69_1 xa xb xc) else (bif (v119_1 xa xb xc a1) then (v69_1 xa xb xc) else (v153_1 (v152_0 xa xb xc (v151_0 xa (v150_0 xa xb xc a1) (v150_1 xa xb xc a1) a1)) (v152_1 xa xb xc (v151_0 xa (v150_0 xa xb xc a1) (v150_1 xa xb xc a1) a1)) (v152_2 xa xb xc (v151_0 xa (v150_0 xa xb xc a1) (v150_1 xa xb xc a1) a1)) a1 (v151_1 xa (v150_0 xa xb xc a1) (v150_1 xa xb xc a1) a1)))))
def v118_2 (xa xb xc:List AV) (a1:Int):List AV:=(bif !(v68_0 xa xb xc) then (v69_2 xa xb xc) else (bif !(v52_0 a1 (-1000) 1000) then (v69_2 xa xb xc) else (bif (v119_1 xa xb xc a1) then (v69_2 xa xb xc) else (v153_2 (v152_0 xa xb xc (v151_0 xa (v150_0 xa xb xc a1) (v150_1 xa xb xc a1) a1)) (v152_1 xa xb xc (v151_0 xa (v150_0 xa xb xc a1) (v150_1 xa xb xc a1) a1)) (v152_2 xa xb xc (v151_0 xa (v150_0 xa xb xc a1) (v150_1 xa xb xc a1) a1)) a1 (v151_1 xa (v150_0 xa xb xc a1) (v150_1 xa xb xc a1) a1)))))
def v118_3 (xa xb xc:List AV) (a1:Int):List AV:=(bif !(v68_0 xa xb xc) then ([]:List AV) else (bif !(v52_0 a1 (-1000) 1000) then ([]:List AV) else (bif (v119_1 xa xb xc a1) then ([]:List AV) else (v151_0 xa (v150_0 xa xb xc a1) (v150_1 xa xb xc a1) a1))))
def v118_4 (xa xb xc:List AV) (a1:Int):Bool:=(bif !(v68_0 xa xb xc) then false else (bif !(v52_0 a1 (-1000) 1000) then false else true))
theorem e118 (xa xb xc:List AV) (a1:Int):funA c118 0 118 [AV.agg [AV.sl [.int .i64] xa,AV.sl [.int .i64] xb,AV.sl [.int .i64,.int .i64] xc],Ai a1]=((fun (x1:Int) (x2:Int)=>((fun (x3:List AV) (x4:Int)=>((fun (x5:List AV) (x6:List AV) (x7:List AV)=>(bif q68 xa xb xc then (bif !(v68_0 xa xb xc) then (bif q69 xa xb xc then some (AV.tup [AV.agg [AV.fl [.int .i64] (v69_0 xa xb xc),AV.fl [.int .i64] (v69_1 xa xb xc),AV.fl [.int .i64,.int .i64] (v69_2 xa xb xc)],AV.fl [.int .i64,.int .i64] ([]:List AV),AV.bool false])
 else none)
 else (bif !(v52_0 a1 (-1000) 1000) then (bif q69 xa xb xc then some (AV.tup [AV.agg [AV.fl [.int .i64] (v69_0 xa xb xc),AV.fl [.int .i64] (v69_1 xa xb xc),AV.fl [.int .i64,.int .i64] (v69_2 xa xb xc)],AV.fl [.int .i64,.int .i64] ([]:List AV),AV.bool false])
 else none)
 else (bif q119 xa xb xc a1 then (bif (v119_1 xa xb xc a1) then (bif q69 xa xb xc then some (AV.tup [AV.agg [AV.fl [.int .i64] (v69_0 xa xb xc),AV.fl [.int .i64] (v69_1 xa xb xc),AV.fl [.int .i64,.int .i64] (v69_2 xa xb xc)],AV.fl [.int .i64,.int .i64] ([]:List AV),AV.bool true])
 else none)
 else (bif q150 xa xb xc a1 then (bif q151 xa x1 x2 a1 then (bif q152 xa xb xc x3 then (bif q153 x5 x6 x7 a1 x4 then some (AV.tup [AV.agg [AV.fl [.int .i64] (v153_0 x5 x6 x7 a1 x4),AV.fl [.int .i64] (v153_1 x5 x6 x7 a1 x4),AV.fl [.int .i64,.int .i64] (v153_2 x5 x6 x7 a1 x4)],AV.fl [.int .i64,.int .i64] x3,AV.bool true])
 else none)
 else none)
 else none)
 else none))
 else none)))
 else none)) (v152_0 xa xb xc x3) (v152_1 xa xb xc x3) (v152_2 xa xb xc x3))) (v151_0 xa x1 x2 a1) (v151_1 xa x1 x2 a1))) (v150_0 xa xb xc a1) (v150_1 xa xb xc a1)):=by kernel_rfl
theorem r118 (xa xb xc:List AV) (a1:Int) (h:q118 xa xb xc a1=true):funA c118 0 118 [AV.agg [AV.sl [.int .i64] xa,AV.sl [.int .i64] xb,AV.sl [.int .i64,.int .i64] xc],AV.int .i64 a1]=some (AV.tup [AV.agg [AV.fl [.int .i64] (v118_0 xa xb xc a1),AV.fl [.int .i64] (v118_1 xa xb xc a1),AV.fl [.int .i64,.int .i64] (v118_2 xa xb xc a1)],AV.fl [.int .i64,.int .i64] (v118_3 xa xb xc a1),AV.bool (v118_4 xa xb xc a1)]):=by
 refine (e118 xa xb xc a1).trans ?_
 unfold q118 at h
 unfold v118_0 v118_1 v118_2 v118_3 v118_4
 refine ifG (fun hc=>?_) (fun hc=>?_) <;> first|rw [hc] at h ⊢|rw [hc] at h|rw [hc]|skip
 ·refine ifG (fun hc=>?_) (fun hc=>?_) <;> first|rw [hc] at h ⊢|rw [hc] at h|rw [hc]|skip
  ·refine ifG (fun hc=>?_) (fun hc=>?_) <;> first|rw [hc] at h ⊢|rw [hc] at h|rw [hc]|skip
   ·rfl
   ·first|exact Bool.noConfusion h|exact Bool.noConfusion hc
  ·refine ifG (fun hc=>?_) (fun hc=>?_) <;> first|rw [hc] at h ⊢|rw [hc] at h|rw [hc]|skip
   ·refine ifG (fun hc=>?_) (fun hc=>?_) <;> first|rw [hc] at h ⊢|rw [hc] at h|rw [hc]|skip
    ·rfl
    ·first|exact Bool.noConfusion h|exact Bool.noConfusion hc
   ·refine ifG (fun hc=>?_) (fun hc=>?_) <;> first|rw [hc] at h ⊢|rw [hc] at h|rw [hc]|skip
    ·refine ifG (fun hc=>?_) (fun hc=>?_) <;> first|rw [hc] at h ⊢|rw [hc] at h|rw [hc]|skip
     ·refine ifG (fun hc=>?_) (fun hc=>?_) <;> first|rw [hc] at h ⊢|rw [hc] at h|rw [hc]|skip
      ·rfl
      ·first|exact Bool.noConfusion h|exact Bool.noConfusion hc
     ·refine ifG (fun hc=>?_) (fun hc=>?_) <;> first|rw [hc] at h ⊢|rw [hc] at h|rw [hc]|skip
      ·refine ifG (fun hc=>?_) (fun hc=>?_) <;> first|rw [hc] at h ⊢|rw [hc] at h|rw [hc]|skip
       ·refine ifG (fun hc=>?_) (fun hc=>?_) <;> first|rw [hc] at h ⊢|rw [hc] at h|rw [hc]|skip
        ·refine ifG (fun hc=>?_) (fun hc=>?_) <;> first|rw [hc] at h ⊢|rw [hc] at h|rw [hc]|skip
         ·rfl
         ·first|exact Bool.noConfusion h|exact Bool.noConfusion hc
        ·first|exact Bool.noConfusion h|exact Bool.noConfusion hc
       ·first|exact Bool.noConfusion h|exact Bool.noConfusion hc
      ·first|exact Bool.noConfusion h|exact Bool.noConfusion hc
    ·first|exact Bool.noConfusion h|exact Bool.noConfusion hc
 ·first|exact Bool.noConfusion h|exact Bool.noConfusion hc
def m118:TModel
 | [.agg [.sl g0 xa,.sl g1 xb,.sl g2 xc],.int .i64 a1]=>bif ctsEq g0 ([.int .i64]) && ctsEq g1 ([.int .i64]) && ctsEq g2 ([.int .i64,.int .i64]) then some (q118 xa xb xc a1,AV.tup [AV.agg [AV.fl [.int .i64] (v118_0 xa xb xc a1),AV.fl [.int .i64] (v118_1 xa xb xc a1),AV.fl [.int .i64,.int .i64] (v118_2 xa xb xc a1)],AV.fl [.int .i64,.int .i64] (v118_3 xa xb xc a1),AV.bool (v118_4 xa xb xc a1)]) else none
 | _=>none
theorem k118:Known Tryz.prog 118:=⟨Tryz.f118,Tryz.func118,by kernel_rfl,by kernel_rfl⟩
theorem meets118:Meets Tryz.prog 118 m118:=by
 refine mt (lvl:=0) (cf:=c118) rfl mixed k118 Tryz.func118 (by kernel_rfl) noLoop (allT_cons meets52 (allT_cons meets68 (allT_cons meets69 (allT_cons meets119 (allT_cons meets150 (allT_cons meets151 (allT_cons meets152 (allT_cons meets153 allT_nil)))))))) allM_nil noI fun xs r h=>?_
 unfold m118 at h
 split at h
 ·rename_i g0 xa g1 xb g2 xc a1
  obtain ⟨hg,h⟩:=bif_pair h
  simp only [Bool.and_eq_true] at hg
  obtain ⟨⟨q0,q1⟩,q2⟩:=hg
  obtain rfl:=cE q0
  obtain rfl:=cE q1
  obtain rfl:=cE q2
  obtain ⟨h1,rfl⟩:=pair_inj h
  exact r118 xa xb xc a1 h1
 ·cases h
noncomputable def c204:Cfg:=cfg Tryz.prog [(204,999,[8])] [(118,m118),(119,m119),(150,m150)] [] [] []
def q204 (a1 a2:Int) (b0 b1 b2 b4:List AV):Bool:=(q150 b0 b1 b2 a1 && (q119 b0 b1 b2 a1 && (q118 b0 b1 b2 a1 && (bif (v118_4 b0 b1 b2 a1) then (bif !(v119_1 b0 b1 b2 a1) then (decide ((b4.length+([AV.agg [AV.int .i64 a2,AV.int .i64 a1,AV.int .i64 (v150_0 b0 b1 b2 a1),AV.int .i64 (v150_1 b0 b1 b2 a1),AV.int .i64 ((v118_3 b0 b1 b2 a1).length:Int)]]).length)*40≤140737488355328) && decide ((b4.length+([AV.agg [AV.int .i64 a2,AV.int .i64 a1,AV.int .i64 (v150_0 b0 b1 b2 a1),AV.int .i64 (v150_1 b0 b1 b2 a1),AV.int .i64 ((v118_3 b0 b1 b2 a1).length:Int)]]).length)≤140737488355328)) else true) else true))))
def v204_0 (a1 a2:Int) (b0 b1 b2 b4:List AV):List AV:=(v118_0 b0 b1 b2 a1)
def v204_1 (a1 a2:Int) (b0 b1 b2 b4:List AV):List AV:=(v118_1 b0 b1 b2 a1)
def v204_2 (a1 a2:Int) (b0 b1 b2 b4:List AV):List AV:=(v118_2 b0 b1 b2 a1)
def v204_3 (a1 a2:Int) (b0 b1 b2 b4:List AV):List AV:=b0
def v204_4 (a1 a2:Int) (b0 b1 b2 b4:List AV):List AV:=b1
def v204_5 (a1 a2:Int) (b0 b1 b2 b4:List AV):List AV:=b2
def v204_6 (a1 a2:Int) (b0 b1 b2 b4:List AV):List AV:=(bif (v118_4 b0 b1 b2 a1) then (bif !(v119_1 b0 b1 b2 a1) then b4++([AV.agg [AV.int .i64 a2,AV.int .i64 a1,AV.int .i64 (v150_0 b0 b1 b2 a1),AV.int .i64 (v150_1 b0 b1 b2 a1),AV.int .i64 ((v118_3 b0 b1 b2 a1).length:Int)]]) else b4) else b4)
theorem e204 (a1 a2:Int) (b0 b1 b2 b4:List AV) (K:List AV→List (Option Blk)→Option AV):inlA c204 1 204 [AV.agg [AV.own [1],AV.own [2],AV.own [3]],Ai a1,Ai a2,AV.ptr [4] 0 0] [0] (canH 1 [⟨false,[.int .i64],b0⟩,⟨false,[.int .i64],b1⟩,⟨false,[.int .i64,.int .i64],b2⟩,⟨true,[],[AV.own [5]]⟩,⟨false,[.int .i64,.int .i64,.int .i64,.int .i64,.int .i64],b4⟩]) (keepG Tryz.prog 5 [28] [4] K)=(bif q150 b0 b1 b2 a1 then (bif q119 b0 b1 b2 a1 then (bif q118 b0 b1 b2 a1 then (bif (v118_4 b0 b1 b2 a1) then (bif !(v119_1 b0 b1 b2 a1) then (bif (decide ((b4.length+([AV.agg [Ai a2,Ai a1,Ai (v150_0 b0 b1 b2 a1),Ai (v150_1 b0 b1 b2 a1),Ai ((v118_3 b0 b1 b2 a1).length:Int)]]).length)*40≤140737488355328) && decide ((b4.length+([AV.agg [Ai a2,Ai a1,Ai (v150_0 b0 b1 b2 a1),Ai (v150_1 b0 b1 b2 a1),Ai ((v118_3 b0 b1 b2 a1).length:Int)]]).length)≤140737488355328)) then K [AV.agg [AV.fl [.int .i64] (v118_0 b0 b1 b2 a1),AV.fl [.int .i64] (v118_1 b0 b1 b2 a1),AV.fl [.int .i64,.int .i64] (v118_2 b0 b1 b2 a1)]] [some ⟨false,[.int .i64],b0⟩,some ⟨false,[.int .i64],b1⟩,some ⟨false,[.int .i64,.int .i64],b2⟩,some ⟨true,[],[AV.fl [.int .i64,.int .i64,.int .i64,.int .i64,.int .i64] (b4++([AV.agg [Ai a2,Ai a1,Ai (v150_0 b0 b1 b2 a1),Ai (v150_1 b0 b1 b2 a1),Ai ((v118_3 b0 b1 b2 a1).length:Int)]]))]⟩,none]
 else none)
 else K [AV.agg [AV.fl [.int .i64] (v118_0 b0 b1 b2 a1),AV.fl [.int .i64] (v118_1 b0 b1 b2 a1),AV.fl [.int .i64,.int .i64] (v118_2 b0 b1 b2 a1)]] [some ⟨false,[.int .i64],b0⟩,some ⟨false,[.int .i64],b1⟩,some ⟨false,[.int .i64,.int .i64],b2⟩,some ⟨true,[],[AV.fl [.int .i64,.int .i64,.int .i64,.int .i64,.int .i64] b4]⟩,none])
 else K [AV.agg [AV.fl [.int .i64] (v118_0 b0 b1 b2 a1),AV.fl [.int .i64] (v118_1 b0 b1 b2 a1),AV.fl [.int .i64,.int .i64] (v118_2 b0 b1 b2 a1)]] [some ⟨false,[.int .i64],b0⟩,some ⟨false,[.int .i64],b1⟩,some ⟨false,[.int .i64,.int .i64],b2⟩,some ⟨true,[],[AV.fl [.int .i64,.int .i64,.int .i64,.int .i64,.int .i64] b4]⟩,none])
 else none)
 else none)
 else none):=by kernel_rfl
theorem r204 (a1 a2:Int) (b0 b1 b2 b4:List AV) (K:List AV→List (Option Blk)→Option AV) (h:q204 a1 a2 b0 b1 b2 b4=true):inlA c204 1 204 [AV.agg [AV.own [1],AV.own [2],AV.own [3]],AV.int .i64 a1,AV.int .i64 a2,AV.ptr [4] 0 0] [0] (canH 1 [⟨false,[.int .i64],b0⟩,⟨false,[.int .i64],b1⟩,⟨false,[.int .i64,.int .i64],b2⟩,⟨true,[],[AV.own [5]]⟩,⟨false,[.int .i64,.int .i64,.int .i64,.int .i64,.int .i64],b4⟩]) (keepG Tryz.prog 5 [28] [4] K)=K [AV.agg [AV.fl [.int .i64] (v204_0 a1 a2 b0 b1 b2 b4),AV.fl [.int .i64] (v204_1 a1 a2 b0 b1 b2 b4),AV.fl [.int .i64,.int .i64] (v204_2 a1 a2 b0 b1 b2 b4)]] [some ⟨false,[.int .i64],(v204_3 a1 a2 b0 b1 b2 b4)⟩,some ⟨false,[.int .i64],(v204_4 a1 a2 b0 b1 b2 b4)⟩,some ⟨false,[.int .i64,.int .i64],(v204_5 a1 a2 b0 b1 b2 b4)⟩,some ⟨true,[],[AV.fl [.int .i64,.int .i64,.int .i64,.int .i64,.int .i64] (v204_6 a1 a2 b0 b1 b2 b4)]⟩,none]:=(e204 a1 a2 b0 b1 b2 b4 K).trans ((brL (brL (brL (br (fun b=>K [AV.agg [AV.fl [.int .i64] (v118_0 b0 b1 b2 a1),AV.fl [.int .i64] (v118_1 b0 b1 b2 a1),AV.fl [.int .i64,.int .i64] (v118_2 b0 b1 b2 a1)]] [some ⟨false,[.int .i64],b0⟩,some ⟨false,[.int .i64],b1⟩,some ⟨false,[.int .i64,.int .i64],b2⟩,some ⟨true,[],[AV.fl [.int .i64,.int .i64,.int .i64,.int .i64,.int .i64] (bif b then (bif !(v119_1 b0 b1 b2 a1) then b4++([AV.agg [AV.int .i64 a2,AV.int .i64 a1,AV.int .i64 (v150_0 b0 b1 b2 a1),AV.int .i64 (v150_1 b0 b1 b2 a1),AV.int .i64 ((v118_3 b0 b1 b2 a1).length:Int)]]) else b4) else b4)]⟩,none]) (br (fun b=>K [AV.agg [AV.fl [.int .i64] (v118_0 b0 b1 b2 a1),AV.fl [.int .i64] (v118_1 b0 b1 b2 a1),AV.fl [.int .i64,.int .i64] (v118_2 b0 b1 b2 a1)]] [some ⟨false,[.int .i64],b0⟩,some ⟨false,[.int .i64],b1⟩,some ⟨false,[.int .i64,.int .i64],b2⟩,some ⟨true,[],[AV.fl [.int .i64,.int .i64,.int .i64,.int .i64,.int .i64] (bif b then b4++([AV.agg [AV.int .i64 a2,AV.int .i64 a1,AV.int .i64 (v150_0 b0 b1 b2 a1),AV.int .i64 (v150_1 b0 b1 b2 a1),AV.int .i64 ((v118_3 b0 b1 b2 a1).length:Int)]]) else b4)]⟩,none]) (brL1 (fun _=>rfl)) (fun _=>rfl)) (fun _=>rfl))))) h)
def m204:GModel
 | [.agg [.own g0,.own g1,.own g2],.int .i64 a1,.int .i64 a2,.ptr g3 g4 g5],[⟨false,g6,b0⟩,⟨false,g7,b1⟩,⟨false,g8,b2⟩,⟨true,[],[.own g9]⟩,⟨false,g10,b4⟩]=>bif nmEq g0 ([1]) && nmEq g1 ([2]) && nmEq g2 ([3]) && nmEq g3 ([4]) && Nat.beq g4 0 && Nat.beq g5 0 && ctsEq g6 ([.int .i64]) && ctsEq g7 ([.int .i64]) && ctsEq g8 ([.int .i64,.int .i64]) && nmEq g9 ([5]) && ctsEq g10 ([.int .i64,.int .i64,.int .i64,.int .i64,.int .i64]) then some (q204 a1 a2 b0 b1 b2 b4,[AV.agg [AV.fl [.int .i64] (v204_0 a1 a2 b0 b1 b2 b4),AV.fl [.int .i64] (v204_1 a1 a2 b0 b1 b2 b4),AV.fl [.int .i64,.int .i64] (v204_2 a1 a2 b0 b1 b2 b4)]],[some ⟨false,[.int .i64],(v204_3 a1 a2 b0 b1 b2 b4)⟩,some ⟨false,[.int .i64],(v204_4 a1 a2 b0 b1 b2 b4)⟩,some ⟨false,[.int .i64,.int .i64],(v204_5 a1 a2 b0 b1 b2 b4)⟩,some ⟨true,[],[AV.fl [.int .i64,.int .i64,.int .i64,.int .i64,.int .i64] (v204_6 a1 a2 b0 b1 b2 b4)]⟩,none]) else none
 | _,_=>none
theorem k204:Known Tryz.prog 204:=⟨Tryz.f204,Tryz.func204,by kernel_rfl,by kernel_rfl⟩
theorem meets204:MeetsG Tryz.prog 204 m204:=by
 refine mg (rt:=[28]) (gs:=[4]) (lvl:=0) (cf:=c204) rfl mixed k204 Tryz.func204 (by kernel_rfl) noLoop (allT_cons meets118 (allT_cons meets119 (allT_cons meets150 allT_nil))) allM_nil noI fun xs bs r bs' h K=>?_
 unfold m204 at h
 split at h
 ·rename_i g0 g1 g2 a1 a2 g3 g4 g5 g6 b0 g7 b1 g8 b2 g9 g10 b4
  obtain ⟨hg,h⟩:=bif_pair h
  simp only [Bool.and_eq_true] at hg
  obtain ⟨⟨⟨⟨⟨⟨⟨⟨⟨⟨q0,q1⟩,q2⟩,q3⟩,q4⟩,q5⟩,q6⟩,q7⟩,q8⟩,q9⟩,q10⟩:=hg
  obtain rfl:=nE q0
  obtain rfl:=nE q1
  obtain rfl:=nE q2
  obtain rfl:=nE q3
  obtain rfl:=bE q4
  obtain rfl:=bE q5
  obtain rfl:=cE q6
  obtain rfl:=cE q7
  obtain rfl:=cE q8
  obtain rfl:=nE q9
  obtain rfl:=cE q10
  obtain ⟨h1,rfl,rfl⟩:=trip_inj h
  exact r204 a1 a2 b0 b1 b2 b4 K h1
 ·cases h
def G188_0_s0 {β:Type} (t2:Int) (t3:Int) (h0_0:Int) (h0_1:Int) (h0_2:Int) (h2_0:Int) (h2_1:Int) (h2_2:Int) (h4:List AV) (h5:List AV) (h6:List AV) (h8:List AV) (N:((Int × Int × Int × Int × Int × Int × (List AV) × (List AV) × (List AV) × (List AV)) ⊕ ((List AV) × (List AV) × (List AV) × (List AV) × Int × Int × Int × Int × Int × Int × (List AV) × (List AV) × (List AV)))→β) (K:((Int × Int × Int × Int × Int × Int × (List AV) × (List AV) × (List AV) × (List AV)) ⊕ ((List AV) × (List AV) × (List AV) × (List AV) × Int × Int × Int × Int × Int × Int × (List AV) × (List AV) × (List AV)))→β) (d:β):β:=by
 refine (?f0:Int→Int→β) (v150_0 h4 h5 h6 t2) (v150_1 h4 h5 h6 t2);intro x1 x2
 refine (?f1:Int→Int→Int→Int→β) (v203_0 h4 h5 h6 h0_0 h0_1 h0_2 x1 x2) (v203_1 h4 h5 h6 h0_0 h0_1 h0_2 x1 x2) (v203_2 h4 h5 h6 h0_0 h0_1 h0_2 x1 x2) (v203_3 h4 h5 h6 h0_0 h0_1 h0_2 x1 x2);intro x3 x4 x5 x6
 refine (?f2:(List AV)→(List AV)→(List AV)→(List AV)→(List AV)→(List AV)→(List AV)→β) (v204_0 x3 t3 h4 h5 h6 h8) (v204_1 x3 t3 h4 h5 h6 h8) (v204_2 x3 t3 h4 h5 h6 h8) (v204_3 x3 t3 h4 h5 h6 h8) (v204_4 x3 t3 h4 h5 h6 h8) (v204_5 x3 t3 h4 h5 h6 h8) (v204_6 x3 t3 h4 h5 h6 h8);intro x7 x8 x9 x10 x11 x12 x13
 exact (bif !decide (h0_0=0) then (bif q150 h4 h5 h6 t2 then (bif q119 h4 h5 h6 t2 then (bif (v119_1 h4 h5 h6 t2) then K (.inl (h0_0,h0_1,h0_2,h2_0,h2_1,h2_2,h4,h5,h6,h8))
 else (bif decide (IntKind.i64.wrap (x2 - x1)≤h0_1) then K (.inl (h0_0,h0_1,h0_2,h2_0,h2_1,h2_2,h4,h5,h6,h8))
 else (bif q203 h4 h5 h6 h0_0 h0_1 h0_2 x1 x2 then (bif q204 x3 t3 h4 h5 h6 h8 then (bif q204 (IntKind.i64.wrap (x3+1)) t3 x7 x8 x9 x13 then N (.inr ((v204_0 (IntKind.i64.wrap (x3+1)) t3 x7 x8 x9 x13),(v204_1 (IntKind.i64.wrap (x3+1)) t3 x7 x8 x9 x13),(v204_2 (IntKind.i64.wrap (x3+1)) t3 x7 x8 x9 x13),(v204_6 (IntKind.i64.wrap (x3+1)) t3 x7 x8 x9 x13),x4,x5,x6,h2_0,h2_1,h2_2,x10,x11,x12))
 else d)
 else d)
 else d)))
 else d)
 else d)
 else K (.inl (h0_0,h0_1,h0_2,h2_0,h2_1,h2_2,h4,h5,h6,h8)))
def F188_0_s0 (t2 t3 h0_0 h0_1 h0_2 h2_0 h2_1 h2_2:Int) (h4 h5 h6 h8:List AV):Out ((Int × Int × Int × Int × Int × Int × (List AV) × (List AV) × (List AV) × (List AV)) ⊕ ((List AV) × (List AV) × (List AV) × (List AV) × Int × Int × Int × Int × Int × Int × (List AV) × (List AV) × (List AV))) ((Int × Int × Int × Int × Int × Int × (List AV) × (List AV) × (List AV) × (List AV)) ⊕ ((List AV) × (List AV) × (List AV) × (List AV) × Int × Int × Int × Int × Int × Int × (List AV) × (List AV) × (List AV))):=G188_0_s0 t2 t3 h0_0 h0_1 h0_2 h2_0 h2_1 h2_2 h4 h5 h6 h8 .next .stop .fail
def G188_0_s1 {β:Type} (t2:Int) (t3:Int) (h0:List AV) (h1:List AV) (h2:List AV) (h3:List AV) (h4_0:Int) (h4_1:Int) (h4_2:Int) (h6_0:Int) (h6_1:Int) (h6_2:Int) (h8:List AV) (h9:List AV) (h10:List AV) (N:((Int × Int × Int × Int × Int × Int × (List AV) × (List AV) × (List AV) × (List AV)) ⊕ ((List AV) × (List AV) × (List AV) × (List AV) × Int × Int × Int × Int × Int × Int × (List AV) × (List AV) × (List AV)))→β) (K:((Int × Int × Int × Int × Int × Int × (List AV) × (List AV) × (List AV) × (List AV)) ⊕ ((List AV) × (List AV) × (List AV) × (List AV) × Int × Int × Int × Int × Int × Int × (List AV) × (List AV) × (List AV)))→β) (d:β):β:=by
 refine (?f0:Int→Int→β) (v150_0 h0 h1 h2 t2) (v150_1 h0 h1 h2 t2);intro x1 x2
 refine (?f1:Int→Int→Int→Int→β) (v203_0 h0 h1 h2 h4_0 h4_1 h4_2 x1 x2) (v203_1 h0 h1 h2 h4_0 h4_1 h4_2 x1 x2) (v203_2 h0 h1 h2 h4_0 h4_1 h4_2 x1 x2) (v203_3 h0 h1 h2 h4_0 h4_1 h4_2 x1 x2);intro x3 x4 x5 x6
 refine (?f2:(List AV)→(List AV)→(List AV)→(List AV)→β) (v204_0 x3 t3 h0 h1 h2 h3) (v204_1 x3 t3 h0 h1 h2 h3) (v204_2 x3 t3 h0 h1 h2 h3) (v204_6 x3 t3 h0 h1 h2 h3);intro x7 x8 x9 x10
 exact (bif !decide (h4_0=0) then (bif q150 h0 h1 h2 t2 then (bif q119 h0 h1 h2 t2 then (bif (v119_1 h0 h1 h2 t2) then K (.inr (h0,h1,h2,h3,h4_0,h4_1,h4_2,h6_0,h6_1,h6_2,h8,h9,h10))
 else (bif decide (IntKind.i64.wrap (x2 - x1)≤h4_1) then K (.inr (h0,h1,h2,h3,h4_0,h4_1,h4_2,h6_0,h6_1,h6_2,h8,h9,h10))
 else (bif q203 h0 h1 h2 h4_0 h4_1 h4_2 x1 x2 then (bif q204 x3 t3 h0 h1 h2 h3 then (bif q204 (IntKind.i64.wrap (x3+1)) t3 x7 x8 x9 x10 then N (.inr ((v204_0 (IntKind.i64.wrap (x3+1)) t3 x7 x8 x9 x10),(v204_1 (IntKind.i64.wrap (x3+1)) t3 x7 x8 x9 x10),(v204_2 (IntKind.i64.wrap (x3+1)) t3 x7 x8 x9 x10),(v204_6 (IntKind.i64.wrap (x3+1)) t3 x7 x8 x9 x10),x4,x5,x6,h6_0,h6_1,h6_2,h8,h9,h10))
 else d)
 else d)
 else d)))
 else d)
 else d)
 else K (.inr (h0,h1,h2,h3,h4_0,h4_1,h4_2,h6_0,h6_1,h6_2,h8,h9,h10)))
def F188_0_s1 (t2 t3:Int) (h0 h1 h2 h3:List AV) (h4_0 h4_1 h4_2 h6_0 h6_1 h6_2:Int) (h8 h9 h10:List AV):Out ((Int × Int × Int × Int × Int × Int × (List AV) × (List AV) × (List AV) × (List AV)) ⊕ ((List AV) × (List AV) × (List AV) × (List AV) × Int × Int × Int × Int × Int × Int × (List AV) × (List AV) × (List AV))) ((Int × Int × Int × Int × Int × Int × (List AV) × (List AV) × (List AV) × (List AV)) ⊕ ((List AV) × (List AV) × (List AV) × (List AV) × Int × Int × Int × Int × Int × Int × (List AV) × (List AV) × (List AV))):=G188_0_s1 t2 t3 h0 h1 h2 h3 h4_0 h4_1 h4_2 h6_0 h6_1 h6_2 h8 h9 h10 .next .stop .fail
def R188_0 (t2 t3:Int):((Int × Int × Int × Int × Int × Int × (List AV) × (List AV) × (List AV) × (List AV)) ⊕ ((List AV) × (List AV) × (List AV) × (List AV) × Int × Int × Int × Int × Int × Int × (List AV) × (List AV) × (List AV)))→Out ((Int × Int × Int × Int × Int × Int × (List AV) × (List AV) × (List AV) × (List AV)) ⊕ ((List AV) × (List AV) × (List AV) × (List AV) × Int × Int × Int × Int × Int × Int × (List AV) × (List AV) × (List AV))) ((Int × Int × Int × Int × Int × Int × (List AV) × (List AV) × (List AV) × (List AV)) ⊕ ((List AV) × (List AV) × (List AV) × (List AV) × Int × Int × Int × Int × Int × Int × (List AV) × (List AV) × (List AV))):=sumE (fun s:Int × Int × Int × Int × Int × Int × (List AV) × (List AV) × (List AV) × (List AV)=>F188_0_s0 t2 t3 s.1 s.2.1 s.2.2.1 s.2.2.2.1 s.2.2.2.2.1 s.2.2.2.2.2.1 s.2.2.2.2.2.2.1 s.2.2.2.2.2.2.2.1 s.2.2.2.2.2.2.2.2.1 s.2.2.2.2.2.2.2.2.2) (fun s:(List AV) × (List AV) × (List AV) × (List AV) × Int × Int × Int × Int × Int × Int × (List AV) × (List AV) × (List AV)=>F188_0_s1 t2 t3 s.1 s.2.1 s.2.2.1 s.2.2.2.1 s.2.2.2.2.1 s.2.2.2.2.2.1 s.2.2.2.2.2.2.1 s.2.2.2.2.2.2.2.1 s.2.2.2.2.2.2.2.2.1 s.2.2.2.2.2.2.2.2.2.1 s.2.2.2.2.2.2.2.2.2.2.1 s.2.2.2.2.2.2.2.2.2.2.2.1 s.2.2.2.2.2.2.2.2.2.2.2.2)
def E188_0 (t2 t3:Int):((Int × Int × Int × Int × Int × Int × (List AV) × (List AV) × (List AV) × (List AV)) ⊕ ((List AV) × (List AV) × (List AV) × (List AV) × Int × Int × Int × Int × Int × Int × (List AV) × (List AV) × (List AV)))→St:=sumE (fun s:Int × Int × Int × Int × Int × Int × (List AV) × (List AV) × (List AV) × (List AV)=>⟨[(2,Ai t2),(3,Ai t3),(4,AV.ptr [4] 0 0),(6,AV.ptr [0,6,0] 0 0),(10,AV.ptr [0,10,0] 0 0),(11,AV.ptr [0,11,0] 0 0),(12,AV.ptr [0,12,0] 0 0)],[([0,6,0],⟨true,[],[AV.agg [Ai s.1,Ai s.2.1,Ai s.2.2.1]]⟩),([0,10,0],⟨true,[],[AV.agg [AV.snil,AV.snil,AV.snil]]⟩),([0,11,0],⟨true,[],[AV.agg [Ai s.2.2.2.1,Ai s.2.2.2.2.1,Ai s.2.2.2.2.2.1]]⟩),([0,12,0],⟨true,[],[AV.agg [AV.own [1],AV.own [2],AV.own [3]]]⟩),([1],⟨false,[.int .i64],s.2.2.2.2.2.2.1⟩),([2],⟨false,[.int .i64],s.2.2.2.2.2.2.2.1⟩),([3],⟨false,[.int .i64,.int .i64],s.2.2.2.2.2.2.2.2.1⟩),([4],⟨true,[],[AV.own [5]]⟩),([5],⟨false,[.int .i64,.int .i64,.int .i64,.int .i64,.int .i64],s.2.2.2.2.2.2.2.2.2⟩)]⟩) (fun s:(List AV) × (List AV) × (List AV) × (List AV) × Int × Int × Int × Int × Int × Int × (List AV) × (List AV) × (List AV)=>⟨[(2,Ai t2),(3,Ai t3),(4,AV.ptr [4] 0 0),(6,AV.ptr [0,6,0] 0 0),(10,AV.ptr [0,10,0] 0 0),(11,AV.ptr [0,11,0] 0 0),(12,AV.ptr [0,12,0] 0 0)],[([0,0,12,0],⟨false,[.int .i64],s.1⟩),([0,1,12,0],⟨false,[.int .i64],s.2.1⟩),([0,2,12,0],⟨false,[.int .i64,.int .i64],s.2.2.1⟩),([0,4,7,0],⟨false,[.int .i64,.int .i64,.int .i64,.int .i64,.int .i64],s.2.2.2.1⟩),([0,6,0],⟨true,[],[AV.agg [Ai s.2.2.2.2.1,Ai s.2.2.2.2.2.1,Ai s.2.2.2.2.2.2.1]]⟩),([0,10,0],⟨true,[],[AV.agg [AV.snil,AV.snil,AV.snil]]⟩),([0,11,0],⟨true,[],[AV.agg [Ai s.2.2.2.2.2.2.2.1,Ai s.2.2.2.2.2.2.2.2.1,Ai s.2.2.2.2.2.2.2.2.2.1]]⟩),([0,12,0],⟨true,[],[AV.agg [AV.own [0,0,12,0],AV.own [0,1,12,0],AV.own [0,2,12,0]]]⟩),([1],⟨false,[.int .i64],s.2.2.2.2.2.2.2.2.2.2.1⟩),([2],⟨false,[.int .i64],s.2.2.2.2.2.2.2.2.2.2.2.1⟩),([3],⟨false,[.int .i64,.int .i64],s.2.2.2.2.2.2.2.2.2.2.2.2⟩),([4],⟨true,[],[AV.own [0,4,7,0]]⟩)]⟩)
def K188_0 (t2 t3:Int) (k:Kont):((Int × Int × Int × Int × Int × Int × (List AV) × (List AV) × (List AV) × (List AV)) ⊕ ((List AV) × (List AV) × (List AV) × (List AV) × Int × Int × Int × Int × Int × Int × (List AV) × (List AV) × (List AV)))→Option AV:=sumE (fun p:Int × Int × Int × Int × Int × Int × (List AV) × (List AV) × (List AV) × (List AV)=>k (.exit 0) ⟨[(2,Ai t2),(3,Ai t3),(4,AV.ptr [4] 0 0),(6,AV.ptr [0,6,0] 0 0),(10,AV.ptr [0,10,0] 0 0),(11,AV.ptr [0,11,0] 0 0),(12,AV.ptr [0,12,0] 0 0)],[([0,6,0],⟨true,[],[AV.agg [Ai p.1,Ai p.2.1,Ai p.2.2.1]]⟩),([0,10,0],⟨true,[],[AV.agg [AV.snil,AV.snil,AV.snil]]⟩),([0,11,0],⟨true,[],[AV.agg [Ai p.2.2.2.1,Ai p.2.2.2.2.1,Ai p.2.2.2.2.2.1]]⟩),([0,12,0],⟨true,[],[AV.agg [AV.own [1],AV.own [2],AV.own [3]]]⟩),([1],⟨false,[.int .i64],p.2.2.2.2.2.2.1⟩),([2],⟨false,[.int .i64],p.2.2.2.2.2.2.2.1⟩),([3],⟨false,[.int .i64,.int .i64],p.2.2.2.2.2.2.2.2.1⟩),([4],⟨true,[],[AV.own [5]]⟩),([5],⟨false,[.int .i64,.int .i64,.int .i64,.int .i64,.int .i64],p.2.2.2.2.2.2.2.2.2⟩)]⟩) (fun p:(List AV) × (List AV) × (List AV) × (List AV) × Int × Int × Int × Int × Int × Int × (List AV) × (List AV) × (List AV)=>k (.exit 0) ⟨[(2,Ai t2),(3,Ai t3),(4,AV.ptr [4] 0 0),(6,AV.ptr [0,6,0] 0 0),(10,AV.ptr [0,10,0] 0 0),(11,AV.ptr [0,11,0] 0 0),(12,AV.ptr [0,12,0] 0 0)],[([0,0,12,0],⟨false,[.int .i64],p.1⟩),([0,1,12,0],⟨false,[.int .i64],p.2.1⟩),([0,2,12,0],⟨false,[.int .i64,.int .i64],p.2.2.1⟩),([0,4,7,0],⟨false,[.int .i64,.int .i64,.int .i64,.int .i64,.int .i64],p.2.2.2.1⟩),([0,6,0],⟨true,[],[AV.agg [Ai p.2.2.2.2.1,Ai p.2.2.2.2.2.1,Ai p.2.2.2.2.2.2.1]]⟩),([0,10,0],⟨true,[],[AV.agg [AV.snil,AV.snil,AV.snil]]⟩),([0,11,0],⟨true,[],[AV.agg [Ai p.2.2.2.2.2.2.2.1,Ai p.2.2.2.2.2.2.2.2.1,Ai p.2.2.2.2.2.2.2.2.2.1]]⟩),([0,12,0],⟨true,[],[AV.agg [AV.own [0,0,12,0],AV.own [0,1,12,0],AV.own [0,2,12,0]]]⟩),([1],⟨false,[.int .i64],p.2.2.2.2.2.2.2.2.2.2.1⟩),([2],⟨false,[.int .i64],p.2.2.2.2.2.2.2.2.2.2.2.1⟩),([3],⟨false,[.int .i64,.int .i64],p.2.2.2.2.2.2.2.2.2.2.2.2⟩),([4],⟨true,[],[AV.own [0,4,7,0]]⟩)]⟩)
def l188_0:LModel:=fun _ _ st k=>match st with
 | ⟨[(2,.int .i64 t2),(3,.int .i64 t3),(4,.ptr g0 g1 g2),(6,.ptr g3 g4 g5),(10,.ptr g6 g7 g8),(11,.ptr g9 g10 g11),(12,.ptr g12 g13 g14)],[(g15,⟨true,[],[.agg [.int .i64 h0_0,.int .i64 h0_1,.int .i64 h0_2]]⟩),(g16,⟨true,[],[.agg [.snil,.snil,.snil]]⟩),(g17,⟨true,[],[.agg [.int .i64 h2_0,.int .i64 h2_1,.int .i64 h2_2]]⟩),(g18,⟨true,[],[.agg [.own g19,.own g20,.own g21]]⟩),(g22,⟨false,g23,h4⟩),(g24,⟨false,g25,h5⟩),(g26,⟨false,g27,h6⟩),(g28,⟨true,[],[.own g29]⟩),(g30,⟨false,g31,h8⟩)]⟩=>bif nmEq g0 ([4]) && Nat.beq g1 0 && Nat.beq g2 0 && nmEq g3 ([0,6,0]) && Nat.beq g4 0 && Nat.beq g5 0 && nmEq g6 ([0,10,0]) && Nat.beq g7 0 && Nat.beq g8 0 && nmEq g9 ([0,11,0]) && Nat.beq g10 0 && Nat.beq g11 0 && nmEq g12 ([0,12,0]) && Nat.beq g13 0 && Nat.beq g14 0 && nmEq g15 ([0,6,0]) && nmEq g16 ([0,10,0]) && nmEq g17 ([0,11,0]) && nmEq g18 ([0,12,0]) && nmEq g19 ([1]) && nmEq g20 ([2]) && nmEq g21 ([3]) && nmEq g22 ([1]) && ctsEq g23 ([.int .i64]) && nmEq g24 ([2]) && ctsEq g25 ([.int .i64]) && nmEq g26 ([3]) && ctsEq g27 ([.int .i64,.int .i64]) && nmEq g28 ([4]) && nmEq g29 ([5]) && nmEq g30 ([5]) && ctsEq g31 ([.int .i64,.int .i64,.int .i64,.int .i64,.int .i64]) then ro (runW (R188_0 t2 t3) (2100) (.inl (h0_0,h0_1,h0_2,h2_0,h2_1,h2_2,h4,h5,h6,h8))) none (K188_0 t2 t3 k) else none
 | ⟨[(2,.int .i64 t2),(3,.int .i64 t3),(4,.ptr g0 g1 g2),(6,.ptr g3 g4 g5),(10,.ptr g6 g7 g8),(11,.ptr g9 g10 g11),(12,.ptr g12 g13 g14)],[(g15,⟨false,g16,h0⟩),(g17,⟨false,g18,h1⟩),(g19,⟨false,g20,h2⟩),(g21,⟨false,g22,h3⟩),(g23,⟨true,[],[.agg [.int .i64 h4_0,.int .i64 h4_1,.int .i64 h4_2]]⟩),(g24,⟨true,[],[.agg [.snil,.snil,.snil]]⟩),(g25,⟨true,[],[.agg [.int .i64 h6_0,.int .i64 h6_1,.int .i64 h6_2]]⟩),(g26,⟨true,[],[.agg [.own g27,.own g28,.own g29]]⟩),(g30,⟨false,g31,h8⟩),(g32,⟨false,g33,h9⟩),(g34,⟨false,g35,h10⟩),(g36,⟨true,[],[.own g37]⟩)]⟩=>bif nmEq g0 ([4]) && Nat.beq g1 0 && Nat.beq g2 0 && nmEq g3 ([0,6,0]) && Nat.beq g4 0 && Nat.beq g5 0 && nmEq g6 ([0,10,0]) && Nat.beq g7 0 && Nat.beq g8 0 && nmEq g9 ([0,11,0]) && Nat.beq g10 0 && Nat.beq g11 0 && nmEq g12 ([0,12,0]) && Nat.beq g13 0 && Nat.beq g14 0 && nmEq g15 ([0,0,12,0]) && ctsEq g16 ([.int .i64]) && nmEq g17 ([0,1,12,0]) && ctsEq g18 ([.int .i64]) && nmEq g19 ([0,2,12,0]) && ctsEq g20 ([.int .i64,.int .i64]) && nmEq g21 ([0,4,7,0]) && ctsEq g22 ([.int .i64,.int .i64,.int .i64,.int .i64,.int .i64]) && nmEq g23 ([0,6,0]) && nmEq g24 ([0,10,0]) && nmEq g25 ([0,11,0]) && nmEq g26 ([0,12,0]) && nmEq g27 ([0,0,12,0]) && nmEq g28 ([0,1,12,0]) && nmEq g29 ([0,2,12,0]) && nmEq g30 ([1]) && ctsEq g31 ([.int .i64]) && nmEq g32 ([2]) && ctsEq g33 ([.int .i64]) && nmEq g34 ([3]) && ctsEq g35 ([.int .i64,.int .i64]) && nmEq g36 ([4]) && nmEq g37 ([0,4,7,0]) then ro (runW (R188_0 t2 t3) (2100) (.inr (h0,h1,h2,h3,h4_0,h4_1,h4_2,h6_0,h6_1,h6_2,h8,h9,h10))) none (K188_0 t2 t3 k) else none
 | _=>none
noncomputable def c188:Cfg:=cfg Tryz.prog [(188,0,[2,3,4,6,10,11,12]),(188,999,[10,11]),(188,1000,[2,3,4,6,10,11,12]),(188,1001,[2,3,4,6,10,11,12])] [(119,m119),(150,m150),(203,m203)] [(204,.g m204)] [] [(188,0,l188_0)]
theorem s188_0_s0 (t2 t3:Int) (ce:CallE) (k:Kont) (s:Int × Int × Int × Int × Int × Int × (List AV) × (List AV) × (List AV) × (List AV)) (next:St→Option AV):stepA (codeA c188 ce [0] 188 0 (sub [1,1,0,0,0] (body Tryz.f188))) (normA [0] [2,3,4,6,10,11,12]) next ((E188_0 t2 t3) (.inl s)) k=G188_0_s0 t2 t3 s.1 s.2.1 s.2.2.1 s.2.2.2.1 s.2.2.2.2.1 s.2.2.2.2.2.1 s.2.2.2.2.2.2.1 s.2.2.2.2.2.2.2.1 s.2.2.2.2.2.2.2.2.1 s.2.2.2.2.2.2.2.2.2 (fun s=>next ((E188_0 t2 t3) s)) (K188_0 t2 t3 k) none:=by kernel_rfl
theorem s188_0_s1 (t2 t3:Int) (ce:CallE) (k:Kont) (s:(List AV) × (List AV) × (List AV) × (List AV) × Int × Int × Int × Int × Int × Int × (List AV) × (List AV) × (List AV)) (next:St→Option AV):stepA (codeA c188 ce [0] 188 0 (sub [1,1,0,0,0] (body Tryz.f188))) (normA [0] [2,3,4,6,10,11,12]) next ((E188_0 t2 t3) (.inr s)) k=G188_0_s1 t2 t3 s.1 s.2.1 s.2.2.1 s.2.2.2.1 s.2.2.2.2.1 s.2.2.2.2.2.1 s.2.2.2.2.2.2.1 s.2.2.2.2.2.2.2.1 s.2.2.2.2.2.2.2.2.1 s.2.2.2.2.2.2.2.2.2.1 s.2.2.2.2.2.2.2.2.2.2.1 s.2.2.2.2.2.2.2.2.2.2.2.1 s.2.2.2.2.2.2.2.2.2.2.2.2 (fun s=>next ((E188_0 t2 t3) s)) (K188_0 t2 t3 k) none:=by kernel_rfl
theorem st188_0 (t2 t3:Int) (ce:CallE) (k:Kont) (s:(Int × Int × Int × Int × Int × Int × (List AV) × (List AV) × (List AV) × (List AV)) ⊕ ((List AV) × (List AV) × (List AV) × (List AV) × Int × Int × Int × Int × Int × Int × (List AV) × (List AV) × (List AV))) (next:St→Option AV):stepA (codeA c188 ce [0] 188 0 (sub [1,1,0,0,0] (body Tryz.f188))) (normA [0] [2,3,4,6,10,11,12]) next ((E188_0 t2 t3) s) k=(R188_0 t2 t3 s).el none (fun s=>next ((E188_0 t2 t3) s)) (K188_0 t2 t3 k):=(match s with | .inl s=>(s188_0_s0 t2 t3 ce k s next).trans (by unfold R188_0;unfold F188_0_s0 G188_0_s0;simp only [el_cond,el_ro,el_sum,el_fail,el_next,el_stop] <;> rfl) | .inr s=>(s188_0_s1 t2 t3 ce k s next).trans (by unfold R188_0;unfold F188_0_s1 G188_0_s1;simp only [el_cond,el_ro,el_sum,el_fail,el_next,el_stop] <;> rfl))
theorem ok188_0 {ce:CallE}:LoopOK c188 ce [0] 188 0 (sub [1,1,0,0,0] (body Tryz.f188)):=by
 intro m hm st k r h
 obtain rfl:l188_0=m:=Option.some.inj hm
 unfold l188_0 at h
 split at h
 ·rename_i t2 t3 g0 g1 g2 g3 g4 g5 g6 g7 g8 g9 g10 g11 g12 g13 g14 g15 h0_0 h0_1 h0_2 g16 g17 h2_0 h2_1 h2_2 g18 g19 g20 g21 g22 g23 h4 g24 g25 h5 g26 g27 h6 g28 g29 g30 g31 h8
  obtain ⟨hg,h⟩:=bif_some h
  simp only [Bool.and_eq_true] at hg
  obtain ⟨⟨⟨⟨⟨⟨⟨⟨⟨⟨⟨⟨⟨⟨⟨⟨⟨⟨⟨⟨⟨⟨⟨⟨⟨⟨⟨⟨⟨⟨⟨q0,q1⟩,q2⟩,q3⟩,q4⟩,q5⟩,q6⟩,q7⟩,q8⟩,q9⟩,q10⟩,q11⟩,q12⟩,q13⟩,q14⟩,q15⟩,q16⟩,q17⟩,q18⟩,q19⟩,q20⟩,q21⟩,q22⟩,q23⟩,q24⟩,q25⟩,q26⟩,q27⟩,q28⟩,q29⟩,q30⟩,q31⟩:=hg
  obtain rfl:=nE q0
  obtain rfl:=bE q1
  obtain rfl:=bE q2
  obtain rfl:=nE q3
  obtain rfl:=bE q4
  obtain rfl:=bE q5
  obtain rfl:=nE q6
  obtain rfl:=bE q7
  obtain rfl:=bE q8
  obtain rfl:=nE q9
  obtain rfl:=bE q10
  obtain rfl:=bE q11
  obtain rfl:=nE q12
  obtain rfl:=bE q13
  obtain rfl:=bE q14
  obtain rfl:=nE q15
  obtain rfl:=nE q16
  obtain rfl:=nE q17
  obtain rfl:=nE q18
  obtain rfl:=nE q19
  obtain rfl:=nE q20
  obtain rfl:=nE q21
  obtain rfl:=nE q22
  obtain rfl:=cE q23
  obtain rfl:=nE q24
  obtain rfl:=cE q25
  obtain rfl:=nE q26
  obtain rfl:=cE q27
  obtain rfl:=nE q28
  obtain rfl:=nE q29
  obtain rfl:=nE q30
  obtain rfl:=cE q31
  refine ⟨(2100),?_⟩
  rw [← h]
  exact loop_run (E188_0 t2 t3) (K188_0 t2 t3 k) (st188_0 t2 t3 ce k) _ (.inl (h0_0,h0_1,h0_2,h2_0,h2_1,h2_2,h4,h5,h6,h8))
 ·rename_i t2 t3 g0 g1 g2 g3 g4 g5 g6 g7 g8 g9 g10 g11 g12 g13 g14 g15 g16 h0 g17 g18 h1 g19 g20 h2 g21 g22 h3 g23 h4_0 h4_1 h4_2 g24 g25 h6_0 h6_1 h6_2 g26 g27 g28 g29 g30 g31 h8 g32 g33 h9 g34 g35 h10 g36 g37
  obtain ⟨hg,h⟩:=bif_some h
  simp only [Bool.and_eq_true] at hg
  obtain ⟨⟨⟨⟨⟨⟨⟨⟨⟨⟨⟨⟨⟨⟨⟨⟨⟨⟨⟨⟨⟨⟨⟨⟨⟨⟨⟨⟨⟨⟨⟨⟨⟨⟨⟨⟨⟨q0,q1⟩,q2⟩,q3⟩,q4⟩,q5⟩,q6⟩,q7⟩,q8⟩,q9⟩,q10⟩,q11⟩,q12⟩,q13⟩,q14⟩,q15⟩,q16⟩,q17⟩,q18⟩,q19⟩,q20⟩,q21⟩,q22⟩,q23⟩,q24⟩,q25⟩,q26⟩,q27⟩,q28⟩,q29⟩,q30⟩,q31⟩,q32⟩,q33⟩,q34⟩,q35⟩,q36⟩,q37⟩:=hg
  obtain rfl:=nE q0
  obtain rfl:=bE q1
  obtain rfl:=bE q2
  obtain rfl:=nE q3
  obtain rfl:=bE q4
  obtain rfl:=bE q5
  obtain rfl:=nE q6
  obtain rfl:=bE q7
  obtain rfl:=bE q8
  obtain rfl:=nE q9
  obtain rfl:=bE q10
  obtain rfl:=bE q11
  obtain rfl:=nE q12
  obtain rfl:=bE q13
  obtain rfl:=bE q14
  obtain rfl:=nE q15
  obtain rfl:=cE q16
  obtain rfl:=nE q17
  obtain rfl:=cE q18
  obtain rfl:=nE q19
  obtain rfl:=cE q20
  obtain rfl:=nE q21
  obtain rfl:=cE q22
  obtain rfl:=nE q23
  obtain rfl:=nE q24
  obtain rfl:=nE q25
  obtain rfl:=nE q26
  obtain rfl:=nE q27
  obtain rfl:=nE q28
  obtain rfl:=nE q29
  obtain rfl:=nE q30
  obtain rfl:=cE q31
  obtain rfl:=nE q32
  obtain rfl:=cE q33
  obtain rfl:=nE q34
  obtain rfl:=cE q35
  obtain rfl:=nE q36
  obtain rfl:=nE q37
  refine ⟨(2100),?_⟩
  rw [← h]
  exact loop_run (E188_0 t2 t3) (K188_0 t2 t3 k) (st188_0 t2 t3 ce k) _ (.inr (h0,h1,h2,h3,h4_0,h4_1,h4_2,h6_0,h6_1,h6_2,h8,h9,h10))
 ·cases h
def q188 (ya yb yc a2 a3:Int) (b0 b1 b2 b4:List AV):Bool:=(ro (runW (R188_0 a2 a3) (2100) (.inl (ya,yb,yc,0,0,0,b0,b1,b2,b4))) false (sumE (fun p84=>q204 a2 a3 p84.2.2.2.2.2.2.1 p84.2.2.2.2.2.2.2.1 p84.2.2.2.2.2.2.2.2.1 p84.2.2.2.2.2.2.2.2.2) (fun p85=>q204 a2 a3 p85.1 p85.2.1 p85.2.2.1 p85.2.2.2.1)))
def v188_0 (ya yb yc a2 a3:Int) (b0 b1 b2 b4:List AV):List AV:=(ro (runW (R188_0 a2 a3) (2100) (.inl (ya,yb,yc,0,0,0,b0,b1,b2,b4))) [] (sumE (fun p84=>(v204_0 a2 a3 p84.2.2.2.2.2.2.1 p84.2.2.2.2.2.2.2.1 p84.2.2.2.2.2.2.2.2.1 p84.2.2.2.2.2.2.2.2.2)) (fun p85=>(v204_0 a2 a3 p85.1 p85.2.1 p85.2.2.1 p85.2.2.2.1))))
def v188_1 (ya yb yc a2 a3:Int) (b0 b1 b2 b4:List AV):List AV:=(ro (runW (R188_0 a2 a3) (2100) (.inl (ya,yb,yc,0,0,0,b0,b1,b2,b4))) [] (sumE (fun p84=>(v204_1 a2 a3 p84.2.2.2.2.2.2.1 p84.2.2.2.2.2.2.2.1 p84.2.2.2.2.2.2.2.2.1 p84.2.2.2.2.2.2.2.2.2)) (fun p85=>(v204_1 a2 a3 p85.1 p85.2.1 p85.2.2.1 p85.2.2.2.1))))
def v188_2 (ya yb yc a2 a3:Int) (b0 b1 b2 b4:List AV):List AV:=(ro (runW (R188_0 a2 a3) (2100) (.inl (ya,yb,yc,0,0,0,b0,b1,b2,b4))) [] (sumE (fun p84=>(v204_2 a2 a3 p84.2.2.2.2.2.2.1 p84.2.2.2.2.2.2.2.1 p84.2.2.2.2.2.2.2.2.1 p84.2.2.2.2.2.2.2.2.2)) (fun p85=>(v204_2 a2 a3 p85.1 p85.2.1 p85.2.2.1 p85.2.2.2.1))))
def v188_3 (ya yb yc a2 a3:Int) (b0 b1 b2 b4:List AV):Int:=(ro (runW (R188_0 a2 a3) (2100) (.inl (ya,yb,yc,0,0,0,b0,b1,b2,b4))) 0 (sumE (fun p84=>p84.1) (fun p85=>p85.2.2.2.2.1)))
def v188_4 (ya yb yc a2 a3:Int) (b0 b1 b2 b4:List AV):Int:=(ro (runW (R188_0 a2 a3) (2100) (.inl (ya,yb,yc,0,0,0,b0,b1,b2,b4))) 0 (sumE (fun p84=>p84.2.1) (fun p85=>p85.2.2.2.2.2.1)))
def v188_5 (ya yb yc a2 a3:Int) (b0 b1 b2 b4:List AV):Int:=(ro (runW (R188_0 a2 a3) (2100) (.inl (ya,yb,yc,0,0,0,b0,b1,b2,b4))) 0 (sumE (fun p84=>p84.2.2.1) (fun p85=>p85.2.2.2.2.2.2.1)))
def v188_6 (ya yb yc a2 a3:Int) (b0 b1 b2 b4:List AV):List AV:=(ro (runW (R188_0 a2 a3) (2100) (.inl (ya,yb,yc,0,0,0,b0,b1,b2,b4))) [] (sumE (fun p84=>(v204_3 a2 a3 p84.2.2.2.2.2.2.1 p84.2.2.2.2.2.2.2.1 p84.2.2.2.2.2.2.2.2.1 p84.2.2.2.2.2.2.2.2.2)) (fun p85=>p85.2.2.2.2.2.2.2.2.2.2.1)))
def v188_7 (ya yb yc a2 a3:Int) (b0 b1 b2 b4:List AV):List AV:=(ro (runW (R188_0 a2 a3) (2100) (.inl (ya,yb,yc,0,0,0,b0,b1,b2,b4))) [] (sumE (fun p84=>(v204_4 a2 a3 p84.2.2.2.2.2.2.1 p84.2.2.2.2.2.2.2.1 p84.2.2.2.2.2.2.2.2.1 p84.2.2.2.2.2.2.2.2.2)) (fun p85=>p85.2.2.2.2.2.2.2.2.2.2.2.1)))
def v188_8 (ya yb yc a2 a3:Int) (b0 b1 b2 b4:List AV):List AV:=(ro (runW (R188_0 a2 a3) (2100) (.inl (ya,yb,yc,0,0,0,b0,b1,b2,b4))) [] (sumE (fun p84=>(v204_5 a2 a3 p84.2.2.2.2.2.2.1 p84.2.2.2.2.2.2.2.1 p84.2.2.2.2.2.2.2.2.1 p84.2.2.2.2.2.2.2.2.2)) (fun p85=>p85.2.2.2.2.2.2.2.2.2.2.2.2)))
def v188_9 (ya yb yc a2 a3:Int) (b0 b1 b2 b4:List AV):List AV:=(ro (runW (R188_0 a2 a3) (2100) (.inl (ya,yb,yc,0,0,0,b0,b1,b2,b4))) [] (sumE (fun p84=>(v204_6 a2 a3 p84.2.2.2.2.2.2.1 p84.2.2.2.2.2.2.2.1 p84.2.2.2.2.2.2.2.2.1 p84.2.2.2.2.2.2.2.2.2)) (fun p85=>(v204_6 a2 a3 p85.1 p85.2.1 p85.2.2.1 p85.2.2.2.1))))
theorem e188 (ya yb yc a2 a3:Int) (b0 b1 b2 b4:List AV) (K:List AV→List (Option Blk)→Option AV):inlA c188 1 188 [AV.agg [AV.own [1],AV.own [2],AV.own [3]],AV.agg [Ai ya,Ai yb,Ai yc],Ai a2,Ai a3,AV.ptr [4] 0 0] [0] (canH 1 [⟨false,[.int .i64],b0⟩,⟨false,[.int .i64],b1⟩,⟨false,[.int .i64,.int .i64],b2⟩,⟨true,[],[AV.own [5]]⟩,⟨false,[.int .i64,.int .i64,.int .i64,.int .i64,.int .i64],b4⟩]) (keepG Tryz.prog 5 [28,106] [4] K)=(ro (runW (R188_0 a2 a3) (2100) (.inl (ya,yb,yc,0,0,0,b0,b1,b2,b4))) none (sumE (fun p84=>(bif q204 a2 a3 p84.2.2.2.2.2.2.1 p84.2.2.2.2.2.2.2.1 p84.2.2.2.2.2.2.2.2.1 p84.2.2.2.2.2.2.2.2.2 then K [AV.agg [AV.fl [.int .i64] (v204_0 a2 a3 p84.2.2.2.2.2.2.1 p84.2.2.2.2.2.2.2.1 p84.2.2.2.2.2.2.2.2.1 p84.2.2.2.2.2.2.2.2.2),AV.fl [.int .i64] (v204_1 a2 a3 p84.2.2.2.2.2.2.1 p84.2.2.2.2.2.2.2.1 p84.2.2.2.2.2.2.2.2.1 p84.2.2.2.2.2.2.2.2.2),AV.fl [.int .i64,.int .i64] (v204_2 a2 a3 p84.2.2.2.2.2.2.1 p84.2.2.2.2.2.2.2.1 p84.2.2.2.2.2.2.2.2.1 p84.2.2.2.2.2.2.2.2.2)],AV.agg [Ai p84.1,Ai p84.2.1,Ai p84.2.2.1]] [some ⟨false,[.int .i64],(v204_3 a2 a3 p84.2.2.2.2.2.2.1 p84.2.2.2.2.2.2.2.1 p84.2.2.2.2.2.2.2.2.1 p84.2.2.2.2.2.2.2.2.2)⟩,some ⟨false,[.int .i64],(v204_4 a2 a3 p84.2.2.2.2.2.2.1 p84.2.2.2.2.2.2.2.1 p84.2.2.2.2.2.2.2.2.1 p84.2.2.2.2.2.2.2.2.2)⟩,some ⟨false,[.int .i64,.int .i64],(v204_5 a2 a3 p84.2.2.2.2.2.2.1 p84.2.2.2.2.2.2.2.1 p84.2.2.2.2.2.2.2.2.1 p84.2.2.2.2.2.2.2.2.2)⟩,some ⟨true,[],[AV.fl [.int .i64,.int .i64,.int .i64,.int .i64,.int .i64] (v204_6 a2 a3 p84.2.2.2.2.2.2.1 p84.2.2.2.2.2.2.2.1 p84.2.2.2.2.2.2.2.2.1 p84.2.2.2.2.2.2.2.2.2)]⟩,none]
 else none)) (fun p85=>(bif q204 a2 a3 p85.1 p85.2.1 p85.2.2.1 p85.2.2.2.1 then K [AV.agg [AV.fl [.int .i64] (v204_0 a2 a3 p85.1 p85.2.1 p85.2.2.1 p85.2.2.2.1),AV.fl [.int .i64] (v204_1 a2 a3 p85.1 p85.2.1 p85.2.2.1 p85.2.2.2.1),AV.fl [.int .i64,.int .i64] (v204_2 a2 a3 p85.1 p85.2.1 p85.2.2.1 p85.2.2.2.1)],AV.agg [Ai p85.2.2.2.2.1,Ai p85.2.2.2.2.2.1,Ai p85.2.2.2.2.2.2.1]] [some ⟨false,[.int .i64],p85.2.2.2.2.2.2.2.2.2.2.1⟩,some ⟨false,[.int .i64],p85.2.2.2.2.2.2.2.2.2.2.2.1⟩,some ⟨false,[.int .i64,.int .i64],p85.2.2.2.2.2.2.2.2.2.2.2.2⟩,some ⟨true,[],[AV.fl [.int .i64,.int .i64,.int .i64,.int .i64,.int .i64] (v204_6 a2 a3 p85.1 p85.2.1 p85.2.2.1 p85.2.2.2.1)]⟩,none]
 else none)))):=by kernel_rfl
theorem r188 (ya yb yc a2 a3:Int) (b0 b1 b2 b4:List AV) (K:List AV→List (Option Blk)→Option AV) (h:q188 ya yb yc a2 a3 b0 b1 b2 b4=true):inlA c188 1 188 [AV.agg [AV.own [1],AV.own [2],AV.own [3]],AV.agg [AV.int .i64 ya,AV.int .i64 yb,AV.int .i64 yc],AV.int .i64 a2,AV.int .i64 a3,AV.ptr [4] 0 0] [0] (canH 1 [⟨false,[.int .i64],b0⟩,⟨false,[.int .i64],b1⟩,⟨false,[.int .i64,.int .i64],b2⟩,⟨true,[],[AV.own [5]]⟩,⟨false,[.int .i64,.int .i64,.int .i64,.int .i64,.int .i64],b4⟩]) (keepG Tryz.prog 5 [28,106] [4] K)=K [AV.agg [AV.fl [.int .i64] (v188_0 ya yb yc a2 a3 b0 b1 b2 b4),AV.fl [.int .i64] (v188_1 ya yb yc a2 a3 b0 b1 b2 b4),AV.fl [.int .i64,.int .i64] (v188_2 ya yb yc a2 a3 b0 b1 b2 b4)],AV.agg [AV.int .i64 (v188_3 ya yb yc a2 a3 b0 b1 b2 b4),AV.int .i64 (v188_4 ya yb yc a2 a3 b0 b1 b2 b4),AV.int .i64 (v188_5 ya yb yc a2 a3 b0 b1 b2 b4)]] [some ⟨false,[.int .i64],(v188_6 ya yb yc a2 a3 b0 b1 b2 b4)⟩,some ⟨false,[.int .i64],(v188_7 ya yb yc a2 a3 b0 b1 b2 b4)⟩,some ⟨false,[.int .i64,.int .i64],(v188_8 ya yb yc a2 a3 b0 b1 b2 b4)⟩,some ⟨true,[],[AV.fl [.int .i64,.int .i64,.int .i64,.int .i64,.int .i64] (v188_9 ya yb yc a2 a3 b0 b1 b2 b4)]⟩,none]:=by
 refine (e188 ya yb yc a2 a3 b0 b1 b2 b4 K).trans ?_
 unfold q188 at h
 unfold v188_0 v188_1 v188_2 v188_3 v188_4 v188_5 v188_6 v188_7 v188_8 v188_9
 generalize runW (R188_0 a2 a3) (2100) (.inl (ya,yb,yc,0,0,0,b0,b1,b2,b4))=o at h ⊢
 cases o with
 | none=>cases h
 | some o =>
  cases o with
  | inl p84 =>
   simp only [ro,sumE] at h ⊢
   exact (brL1 (fun _=>rfl)) h
  | inr p85 =>
   simp only [ro,sumE] at h ⊢
   exact (brL1 (fun _=>rfl)) h
def m188:GModel
 | [.agg [.own g0,.own g1,.own g2],.agg [.int .i64 ya,.int .i64 yb,.int .i64 yc],.int .i64 a2,.int .i64 a3,.ptr g3 g4 g5],[⟨false,g6,b0⟩,⟨false,g7,b1⟩,⟨false,g8,b2⟩,⟨true,[],[.own g9]⟩,⟨false,g10,b4⟩]=>bif nmEq g0 ([1]) && nmEq g1 ([2]) && nmEq g2 ([3]) && nmEq g3 ([4]) && Nat.beq g4 0 && Nat.beq g5 0 && ctsEq g6 ([.int .i64]) && ctsEq g7 ([.int .i64]) && ctsEq g8 ([.int .i64,.int .i64]) && nmEq g9 ([5]) && ctsEq g10 ([.int .i64,.int .i64,.int .i64,.int .i64,.int .i64]) then some (q188 ya yb yc a2 a3 b0 b1 b2 b4,[AV.agg [AV.fl [.int .i64] (v188_0 ya yb yc a2 a3 b0 b1 b2 b4),AV.fl [.int .i64] (v188_1 ya yb yc a2 a3 b0 b1 b2 b4),AV.fl [.int .i64,.int .i64] (v188_2 ya yb yc a2 a3 b0 b1 b2 b4)],AV.agg [AV.int .i64 (v188_3 ya yb yc a2 a3 b0 b1 b2 b4),AV.int .i64 (v188_4 ya yb yc a2 a3 b0 b1 b2 b4),AV.int .i64 (v188_5 ya yb yc a2 a3 b0 b1 b2 b4)]],[some ⟨false,[.int .i64],(v188_6 ya yb yc a2 a3 b0 b1 b2 b4)⟩,some ⟨false,[.int .i64],(v188_7 ya yb yc a2 a3 b0 b1 b2 b4)⟩,some ⟨false,[.int .i64,.int .i64],(v188_8 ya yb yc a2 a3 b0 b1 b2 b4)⟩,some ⟨true,[],[AV.fl [.int .i64,.int .i64,.int .i64,.int .i64,.int .i64] (v188_9 ya yb yc a2 a3 b0 b1 b2 b4)]⟩,none]) else none
 | _,_=>none
theorem k188:Known Tryz.prog 188:=⟨Tryz.f188,Tryz.func188,by kernel_rfl,by kernel_rfl⟩
theorem meets188:MeetsG Tryz.prog 188 m188:=by
 refine mg (rt:=[28,106]) (gs:=[4]) (lvl:=0) (cf:=c188) rfl mixed k188 Tryz.func188 (by kernel_rfl) (loops_cons ok188_0 noLoop) (allT_cons meets119 (allT_cons meets150 (allT_cons meets203 allT_nil))) (allG_cons meets204 allM_nil) noI fun xs bs r bs' h K=>?_
 unfold m188 at h
 split at h
 ·rename_i g0 g1 g2 ya yb yc a2 a3 g3 g4 g5 g6 b0 g7 b1 g8 b2 g9 g10 b4
  obtain ⟨hg,h⟩:=bif_pair h
  simp only [Bool.and_eq_true] at hg
  obtain ⟨⟨⟨⟨⟨⟨⟨⟨⟨⟨q0,q1⟩,q2⟩,q3⟩,q4⟩,q5⟩,q6⟩,q7⟩,q8⟩,q9⟩,q10⟩:=hg
  obtain rfl:=nE q0
  obtain rfl:=nE q1
  obtain rfl:=nE q2
  obtain rfl:=nE q3
  obtain rfl:=bE q4
  obtain rfl:=bE q5
  obtain rfl:=cE q6
  obtain rfl:=cE q7
  obtain rfl:=cE q8
  obtain rfl:=nE q9
  obtain rfl:=cE q10
  obtain ⟨h1,rfl,rfl⟩:=trip_inj h
  exact r188 ya yb yc a2 a3 b0 b1 b2 b4 K h1
 ·cases h
def G189_0 {β:Type} (t0:List AV) (t3:Int) (t4:Int) (N:((Int × Int))→β) (K:(Int)→β) (d:β):β:=(bif decide (t4<(t0.length:Int)) then (bif (decide (0≤t4) && decide (t4<(t0.length:Int))) then N (IntKind.i64.wrap (t3+fI (t0.getD t4.toNat .undef) 4),IntKind.i64.wrap (t4+1))
 else d)
 else K t3)
def F189_0 (t0:List AV) (t3 t4:Int):Out ((Int × Int)) (Int):=G189_0 t0 t3 t4 .next .stop .fail
def R189_0 (t0:List AV):((Int × Int))→Out ((Int × Int)) (Int):=fun s:Int × Int=>F189_0 t0 s.1 s.2
def E189_0 (t0:List AV):((Int × Int))→St:=fun s:Int × Int=>⟨[(0,AV.sl [.int .i64,.int .i64,.int .i64,.int .i64,.int .i64] t0),(3,Ai s.1),(4,Ai s.2)],[]⟩
def K189_0 (t0:List AV) (k:Kont):(Int)→Option AV:=fun p:Int=>k (.exit 0) ⟨[(3,Ai p)],[]⟩
def l189_0:LModel:=fun _ _ st k=>match st with
 | ⟨[(0,.sl g0 t0),(3,.int .i64 t3),(4,.int .i64 t4)],[]⟩=>bif ctsEq g0 ([.int .i64,.int .i64,.int .i64,.int .i64,.int .i64]) then ro (runW (R189_0 t0) (((t0.length:Int) - t4:Int).toNat+1) (t3,t4)) none (K189_0 t0 k) else none
 | _=>none
noncomputable def c189:Cfg:=cfg Tryz.prog [(189,0,[0,3,4]),(189,999,[2]),(189,1000,[3]),(189,1001,[0,3,4])] [] [] [] [(189,0,l189_0)]
theorem s189_0 (t0:List AV) (ce:CallE) (k:Kont) (s:Int × Int) (next:St→Option AV):stepA (codeA c189 ce [] 189 0 (sub [1,1,0,1,0,0] (body Tryz.f189))) (normA [] [0,3,4]) next ((E189_0 t0) s) k=G189_0 t0 s.1 s.2 (fun s=>next ((E189_0 t0) s)) (K189_0 t0 k) none:=by kernel_rfl
theorem st189_0 (t0:List AV) (ce:CallE) (k:Kont) (s:(Int × Int)) (next:St→Option AV):stepA (codeA c189 ce [] 189 0 (sub [1,1,0,1,0,0] (body Tryz.f189))) (normA [] [0,3,4]) next ((E189_0 t0) s) k=(R189_0 t0 s).el none (fun s=>next ((E189_0 t0) s)) (K189_0 t0 k):=(s189_0 t0 ce k s next).trans (by unfold R189_0;unfold F189_0 G189_0;simp only [el_cond,el_ro,el_sum,el_fail,el_next,el_stop] <;> rfl)
theorem ok189_0 {ce:CallE}:LoopOK c189 ce [] 189 0 (sub [1,1,0,1,0,0] (body Tryz.f189)):=by
 intro m hm st k r h
 obtain rfl:l189_0=m:=Option.some.inj hm
 unfold l189_0 at h
 split at h
 ·rename_i g0 t0 t3 t4
  obtain ⟨hg,h⟩:=bif_some h
  have q0:=hg
  obtain rfl:=cE q0
  refine ⟨(((t0.length:Int) - t4:Int).toNat+1),?_⟩
  rw [← h]
  exact loop_run (E189_0 t0) (K189_0 t0 k) (st189_0 t0 ce k) _ (t3,t4)
 ·cases h
def q189 (a0:List AV):Bool:=(ro (runW (R189_0 a0) (((a0.length:Int) - 0:Int).toNat+1) (0,0)) false (fun p86=>true))
def v189_0 (a0:List AV):Int:=(ro (runW (R189_0 a0) (((a0.length:Int) - 0:Int).toNat+1) (0,0)) 0 (fun p86=>p86))
theorem e189 (a0:List AV):funA c189 0 189 [AV.sl [.int .i64,.int .i64,.int .i64,.int .i64,.int .i64] a0]=(ro (runW (R189_0 a0) (((a0.length:Int) - 0:Int).toNat+1) (0,0)) none (fun p86=>some (Ai p86))):=by kernel_rfl
def m189:TModel
 | [.sl g0 a0]=>bif ctsEq g0 ([.int .i64,.int .i64,.int .i64,.int .i64,.int .i64]) then some (q189 a0,AV.int .i64 (v189_0 a0)) else none
 | _=>none
theorem k189:Known Tryz.prog 189:=⟨Tryz.f189,Tryz.func189,by kernel_rfl,by kernel_rfl⟩
theorem meets189:Meets Tryz.prog 189 m189:=by
 refine mt (lvl:=0) (cf:=c189) rfl mixed k189 Tryz.func189 (by kernel_rfl) (loops_cons ok189_0 noLoop) allT_nil allM_nil noI fun xs r h=>?_
 unfold m189 at h
 split at h
 ·rename_i g0 a0
  obtain ⟨hg,h⟩:=bif_pair h
  have q0:=hg
  obtain rfl:=cE q0
  obtain ⟨h1,rfl⟩:=pair_inj h
  exact (e189 a0).trans ((brO (fun o:Option (Int)=>some (Ai (ro o 0 (fun p86=>p86)))) (fun p86=>(fun _=>rfl))) h1)
 ·cases h
noncomputable def c160:Cfg:=cfg Tryz.prog [(160,999,[6,7,8])] [(52,m52),(68,m68),(69,m69),(133,m133),(189,m189)] [(188,.g m188)] [] []
def q160 (xa xb xc:List AV) (ya yb yc a2:Int):Bool:=(q68 xa xb xc && (bif !(v68_0 xa xb xc) then q69 xa xb xc else (bif !(v133_0 ya yb yc) then q69 xa xb xc else (bif !(v52_0 a2 (-1000) 1000) then q69 xa xb xc else (q69 xa xb xc && (q188 ya yb yc a2 0 (v69_0 xa xb xc) (v69_1 xa xb xc) (v69_2 xa xb xc) ([]:List AV) && q189 (v188_9 ya yb yc a2 0 (v69_0 xa xb xc) (v69_1 xa xb xc) (v69_2 xa xb xc) ([]:List AV))))))))
def v160_0 (xa xb xc:List AV) (ya yb yc a2:Int):List AV:=(bif !(v68_0 xa xb xc) then (v69_0 xa xb xc) else (bif !(v133_0 ya yb yc) then (v69_0 xa xb xc) else (bif !(v52_0 a2 (-1000) 1000) then (v69_0 xa xb xc) else (v188_0 ya yb yc a2 0 (v69_0 xa xb xc) (v69_1 xa xb xc) (v69_2 xa xb xc) ([]:List AV)))))
def v160_1 (xa xb xc:List AV) (ya yb yc a2:Int):List AV:=(bif !(v68_0 xa xb xc) then (v69_1 xa xb xc) else (bif !(v133_0 ya yb yc) then (v69_1 xa xb xc) else (bif !(v52_0 a2 (-1000) 1000) then (v69_1 xa xb xc) else (v188_1 ya yb yc a2 0 (v69_0 xa xb xc) (v69_1 xa xb xc) (v69_2 xa xb xc) ([]:List AV)))))
def v160_2 (xa xb xc:List AV) (ya yb yc a2:Int):List AV:=(bif !(v68_0 xa xb xc) then (v69_2 xa xb xc) else (bif !(v133_0 ya yb yc) then (v69_2 xa xb xc) else (bif !(v52_0 a2 (-1000) 1000) then (v69_2 xa xb xc) else (v188_2 ya yb yc a2 0 (v69_0 xa xb xc) (v69_1 xa xb xc) (v69_2 xa xb xc) ([]:List AV)))))
def v160_3 (xa xb xc:List AV) (ya yb yc a2:Int):Int:=(bif !(v68_0 xa xb xc) then ya else (bif !(v133_0 ya yb yc) then ya else (bif !(v52_0 a2 (-1000) 1000) then ya else (v188_3 ya yb yc a2 0 (v69_0 xa xb xc) (v69_1 xa xb xc) (v69_2 xa xb xc) ([]:List AV)))))
def v160_4 (xa xb xc:List AV) (ya yb yc a2:Int):Int:=(bif !(v68_0 xa xb xc) then yb else (bif !(v133_0 ya yb yc) then yb else (bif !(v52_0 a2 (-1000) 1000) then yb else (v188_4 ya yb yc a2 0 (v69_0 xa xb xc) (v69_1 xa xb xc) (v69_2 xa xb xc) ([]:List AV)))))
def v160_5 (xa xb xc:List AV) (ya yb yc a2:Int):Int:=(bif !(v68_0 xa xb xc) then yc else (bif !(v133_0 ya yb yc) then yc else (bif !(v52_0 a2 (-1000) 1000) then yc else (v188_5 ya yb yc a2 0 (v69_0 xa xb xc) (v69_1 xa xb xc) (v69_2 xa xb xc) ([]:List AV)))))
def v160_6 (xa xb xc:List AV) (ya yb yc a2:Int):Int:=(bif !(v68_0 xa xb xc) then 0 else (bif !(v133_0 ya yb yc) then 0 else (bif !(v52_0 a2 (-1000) 1000) then 0 else (v189_0 (v188_9 ya yb yc a2 0 (v69_0 xa xb xc) (v69_1 xa xb xc) (v69_2 xa xb xc) ([]:List AV))))))
theorem e160 (xa xb xc:List AV) (ya yb yc a2:Int):funA c160 0 160 [AV.agg [AV.sl [.int .i64] xa,AV.sl [.int .i64] xb,AV.sl [.int .i64,.int .i64] xc],AV.agg [Ai ya,Ai yb,Ai yc],Ai a2]=((fun (x1:List AV) (x2:List AV) (x3:List AV)=>(bif q68 xa xb xc then (bif !(v68_0 xa xb xc) then (bif q69 xa xb xc then some (AV.tup [AV.agg [AV.fl [.int .i64] x1,AV.fl [.int .i64] x2,AV.fl [.int .i64,.int .i64] x3],AV.agg [Ai ya,Ai yb,Ai yc],Ai 0])
 else none)
 else (bif !(v133_0 ya yb yc) then (bif q69 xa xb xc then some (AV.tup [AV.agg [AV.fl [.int .i64] x1,AV.fl [.int .i64] x2,AV.fl [.int .i64,.int .i64] x3],AV.agg [Ai ya,Ai yb,Ai yc],Ai 0])
 else none)
 else (bif !(v52_0 a2 (-1000) 1000) then (bif q69 xa xb xc then some (AV.tup [AV.agg [AV.fl [.int .i64] x1,AV.fl [.int .i64] x2,AV.fl [.int .i64,.int .i64] x3],AV.agg [Ai ya,Ai yb,Ai yc],Ai 0])
 else none)
 else (bif q69 xa xb xc then (bif q188 ya yb yc a2 0 x1 x2 x3 ([]:List AV) then (bif q189 (v188_9 ya yb yc a2 0 x1 x2 x3 ([]:List AV)) then some (AV.tup [AV.agg [AV.fl [.int .i64] (v188_0 ya yb yc a2 0 x1 x2 x3 ([]:List AV)),AV.fl [.int .i64] (v188_1 ya yb yc a2 0 x1 x2 x3 ([]:List AV)),AV.fl [.int .i64,.int .i64] (v188_2 ya yb yc a2 0 x1 x2 x3 ([]:List AV))],AV.agg [Ai (v188_3 ya yb yc a2 0 x1 x2 x3 ([]:List AV)),Ai (v188_4 ya yb yc a2 0 x1 x2 x3 ([]:List AV)),Ai (v188_5 ya yb yc a2 0 x1 x2 x3 ([]:List AV))],Ai (v189_0 (v188_9 ya yb yc a2 0 x1 x2 x3 ([]:List AV)))])
 else none)
 else none)
 else none))))
 else none)) (v69_0 xa xb xc) (v69_1 xa xb xc) (v69_2 xa xb xc)):=by kernel_rfl
theorem r160 (xa xb xc:List AV) (ya yb yc a2:Int) (h:q160 xa xb xc ya yb yc a2=true):funA c160 0 160 [AV.agg [AV.sl [.int .i64] xa,AV.sl [.int .i64] xb,AV.sl [.int .i64,.int .i64] xc],AV.agg [AV.int .i64 ya,AV.int .i64 yb,AV.int .i64 yc],AV.int .i64 a2]=some (AV.tup [AV.agg [AV.fl [.int .i64] (v160_0 xa xb xc ya yb yc a2),AV.fl [.int .i64] (v160_1 xa xb xc ya yb yc a2),AV.fl [.int .i64,.int .i64] (v160_2 xa xb xc ya yb yc a2)],AV.agg [AV.int .i64 (v160_3 xa xb xc ya yb yc a2),AV.int .i64 (v160_4 xa xb xc ya yb yc a2),AV.int .i64 (v160_5 xa xb xc ya yb yc a2)],AV.int .i64 (v160_6 xa xb xc ya yb yc a2)]):=by
 refine (e160 xa xb xc ya yb yc a2).trans ?_
 unfold q160 at h
 unfold v160_0 v160_1 v160_2 v160_3 v160_4 v160_5 v160_6
 refine ifG (fun hc=>?_) (fun hc=>?_) <;> first|rw [hc] at h ⊢|rw [hc] at h|rw [hc]|skip
 ·refine ifG (fun hc=>?_) (fun hc=>?_) <;> first|rw [hc] at h ⊢|rw [hc] at h|rw [hc]|skip
  ·refine ifG (fun hc=>?_) (fun hc=>?_) <;> first|rw [hc] at h ⊢|rw [hc] at h|rw [hc]|skip
   ·rfl
   ·first|exact Bool.noConfusion h|exact Bool.noConfusion hc
  ·refine ifG (fun hc=>?_) (fun hc=>?_) <;> first|rw [hc] at h ⊢|rw [hc] at h|rw [hc]|skip
   ·refine ifG (fun hc=>?_) (fun hc=>?_) <;> first|rw [hc] at h ⊢|rw [hc] at h|rw [hc]|skip
    ·rfl
    ·first|exact Bool.noConfusion h|exact Bool.noConfusion hc
   ·refine ifG (fun hc=>?_) (fun hc=>?_) <;> first|rw [hc] at h ⊢|rw [hc] at h|rw [hc]|skip
    ·refine ifG (fun hc=>?_) (fun hc=>?_) <;> first|rw [hc] at h ⊢|rw [hc] at h|rw [hc]|skip
     ·rfl
     ·first|exact Bool.noConfusion h|exact Bool.noConfusion hc
    ·refine ifG (fun hc=>?_) (fun hc=>?_) <;> first|rw [hc] at h ⊢|rw [hc] at h|rw [hc]|skip
     ·refine ifG (fun hc=>?_) (fun hc=>?_) <;> first|rw [hc] at h ⊢|rw [hc] at h|rw [hc]|skip
      ·refine ifG (fun hc=>?_) (fun hc=>?_) <;> first|rw [hc] at h ⊢|rw [hc] at h|rw [hc]|skip
       ·rfl
       ·first|exact Bool.noConfusion h|exact Bool.noConfusion hc
      ·first|exact Bool.noConfusion h|exact Bool.noConfusion hc
     ·first|exact Bool.noConfusion h|exact Bool.noConfusion hc
 ·first|exact Bool.noConfusion h|exact Bool.noConfusion hc
def m160:TModel
 | [.agg [.sl g0 xa,.sl g1 xb,.sl g2 xc],.agg [.int .i64 ya,.int .i64 yb,.int .i64 yc],.int .i64 a2]=>bif ctsEq g0 ([.int .i64]) && ctsEq g1 ([.int .i64]) && ctsEq g2 ([.int .i64,.int .i64]) then some (q160 xa xb xc ya yb yc a2,AV.tup [AV.agg [AV.fl [.int .i64] (v160_0 xa xb xc ya yb yc a2),AV.fl [.int .i64] (v160_1 xa xb xc ya yb yc a2),AV.fl [.int .i64,.int .i64] (v160_2 xa xb xc ya yb yc a2)],AV.agg [AV.int .i64 (v160_3 xa xb xc ya yb yc a2),AV.int .i64 (v160_4 xa xb xc ya yb yc a2),AV.int .i64 (v160_5 xa xb xc ya yb yc a2)],AV.int .i64 (v160_6 xa xb xc ya yb yc a2)]) else none
 | _=>none
theorem k160:Known Tryz.prog 160:=⟨Tryz.f160,Tryz.func160,by kernel_rfl,by kernel_rfl⟩
theorem meets160:Meets Tryz.prog 160 m160:=by
 refine mt (lvl:=0) (cf:=c160) rfl mixed k160 Tryz.func160 (by kernel_rfl) noLoop (allT_cons meets52 (allT_cons meets68 (allT_cons meets69 (allT_cons meets133 (allT_cons meets189 allT_nil))))) (allG_cons meets188 allM_nil) noI fun xs r h=>?_
 unfold m160 at h
 split at h
 ·rename_i g0 xa g1 xb g2 xc ya yb yc a2
  obtain ⟨hg,h⟩:=bif_pair h
  simp only [Bool.and_eq_true] at hg
  obtain ⟨⟨q0,q1⟩,q2⟩:=hg
  obtain rfl:=cE q0
  obtain rfl:=cE q1
  obtain rfl:=cE q2
  obtain ⟨h1,rfl⟩:=pair_inj h
  exact r160 xa xb xc ya yb yc a2 h1
 ·cases h
noncomputable def c102:Cfg:=cfg Tryz.prog [(102,999,[6])] [(52,m52),(68,m68),(77,m77)] [] [] []
def q102 (xa xb xc:List AV) (a1 a2:Int):Bool:=(q68 xa xb xc && (bif !(v68_0 xa xb xc) then true else (bif !(v52_0 a1 0 a2) then true else (bif decide (a2 > (xb.length:Int)) then true else ((decide (0≤a1) && decide (a1≤a2) && decide (a2≤(xb.length:Int))) && q77 ((xb.take (Int.toNat a2)).drop (Int.toNat a1)))))))
def v102_0 (xa xb xc:List AV) (a1 a2:Int):List AV:=(bif !(v68_0 xa xb xc) then ([]:List AV) else (bif !(v52_0 a1 0 a2) then ([]:List AV) else (bif decide (a2 > (xb.length:Int)) then ([]:List AV) else (v77_0 ((xb.take (Int.toNat a2)).drop (Int.toNat a1))))))
theorem e102 (xa xb xc:List AV) (a1 a2:Int):funA c102 0 102 [AV.agg [AV.sl [.int .i64] xa,AV.sl [.int .i64] xb,AV.sl [.int .i64,.int .i64] xc],Ai a1,Ai a2]=(bif q68 xa xb xc then (bif !(v68_0 xa xb xc) then some (AV.fl [.int .i64] ([]:List AV))
 else (bif !(v52_0 a1 0 a2) then some (AV.fl [.int .i64] ([]:List AV))
 else (bif decide (a2 > (xb.length:Int)) then some (AV.fl [.int .i64] ([]:List AV))
 else (bif (decide (0≤a1) && decide (a1≤a2) && decide (a2≤(xb.length:Int))) then (bif q77 ((xb.take (Int.toNat a2)).drop (Int.toNat a1)) then some (AV.fl [.int .i64] (v77_0 ((xb.take (Int.toNat a2)).drop (Int.toNat a1))))
 else none)
 else none))))
 else none):=by kernel_rfl
def m102:TModel
 | [.agg [.sl g0 xa,.sl g1 xb,.sl g2 xc],.int .i64 a1,.int .i64 a2]=>bif ctsEq g0 ([.int .i64]) && ctsEq g1 ([.int .i64]) && ctsEq g2 ([.int .i64,.int .i64]) then some (q102 xa xb xc a1 a2,AV.fl [.int .i64] (v102_0 xa xb xc a1 a2)) else none
 | _=>none
theorem k102:Known Tryz.prog 102:=⟨Tryz.f102,Tryz.func102,by kernel_rfl,by kernel_rfl⟩
theorem meets102:Meets Tryz.prog 102 m102:=by
 refine mt (lvl:=0) (cf:=c102) rfl mixed k102 Tryz.func102 (by kernel_rfl) noLoop (allT_cons meets52 (allT_cons meets68 (allT_cons meets77 allT_nil))) allM_nil noI fun xs r h=>?_
 unfold m102 at h
 split at h
 ·rename_i g0 xa g1 xb g2 xc a1 a2
  obtain ⟨hg,h⟩:=bif_pair h
  simp only [Bool.and_eq_true] at hg
  obtain ⟨⟨q0,q1⟩,q2⟩:=hg
  obtain rfl:=cE q0
  obtain rfl:=cE q1
  obtain rfl:=cE q2
  obtain ⟨h1,rfl⟩:=pair_inj h
  exact (e102 xa xb xc a1 a2).trans ((brL (br (fun b=>some (AV.fl [.int .i64] (bif b then ([]:List AV) else (bif !(v52_0 a1 0 a2) then ([]:List AV) else (bif decide (a2 > (xb.length:Int)) then ([]:List AV) else (v77_0 ((xb.take (Int.toNat a2)).drop (Int.toNat a1)))))))) (fun _=>rfl) (br (fun b=>some (AV.fl [.int .i64] (bif b then ([]:List AV) else (bif decide (a2 > (xb.length:Int)) then ([]:List AV) else (v77_0 ((xb.take (Int.toNat a2)).drop (Int.toNat a1))))))) (fun _=>rfl) (br (fun b=>some (AV.fl [.int .i64] (bif b then ([]:List AV) else (v77_0 ((xb.take (Int.toNat a2)).drop (Int.toNat a1)))))) (fun _=>rfl) (brL (brL1 (fun _=>rfl))))))) h1)
 ·cases h
noncomputable def c134:Cfg:=cfg Tryz.prog [(134,999,[6,7,8,9])] [(51,m51),(68,m68),(69,m69),(102,m102),(119,m119),(133,m133),(160,m160)] [] [] []
def q134 (xa xb xc:List AV) (ya yb yc za zb:Int):Bool:=(q68 xa xb xc && (bif !(v68_0 xa xb xc) then q69 xa xb xc else (bif !(v133_0 ya yb yc) then q69 xa xb xc else (bif !(v51_0 za zb) then q69 xa xb xc else (q160 xa xb xc ya yb yc za && (q160 (v160_0 xa xb xc ya yb yc za) (v160_1 xa xb xc ya yb yc za) (v160_2 xa xb xc ya yb yc za) (v160_3 xa xb xc ya yb yc za) (v160_4 xa xb xc ya yb yc za) (v160_5 xa xb xc ya yb yc za) zb && (q119 (v160_0 (v160_0 xa xb xc ya yb yc za) (v160_1 xa xb xc ya yb yc za) (v160_2 xa xb xc ya yb yc za) (v160_3 xa xb xc ya yb yc za) (v160_4 xa xb xc ya yb yc za) (v160_5 xa xb xc ya yb yc za) zb) (v160_1 (v160_0 xa xb xc ya yb yc za) (v160_1 xa xb xc ya yb yc za) (v160_2 xa xb xc ya yb yc za) (v160_3 xa xb xc ya yb yc za) (v160_4 xa xb xc ya yb yc za) (v160_5 xa xb xc ya yb yc za) zb) (v160_2 (v160_0 xa xb xc ya yb yc za) (v160_1 xa xb xc ya yb yc za) (v160_2 xa xb xc ya yb yc za) (v160_3 xa xb xc ya yb yc za) (v160_4 xa xb xc ya yb yc za) (v160_5 xa xb xc ya yb yc za) zb) za && (q119 (v160_0 (v160_0 xa xb xc ya yb yc za) (v160_1 xa xb xc ya yb yc za) (v160_2 xa xb xc ya yb yc za) (v160_3 xa xb xc ya yb yc za) (v160_4 xa xb xc ya yb yc za) (v160_5 xa xb xc ya yb yc za) zb) (v160_1 (v160_0 xa xb xc ya yb yc za) (v160_1 xa xb xc ya yb yc za) (v160_2 xa xb xc ya yb yc za) (v160_3 xa xb xc ya yb yc za) (v160_4 xa xb xc ya yb yc za) (v160_5 xa xb xc ya yb yc za) zb) (v160_2 (v160_0 xa xb xc ya yb yc za) (v160_1 xa xb xc ya yb yc za) (v160_2 xa xb xc ya yb yc za) (v160_3 xa xb xc ya yb yc za) (v160_4 xa xb xc ya yb yc za) (v160_5 xa xb xc ya yb yc za) zb) zb && q102 (v160_0 (v160_0 xa xb xc ya yb yc za) (v160_1 xa xb xc ya yb yc za) (v160_2 xa xb xc ya yb yc za) (v160_3 xa xb xc ya yb yc za) (v160_4 xa xb xc ya yb yc za) (v160_5 xa xb xc ya yb yc za) zb) (v160_1 (v160_0 xa xb xc ya yb yc za) (v160_1 xa xb xc ya yb yc za) (v160_2 xa xb xc ya yb yc za) (v160_3 xa xb xc ya yb yc za) (v160_4 xa xb xc ya yb yc za) (v160_5 xa xb xc ya yb yc za) zb) (v160_2 (v160_0 xa xb xc ya yb yc za) (v160_1 xa xb xc ya yb yc za) (v160_2 xa xb xc ya yb yc za) (v160_3 xa xb xc ya yb yc za) (v160_4 xa xb xc ya yb yc za) (v160_5 xa xb xc ya yb yc za) zb) (v119_0 (v160_0 (v160_0 xa xb xc ya yb yc za) (v160_1 xa xb xc ya yb yc za) (v160_2 xa xb xc ya yb yc za) (v160_3 xa xb xc ya yb yc za) (v160_4 xa xb xc ya yb yc za) (v160_5 xa xb xc ya yb yc za) zb) (v160_1 (v160_0 xa xb xc ya yb yc za) (v160_1 xa xb xc ya yb yc za) (v160_2 xa xb xc ya yb yc za) (v160_3 xa xb xc ya yb yc za) (v160_4 xa xb xc ya yb yc za) (v160_5 xa xb xc ya yb yc za) zb) (v160_2 (v160_0 xa xb xc ya yb yc za) (v160_1 xa xb xc ya yb yc za) (v160_2 xa xb xc ya yb yc za) (v160_3 xa xb xc ya yb yc za) (v160_4 xa xb xc ya yb yc za) (v160_5 xa xb xc ya yb yc za) zb) za) (v119_0 (v160_0 (v160_0 xa xb xc ya yb yc za) (v160_1 xa xb xc ya yb yc za) (v160_2 xa xb xc ya yb yc za) (v160_3 xa xb xc ya yb yc za) (v160_4 xa xb xc ya yb yc za) (v160_5 xa xb xc ya yb yc za) zb) (v160_1 (v160_0 xa xb xc ya yb yc za) (v160_1 xa xb xc ya yb yc za) (v160_2 xa xb xc ya yb yc za) (v160_3 xa xb xc ya yb yc za) (v160_4 xa xb xc ya yb yc za) (v160_5 xa xb xc ya yb yc za) zb) (v160_2 (v160_0 xa xb xc ya yb yc za) (v160_1 xa xb xc ya yb yc za) (v160_2 xa xb xc ya yb yc za) (v160_3 xa xb xc ya yb yc za) (v160_4 xa xb xc ya yb yc za) (v160_5 xa xb xc ya yb yc za) zb) zb)))))))))
def v134_0 (xa xb xc:List AV) (ya yb yc za zb:Int):List AV:=(bif !(v68_0 xa xb xc) then (v69_0 xa xb xc) else (bif !(v133_0 ya yb yc) then (v69_0 xa xb xc) else (bif !(v51_0 za zb) then (v69_0 xa xb xc) else (v160_0 (v160_0 xa xb xc ya yb yc za) (v160_1 xa xb xc ya yb yc za) (v160_2 xa xb xc ya yb yc za) (v160_3 xa xb xc ya yb yc za) (v160_4 xa xb xc ya yb yc za) (v160_5 xa xb xc ya yb yc za) zb))))
def v134_1 (xa xb xc:List AV) (ya yb yc za zb:Int):List AV:=(bif !(v68_0 xa xb xc) then (v69_1 xa xb xc) else (bif !(v133_0 ya yb yc) then (v69_1 xa xb xc) else (bif !(v51_0 za zb) then (v69_1 xa xb xc) else (v160_1 (v160_0 xa xb xc ya yb yc za) (v160_1 xa xb xc ya yb yc za) (v160_2 xa xb xc ya yb yc za) (v160_3 xa xb xc ya yb yc za) (v160_4 xa xb xc ya yb yc za) (v160_5 xa xb xc ya yb yc za) zb))))
def v134_2 (xa xb xc:List AV) (ya yb yc za zb:Int):List AV:=(bif !(v68_0 xa xb xc) then (v69_2 xa xb xc) else (bif !(v133_0 ya yb yc) then (v69_2 xa xb xc) else (bif !(v51_0 za zb) then (v69_2 xa xb xc) else (v160_2 (v160_0 xa xb xc ya yb yc za) (v160_1 xa xb xc ya yb yc za) (v160_2 xa xb xc ya yb yc za) (v160_3 xa xb xc ya yb yc za) (v160_4 xa xb xc ya yb yc za) (v160_5 xa xb xc ya yb yc za) zb))))
def v134_3 (xa xb xc:List AV) (ya yb yc za zb:Int):Int:=(bif !(v68_0 xa xb xc) then ya else (bif !(v133_0 ya yb yc) then ya else (bif !(v51_0 za zb) then ya else (v160_3 (v160_0 xa xb xc ya yb yc za) (v160_1 xa xb xc ya yb yc za) (v160_2 xa xb xc ya yb yc za) (v160_3 xa xb xc ya yb yc za) (v160_4 xa xb xc ya yb yc za) (v160_5 xa xb xc ya yb yc za) zb))))
def v134_4 (xa xb xc:List AV) (ya yb yc za zb:Int):Int:=(bif !(v68_0 xa xb xc) then yb else (bif !(v133_0 ya yb yc) then yb else (bif !(v51_0 za zb) then yb else (v160_4 (v160_0 xa xb xc ya yb yc za) (v160_1 xa xb xc ya yb yc za) (v160_2 xa xb xc ya yb yc za) (v160_3 xa xb xc ya yb yc za) (v160_4 xa xb xc ya yb yc za) (v160_5 xa xb xc ya yb yc za) zb))))
def v134_5 (xa xb xc:List AV) (ya yb yc za zb:Int):Int:=(bif !(v68_0 xa xb xc) then yc else (bif !(v133_0 ya yb yc) then yc else (bif !(v51_0 za zb) then yc else (v160_5 (v160_0 xa xb xc ya yb yc za) (v160_1 xa xb xc ya yb yc za) (v160_2 xa xb xc ya yb yc za) (v160_3 xa xb xc ya yb yc za) (v160_4 xa xb xc ya yb yc za) (v160_5 xa xb xc ya yb yc za) zb))))
def v134_6 (xa xb xc:List AV) (ya yb yc za zb:Int):List AV:=(bif !(v68_0 xa xb xc) then ([]:List AV) else (bif !(v133_0 ya yb yc) then ([]:List AV) else (bif !(v51_0 za zb) then ([]:List AV) else (v102_0 (v160_0 (v160_0 xa xb xc ya yb yc za) (v160_1 xa xb xc ya yb yc za) (v160_2 xa xb xc ya yb yc za) (v160_3 xa xb xc ya yb yc za) (v160_4 xa xb xc ya yb yc za) (v160_5 xa xb xc ya yb yc za) zb) (v160_1 (v160_0 xa xb xc ya yb yc za) (v160_1 xa xb xc ya yb yc za) (v160_2 xa xb xc ya yb yc za) (v160_3 xa xb xc ya yb yc za) (v160_4 xa xb xc ya yb yc za) (v160_5 xa xb xc ya yb yc za) zb) (v160_2 (v160_0 xa xb xc ya yb yc za) (v160_1 xa xb xc ya yb yc za) (v160_2 xa xb xc ya yb yc za) (v160_3 xa xb xc ya yb yc za) (v160_4 xa xb xc ya yb yc za) (v160_5 xa xb xc ya yb yc za) zb) (v119_0 (v160_0 (v160_0 xa xb xc ya yb yc za) (v160_1 xa xb xc ya yb yc za) (v160_2 xa xb xc ya yb yc za) (v160_3 xa xb xc ya yb yc za) (v160_4 xa xb xc ya yb yc za) (v160_5 xa xb xc ya yb yc za) zb) (v160_1 (v160_0 xa xb xc ya yb yc za) (v160_1 xa xb xc ya yb yc za) (v160_2 xa xb xc ya yb yc za) (v160_3 xa xb xc ya yb yc za) (v160_4 xa xb xc ya yb yc za) (v160_5 xa xb xc ya yb yc za) zb) (v160_2 (v160_0 xa xb xc ya yb yc za) (v160_1 xa xb xc ya yb yc za) (v160_2 xa xb xc ya yb yc za) (v160_3 xa xb xc ya yb yc za) (v160_4 xa xb xc ya yb yc za) (v160_5 xa xb xc ya yb yc za) zb) za) (v119_0 (v160_0 (v160_0 xa xb xc ya yb yc za) (v160_1 xa xb xc ya yb yc za) (v160_2 xa xb xc ya yb yc za) (v160_3 xa xb xc ya yb yc za) (v160_4 xa xb xc ya yb yc za) (v160_5 xa xb xc ya yb yc za) zb) (v160_1 (v160_0 xa xb xc ya yb yc za) (v160_1 xa xb xc ya yb yc za) (v160_2 xa xb xc ya yb yc za) (v160_3 xa xb xc ya yb yc za) (v160_4 xa xb xc ya yb yc za) (v160_5 xa xb xc ya yb yc za) zb) (v160_2 (v160_0 xa xb xc ya yb yc za) (v160_1 xa xb xc ya yb yc za) (v160_2 xa xb xc ya yb yc za) (v160_3 xa xb xc ya yb yc za) (v160_4 xa xb xc ya yb yc za) (v160_5 xa xb xc ya yb yc za) zb) zb)))))
def v134_7 (xa xb xc:List AV) (ya yb yc za zb:Int):Int:=(bif !(v68_0 xa xb xc) then 0 else (bif !(v133_0 ya yb yc) then 0 else (bif !(v51_0 za zb) then 0 else IntKind.i64.wrap ((v160_6 xa xb xc ya yb yc za)+(v160_6 (v160_0 xa xb xc ya yb yc za) (v160_1 xa xb xc ya yb yc za) (v160_2 xa xb xc ya yb yc za) (v160_3 xa xb xc ya yb yc za) (v160_4 xa xb xc ya yb yc za) (v160_5 xa xb xc ya yb yc za) zb)))))
theorem e134 (xa xb xc:List AV) (ya yb yc za zb:Int):funA c134 0 134 [AV.agg [AV.sl [.int .i64] xa,AV.sl [.int .i64] xb,AV.sl [.int .i64,.int .i64] xc],AV.agg [Ai ya,Ai yb,Ai yc],AV.agg [Ai za,Ai zb]]=((fun (x1:List AV) (x2:List AV) (x3:List AV) (x4:Int) (x5:Int) (x6:Int) (x7:Int)=>((fun (x8:List AV) (x9:List AV) (x10:List AV) (x11:Int) (x12:Int) (x13:Int) (x14:Int)=>(bif q68 xa xb xc then (bif !(v68_0 xa xb xc) then (bif q69 xa xb xc then some (AV.tup [AV.agg [AV.fl [.int .i64] (v69_0 xa xb xc),AV.fl [.int .i64] (v69_1 xa xb xc),AV.fl [.int .i64,.int .i64] (v69_2 xa xb xc)],AV.agg [Ai ya,Ai yb,Ai yc],AV.fl [.int .i64] ([]:List AV),Ai 0])
 else none)
 else (bif !(v133_0 ya yb yc) then (bif q69 xa xb xc then some (AV.tup [AV.agg [AV.fl [.int .i64] (v69_0 xa xb xc),AV.fl [.int .i64] (v69_1 xa xb xc),AV.fl [.int .i64,.int .i64] (v69_2 xa xb xc)],AV.agg [Ai ya,Ai yb,Ai yc],AV.fl [.int .i64] ([]:List AV),Ai 0])
 else none)
 else (bif !(v51_0 za zb) then (bif q69 xa xb xc then some (AV.tup [AV.agg [AV.fl [.int .i64] (v69_0 xa xb xc),AV.fl [.int .i64] (v69_1 xa xb xc),AV.fl [.int .i64,.int .i64] (v69_2 xa xb xc)],AV.agg [Ai ya,Ai yb,Ai yc],AV.fl [.int .i64] ([]:List AV),Ai 0])
 else none)
 else (bif q160 xa xb xc ya yb yc za then (bif q160 x1 x2 x3 x4 x5 x6 zb then (bif q119 x8 x9 x10 za then (bif q119 x8 x9 x10 zb then (bif q102 x8 x9 x10 (v119_0 x8 x9 x10 za) (v119_0 x8 x9 x10 zb) then some (AV.tup [AV.agg [AV.fl [.int .i64] x8,AV.fl [.int .i64] x9,AV.fl [.int .i64,.int .i64] x10],AV.agg [Ai x11,Ai x12,Ai x13],AV.fl [.int .i64] (v102_0 x8 x9 x10 (v119_0 x8 x9 x10 za) (v119_0 x8 x9 x10 zb)),Ai (IntKind.i64.wrap (x7+x14))])
 else none)
 else none)
 else none)
 else none)
 else none))))
 else none)) (v160_0 x1 x2 x3 x4 x5 x6 zb) (v160_1 x1 x2 x3 x4 x5 x6 zb) (v160_2 x1 x2 x3 x4 x5 x6 zb) (v160_3 x1 x2 x3 x4 x5 x6 zb) (v160_4 x1 x2 x3 x4 x5 x6 zb) (v160_5 x1 x2 x3 x4 x5 x6 zb) (v160_6 x1 x2 x3 x4 x5 x6 zb))) (v160_0 xa xb xc ya yb yc za) (v160_1 xa xb xc ya yb yc za) (v160_2 xa xb xc ya yb yc za) (v160_3 xa xb xc ya yb yc za) (v160_4 xa xb xc ya yb yc za) (v160_5 xa xb xc ya yb yc za) (v160_6 xa xb xc ya yb yc za)):=by kernel_rfl
theorem r134 (xa xb xc:List AV) (ya yb yc za zb:Int) (h:q134 xa xb xc ya yb yc za zb=true):funA c134 0 134 [AV.agg [AV.sl [.int .i64] xa,AV.sl [.int .i64] xb,AV.sl [.int .i64,.int .i64] xc],AV.agg [AV.int .i64 ya,AV.int .i64 yb,AV.int .i64 yc],AV.agg [AV.int .i64 za,AV.int .i64 zb]]=some (AV.tup [AV.agg [AV.fl [.int .i64] (v134_0 xa xb xc ya yb yc za zb),AV.fl [.int .i64] (v134_1 xa xb xc ya yb yc za zb),AV.fl [.int .i64,.int .i64] (v134_2 xa xb xc ya yb yc za zb)],AV.agg [AV.int .i64 (v134_3 xa xb xc ya yb yc za zb),AV.int .i64 (v134_4 xa xb xc ya yb yc za zb),AV.int .i64 (v134_5 xa xb xc ya yb yc za zb)],AV.fl [.int .i64] (v134_6 xa xb xc ya yb yc za zb),AV.int .i64 (v134_7 xa xb xc ya yb yc za zb)]):=by
 refine (e134 xa xb xc ya yb yc za zb).trans ?_
 unfold q134 at h
 unfold v134_0 v134_1 v134_2 v134_3 v134_4 v134_5 v134_6 v134_7
 refine ifG (fun hc=>?_) (fun hc=>?_) <;> first|rw [hc] at h ⊢|rw [hc] at h|rw [hc]|skip
 ·refine ifG (fun hc=>?_) (fun hc=>?_) <;> first|rw [hc] at h ⊢|rw [hc] at h|rw [hc]|skip
  ·refine ifG (fun hc=>?_) (fun hc=>?_) <;> first|rw [hc] at h ⊢|rw [hc] at h|rw [hc]|skip
   ·rfl
   ·first|exact Bool.noConfusion h|exact Bool.noConfusion hc
  ·refine ifG (fun hc=>?_) (fun hc=>?_) <;> first|rw [hc] at h ⊢|rw [hc] at h|rw [hc]|skip
   ·refine ifG (fun hc=>?_) (fun hc=>?_) <;> first|rw [hc] at h ⊢|rw [hc] at h|rw [hc]|skip
    ·rfl
    ·first|exact Bool.noConfusion h|exact Bool.noConfusion hc
   ·refine ifG (fun hc=>?_) (fun hc=>?_) <;> first|rw [hc] at h ⊢|rw [hc] at h|rw [hc]|skip
    ·refine ifG (fun hc=>?_) (fun hc=>?_) <;> first|rw [hc] at h ⊢|rw [hc] at h|rw [hc]|skip
     ·rfl
     ·first|exact Bool.noConfusion h|exact Bool.noConfusion hc
    ·refine ifG (fun hc=>?_) (fun hc=>?_) <;> first|rw [hc] at h ⊢|rw [hc] at h|rw [hc]|skip
     ·refine ifG (fun hc=>?_) (fun hc=>?_) <;> first|rw [hc] at h ⊢|rw [hc] at h|rw [hc]|skip
      ·refine ifG (fun hc=>?_) (fun hc=>?_) <;> first|rw [hc] at h ⊢|rw [hc] at h|rw [hc]|skip
       ·refine ifG (fun hc=>?_) (fun hc=>?_) <;> first|rw [hc] at h ⊢|rw [hc] at h|rw [hc]|skip
        ·refine ifG (fun hc=>?_) (fun hc=>?_) <;> first|rw [hc] at h ⊢|rw [hc] at h|rw [hc]|skip
         ·rfl
         ·first|exact Bool.noConfusion h|exact Bool.noConfusion hc
        ·first|exact Bool.noConfusion h|exact Bool.noConfusion hc
       ·first|exact Bool.noConfusion h|exact Bool.noConfusion hc
      ·first|exact Bool.noConfusion h|exact Bool.noConfusion hc
     ·first|exact Bool.noConfusion h|exact Bool.noConfusion hc
 ·first|exact Bool.noConfusion h|exact Bool.noConfusion hc
def m134:TModel
 | [.agg [.sl g0 xa,.sl g1 xb,.sl g2 xc],.agg [.int .i64 ya,.int .i64 yb,.int .i64 yc],.agg [.int .i64 za,.int .i64 zb]]=>bif ctsEq g0 ([.int .i64]) && ctsEq g1 ([.int .i64]) && ctsEq g2 ([.int .i64,.int .i64]) then some (q134 xa xb xc ya yb yc za zb,AV.tup [AV.agg [AV.fl [.int .i64] (v134_0 xa xb xc ya yb yc za zb),AV.fl [.int .i64] (v134_1 xa xb xc ya yb yc za zb),AV.fl [.int .i64,.int .i64] (v134_2 xa xb xc ya yb yc za zb)],AV.agg [AV.int .i64 (v134_3 xa xb xc ya yb yc za zb),AV.int .i64 (v134_4 xa xb xc ya yb yc za zb),AV.int .i64 (v134_5 xa xb xc ya yb yc za zb)],AV.fl [.int .i64] (v134_6 xa xb xc ya yb yc za zb),AV.int .i64 (v134_7 xa xb xc ya yb yc za zb)]) else none
 | _=>none
theorem k134:Known Tryz.prog 134:=⟨Tryz.f134,Tryz.func134,by kernel_rfl,by kernel_rfl⟩
theorem meets134:Meets Tryz.prog 134 m134:=by
 refine mt (lvl:=0) (cf:=c134) rfl mixed k134 Tryz.func134 (by kernel_rfl) noLoop (allT_cons meets51 (allT_cons meets68 (allT_cons meets69 (allT_cons meets102 (allT_cons meets119 (allT_cons meets133 (allT_cons meets160 allT_nil))))))) allM_nil noI fun xs r h=>?_
 unfold m134 at h
 split at h
 ·rename_i g0 xa g1 xb g2 xc ya yb yc za zb
  obtain ⟨hg,h⟩:=bif_pair h
  simp only [Bool.and_eq_true] at hg
  obtain ⟨⟨q0,q1⟩,q2⟩:=hg
  obtain rfl:=cE q0
  obtain rfl:=cE q1
  obtain rfl:=cE q2
  obtain ⟨h1,rfl⟩:=pair_inj h
  exact r134 xa xb xc ya yb yc za zb h1
 ·cases h
def G90_0 {β:Type} (t2:List AV) (t13:Int) (h0:List AV) (h1:List AV) (h2:List AV) (h5:List AV) (h6:List AV) (h7_0:Int) (h7_1:Int) (h7_2:Int) (N:((Int × (List AV) × (List AV) × (List AV) × (List AV) × (List AV) × Int × Int × Int))→β) (K:(((List AV) × (List AV) × (List AV) × (List AV) × (List AV) × Int × Int × Int))→β) (d:β):β:=by
 refine (?f0:(List AV)→(List AV)→(List AV)→Int→Int→Int→(List AV)→Int→β) (v134_0 h0 h1 h2 h7_0 h7_1 h7_2 (fI (t2.getD t13.toNat .undef) 0) (fI (t2.getD t13.toNat .undef) 1)) (v134_1 h0 h1 h2 h7_0 h7_1 h7_2 (fI (t2.getD t13.toNat .undef) 0) (fI (t2.getD t13.toNat .undef) 1)) (v134_2 h0 h1 h2 h7_0 h7_1 h7_2 (fI (t2.getD t13.toNat .undef) 0) (fI (t2.getD t13.toNat .undef) 1)) (v134_3 h0 h1 h2 h7_0 h7_1 h7_2 (fI (t2.getD t13.toNat .undef) 0) (fI (t2.getD t13.toNat .undef) 1)) (v134_4 h0 h1 h2 h7_0 h7_1 h7_2 (fI (t2.getD t13.toNat .undef) 0) (fI (t2.getD t13.toNat .undef) 1)) (v134_5 h0 h1 h2 h7_0 h7_1 h7_2 (fI (t2.getD t13.toNat .undef) 0) (fI (t2.getD t13.toNat .undef) 1)) (v134_6 h0 h1 h2 h7_0 h7_1 h7_2 (fI (t2.getD t13.toNat .undef) 0) (fI (t2.getD t13.toNat .undef) 1)) (v134_7 h0 h1 h2 h7_0 h7_1 h7_2 (fI (t2.getD t13.toNat .undef) 0) (fI (t2.getD t13.toNat .undef) 1));intro x1 x2 x3 x4 x5 x6 x7 x8
 exact (bif decide (t13<(t2.length:Int)) then (bif (decide (0≤t13) && decide (t13<(t2.length:Int))) then (bif q134 h0 h1 h2 h7_0 h7_1 h7_2 (fI (t2.getD t13.toNat .undef) 0) (fI (t2.getD t13.toNat .undef) 1) then (bif (decide ((h5.length+([AV.sl [.int .i64] x7]).length)*24≤140737488355328) && decide ((h5.length+([AV.sl [.int .i64] x7]).length)≤140737488355328)) then (bif (decide ((h6.length+([AV.int .i64 x8]).length)*8≤140737488355328) && decide ((h6.length+([AV.int .i64 x8]).length)≤140737488355328)) then N (IntKind.i64.wrap (t13+1),x1,x2,x3,h5++([AV.sl [.int .i64] x7]),h6++([AV.int .i64 x8]),x4,x5,x6)
 else d)
 else d)
 else d)
 else d)
 else K (h0,h1,h2,h5,h6,h7_0,h7_1,h7_2))
def F90_0 (t2:List AV) (t13:Int) (h0 h1 h2 h5 h6:List AV) (h7_0 h7_1 h7_2:Int):Out ((Int × (List AV) × (List AV) × (List AV) × (List AV) × (List AV) × Int × Int × Int)) (((List AV) × (List AV) × (List AV) × (List AV) × (List AV) × Int × Int × Int)):=G90_0 t2 t13 h0 h1 h2 h5 h6 h7_0 h7_1 h7_2 .next .stop .fail
def R90_0 (t2:List AV):((Int × (List AV) × (List AV) × (List AV) × (List AV) × (List AV) × Int × Int × Int))→Out ((Int × (List AV) × (List AV) × (List AV) × (List AV) × (List AV) × Int × Int × Int)) (((List AV) × (List AV) × (List AV) × (List AV) × (List AV) × Int × Int × Int)):=fun s:Int × (List AV) × (List AV) × (List AV) × (List AV) × (List AV) × Int × Int × Int=>F90_0 t2 s.1 s.2.1 s.2.2.1 s.2.2.2.1 s.2.2.2.2.1 s.2.2.2.2.2.1 s.2.2.2.2.2.2.1 s.2.2.2.2.2.2.2.1 s.2.2.2.2.2.2.2.2
def E90_0 (t2:List AV):((Int × (List AV) × (List AV) × (List AV) × (List AV) × (List AV) × Int × Int × Int))→St:=fun s:Int × (List AV) × (List AV) × (List AV) × (List AV) × (List AV) × Int × Int × Int=>⟨[(2,AV.sl [.int .i64,.int .i64] t2),(6,AV.ptr [0,6] 0 0),(9,AV.ptr [0,9] 0 0),(10,AV.own [0,10]),(11,AV.own [0,11]),(12,AV.ptr [0,12] 0 0),(13,Ai s.1)],[([0,0,9],⟨false,[.int .i64],s.2.1⟩),([0,1,9],⟨false,[.int .i64],s.2.2.1⟩),([0,2,9],⟨false,[.int .i64,.int .i64],s.2.2.2.1⟩),([0,6],⟨true,[],[AV.agg [AV.snil,AV.snil,AV.snil]]⟩),([0,9],⟨true,[],[AV.agg [AV.own [0,0,9],AV.own [0,1,9],AV.own [0,2,9]]]⟩),([0,10],⟨false,[.sl [.int .i64]],s.2.2.2.2.1⟩),([0,11],⟨false,[.int .i64],s.2.2.2.2.2.1⟩),([0,12],⟨true,[],[AV.agg [Ai s.2.2.2.2.2.2.1,Ai s.2.2.2.2.2.2.2.1,Ai s.2.2.2.2.2.2.2.2]]⟩)]⟩
def K90_0 (t2:List AV) (k:Kont):(((List AV) × (List AV) × (List AV) × (List AV) × (List AV) × Int × Int × Int))→Option AV:=fun p:(List AV) × (List AV) × (List AV) × (List AV) × (List AV) × Int × Int × Int=>k (.exit 0) ⟨[(6,AV.ptr [0,6] 0 0),(9,AV.ptr [0,9] 0 0),(10,AV.own [0,10]),(11,AV.own [0,11])],[([0,0,9],⟨false,[.int .i64],p.1⟩),([0,1,9],⟨false,[.int .i64],p.2.1⟩),([0,2,9],⟨false,[.int .i64,.int .i64],p.2.2.1⟩),([0,6],⟨true,[],[AV.agg [AV.snil,AV.snil,AV.snil]]⟩),([0,9],⟨true,[],[AV.agg [AV.own [0,0,9],AV.own [0,1,9],AV.own [0,2,9]]]⟩),([0,10],⟨false,[.sl [.int .i64]],p.2.2.2.1⟩),([0,11],⟨false,[.int .i64],p.2.2.2.2.1⟩),([0,12],⟨true,[],[AV.agg [Ai p.2.2.2.2.2.1,Ai p.2.2.2.2.2.2.1,Ai p.2.2.2.2.2.2.2]]⟩)]⟩
def l90_0:LModel:=fun _ _ st k=>match st with
 | ⟨[(2,.sl g0 t2),(6,.ptr g1 g2 g3),(9,.ptr g4 g5 g6),(10,.own g7),(11,.own g8),(12,.ptr g9 g10 g11),(13,.int .i64 t13)],[(g12,⟨false,g13,h0⟩),(g14,⟨false,g15,h1⟩),(g16,⟨false,g17,h2⟩),(g18,⟨true,[],[.agg [.snil,.snil,.snil]]⟩),(g19,⟨true,[],[.agg [.own g20,.own g21,.own g22]]⟩),(g23,⟨false,g24,h5⟩),(g25,⟨false,g26,h6⟩),(g27,⟨true,[],[.agg [.int .i64 h7_0,.int .i64 h7_1,.int .i64 h7_2]]⟩)]⟩=>bif ctsEq g0 ([.int .i64,.int .i64]) && nmEq g1 ([0,6]) && Nat.beq g2 0 && Nat.beq g3 0 && nmEq g4 ([0,9]) && Nat.beq g5 0 && Nat.beq g6 0 && nmEq g7 ([0,10]) && nmEq g8 ([0,11]) && nmEq g9 ([0,12]) && Nat.beq g10 0 && Nat.beq g11 0 && nmEq g12 ([0,0,9]) && ctsEq g13 ([.int .i64]) && nmEq g14 ([0,1,9]) && ctsEq g15 ([.int .i64]) && nmEq g16 ([0,2,9]) && ctsEq g17 ([.int .i64,.int .i64]) && nmEq g18 ([0,6]) && nmEq g19 ([0,9]) && nmEq g20 ([0,0,9]) && nmEq g21 ([0,1,9]) && nmEq g22 ([0,2,9]) && nmEq g23 ([0,10]) && ctsEq g24 ([.sl [.int .i64]]) && nmEq g25 ([0,11]) && ctsEq g26 ([.int .i64]) && nmEq g27 ([0,12]) then ro (runW (R90_0 t2) (((t2.length:Int) - t13:Int).toNat+1) (t13,h0,h1,h2,h5,h6,h7_0,h7_1,h7_2)) none (K90_0 t2 k) else none
 | _=>none
noncomputable def c90:Cfg:=cfg Tryz.prog [(90,0,[2,6,9,10,11,12,13]),(90,999,[6,7,8]),(90,1000,[6,9,10,11]),(90,1001,[2,6,9,10,11,12,13])] [(116,m116),(125,m125),(129,m129),(133,m133),(134,m134)] [] [] [(90,0,l90_0)]
theorem s90_0 (t2:List AV) (ce:CallE) (k:Kont) (s:Int × (List AV) × (List AV) × (List AV) × (List AV) × (List AV) × Int × Int × Int) (next:St→Option AV):stepA (codeA c90 ce [] 90 0 (sub [1,1,1,1,1,1,0,1,0,0] (body Tryz.f90))) (normA [] [2,6,9,10,11,12,13]) next ((E90_0 t2) s) k=G90_0 t2 s.1 s.2.1 s.2.2.1 s.2.2.2.1 s.2.2.2.2.1 s.2.2.2.2.2.1 s.2.2.2.2.2.2.1 s.2.2.2.2.2.2.2.1 s.2.2.2.2.2.2.2.2 (fun s=>next ((E90_0 t2) s)) (K90_0 t2 k) none:=by kernel_rfl
theorem st90_0 (t2:List AV) (ce:CallE) (k:Kont) (s:(Int × (List AV) × (List AV) × (List AV) × (List AV) × (List AV) × Int × Int × Int)) (next:St→Option AV):stepA (codeA c90 ce [] 90 0 (sub [1,1,1,1,1,1,0,1,0,0] (body Tryz.f90))) (normA [] [2,6,9,10,11,12,13]) next ((E90_0 t2) s) k=(R90_0 t2 s).el none (fun s=>next ((E90_0 t2) s)) (K90_0 t2 k):=(s90_0 t2 ce k s next).trans (by unfold R90_0;unfold F90_0 G90_0;simp only [el_cond,el_ro,el_sum,el_fail,el_next,el_stop] <;> rfl)
theorem ok90_0 {ce:CallE}:LoopOK c90 ce [] 90 0 (sub [1,1,1,1,1,1,0,1,0,0] (body Tryz.f90)):=by
 intro m hm st k r h
 obtain rfl:l90_0=m:=Option.some.inj hm
 unfold l90_0 at h
 split at h
 ·rename_i g0 t2 g1 g2 g3 g4 g5 g6 g7 g8 g9 g10 g11 t13 g12 g13 h0 g14 g15 h1 g16 g17 h2 g18 g19 g20 g21 g22 g23 g24 h5 g25 g26 h6 g27 h7_0 h7_1 h7_2
  obtain ⟨hg,h⟩:=bif_some h
  simp only [Bool.and_eq_true] at hg
  obtain ⟨⟨⟨⟨⟨⟨⟨⟨⟨⟨⟨⟨⟨⟨⟨⟨⟨⟨⟨⟨⟨⟨⟨⟨⟨⟨⟨q0,q1⟩,q2⟩,q3⟩,q4⟩,q5⟩,q6⟩,q7⟩,q8⟩,q9⟩,q10⟩,q11⟩,q12⟩,q13⟩,q14⟩,q15⟩,q16⟩,q17⟩,q18⟩,q19⟩,q20⟩,q21⟩,q22⟩,q23⟩,q24⟩,q25⟩,q26⟩,q27⟩:=hg
  obtain rfl:=cE q0
  obtain rfl:=nE q1
  obtain rfl:=bE q2
  obtain rfl:=bE q3
  obtain rfl:=nE q4
  obtain rfl:=bE q5
  obtain rfl:=bE q6
  obtain rfl:=nE q7
  obtain rfl:=nE q8
  obtain rfl:=nE q9
  obtain rfl:=bE q10
  obtain rfl:=bE q11
  obtain rfl:=nE q12
  obtain rfl:=cE q13
  obtain rfl:=nE q14
  obtain rfl:=cE q15
  obtain rfl:=nE q16
  obtain rfl:=cE q17
  obtain rfl:=nE q18
  obtain rfl:=nE q19
  obtain rfl:=nE q20
  obtain rfl:=nE q21
  obtain rfl:=nE q22
  obtain rfl:=nE q23
  obtain rfl:=cE q24
  obtain rfl:=nE q25
  obtain rfl:=cE q26
  obtain rfl:=nE q27
  refine ⟨(((t2.length:Int) - t13:Int).toNat+1),?_⟩
  rw [← h]
  exact loop_run (E90_0 t2) (K90_0 t2 k) (st90_0 t2 ce k) _ (t13,h0,h1,h2,h5,h6,h7_0,h7_1,h7_2)
 ·cases h
def q90 (a0:List AV) (ya yb yc:Int) (a2:List AV):Bool:=(q125 a0 && (q116 a0 && (bif !(v116_0 a0) then true else (bif !(v133_0 ya yb yc) then true else (q129 a2 && (bif !(v129_0 a2) then true else (ro (runW (R90_0 a2) (((a2.length:Int) - 0:Int).toNat+1) (0,(v125_0 a0),(v125_1 a0),(v125_2 a0),([]:List AV),([]:List AV),ya,yb,yc)) false (fun p87=>true))))))))
def v90_0 (a0:List AV) (ya yb yc:Int) (a2:List AV):List AV:=(bif !(v116_0 a0) then ([]:List AV) else (bif !(v133_0 ya yb yc) then ([]:List AV) else (bif !(v129_0 a2) then ([]:List AV) else (ro (runW (R90_0 a2) (((a2.length:Int) - 0:Int).toNat+1) (0,(v125_0 a0),(v125_1 a0),(v125_2 a0),([]:List AV),([]:List AV),ya,yb,yc)) [] (fun p87=>p87.1)))))
def v90_1 (a0:List AV) (ya yb yc:Int) (a2:List AV):List AV:=(bif !(v116_0 a0) then ([]:List AV) else (bif !(v133_0 ya yb yc) then ([]:List AV) else (bif !(v129_0 a2) then ([]:List AV) else (ro (runW (R90_0 a2) (((a2.length:Int) - 0:Int).toNat+1) (0,(v125_0 a0),(v125_1 a0),(v125_2 a0),([]:List AV),([]:List AV),ya,yb,yc)) [] (fun p87=>p87.2.1)))))
def v90_2 (a0:List AV) (ya yb yc:Int) (a2:List AV):List AV:=(bif !(v116_0 a0) then ([]:List AV) else (bif !(v133_0 ya yb yc) then ([]:List AV) else (bif !(v129_0 a2) then ([]:List AV) else (ro (runW (R90_0 a2) (((a2.length:Int) - 0:Int).toNat+1) (0,(v125_0 a0),(v125_1 a0),(v125_2 a0),([]:List AV),([]:List AV),ya,yb,yc)) [] (fun p87=>p87.2.2.1)))))
def v90_3 (a0:List AV) (ya yb yc:Int) (a2:List AV):List AV:=(bif !(v116_0 a0) then ([]:List AV) else (bif !(v133_0 ya yb yc) then ([]:List AV) else (bif !(v129_0 a2) then ([]:List AV) else (ro (runW (R90_0 a2) (((a2.length:Int) - 0:Int).toNat+1) (0,(v125_0 a0),(v125_1 a0),(v125_2 a0),([]:List AV),([]:List AV),ya,yb,yc)) [] (fun p87=>p87.2.2.2.1)))))
def v90_4 (a0:List AV) (ya yb yc:Int) (a2:List AV):List AV:=(bif !(v116_0 a0) then ([]:List AV) else (bif !(v133_0 ya yb yc) then ([]:List AV) else (bif !(v129_0 a2) then ([]:List AV) else (ro (runW (R90_0 a2) (((a2.length:Int) - 0:Int).toNat+1) (0,(v125_0 a0),(v125_1 a0),(v125_2 a0),([]:List AV),([]:List AV),ya,yb,yc)) [] (fun p87=>p87.2.2.2.2.1)))))
theorem e90 (a0:List AV) (ya yb yc:Int) (a2:List AV):funA c90 0 90 [AV.sl [.int .i64] a0,AV.agg [Ai ya,Ai yb,Ai yc],AV.sl [.int .i64,.int .i64] a2]=(bif q125 a0 then (bif q116 a0 then (bif !(v116_0 a0) then some (AV.tup [AV.agg [AV.fl [.int .i64] ([]:List AV),AV.fl [.int .i64] ([]:List AV),AV.fl [.int .i64,.int .i64] ([]:List AV)],AV.fl [.sl [.int .i64]] ([]:List AV),AV.fl [.int .i64] ([]:List AV)])
 else (bif !(v133_0 ya yb yc) then some (AV.tup [AV.agg [AV.fl [.int .i64] ([]:List AV),AV.fl [.int .i64] ([]:List AV),AV.fl [.int .i64,.int .i64] ([]:List AV)],AV.fl [.sl [.int .i64]] ([]:List AV),AV.fl [.int .i64] ([]:List AV)])
 else (bif q129 a2 then (bif !(v129_0 a2) then some (AV.tup [AV.agg [AV.fl [.int .i64] ([]:List AV),AV.fl [.int .i64] ([]:List AV),AV.fl [.int .i64,.int .i64] ([]:List AV)],AV.fl [.sl [.int .i64]] ([]:List AV),AV.fl [.int .i64] ([]:List AV)])
 else (ro (runW (R90_0 a2) (((a2.length:Int) - 0:Int).toNat+1) (0,(v125_0 a0),(v125_1 a0),(v125_2 a0),([]:List AV),([]:List AV),ya,yb,yc)) none (fun p87=>some (AV.tup [AV.agg [AV.fl [.int .i64] p87.1,AV.fl [.int .i64] p87.2.1,AV.fl [.int .i64,.int .i64] p87.2.2.1],AV.fl [.sl [.int .i64]] p87.2.2.2.1,AV.fl [.int .i64] p87.2.2.2.2.1]))))
 else none)))
 else none)
 else none):=by kernel_rfl
theorem r90 (a0:List AV) (ya yb yc:Int) (a2:List AV) (h:q90 a0 ya yb yc a2=true):funA c90 0 90 [AV.sl [.int .i64] a0,AV.agg [AV.int .i64 ya,AV.int .i64 yb,AV.int .i64 yc],AV.sl [.int .i64,.int .i64] a2]=some (AV.tup [AV.agg [AV.fl [.int .i64] (v90_0 a0 ya yb yc a2),AV.fl [.int .i64] (v90_1 a0 ya yb yc a2),AV.fl [.int .i64,.int .i64] (v90_2 a0 ya yb yc a2)],AV.fl [.sl [.int .i64]] (v90_3 a0 ya yb yc a2),AV.fl [.int .i64] (v90_4 a0 ya yb yc a2)]):=by
 refine (e90 a0 ya yb yc a2).trans ?_
 unfold q90 at h
 unfold v90_0 v90_1 v90_2 v90_3 v90_4
 refine ifG (fun hc=>?_) (fun hc=>?_) <;> first|rw [hc] at h ⊢|rw [hc] at h|rw [hc]|skip
 ·refine ifG (fun hc=>?_) (fun hc=>?_) <;> first|rw [hc] at h ⊢|rw [hc] at h|rw [hc]|skip
  ·refine ifG (fun hc=>?_) (fun hc=>?_) <;> first|rw [hc] at h ⊢|rw [hc] at h|rw [hc]|skip
   ·rfl
   ·refine ifG (fun hc=>?_) (fun hc=>?_) <;> first|rw [hc] at h ⊢|rw [hc] at h|rw [hc]|skip
    ·rfl
    ·refine ifG (fun hc=>?_) (fun hc=>?_) <;> first|rw [hc] at h ⊢|rw [hc] at h|rw [hc]|skip
     ·refine ifG (fun hc=>?_) (fun hc=>?_) <;> first|rw [hc] at h ⊢|rw [hc] at h|rw [hc]|skip
      ·rfl
      ·refine roG (fun hc=>?_) (fun r hc=>?_) <;> first|rw [hc] at h ⊢|rw [hc] at h|rw [hc]|skip
       ·exact Bool.noConfusion h
       ·try simp only [ro] at h ⊢
        rfl
     ·first|exact Bool.noConfusion h|exact Bool.noConfusion hc
  ·first|exact Bool.noConfusion h|exact Bool.noConfusion hc
 ·first|exact Bool.noConfusion h|exact Bool.noConfusion hc
def m90:TModel
 | [.sl g0 a0,.agg [.int .i64 ya,.int .i64 yb,.int .i64 yc],.sl g1 a2]=>bif ctsEq g0 ([.int .i64]) && ctsEq g1 ([.int .i64,.int .i64]) then some (q90 a0 ya yb yc a2,AV.tup [AV.agg [AV.fl [.int .i64] (v90_0 a0 ya yb yc a2),AV.fl [.int .i64] (v90_1 a0 ya yb yc a2),AV.fl [.int .i64,.int .i64] (v90_2 a0 ya yb yc a2)],AV.fl [.sl [.int .i64]] (v90_3 a0 ya yb yc a2),AV.fl [.int .i64] (v90_4 a0 ya yb yc a2)]) else none
 | _=>none
theorem k90:Known Tryz.prog 90:=⟨Tryz.f90,Tryz.func90,by kernel_rfl,by kernel_rfl⟩
theorem meets90:Meets Tryz.prog 90 m90:=by
 refine mt (lvl:=0) (cf:=c90) rfl mixed k90 Tryz.func90 (by kernel_rfl) (loops_cons ok90_0 noLoop) (allT_cons meets116 (allT_cons meets125 (allT_cons meets129 (allT_cons meets133 (allT_cons meets134 allT_nil))))) allM_nil noI fun xs r h=>?_
 unfold m90 at h
 split at h
 ·rename_i g0 a0 ya yb yc g1 a2
  obtain ⟨hg,h⟩:=bif_pair h
  simp only [Bool.and_eq_true] at hg
  obtain ⟨q0,q1⟩:=hg
  obtain rfl:=cE q0
  obtain rfl:=cE q1
  obtain ⟨h1,rfl⟩:=pair_inj h
  exact r90 a0 ya yb yc a2 h1
 ·cases h
def G91_0 {β:Type} (t0:List AV) (t3:Int) (t4:Int) (N:((Int × Int))→β) (K:(Int)→β) (d:β):β:=(bif decide (t4<(t0.length:Int)) then (bif (decide (0≤t4) && decide (t4<(t0.length:Int))) then N (IntKind.i64.wrap (t3+fI (t0.getD t4.toNat .undef) 0),IntKind.i64.wrap (t4+1))
 else d)
 else K t3)
def F91_0 (t0:List AV) (t3 t4:Int):Out ((Int × Int)) (Int):=G91_0 t0 t3 t4 .next .stop .fail
def R91_0 (t0:List AV):((Int × Int))→Out ((Int × Int)) (Int):=fun s:Int × Int=>F91_0 t0 s.1 s.2
def E91_0 (t0:List AV):((Int × Int))→St:=fun s:Int × Int=>⟨[(0,AV.sl [.int .i64] t0),(3,Ai s.1),(4,Ai s.2)],[]⟩
def K91_0 (t0:List AV) (k:Kont):(Int)→Option AV:=fun p:Int=>k (.exit 0) ⟨[(3,Ai p)],[]⟩
def l91_0:LModel:=fun _ _ st k=>match st with
 | ⟨[(0,.sl g0 t0),(3,.int .i64 t3),(4,.int .i64 t4)],[]⟩=>bif ctsEq g0 ([.int .i64]) then ro (runW (R91_0 t0) (((t0.length:Int) - t4:Int).toNat+1) (t3,t4)) none (K91_0 t0 k) else none
 | _=>none
noncomputable def c91:Cfg:=cfg Tryz.prog [(91,0,[0,3,4]),(91,999,[2]),(91,1000,[3]),(91,1001,[0,3,4])] [] [] [] [(91,0,l91_0)]
theorem s91_0 (t0:List AV) (ce:CallE) (k:Kont) (s:Int × Int) (next:St→Option AV):stepA (codeA c91 ce [] 91 0 (sub [1,1,0,1,0,0] (body Tryz.f91))) (normA [] [0,3,4]) next ((E91_0 t0) s) k=G91_0 t0 s.1 s.2 (fun s=>next ((E91_0 t0) s)) (K91_0 t0 k) none:=by kernel_rfl
theorem st91_0 (t0:List AV) (ce:CallE) (k:Kont) (s:(Int × Int)) (next:St→Option AV):stepA (codeA c91 ce [] 91 0 (sub [1,1,0,1,0,0] (body Tryz.f91))) (normA [] [0,3,4]) next ((E91_0 t0) s) k=(R91_0 t0 s).el none (fun s=>next ((E91_0 t0) s)) (K91_0 t0 k):=(s91_0 t0 ce k s next).trans (by unfold R91_0;unfold F91_0 G91_0;simp only [el_cond,el_ro,el_sum,el_fail,el_next,el_stop] <;> rfl)
theorem ok91_0 {ce:CallE}:LoopOK c91 ce [] 91 0 (sub [1,1,0,1,0,0] (body Tryz.f91)):=by
 intro m hm st k r h
 obtain rfl:l91_0=m:=Option.some.inj hm
 unfold l91_0 at h
 split at h
 ·rename_i g0 t0 t3 t4
  obtain ⟨hg,h⟩:=bif_some h
  have q0:=hg
  obtain rfl:=cE q0
  refine ⟨(((t0.length:Int) - t4:Int).toNat+1),?_⟩
  rw [← h]
  exact loop_run (E91_0 t0) (K91_0 t0 k) (st91_0 t0 ce k) _ (t3,t4)
 ·cases h
def q91 (a0:List AV):Bool:=(ro (runW (R91_0 a0) (((a0.length:Int) - 0:Int).toNat+1) (0,0)) false (fun p88=>true))
def v91_0 (a0:List AV):Int:=(ro (runW (R91_0 a0) (((a0.length:Int) - 0:Int).toNat+1) (0,0)) 0 (fun p88=>p88))
theorem e91 (a0:List AV):funA c91 0 91 [AV.sl [.int .i64] a0]=(ro (runW (R91_0 a0) (((a0.length:Int) - 0:Int).toNat+1) (0,0)) none (fun p88=>some (Ai p88))):=by kernel_rfl
def m91:TModel
 | [.sl g0 a0]=>bif ctsEq g0 ([.int .i64]) then some (q91 a0,AV.int .i64 (v91_0 a0)) else none
 | _=>none
theorem k91:Known Tryz.prog 91:=⟨Tryz.f91,Tryz.func91,by kernel_rfl,by kernel_rfl⟩
theorem meets91:Meets Tryz.prog 91 m91:=by
 refine mt (lvl:=0) (cf:=c91) rfl mixed k91 Tryz.func91 (by kernel_rfl) (loops_cons ok91_0 noLoop) allT_nil allM_nil noI fun xs r h=>?_
 unfold m91 at h
 split at h
 ·rename_i g0 a0
  obtain ⟨hg,h⟩:=bif_pair h
  have q0:=hg
  obtain rfl:=cE q0
  obtain ⟨h1,rfl⟩:=pair_inj h
  exact (e91 a0).trans ((brO (fun o:Option (Int)=>some (Ai (ro o 0 (fun p88=>p88)))) (fun p88=>(fun _=>rfl))) h1)
 ·cases h
def G39_0 {β:Type} (t0:List AV) (t1:Int) (t2:List AV) (t7:Int) (t8:Int) (t9:Int) (N:((Int × Int × Int))→β) (K:(Int)→β) (d:β):β:=(bif decide (t9≤64) then (bif q84 t0 t2 then (bif (v84_0 t0 t2) then (bif (v52_0 t1 0 10006) then (bif q90 t0 1 t9 t1 t2 then (bif q91 (v90_4 t0 1 t9 t1 t2) then (bif decide (t7=0) then N (t9,(v91_0 (v90_4 t0 1 t9 t1 t2)),IntKind.i64.wrap (t9*2))
 else (bif decide ((v91_0 (v90_4 t0 1 t9 t1 t2))<t8) then N (t9,(v91_0 (v90_4 t0 1 t9 t1 t2)),IntKind.i64.wrap (t9*2))
 else N (t7,t8,IntKind.i64.wrap (t9*2))))
 else d)
 else d)
 else K t7)
 else K t7)
 else d)
 else K t7)
def F39_0 (t0:List AV) (t1:Int) (t2:List AV) (t7 t8 t9:Int):Out ((Int × Int × Int)) (Int):=G39_0 t0 t1 t2 t7 t8 t9 .next .stop .fail
def R39_0 (t0:List AV) (t1:Int) (t2:List AV):((Int × Int × Int))→Out ((Int × Int × Int)) (Int):=fun s:Int × Int × Int=>F39_0 t0 t1 t2 s.1 s.2.1 s.2.2
def E39_0 (t0:List AV) (t1:Int) (t2:List AV):((Int × Int × Int))→St:=fun s:Int × Int × Int=>⟨[(0,AV.sl [.int .i64] t0),(1,Ai t1),(2,AV.sl [.int .i64,.int .i64] t2),(7,Ai s.1),(8,Ai s.2.1),(9,Ai s.2.2)],[]⟩
def K39_0 (t0:List AV) (t1:Int) (t2:List AV) (k:Kont):(Int)→Option AV:=fun p:Int=>k (.exit 0) ⟨[(7,Ai p)],[]⟩
def l39_0:LModel:=fun _ _ st k=>match st with
 | ⟨[(0,.sl g0 t0),(1,.int .i64 t1),(2,.sl g1 t2),(7,.int .i64 t7),(8,.int .i64 t8),(9,.int .i64 t9)],[]⟩=>bif ctsEq g0 ([.int .i64]) && ctsEq g1 ([.int .i64,.int .i64]) then ro (runW (R39_0 t0 t1 t2) ((64 - t9+1:Int).toNat+1) (t7,t8,t9)) none (K39_0 t0 t1 t2 k) else none
 | _=>none
noncomputable def c39:Cfg:=cfg Tryz.prog [(39,0,[0,1,2,7,8,9]),(39,999,[6]),(39,1000,[7]),(39,1001,[0,1,2,7,8,9])] [(52,m52),(84,m84),(90,m90),(91,m91)] [] [] [(39,0,l39_0)]
theorem s39_0 (t0:List AV) (t1:Int) (t2:List AV) (ce:CallE) (k:Kont) (s:Int × Int × Int) (next:St→Option AV):stepA (codeA c39 ce [] 39 0 (sub [1,1,1,0,1,0,0] (body Tryz.f39))) (normA [] [0,1,2,7,8,9]) next ((E39_0 t0 t1 t2) s) k=G39_0 t0 t1 t2 s.1 s.2.1 s.2.2 (fun s=>next ((E39_0 t0 t1 t2) s)) (K39_0 t0 t1 t2 k) none:=by kernel_rfl
theorem st39_0 (t0:List AV) (t1:Int) (t2:List AV) (ce:CallE) (k:Kont) (s:(Int × Int × Int)) (next:St→Option AV):stepA (codeA c39 ce [] 39 0 (sub [1,1,1,0,1,0,0] (body Tryz.f39))) (normA [] [0,1,2,7,8,9]) next ((E39_0 t0 t1 t2) s) k=(R39_0 t0 t1 t2 s).el none (fun s=>next ((E39_0 t0 t1 t2) s)) (K39_0 t0 t1 t2 k):=(s39_0 t0 t1 t2 ce k s next).trans (by unfold R39_0;unfold F39_0 G39_0;simp only [el_cond,el_ro,el_sum,el_fail,el_next,el_stop] <;> rfl)
theorem ok39_0 {ce:CallE}:LoopOK c39 ce [] 39 0 (sub [1,1,1,0,1,0,0] (body Tryz.f39)):=by
 intro m hm st k r h
 obtain rfl:l39_0=m:=Option.some.inj hm
 unfold l39_0 at h
 split at h
 ·rename_i g0 t0 t1 g1 t2 t7 t8 t9
  obtain ⟨hg,h⟩:=bif_some h
  simp only [Bool.and_eq_true] at hg
  obtain ⟨q0,q1⟩:=hg
  obtain rfl:=cE q0
  obtain rfl:=cE q1
  refine ⟨((64 - t9+1:Int).toNat+1),?_⟩
  rw [← h]
  exact loop_run (E39_0 t0 t1 t2) (K39_0 t0 t1 t2 k) (st39_0 t0 t1 t2 ce k) _ (t7,t8,t9)
 ·cases h
def q39 (a0:List AV) (a1:Int) (a2:List AV):Bool:=(ro (runW (R39_0 a0 a1 a2) ((64 - 1+1:Int).toNat+1) (0,0,1)) false (fun p89=>true))
def v39_0 (a0:List AV) (a1:Int) (a2:List AV):Int:=(ro (runW (R39_0 a0 a1 a2) ((64 - 1+1:Int).toNat+1) (0,0,1)) 0 (fun p89=>p89))
theorem e39 (a0:List AV) (a1:Int) (a2:List AV):funA c39 0 39 [AV.sl [.int .i64] a0,Ai a1,AV.sl [.int .i64,.int .i64] a2]=(ro (runW (R39_0 a0 a1 a2) ((64 - 1+1:Int).toNat+1) (0,0,1)) none (fun p89=>some (Ai p89))):=by kernel_rfl
def m39:TModel
 | [.sl g0 a0,.int .i64 a1,.sl g1 a2]=>bif ctsEq g0 ([.int .i64]) && ctsEq g1 ([.int .i64,.int .i64]) then some (q39 a0 a1 a2,AV.int .i64 (v39_0 a0 a1 a2)) else none
 | _=>none
theorem k39:Known Tryz.prog 39:=⟨Tryz.f39,Tryz.func39,by kernel_rfl,by kernel_rfl⟩
theorem meets39:Meets Tryz.prog 39 m39:=by
 refine mt (lvl:=0) (cf:=c39) rfl mixed k39 Tryz.func39 (by kernel_rfl) (loops_cons ok39_0 noLoop) (allT_cons meets52 (allT_cons meets84 (allT_cons meets90 (allT_cons meets91 allT_nil)))) allM_nil noI fun xs r h=>?_
 unfold m39 at h
 split at h
 ·rename_i g0 a0 a1 g1 a2
  obtain ⟨hg,h⟩:=bif_pair h
  simp only [Bool.and_eq_true] at hg
  obtain ⟨q0,q1⟩:=hg
  obtain rfl:=cE q0
  obtain rfl:=cE q1
  obtain ⟨h1,rfl⟩:=pair_inj h
  exact (e39 a0 a1 a2).trans ((brO (fun o:Option (Int)=>some (Ai (ro o 0 (fun p89=>p89)))) (fun p89=>(fun _=>rfl))) h1)
 ·cases h
end
end Go.Proofs.YtbmfgibbjchijaaGreat

namespace Go.Proofs.YtbmfgibbjchijaaGreat
open Go Go.Proofs.VE
set_option linter.unusedVariables false
set_option linter.unusedSimpArgs false
set_option maxRecDepth 100000
set_option maxHeartbeats 4000000
noncomputable section
def G5_2 {β:Type} (t0:List AV) (t10:Int) (h0:List AV) (h1:List AV) (h2:List AV) (t12:Int) (t13:Int) (N:((Int × Int))→β) (K:(Int)→β) (d:β):β:=(bif decide (t13<(h1.length:Int)) then (bif decide ((h2.length:Int) > 0) then (bif (decide (0≤t13) && decide (t13<(h1.length:Int))) then (bif q36 h0 (fI (h1.getD t13.toNat .undef) 0) (fI (h1.getD t13.toNat .undef) 1) then N (IntKind.i64.wrap (t12+((v36_0 h0 (fI (h1.getD t13.toNat .undef) 0) (fI (h1.getD t13.toNat .undef) 1)).length:Int)),IntKind.i64.wrap (t13+1))
 else d)
 else d)
 else K t12)
 else K t12)
def F5_2 (t0:List AV) (t10:Int) (h0 h1 h2:List AV) (t12 t13:Int):Out ((Int × Int)) (Int):=G5_2 t0 t10 h0 h1 h2 t12 t13 .next .stop .fail
def R5_2 (t0:List AV) (t10:Int) (h0 h1 h2:List AV):((Int × Int))→Out ((Int × Int)) (Int):=fun s:Int × Int=>F5_2 t0 t10 h0 h1 h2 s.1 s.2
def E5_2 (t0:List AV) (t10:Int) (h0 h1 h2:List AV):((Int × Int))→St:=fun s:Int × Int=>⟨[(0,AV.sl [.int .u8] t0),(3,AV.own [0,3]),(4,AV.own [0,4]),(5,AV.own [0,5]),(10,Ai t10),(12,Ai s.1),(13,Ai s.2)],[([0,3],⟨false,[.int .i64],h0⟩),([0,4],⟨false,[.int .i64,.int .i64],h1⟩),([0,5],⟨false,[.int .i64],h2⟩)]⟩
def K5_2 (t0:List AV) (t10:Int) (h0 h1 h2:List AV) (k:Kont):(Int)→Option AV:=fun p:Int=>k (.exit 2) ⟨[(0,AV.sl [.int .u8] t0),(10,Ai t10),(12,Ai p)],[([0,3],⟨false,[.int .i64],h0⟩),([0,4],⟨false,[.int .i64,.int .i64],h1⟩),([0,5],⟨false,[.int .i64],h2⟩)]⟩
def l5_2:LModel:=fun _ _ st k=>match st with
 | ⟨[(0,.sl g0 t0),(3,.own g1),(4,.own g2),(5,.own g3),(10,.int .i64 t10),(12,.int .i64 t12),(13,.int .i64 t13)],[(g4,⟨false,g5,h0⟩),(g6,⟨false,g7,h1⟩),(g8,⟨false,g9,h2⟩)]⟩=>bif ctsEq g0 ([.int .u8]) && nmEq g1 ([0,3]) && nmEq g2 ([0,4]) && nmEq g3 ([0,5]) && nmEq g4 ([0,3]) && ctsEq g5 ([.int .i64]) && nmEq g6 ([0,4]) && ctsEq g7 ([.int .i64,.int .i64]) && nmEq g8 ([0,5]) && ctsEq g9 ([.int .i64]) then ro (runW (R5_2 t0 t10 h0 h1 h2) (((h1.length:Int) - t13:Int).toNat+1) (t12,t13)) none (K5_2 t0 t10 h0 h1 h2 k) else none
 | _=>none
def G5_0 {β:Type} (t0:List AV) (t7:Int) (h0:List AV) (h1:List AV) (h2:List AV) (h3_0:Int) (h3_1:Int) (t10:Int) (t11:Int) (N:((Int × Int))→β) (K:(Int ⊕ Unit ⊕ ((List AV)) ⊕ ((List AV) × (List AV)))→β) (d:β):β:=by
 refine (?f0:(List AV)→β) (v35_0 h1 (fI (h0.getD t11.toNat .undef) 0));intro x1
 exact (bif decide (t11<(h2.length:Int)) then (bif (decide (0≤t11) && decide (t11<(h2.length:Int))) then (bif (decide (0≤t11) && decide (t11<(h2.length:Int))) then (bif decide (fI (h2.getD t11.toNat .undef) 0 > t7) then K (.inr (.inl ()))
 else (bif (decide (0≤t11) && decide (t11<(h0.length:Int))) then (bif (v34_0 h3_0 h3_1 (fI (h0.getD t11.toNat .undef) 0)) then (bif (decide (0≤t11) && decide (t11<(h2.length:Int))) then (bif !decide (fI (h2.getD t11.toNat .undef) 0=t7) then K (.inr (.inl ()))
 else (bif (decide (0≤t11) && decide (t11<(h2.length:Int))) then (bif q32 h0 h1 then (bif q24 (v32_0 h0 h1) t11 then (bif !(decide (fI (h2.getD t11.toNat .undef) 0=0) == (v24_0 (v32_0 h0 h1) t11)) then K (.inr (.inr (.inl (v32_0 h0 h1))))
 else (bif (decide (0≤t11) && decide (t11<(h2.length:Int))) then (bif (decide (0≤t11) && decide (t11<(h0.length:Int))) then (bif q35 h1 (fI (h0.getD t11.toNat .undef) 0) then (bif !decide (fI (h2.getD t11.toNat .undef) 0=(x1.length:Int)) then K (.inr (.inr (.inr ((v32_0 h0 h1),x1))))
 else N (IntKind.i64.wrap (t10+fI (h2.getD t11.toNat .undef) 0),IntKind.i64.wrap (t11+1)))
 else d)
 else d)
 else d))
 else d)
 else d)
 else d))
 else d)
 else (bif (decide (0≤t11) && decide (t11<(h2.length:Int))) then (bif q32 h0 h1 then (bif q24 (v32_0 h0 h1) t11 then (bif !(decide (fI (h2.getD t11.toNat .undef) 0=0) == (v24_0 (v32_0 h0 h1) t11)) then K (.inr (.inr (.inl (v32_0 h0 h1))))
 else (bif (decide (0≤t11) && decide (t11<(h2.length:Int))) then (bif (decide (0≤t11) && decide (t11<(h0.length:Int))) then (bif q35 h1 (fI (h0.getD t11.toNat .undef) 0) then (bif !decide (fI (h2.getD t11.toNat .undef) 0=(x1.length:Int)) then K (.inr (.inr (.inr ((v32_0 h0 h1),x1))))
 else N (IntKind.i64.wrap (t10+fI (h2.getD t11.toNat .undef) 0),IntKind.i64.wrap (t11+1)))
 else d)
 else d)
 else d))
 else d)
 else d)
 else d))
 else d))
 else d)
 else d)
 else K (.inl t10))
def F5_0 (t0:List AV) (t7:Int) (h0 h1 h2:List AV) (h3_0 h3_1 t10 t11:Int):Out ((Int × Int)) (Int ⊕ Unit ⊕ ((List AV)) ⊕ ((List AV) × (List AV))):=G5_0 t0 t7 h0 h1 h2 h3_0 h3_1 t10 t11 .next .stop .fail
def R5_0 (t0:List AV) (t7:Int) (h0 h1 h2:List AV) (h3_0 h3_1:Int):((Int × Int))→Out ((Int × Int)) (Int ⊕ Unit ⊕ ((List AV)) ⊕ ((List AV) × (List AV))):=fun s:Int × Int=>F5_0 t0 t7 h0 h1 h2 h3_0 h3_1 s.1 s.2
def E5_0 (t0:List AV) (t7:Int) (h0 h1 h2:List AV) (h3_0 h3_1:Int):((Int × Int))→St:=fun s:Int × Int=>⟨[(0,AV.sl [.int .u8] t0),(3,AV.own [0,3]),(4,AV.own [0,4]),(5,AV.own [0,5]),(6,AV.ptr [0,6] 0 0),(7,Ai t7),(10,Ai s.1),(11,Ai s.2)],[([0,3],⟨false,[.int .i64],h0⟩),([0,4],⟨false,[.int .i64,.int .i64],h1⟩),([0,5],⟨false,[.int .i64],h2⟩),([0,6],⟨true,[],[AV.agg [Ai h3_0,Ai h3_1]]⟩)]⟩
def K5_0 (t0:List AV) (t7:Int) (h0 h1 h2:List AV) (h3_0 h3_1:Int) (k:Kont):(Int ⊕ Unit ⊕ ((List AV)) ⊕ ((List AV) × (List AV)))→Option AV:=sumE (fun p:Int=>k (.exit 0) ⟨[(0,AV.sl [.int .u8] t0),(3,AV.own [0,3]),(4,AV.own [0,4]),(5,AV.own [0,5]),(10,Ai p)],[([0,3],⟨false,[.int .i64],h0⟩),([0,4],⟨false,[.int .i64,.int .i64],h1⟩),([0,5],⟨false,[.int .i64],h2⟩),([0,6],⟨true,[],[AV.agg [Ai h3_0,Ai h3_1]]⟩)]⟩) (sumE (fun _:Unit=>k .ret ⟨[(2,AV.bool false)],[([0,3],⟨false,[.int .i64],h0⟩),([0,4],⟨false,[.int .i64,.int .i64],h1⟩),([0,5],⟨false,[.int .i64],h2⟩),([0,6],⟨true,[],[AV.agg [Ai h3_0,Ai h3_1]]⟩)]⟩) (sumE (fun p:(List AV)=>k .ret ⟨[(2,AV.bool false)],[([0,3],⟨false,[.int .i64],h0⟩),([0,4],⟨false,[.int .i64,.int .i64],h1⟩),([0,5],⟨false,[.int .i64],h2⟩),([0,6],⟨true,[],[AV.agg [Ai h3_0,Ai h3_1]]⟩),([1,107],⟨false,[.int .i64],p⟩)]⟩) (fun p:(List AV) × (List AV)=>k .ret ⟨[(2,AV.bool false)],[([0,3],⟨false,[.int .i64],h0⟩),([0,4],⟨false,[.int .i64,.int .i64],h1⟩),([0,5],⟨false,[.int .i64],h2⟩),([0,6],⟨true,[],[AV.agg [Ai h3_0,Ai h3_1]]⟩),([1,107],⟨false,[.int .i64],p.1⟩),([1,122],⟨false,[.int .i64],p.2⟩)]⟩)))
def l5_0:LModel:=fun _ _ st k=>match st with
 | ⟨[(0,.sl g0 t0),(3,.own g1),(4,.own g2),(5,.own g3),(6,.ptr g4 g5 g6),(7,.int .i64 t7),(10,.int .i64 t10),(11,.int .i64 t11)],[(g7,⟨false,g8,h0⟩),(g9,⟨false,g10,h1⟩),(g11,⟨false,g12,h2⟩),(g13,⟨true,[],[.agg [.int .i64 h3_0,.int .i64 h3_1]]⟩)]⟩=>bif ctsEq g0 ([.int .u8]) && nmEq g1 ([0,3]) && nmEq g2 ([0,4]) && nmEq g3 ([0,5]) && nmEq g4 ([0,6]) && Nat.beq g5 0 && Nat.beq g6 0 && nmEq g7 ([0,3]) && ctsEq g8 ([.int .i64]) && nmEq g9 ([0,4]) && ctsEq g10 ([.int .i64,.int .i64]) && nmEq g11 ([0,5]) && ctsEq g12 ([.int .i64]) && nmEq g13 ([0,6]) then ro (runW (R5_0 t0 t7 h0 h1 h2 h3_0 h3_1) (((h2.length:Int) - t11:Int).toNat+1) (t10,t11)) none (K5_0 t0 t7 h0 h1 h2 h3_0 h3_1 k) else none
 | _=>none
noncomputable def c5:Cfg:=cfg Tryz.prog [(5,0,[0,3,4,5,6,7,10,11]),(5,2,[0,3,4,5,10,12,13]),(5,999,[2]),(5,1000,[0,3,4,5,10]),(5,1001,[0,3,4,5,6,7,10,11]),(5,1002,[0,10,12]),(5,1003,[0,3,4,5,10,12,13])] [(6,m6),(11,m11),(24,m24),(27,m27),(28,m28),(29,m29),(30,m30),(31,m31),(32,m32),(33,m33),(34,m34),(35,m35),(36,m36),(37,m37),(38,m38),(39,m39)] [] [] [(5,0,l5_0),(5,2,l5_2)]
theorem s5_2 (t0:List AV) (t10:Int) (h0 h1 h2:List AV) (ce:CallE) (k:Kont) (s:Int × Int) (next:St→Option AV):stepA (codeA c5 ce [] 5 2 (sub [1,1,1,1,1,1,1,1,1,1,0,1,0,0] (body Tryz.f5))) (normA [] [0,3,4,5,10,12,13]) next ((E5_2 t0 t10 h0 h1 h2) s) k=G5_2 t0 t10 h0 h1 h2 s.1 s.2 (fun s=>next ((E5_2 t0 t10 h0 h1 h2) s)) (K5_2 t0 t10 h0 h1 h2 k) none:=by kernel_rfl
theorem st5_2 (t0:List AV) (t10:Int) (h0 h1 h2:List AV) (ce:CallE) (k:Kont) (s:(Int × Int)) (next:St→Option AV):stepA (codeA c5 ce [] 5 2 (sub [1,1,1,1,1,1,1,1,1,1,0,1,0,0] (body Tryz.f5))) (normA [] [0,3,4,5,10,12,13]) next ((E5_2 t0 t10 h0 h1 h2) s) k=(R5_2 t0 t10 h0 h1 h2 s).el none (fun s=>next ((E5_2 t0 t10 h0 h1 h2) s)) (K5_2 t0 t10 h0 h1 h2 k):=(s5_2 t0 t10 h0 h1 h2 ce k s next).trans (by unfold R5_2;unfold F5_2 G5_2;simp only [el_cond,el_ro,el_sum,el_fail,el_next,el_stop] <;> rfl)
theorem ok5_2 {ce:CallE}:LoopOK c5 ce [] 5 2 (sub [1,1,1,1,1,1,1,1,1,1,0,1,0,0] (body Tryz.f5)):=by
 intro m hm st k r h
 obtain rfl:l5_2=m:=Option.some.inj hm
 unfold l5_2 at h
 split at h
 ·rename_i g0 t0 g1 g2 g3 t10 t12 t13 g4 g5 h0 g6 g7 h1 g8 g9 h2
  obtain ⟨hg,h⟩:=bif_some h
  simp only [Bool.and_eq_true] at hg
  obtain ⟨⟨⟨⟨⟨⟨⟨⟨⟨q0,q1⟩,q2⟩,q3⟩,q4⟩,q5⟩,q6⟩,q7⟩,q8⟩,q9⟩:=hg
  obtain rfl:=cE q0
  obtain rfl:=nE q1
  obtain rfl:=nE q2
  obtain rfl:=nE q3
  obtain rfl:=nE q4
  obtain rfl:=cE q5
  obtain rfl:=nE q6
  obtain rfl:=cE q7
  obtain rfl:=nE q8
  obtain rfl:=cE q9
  refine ⟨(((h1.length:Int) - t13:Int).toNat+1),?_⟩
  rw [← h]
  exact loop_run (E5_2 t0 t10 h0 h1 h2) (K5_2 t0 t10 h0 h1 h2 k) (st5_2 t0 t10 h0 h1 h2 ce k) _ (t12,t13)
 ·cases h
theorem s5_0 (t0:List AV) (t7:Int) (h0 h1 h2:List AV) (h3_0 h3_1:Int) (ce:CallE) (k:Kont) (s:Int × Int) (next:St→Option AV):stepA (codeA c5 ce [] 5 0 (sub [1,1,1,1,1,1,1,1,0,1,0,0] (body Tryz.f5))) (normA [] [0,3,4,5,6,7,10,11]) next ((E5_0 t0 t7 h0 h1 h2 h3_0 h3_1) s) k=G5_0 t0 t7 h0 h1 h2 h3_0 h3_1 s.1 s.2 (fun s=>next ((E5_0 t0 t7 h0 h1 h2 h3_0 h3_1) s)) (K5_0 t0 t7 h0 h1 h2 h3_0 h3_1 k) none:=by kernel_rfl
theorem st5_0 (t0:List AV) (t7:Int) (h0 h1 h2:List AV) (h3_0 h3_1:Int) (ce:CallE) (k:Kont) (s:(Int × Int)) (next:St→Option AV):stepA (codeA c5 ce [] 5 0 (sub [1,1,1,1,1,1,1,1,0,1,0,0] (body Tryz.f5))) (normA [] [0,3,4,5,6,7,10,11]) next ((E5_0 t0 t7 h0 h1 h2 h3_0 h3_1) s) k=(R5_0 t0 t7 h0 h1 h2 h3_0 h3_1 s).el none (fun s=>next ((E5_0 t0 t7 h0 h1 h2 h3_0 h3_1) s)) (K5_0 t0 t7 h0 h1 h2 h3_0 h3_1 k):=(s5_0 t0 t7 h0 h1 h2 h3_0 h3_1 ce k s next).trans (by unfold R5_0;unfold F5_0 G5_0;simp only [el_cond,el_ro,el_sum,el_fail,el_next,el_stop] <;> rfl)
theorem ok5_0 {ce:CallE}:LoopOK c5 ce [] 5 0 (sub [1,1,1,1,1,1,1,1,0,1,0,0] (body Tryz.f5)):=by
 intro m hm st k r h
 obtain rfl:l5_0=m:=Option.some.inj hm
 unfold l5_0 at h
 split at h
 ·rename_i g0 t0 g1 g2 g3 g4 g5 g6 t7 t10 t11 g7 g8 h0 g9 g10 h1 g11 g12 h2 g13 h3_0 h3_1
  obtain ⟨hg,h⟩:=bif_some h
  simp only [Bool.and_eq_true] at hg
  obtain ⟨⟨⟨⟨⟨⟨⟨⟨⟨⟨⟨⟨⟨q0,q1⟩,q2⟩,q3⟩,q4⟩,q5⟩,q6⟩,q7⟩,q8⟩,q9⟩,q10⟩,q11⟩,q12⟩,q13⟩:=hg
  obtain rfl:=cE q0
  obtain rfl:=nE q1
  obtain rfl:=nE q2
  obtain rfl:=nE q3
  obtain rfl:=nE q4
  obtain rfl:=bE q5
  obtain rfl:=bE q6
  obtain rfl:=nE q7
  obtain rfl:=cE q8
  obtain rfl:=nE q9
  obtain rfl:=cE q10
  obtain rfl:=nE q11
  obtain rfl:=cE q12
  obtain rfl:=nE q13
  refine ⟨(((h2.length:Int) - t11:Int).toNat+1),?_⟩
  rw [← h]
  exact loop_run (E5_0 t0 t7 h0 h1 h2 h3_0 h3_1) (K5_0 t0 t7 h0 h1 h2 h3_0 h3_1 k) (st5_0 t0 t7 h0 h1 h2 h3_0 h3_1 ce k) _ (t10,t11)
 ·cases h
def raw5 (a0:List AV):Option AV:=by
 refine (?f0:(List AV)→(List AV)→(Option AV)) (v27_0 a0) (v27_1 a0);intro x1 x2
 exact (bif (v6_0 a0) then some (AV.bool true)
 else (bif q27 a0 then (bif q28 x1 x2 then (bif q29 x1 x2 then (bif q30 x1 x2 then (bif q31 x1 x2 then (bif q11 (v28_0 x1 x2) (v31_0 x1 x2) then (bif !(v11_0 (v28_0 x1 x2) (v31_0 x1 x2)) then some (AV.bool false)
 else (bif !(bif decide ((v29_0 x1 x2)=(v30_0 x1 x2)) then (bif decide ((v29_1 x1 x2)=(v30_1 x1 x2)) then true else false) else false) then some (AV.bool false)
 else (bif !decide ((v29_2 x1 x2)=(v30_2 x1 x2)) then some (AV.bool false)
 else (bif q32 x1 x2 then (bif q33 x1 x2 then (bif q11 (v32_0 x1 x2) (v33_0 x1 x2) then (bif !(v11_0 (v32_0 x1 x2) (v33_0 x1 x2)) then some (AV.bool false)
 else (ro (runW (R5_0 a0 (v29_2 x1 x2) x1 x2 (v28_0 x1 x2) (v29_0 x1 x2) (v29_1 x1 x2)) ((((v28_0 x1 x2).length:Int) - 0:Int).toNat+1) (0,0)) none (sumE (fun p36=>(ro (runW (R5_2 a0 p36 x1 x2 (v28_0 x1 x2)) (((x2.length:Int) - 0:Int).toNat+1) (0,0)) none (fun p38=>(bif q37 a0 then (bif decide (p36=p38) then (bif q38 (v37_0 a0) (v37_1 a0) (v37_2 a0) then (bif q39 (v37_0 a0) (v37_1 a0) (v37_2 a0) then some (AV.bool (decide ((v38_0 (v37_0 a0) (v37_1 a0) (v37_2 a0))=(v39_0 (v37_0 a0) (v37_1 a0) (v37_2 a0)))))
 else none)
 else none)
 else some (AV.bool false))
 else none)))) (sumE (fun _=>some (AV.bool false)) (sumE (fun p91=>some (AV.bool false)) (fun p92=>some (AV.bool false)))))))
 else none)
 else none)
 else none))))
 else none)
 else none)
 else none)
 else none)
 else none)
 else none))
theorem e5 (a0:List AV):funA c5 0 5 [AV.sl [.int .u8] a0]=raw5 a0:=by kernel_rfl
def m5:TModel
 | [.sl g0 a0]=>bif ctsEq g0 ([.int .u8]) then (raw5 a0).map fun r=>(true,r) else none
 | _=>none
theorem k5:Known Tryz.prog 5:=⟨Tryz.f5,Tryz.func5,by kernel_rfl,by kernel_rfl⟩
theorem meets5:Meets Tryz.prog 5 m5:=by
 refine mt (lvl:=0) (cf:=c5) rfl mixed k5 Tryz.func5 (by kernel_rfl) (loops_cons ok5_0 (loops_cons ok5_2 noLoop)) (allT_cons meets6 (allT_cons meets11 (allT_cons meets24 (allT_cons meets27 (allT_cons meets28 (allT_cons meets29 (allT_cons meets30 (allT_cons meets31 (allT_cons meets32 (allT_cons meets33 (allT_cons meets34 (allT_cons meets35 (allT_cons meets36 (allT_cons meets37 (allT_cons meets38 (allT_cons meets39 allT_nil)))))))))))))))) allM_nil noI fun xs r h=>?_
 unfold m5 at h
 split at h
 ·rename_i g0 a0
  obtain ⟨hg,h⟩:=bif_pair h
  have q0:=hg
  obtain rfl:=cE q0
  obtain ⟨r',h1,h2⟩:=Option.map_eq_some_iff.1 h
  obtain ⟨_,rfl⟩:=Prod.mk.inj h2
  exact (e5 a0).trans h1
 ·cases h
end
end Go.Proofs.YtbmfgibbjchijaaGreat

namespace Go.Proofs.YtbmfgibbjchijaaGreat
open Go Go.Proofs.VE
set_option linter.unusedVariables false
set_option linter.unusedSimpArgs false
theorem P11 (xs ys:List AV) (h:xs.length≤1048576):q11 xs ys=true∧v11_0 xs ys=eqL ee1 xs ys:=by
 have hr:(xs.length:Int)=ys.length→runW (R11_0 xs ys) (((xs.length:Int) - 0).toNat+1) 0=some (ro (findF (fun i => !ee1 (xs.getD i.toNat .undef) (ys.getD i.toNat .undef)) xs.length 0) (.inl ()) fun _ => .inr ()):=fun hl=>by
  refine runW_find (fun i=>i) xs.length _ _ _ (fun i h0 hn=>?_) ?_ xs.length _ 0 (Int.le_refl 0) (by omega) (by omega)
  ·have hn':i<ys.length:=by omega
   simp only [R11_0,F11_0,G11_0,h0,hn,hn',decide_true,Bool.and_self,cond_true]
   rw [wrap_in (a:=i+1) (by omega) (by omega)]
   generalize xs.getD i.toNat .undef=x
   generalize ys.getD i.toNat .undef=y
   congr 1
   all_goals first|rfl|(simp only [ee1];done)|(simp only [ee1];cases decide (fI x 0=fI y 0) <;> rfl)
  ·simp only [R11_0,F11_0,G11_0,Int.lt_irrefl,decide_false,cond_false]
 unfold q11 v11_0 eqL
 by_cases hl:(xs.length:Int)=ys.length
 ·rw [decide_eq_true hl,hr hl]
  cases findF (fun i => !ee1 (xs.getD i.toNat .undef) (ys.getD i.toNat .undef)) xs.length 0 <;> exact ⟨rfl,rfl⟩
 ·rw [decide_eq_false hl]
  exact ⟨rfl,rfl⟩
theorem v52 (a b c:Int):v52_0 a b c=(decide (b≤a) && decide (a≤c)):=by
 unfold v52_0;cases h:decide (a ≥ b) <;> simp_all
theorem run116 (xs:List AV) (h:xs.length≤1048576):runW (R116_0 xs) (((xs.length:Int) - 0).toNat+1) 0=some (ro (findF (fun i => !v52_0 (fI (xs.getD i.toNat .undef) 0) (-999) 999) xs.length 0) (.inl ()) fun _ => .inr ()):=by
 refine runW_find (fun i=>i) xs.length _ _ _ (fun i h0 hn=>?_) ?_ xs.length _ 0 (Int.le_refl 0) (by omega) (by omega)
 ·simp only [R116_0,F116_0,G116_0,h0,hn,decide_true,Bool.and_self,cond_true]
  rw [wrap_in (a:=i+1) (by omega) (by omega)]
 ·simp only [R116_0,F116_0,G116_0,Int.lt_irrefl,decide_false,cond_false]
theorem run162 (xs:List AV) (lo hi:AV) (h:xs.length≤1048576):runW (R162_0 xs lo hi xs.length) (((xs.length:Int) - 0).toNat+1) 0=some (ro (findF (fun i=>v141_0 (fI (xs.getD i.toNat .undef) 0) lo hi) xs.length 0) (.inl ()) fun i => .inr i):=by
 refine runW_find (fun i=>i) xs.length _ _ _ (fun i h0 hn=>?_) ?_ xs.length _ 0 (Int.le_refl 0) (by omega) (by omega)
 ·simp only [R162_0,F162_0,G162_0,h0,hn,decide_true,Bool.and_self,cond_true]
  rw [wrap_in (a:=i+1) (by omega) (by omega)]
 ·simp only [R162_0,F162_0,G162_0,Int.lt_irrefl,decide_false,cond_false]
theorem P116 (xs:List AV) (h:xs.length≤1048576):q116 xs=true∧v116_0 xs=((findF (fun i => !v52_0 (fI (xs.getD i.toNat .undef) 0) (-999) 999) xs.length 0).isNone && decide (xs.length≤64)):=by
 unfold q116 v116_0
 rw [run116 xs h]
 cases findF (fun i => !v52_0 (fI (xs.getD i.toNat .undef) 0) (-999) 999) xs.length 0 with
 | none=>refine ⟨rfl,?_⟩;simp only [ro,sumE,Option.isNone_none,Bool.true_and];congr 1;simp only [eq_iff_iff];omega
 | some j=>exact ⟨rfl,rfl⟩
theorem P106 (xs:List AV) (lo hi:Int) (h:xs.length≤1048576):q106 xs lo hi=true∧v106_0 xs lo hi=(findF (fun i => !v52_0 (fI (xs.getD i.toNat .undef) 0) lo hi) xs.length 0).isNone:=by
 unfold q106 v106_0 v140_0 q140 q162 v162_0
 rw [run162 xs _ _ h]
 have e:(fun i:Int=>v141_0 (fI (xs.getD i.toNat .undef) 0) (AV.int .i64 lo) (AV.int .i64 hi))=fun i => !v52_0 (fI (xs.getD i.toNat .undef) 0) lo hi:=by
  funext i
  unfold v141_0
  rw [v52,show fI (AV.int .i64 lo) 0=lo from rfl,show fI (AV.int .i64 hi) 0=hi from rfl]
  generalize fI (xs.getD i.toNat .undef) 0=z
  by_cases h1:z<lo <;> by_cases h2:z > hi <;> simp [h1,h2] <;> omega
 rw [e]
 cases hf:findF (fun i => !v52_0 (fI (xs.getD i.toNat .undef) 0) lo hi) xs.length 0 with
 | none=>exact ⟨rfl,rfl⟩
 | some j =>
  have:=(findF_some _ _ hf).1
  refine ⟨rfl,?_⟩
  simp [ro,sumE]
  omega
theorem P79 (xs:List AV) (h:xs.length≤1048576):q79 xs=true∧v79_0 xs=v116_0 xs:=by
 rw [(P116 xs h).2]
 unfold q79 v79_0
 rw [(P106 xs _ _ h).1,(P106 xs _ _ h).2]
 have e64:decide ((xs.length:Int)≤64)=decide (xs.length≤64):=by congr 1;simp only [eq_iff_iff];omega
 rw [e64]
 cases decide (xs.length≤64) <;> simp
end Go.Proofs.YtbmfgibbjchijaaGreat

namespace Go.Proofs.YtbmfgibbjchijaaGreat
open Go Go.Proofs.VE
set_option linter.unusedVariables false
set_option linter.unusedSimpArgs false
def noneB (p:Int→Bool) (n:Nat):Bool:=(findF p n 0).isNone
theorem findF_isNone {p:Int→Bool}:∀ (m:Nat) (i:Int),(findF p m i).isNone=true ↔ ∀ j,i≤j→j<i+m→p j=false
 | 0,i=>⟨fun _ j h1 h2=>by omega,fun _=>rfl⟩
 | m+1,i=>by
  simp only [findF]
  cases hp:p i with
  | true =>
   refine ⟨fun h=>(by cases h),fun h=>?_⟩
   have:=h i (by omega) (by omega)
   rw [hp] at this
   cases this
  | false =>
   rw [cond_false,findF_isNone m (i+1)]
   refine ⟨fun h j h1 h2=>?_,fun h j h1 h2=>h j (by omega) (by omega)⟩
   by_cases e:j=i
   ·rw [e,hp]
   ·exact h j (by omega) (by omega)
theorem noneB_iff {p:Int→Bool} {n:Nat}:noneB p n=true ↔ ∀ j:Int,0≤j→j<n→p j=false:=by
 unfold noneB
 rw [findF_isNone]
 exact ⟨fun h j h1 h2=>h j h1 (by omega),fun h j h1 h2=>h j h1 (by omega)⟩
def hasI (xs:List AV) (x:Int):Bool:=(findF (fun i=>decide (fI (xs.getD i.toNat .undef) 0=x)) xs.length 0).isSome
theorem P54 (xs:List AV) (x:Int) (h:xs.length≤1048576):q54 xs x=true∧v54_0 xs x=hasI xs x:=by
 have hr:runW (R54_0 xs x) (((xs.length:Int) - 0).toNat+1) 0=some (ro (findF (fun i=>decide (fI (xs.getD i.toNat .undef) 0=x)) xs.length 0) (.inl ()) fun _ => .inr ()):=by
  refine runW_find (fun i=>i) xs.length _ _ _ (fun i h0 hn=>?_) ?_ xs.length _ 0 (Int.le_refl 0) (by omega) (by omega)
  ·simp only [R54_0,F54_0,G54_0,h0,hn,decide_true,Bool.and_self,cond_true]
   rw [wrap_in (a:=i+1) (by omega) (by omega)]
  ·simp only [R54_0,F54_0,G54_0,Int.lt_irrefl,decide_false,cond_false]
 unfold q54 v54_0 hasI
 rw [hr]
 cases findF (fun i=>decide (fI (xs.getD i.toNat .undef) 0=x)) xs.length 0 <;> exact ⟨rfl,rfl⟩
theorem P83 (xs:List AV) (x:Int) (h:xs.length≤1048576):q83 xs x=true∧v83_0 xs x=ro (findF (fun i=>decide (fI (xs.getD i.toNat .undef) 0=x)) xs.length 0) (-1) id:=by
 have hr:runW (R83_0 xs x xs.length) (((xs.length:Int) - 0).toNat+1) 0=some (ro (findF (fun i=>decide (fI (xs.getD i.toNat .undef) 0=x)) xs.length 0) (.inl ()) fun i => .inr i):=by
  refine runW_find (fun i=>i) xs.length _ _ _ (fun i h0 hn=>?_) ?_ xs.length _ 0 (Int.le_refl 0) (by omega) (by omega)
  ·simp only [R83_0,F83_0,G83_0,h0,hn,decide_true,Bool.and_self,cond_true]
   rw [wrap_in (a:=i+1) (by omega) (by omega)]
   have e:decide (x=fI (xs.getD i.toNat .undef) 0)=decide (fI (xs.getD i.toNat .undef) 0=x):=by congr 1;simp only [eq_iff_iff];omega
   rw [e]
  ·simp only [R83_0,F83_0,G83_0,Int.lt_irrefl,decide_false,cond_false]
 unfold q83 v83_0
 rw [hr]
 cases findF (fun i=>decide (fI (xs.getD i.toNat .undef) 0=x)) xs.length 0 <;> exact ⟨rfl,rfl⟩
theorem P48 (xs:List AV) (x:Int) (h:xs.length≤1048576):q48 xs x=true∧v48_0 xs x=hasI xs x:=by
 unfold q48 v48_0 hasI
 rw [(P83 xs x h).1,(P83 xs x h).2]
 refine ⟨rfl,?_⟩
 cases hf:findF (fun i=>decide (fI (xs.getD i.toNat .undef) 0=x)) xs.length 0 with
 | none=>rfl
 | some j =>
  have:=(findF_some _ _ hf).1
  simp [ro]
  omega
def badR (rs:List AV) (i:Int):Bool:=hasI ((rs.take (Int.toNat i)).drop (Int.toNat 0)) (fI (rs.getD i.toNat .undef) 0)
def badI (vs:List AV) (a b:Int):Bool := !noneB (fun k => !(decide (fI (vs.getD k.toNat .undef) 0<a) == decide (k<b))) vs.length
def badA (vs ps:List AV) (i:Int):Bool :=
 !v52_0 (fI (ps.getD i.toNat .undef) 0) (-1000) 1000 || (!v52_0 (fI (ps.getD i.toNat .undef) 1) 0 vs.length ||
  (decide (i > 0) && (decide (fI (ps.getD i.toNat .undef) 0≤fI (ps.getD (i - 1).toNat .undef) 0) || decide (fI (ps.getD i.toNat .undef) 1<fI (ps.getD (i - 1).toNat .undef) 1))))
def badP (vs ps:List AV) (i:Int):Bool:=badA vs ps i || badI vs (fI (ps.getD i.toNat .undef) 0) (fI (ps.getD i.toNat .undef) 1)
theorem run117i (vs ps:List AV) (t a b:Int) (h:vs.length≤1048576):runW (R117_2 vs ps t a b) (((vs.length:Int) - 0).toNat+1) 0=some (bif badI vs a b then .inr () else .inl ()):=by
 have hr:runW (R117_2 vs ps t a b) (((vs.length:Int) - 0).toNat+1) 0=some (ro (findF (fun k => !(decide (fI (vs.getD k.toNat .undef) 0<a) == decide (k<b))) vs.length 0) (.inl ()) fun _ => .inr ()):=by
  refine runW_find (fun i=>i) vs.length _ _ _ (fun i h0 hn=>?_) ?_ vs.length _ 0 (Int.le_refl 0) (by omega) (by omega)
  ·simp only [R117_2,F117_2,G117_2,h0,hn,decide_true,Bool.and_self,cond_true]
   rw [wrap_in (a:=i+1) (by omega) (by omega)]
  ·simp only [R117_2,F117_2,G117_2,Int.lt_irrefl,decide_false,cond_false]
 rw [hr]
 unfold badI noneB
 cases findF (fun k => !(decide (fI (vs.getD k.toNat .undef) 0<a) == decide (k<b))) vs.length 0 <;> rfl
def L117 (vs ps:List AV) (i:Int):Unit ⊕ (Int × Int) ⊕ (Int × Int):=bif badA vs ps i then .inr (.inl (fI (ps.getD i.toNat .undef) 0,fI (ps.getD i.toNat .undef) 1)) else .inr (.inr (fI (ps.getD i.toNat .undef) 0,fI (ps.getD i.toNat .undef) 1))
theorem step117 (vs ps:List AV) (i:Int) (h:vs.length≤1048576) (h':ps.length≤1048576) (h0:0≤i) (hn:i<ps.length):R117_0 vs ps i=bif badP vs ps i then .stop (L117 vs ps i) else .next (i+1):=by
 simp only [R117_0,F117_0,G117_0,h0,hn,decide_true,Bool.and_self,cond_true,run117i vs ps _ _ _ h,ro]
 rw [wrap_in (a:=i+1) (by omega) (by omega),wrap_in (a:=i - 1) (by omega) (by omega)]
 unfold badP L117 badA
 generalize badI vs (fI (ps.getD i.toNat AV.undef) 0) (fI (ps.getD i.toNat AV.undef) 1)=bi
 generalize v52_0 (fI (ps.getD i.toNat AV.undef) 0) (-1000) 1000=b1
 generalize v52_0 (fI (ps.getD i.toNat AV.undef) 1) 0 vs.length=b2
 by_cases hi:i > 0
 ·have hm:decide (0≤i - 1)=true:=decide_eq_true (by omega)
  have hm':decide (i - 1<(ps.length:Int))=true:=decide_eq_true (by omega)
  rw [decide_eq_true hi,hm,hm']
  generalize decide (fI (ps.getD i.toNat AV.undef) 0≤fI (ps.getD (i - 1).toNat AV.undef) 0)=b3
  generalize decide (fI (ps.getD i.toNat AV.undef) 1<fI (ps.getD (i - 1).toNat AV.undef) 1)=b4
  cases b1 <;> cases b2 <;> cases b3 <;> cases b4 <;> cases bi <;> rfl
 ·rw [decide_eq_false hi]
  cases b1 <;> cases b2 <;> cases bi <;> rfl
theorem P117 (vs ps:List AV) (h:vs.length≤1048576) (h':ps.length≤1048576):q117 vs ps=true∧v117_0 vs ps=noneB (badP vs ps) ps.length:=by
 have hr:runW (R117_0 vs ps) (((ps.length:Int) - 0).toNat+1) 0=some (ro (findF (badP vs ps) ps.length 0) (.inl ()) (L117 vs ps)):=by
  refine runW_find (fun i=>i) ps.length _ _ _ (fun i h0 hn=>step117 vs ps i h h' h0 hn) ?_ ps.length _ 0 (Int.le_refl 0) (by omega) (by omega)
  simp only [R117_0,F117_0,G117_0,Int.lt_irrefl,decide_false,cond_false]
 unfold q117 v117_0 noneB
 rw [hr]
 cases findF (badP vs ps) ps.length 0 with
 | none=>exact ⟨rfl,rfl⟩
 | some j =>
  simp only [ro,L117]
  cases badA vs ps j <;> exact ⟨rfl,rfl⟩
theorem run61i (vs rs ps p1 v1:List AV) (t1 t2 a b:Int) (h:vs.length≤1048576):runW (R61_4 p1 t1 t2 vs vs.length v1 rs ps a b) (((vs.length:Int) - 0).toNat+1) 0=some (bif badI vs a b then .inr () else .inl ()):=by
 have hr:runW (R61_4 p1 t1 t2 vs vs.length v1 rs ps a b) (((vs.length:Int) - 0).toNat+1) 0=some (ro (findF (fun k => !(decide (fI (vs.getD k.toNat .undef) 0<a) == decide (k<b))) vs.length 0) (.inl ()) fun _ => .inr ()):=by
  refine runW_find (fun i=>i) vs.length _ _ _ (fun i h0 hn=>?_) ?_ vs.length _ 0 (Int.le_refl 0) (by omega) (by omega)
  ·simp only [R61_4,F61_4,G61_4,h0,hn,decide_true,Bool.and_self,cond_true]
   rw [wrap_in (a:=i+1) (by omega) (by omega)]
  ·simp only [R61_4,F61_4,G61_4,Int.lt_irrefl,decide_false,cond_false]
 rw [hr]
 unfold badI noneB
 cases findF (fun k => !(decide (fI (vs.getD k.toNat .undef) 0<a) == decide (k<b))) vs.length 0 <;> rfl
theorem dlt (z n:Int):decide (z<n) = !decide (n≤z):=by
 by_cases h:n≤z
 ·rw [decide_eq_true h,decide_eq_false (by omega)];rfl
 ·rw [decide_eq_false h,decide_eq_true (by omega)];rfl
theorem dgt (z n:Int):decide (z > n) = !decide (z≤n):=by
 by_cases h:z≤n
 ·rw [decide_eq_true h,decide_eq_false (by omega)];rfl
 ·rw [decide_eq_false h,decide_eq_true (by omega)];rfl
theorem bound_eq (v:Int):v107_0 v=v52_0 v (-1000) 1000:=by
 unfold v107_0
 rw [v52]
 by_cases h1 : -1000≤v <;> by_cases h2:v≤1000 <;> simp [h1,h2]
theorem step61 (vs rs ps:List AV) (i:Int) (h:vs.length≤1048576) (h':ps.length≤1048576) (h0:0≤i) (hn:i<ps.length):R61_2 ps ps.length vs rs ps i=bif badP vs ps i then .stop (L117 vs ps i) else .next (i+1):=by
 simp only [R61_2,F61_2,G61_2,h0,hn,decide_true,Bool.and_self,cond_true,run61i vs rs ps ps vs _ _ _ _ h,ro,bound_eq]
 rw [wrap_in (a:=i+1) (by omega) (by omega),wrap_in (a:=i - 1) (by omega) (by omega)]
 unfold badP L117 badA
 rw [v52 (fI (ps.getD i.toNat AV.undef) 1) 0 vs.length]
 generalize badI vs (fI (ps.getD i.toNat AV.undef) 0) (fI (ps.getD i.toNat AV.undef) 1)=bi
 generalize v52_0 (fI (ps.getD i.toNat AV.undef) 0) (-1000) 1000=b1
 rw [dlt (fI (ps.getD i.toNat AV.undef) 1) 0,dgt (fI (ps.getD i.toNat AV.undef) 1)]
 generalize decide (0≤fI (ps.getD i.toNat AV.undef) 1)=b2
 generalize decide (fI (ps.getD i.toNat AV.undef) 1≤(vs.length:Int))=b5
 by_cases hi:i > 0
 ·have hm:decide (0≤i - 1)=true:=decide_eq_true (by omega)
  have hm':decide (i - 1<(ps.length:Int))=true:=decide_eq_true (by omega)
  rw [decide_eq_true hi,hm,hm']
  generalize decide (fI (ps.getD i.toNat AV.undef) 0≤fI (ps.getD (i - 1).toNat AV.undef) 0)=b3
  generalize decide (fI (ps.getD i.toNat AV.undef) 1<fI (ps.getD (i - 1).toNat AV.undef) 1)=b4
  cases b1 <;> cases b2 <;> cases b5 <;> cases b3 <;> cases b4 <;> cases bi <;> rfl
 ·rw [decide_eq_false hi]
  cases b1 <;> cases b2 <;> cases b5 <;> cases bi <;> rfl
theorem run61 (vs rs ps:List AV) (h:vs.length≤1048576) (h':ps.length≤1048576):runW (R61_2 ps ps.length vs rs ps) (((ps.length:Int) - 0).toNat+1) 0=some (ro (findF (badP vs ps) ps.length 0) (.inl ()) (L117 vs ps)):=by
 refine runW_find (fun i=>i) ps.length _ _ _ (fun i h0 hn=>step61 vs rs ps i h h' h0 hn) ?_ ps.length _ 0 (Int.le_refl 0) (by omega) (by omega)
 simp only [R61_2,F61_2,G61_2,Int.lt_irrefl,decide_false,cond_false]
theorem run68 (vs rs ps:List AV) (h:rs.length≤1048576):runW (R68_0 vs rs ps) (((rs.length:Int) - 0).toNat+1) 0=some (ro (findF (fun i => !v52_0 (fI (rs.getD i.toNat .undef) 0) 0 999 || badR rs i) rs.length 0) (.inl ()) fun _ => .inr ()):=by
 refine runW_find (fun i=>i) rs.length _ _ _ (fun i h0 hn=>?_) ?_ rs.length _ 0 (Int.le_refl 0) (by omega) (by omega)
 ·have hl:((rs.take (Int.toNat i)).drop (Int.toNat 0)).length≤1048576:=by rw [List.length_drop,List.length_take];omega
  have hle:decide (i≤(rs.length:Int))=true:=decide_eq_true (by omega)
  have h00:decide ((0:Int)≤0)=true:=rfl
  have h00n:decide ((0:Nat)≤0)=true:=rfl
  simp only [R68_0,F68_0,G68_0,h0,hn,hle,h00,h00n,decide_true,Bool.and_self,cond_true,(P54 _ _ hl).1,(P54 _ _ hl).2,badR]
  rw [wrap_in (a:=i+1) (by omega) (by omega)]
  cases v52_0 (fI (rs.getD i.toNat .undef) 0) 0 999 <;> cases hasI ((rs.take (Int.toNat i)).drop (Int.toNat 0)) (fI (rs.getD i.toNat .undef) 0) <;> rfl
 ·simp only [R68_0,F68_0,G68_0,Int.lt_irrefl,decide_false,cond_false]
theorem run61r (vs rs ps:List AV) (h:rs.length≤1048576):runW (R61_0 rs rs.length vs rs ps) (((rs.length:Int) - 0).toNat+1) 0=some (ro (findF (badR rs) rs.length 0) (.inl ()) fun _ => .inr ()):=by
 refine runW_find (fun i=>i) rs.length _ _ _ (fun i h0 hn=>?_) ?_ rs.length _ 0 (Int.le_refl 0) (by omega) (by omega)
 ·have hl:((rs.take (Int.toNat i)).drop (Int.toNat 0)).length≤1048576:=by rw [List.length_drop,List.length_take];omega
  have hle:decide (i≤(rs.length:Int))=true:=decide_eq_true (by omega)
  have h00:decide ((0:Int)≤0)=true:=rfl
  have h00n:decide ((0:Nat)≤0)=true:=rfl
  simp only [R61_0,F61_0,G61_0,h0,hn,hle,h00,h00n,decide_true,Bool.and_self,cond_true,(P48 _ _ hl).1,(P48 _ _ hl).2,badR]
  rw [wrap_in (a:=i+1) (by omega) (by omega)]
 ·simp only [R61_0,F61_0,G61_0,Int.lt_irrefl,decide_false,cond_false]
def isC (vs rs ps:List AV):Bool:=v116_0 vs && (decide ((rs.length:Int)=vs.length) && (noneB (fun i => !v52_0 (fI (rs.getD i.toNat .undef) 0) 0 999) rs.length && (noneB (badR rs) rs.length && noneB (badP vs ps) ps.length)))
theorem noneB_or (p q:Int→Bool) (n:Nat):noneB (fun i=>p i || q i) n=(noneB p n && noneB q n):=by
 rw [Bool.eq_iff_iff,Bool.and_eq_true,noneB_iff,noneB_iff,noneB_iff]
 constructor
 ·intro h
  exact ⟨fun j h1 h2=>by have:=h j h1 h2;simp only [Bool.or_eq_false_iff] at this;exact this.1,fun j h1 h2=>by have:=h j h1 h2;simp only [Bool.or_eq_false_iff] at this;exact this.2⟩
 ·rintro ⟨h,h'⟩ j h1 h2
  rw [h j h1 h2,h' j h1 h2]
  rfl
theorem P68 (vs rs ps:List AV) (h:vs.length≤1048576) (h':rs.length≤1048576) (h'':ps.length≤1048576):q68 vs rs ps=true∧v68_0 vs rs ps=isC vs rs ps:=by
 unfold q68 v68_0 isC
 rw [(P116 vs h).1,run68 vs rs ps h',(P117 vs ps h h'').1,(P117 vs ps h h'').2,← Bool.and_assoc (noneB _ _) (noneB _ _),← noneB_or]
 generalize noneB (badP vs ps) ps.length=bp
 unfold noneB
 cases v116_0 vs <;> cases decide ((rs.length:Int)=vs.length) <;> cases findF (fun i => !v52_0 (fI (rs.getD i.toNat .undef) 0) 0 999 || badR rs i) rs.length 0 <;> exact ⟨rfl,rfl⟩
theorem few (vs ps:List AV) (h:noneB (badP vs ps) ps.length=true):ps.length≤2001:=by
 rw [noneB_iff] at h
 have hb:∀ j:Int,0≤j→j<ps.length→(-1000≤fI (ps.getD j.toNat .undef) 0∧fI (ps.getD j.toNat .undef) 0≤1000)∧(0<j→fI (ps.getD (j - 1).toNat .undef) 0<fI (ps.getD j.toNat .undef) 0):=fun j h0 hn=>by
  have e:=h j h0 hn
  simp only [badP,badA,v52,Bool.or_eq_false_iff,Bool.not_eq_false',Bool.and_eq_true,decide_eq_true_eq] at e
  refine ⟨e.1.1,fun hj=>?_⟩
  have e3:=e.1.2.2
  rw [decide_eq_true hj,Bool.true_and,Bool.or_eq_false_iff] at e3
  have:=e3.1
  simp only [decide_eq_false_iff_not] at this
  omega
 have grow:∀ m:Nat,(m:Int)<ps.length→(m:Int) - 1000≤fI (ps.getD m .undef) 0:=by
  intro m
  induction m with
  | zero=>intro hm;have:=(hb 0 (by omega) hm).1.1;simp at this ⊢;exact this
  | succ m ih =>
   intro hm
   have h1:=ih (by omega)
   have h2:=(hb ((m:Int)+1) (by omega) (by omega)).2 (by omega)
   rw [show ((m:Int)+1 - 1).toNat=m by omega,show ((m:Int)+1).toNat=m+1 by omega] at h2
   omega
 by_cases hl:ps.length≤2001
 ·exact hl
 ·exfalso
  have h1:=grow 2001 (by omega)
  have h2:=(hb 2001 (by omega) (by omega)).1.2
  rw [show ((2001:Int)).toNat=2001 from rfl] at h2
  omega
theorem P61 (vs rs ps:List AV) (h:vs.length≤1048576) (h':rs.length≤1048576) (h'':ps.length≤1048576):q61 vs rs ps=true∧v61_0 vs rs ps=isC vs rs ps:=by
 unfold q61 v61_0 isC
 rw [(P79 vs h).1,(P79 vs h).2,(P106 rs _ _ h').1,(P106 rs _ _ h').2,run61r vs rs ps h',run61 vs rs ps h h'']
 have hf:=few vs ps
 unfold noneB at hf ⊢
 cases v116_0 vs with
 | false=>exact ⟨rfl,rfl⟩
 | true =>
  cases decide ((rs.length:Int)=vs.length) with
  | false=>exact ⟨rfl,rfl⟩
  | true =>
   cases findF (fun i => !v52_0 (fI (rs.getD i.toNat .undef) 0) 0 999) rs.length 0 with
   | some j=>exact ⟨rfl,rfl⟩
   | none =>
    cases hp:findF (badP vs ps) ps.length 0 with
    | none =>
     rw [hp] at hf
     have c:decide ((ps.length:Int) > 2001)=false:=decide_eq_false (by have:=hf rfl;omega)
     rw [c]
     cases findF (badR rs) rs.length 0 <;> exact ⟨rfl,rfl⟩
    | some j =>
     cases decide ((ps.length:Int) > 2001) with
     | true=>cases findF (badR rs) rs.length 0 <;> exact ⟨rfl,rfl⟩
     | false =>
      cases findF (badR rs) rs.length 0 with
      | some k=>exact ⟨rfl,rfl⟩
      | none =>
       simp only [ro,sumE,L117]
       cases badA vs ps j <;> exact ⟨rfl,rfl⟩
end Go.Proofs.YtbmfgibbjchijaaGreat
