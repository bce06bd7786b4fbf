import Derived.Test.YtmcnplggcedihaaGreatAT2
import Derived.Test.YtmcnplggcedihaaGreatProg
import Derived.KernelRfl
namespace Go.Proofs.YtmcnplggcedihaaGreat
open Go Go.Proofs.VE
set_option linter.unusedVariables false
set_option linter.unusedSimpArgs false
set_option maxRecDepth 100000
set_option maxHeartbeats 4000000
def F90_0 (t1 t7:Int) (t14:List AV) (t15 t6 t16:Int):Out ((Int × Int)) (Int ⊕ (Int × Int × Int × Int)):=(bif decide (t16<t15) then (bif (decide (0≤t16) && decide (t16<(t14.length:Int))) then (bif decide (fI (t14.getD t16.toNat .undef) 0≤t1) then (bif decide (fI (t14.getD t16.toNat .undef) 0 ≥ t1) then .stop (.inr (fI (t14.getD t16.toNat .undef) 1,fI (t14.getD t16.toNat .undef) 1,fI (t14.getD t16.toNat .undef) 0,fI (t14.getD t16.toNat .undef) 1))
 else .next (fI (t14.getD t16.toNat .undef) 1,IntKind.i64.wrap (t16+1)))
 else (bif decide (fI (t14.getD t16.toNat .undef) 0 ≥ t1) then .stop (.inr (t6,fI (t14.getD t16.toNat .undef) 1,fI (t14.getD t16.toNat .undef) 0,fI (t14.getD t16.toNat .undef) 1))
 else .next (t6,IntKind.i64.wrap (t16+1))))
 else .fail)
 else .stop (.inl t6))
def R90_0 (t1 t7:Int) (t14:List AV) (t15:Int):((Int × Int))→Out ((Int × Int)) (Int ⊕ (Int × Int × Int × Int)):=fun s:Int × Int=>F90_0 t1 t7 t14 t15 s.1 s.2
def E90_0 (t1 t7:Int) (t14:List AV) (t15:Int):((Int × Int))→St:=fun s:Int × Int=>⟨[(1,Ai t1),(6,Ai s.1),(7,Ai t7),(14,AV.sl [.int .i64,.int .i64] t14),(15,Ai t15),(16,Ai s.2)],[]⟩
def K90_0 (t7:Int) (k:Kont):(Int ⊕ (Int × Int × Int × Int))→Option AV:=sumE (fun p:Int=>k (.exit 0) ⟨[(6,Ai p),(7,Ai t7)],[]⟩) (fun p:Int × Int × Int × Int=>k .ret ⟨[(4,Ai p.1),(5,Ai p.2.1)],[([1,9],⟨true,[],[AV.agg [Ai p.2.2.1,Ai p.2.2.2]]⟩)]⟩)
def l90_0:LModel:=fun _ _ st k=>match st with
 | ⟨[(1,.int .i64 t1),(6,.int .i64 t6),(7,.int .i64 t7),(14,.sl g0 t14),(15,.int .i64 t15),(16,.int .i64 t16)],[]⟩=>bif ctsEq g0 ([.int .i64,.int .i64]) then ro (runW (R90_0 t1 t7 t14 t15) ((t15 - t16:Int).toNat+1) (t6,t16)) none (K90_0 t7 k) else none
 | _=>none
noncomputable def c90:Cfg:=cfg Tryz.prog [(90,0,[1,6,7,14,15,16]),(90,999,[4,5]),(90,1000,[6,7]),(90,1001,[1,6,7,14,15,16])] [] [] [] [(90,0,l90_0)]
theorem s90_0 (ce:CallE) (t1 t6 t7:Int) (t14:List AV) (t15 t16:Int) (next:St→Option AV) (k:Kont):stepA (codeA c90 ce [] 90 0 (sub [1,1,0,1,0,0] (body Tryz.f90))) (normA [] [1,6,7,14,15,16]) next ⟨[(1,Ai t1),(6,Ai t6),(7,Ai t7),(14,AV.sl [.int .i64,.int .i64] t14),(15,Ai t15),(16,Ai t16)],[]⟩ k=(bif decide (t16<t15) then (bif (decide (0≤t16) && decide (t16<(t14.length:Int))) then (bif decide (fI (t14.getD t16.toNat .undef) 0≤t1) then (bif decide (fI (t14.getD t16.toNat .undef) 0 ≥ t1) then k .ret ⟨[(4,Ai (fI (t14.getD t16.toNat .undef) 1)),(5,Ai (fI (t14.getD t16.toNat .undef) 1))],[([1,9],⟨true,[],[AV.agg [Ai (fI (t14.getD t16.toNat .undef) 0),Ai (fI (t14.getD t16.toNat .undef) 1)]]⟩)]⟩
 else next ⟨[(1,Ai t1),(6,Ai (fI (t14.getD t16.toNat .undef) 1)),(7,Ai t7),(14,AV.sl [.int .i64,.int .i64] t14),(15,Ai t15),(16,Ai (IntKind.i64.wrap (t16+1)))],[]⟩)
 else (bif decide (fI (t14.getD t16.toNat .undef) 0 ≥ t1) then k .ret ⟨[(4,Ai t6),(5,Ai (fI (t14.getD t16.toNat .undef) 1))],[([1,9],⟨true,[],[AV.agg [Ai (fI (t14.getD t16.toNat .undef) 0),Ai (fI (t14.getD t16.toNat .undef) 1)]]⟩)]⟩
 else next ⟨[(1,Ai t1),(6,Ai t6),(7,Ai t7),(14,AV.sl [.int .i64,.int .i64] t14),(15,Ai t15),(16,Ai (IntKind.i64.wrap (t16+1)))],[]⟩))
 else none)
 else k (.exit 0) ⟨[(6,Ai t6),(7,Ai t7)],[]⟩):=by kernel_rfl
theorem st90_0 (t1 t7:Int) (t14:List AV) (t15:Int) (ce:CallE) (k:Kont) (s:(Int × Int)) (next:St→Option AV):stepA (codeA c90 ce [] 90 0 (sub [1,1,0,1,0,0] (body Tryz.f90))) (normA [] [1,6,7,14,15,16]) next ((E90_0 t1 t7 t14 t15) s) k=(R90_0 t1 t7 t14 t15 s).el none (fun s=>next ((E90_0 t1 t7 t14 t15) s)) (K90_0 t7 k):=(s90_0 ce t1 s.1 t7 t14 t15 s.2 next k).trans (by unfold R90_0;unfold F90_0;simp only [el_cond,el_ro,el_sum,el_fail,el_next,el_stop] <;> rfl)
theorem ok90_0 {ce:CallE}:LoopOK c90 ce [] 90 0 (sub [1,1,0,1,0,0] (body Tryz.f90)):=by
 intro m hm st k r h
 obtain rfl:l90_0=m:=Option.some.inj hm
 unfold l90_0 at h
 split at h
 ·rename_i t1 t6 t7 g0 t14 t15 t16
  obtain ⟨hg,h⟩:=bif_some h
  have q0:=hg
  obtain rfl:=ctsEq_eq _ _ q0
  refine ⟨((t15 - t16:Int).toNat+1),?_⟩
  rw [← h]
  exact loop_run (E90_0 t1 t7 t14 t15) (K90_0 t7 k) (st90_0 t1 t7 t14 t15 ce k) _ (t6,t16)
 ·cases h
def q90 (xa xb xc:List AV) (a1:Int):Bool:=(ro (runW (R90_0 a1 (xa.length:Int) xc (xc.length:Int)) (((xc.length:Int) - 0:Int).toNat+1) (0,0)) false (sumE (fun p44=>true) (fun p45=>true)))
def v90_0 (xa xb xc:List AV) (a1:Int):Int:=(ro (runW (R90_0 a1 (xa.length:Int) xc (xc.length:Int)) (((xc.length:Int) - 0:Int).toNat+1) (0,0)) 0 (sumE (fun p44=>p44) (fun p45=>p45.1)))
def v90_1 (xa xb xc:List AV) (a1:Int):Int:=(ro (runW (R90_0 a1 (xa.length:Int) xc (xc.length:Int)) (((xc.length:Int) - 0:Int).toNat+1) (0,0)) 0 (sumE (fun p44=>(xa.length:Int)) (fun p45=>p45.2.1)))
theorem e90 (xa xb xc:List AV) (a1:Int):funA c90 0 90 [AV.agg [AV.sl [.int .i64] xa,AV.sl [.int .i64] xb,AV.sl [.int .i64,.int .i64] xc],Ai a1]=(ro (runW (R90_0 a1 (xa.length:Int) xc (xc.length:Int)) (((xc.length:Int) - 0:Int).toNat+1) (0,0)) none (sumE (fun p44=>some (AV.tup [Ai p44,Ai (xa.length:Int)])) (fun p45=>some (AV.tup [Ai p45.1,Ai p45.2.1])))):=by kernel_rfl
def m90:TModel
 | [.agg [.sl g0 xa,.sl g1 xb,.sl g2 xc],.int .i64 a1]=>bif ctsEq g0 ([.int .i64]) && ctsEq g1 ([.int .i64]) && ctsEq g2 ([.int .i64,.int .i64]) then some (q90 xa xb xc a1,AV.tup [AV.int .i64 (v90_0 xa xb xc a1),AV.int .i64 (v90_1 xa xb xc a1)]) else none
 | _=>none
theorem k90:Known Tryz.prog 90:=⟨Tryz.f90,Tryz.func90,by kernel_rfl,by kernel_rfl⟩
theorem meets90:Meets Tryz.prog 90 m90:=by
 refine meet (f:=Tryz.f90) (l:=[(0,sub [1,1,0,1,0,0] (body Tryz.f90))]) (hs:=[(90,0,[1,6,7,14,15,16]),(90,999,[4,5]),(90,1000,[6,7]),(90,1001,[1,6,7,14,15,16])]) (ts:=[]) (ws:=[]) (is:=[]) (ls:=[(90,0,l90_0)]) (lvl:=0) mixed k90 Tryz.func90 (by kernel_rfl) (loops_cons ok90_0 noLoop) allT_nil allM_nil noI fun w xs us r hl hv h=>?_
 unfold m90 at h
 split at h
 ·rename_i g0 xa g1 xb g2 xc a1
  obtain ⟨hg,h⟩:=bif_pair h
  simp only [Bool.and_eq_true] at hg
  obtain ⟨⟨q0,q1⟩,q2⟩:=hg
  obtain rfl:=ctsEq_eq _ _ q0
  obtain rfl:=ctsEq_eq _ _ q1
  obtain rfl:=ctsEq_eq _ _ q2
  obtain ⟨h1,rfl⟩:=pair_inj h
  exact (e90 xa xb xc a1).trans ((brO (fun o:Option (Int ⊕ (Int × Int × Int × Int))=>some (AV.tup [Ai (ro o 0 (sumE (fun p44=>p44) (fun p45=>p45.1))),Ai (ro o 0 (sumE (fun p44=>(xa.length:Int)) (fun p45=>p45.2.1)))])) (brS (fun o:Int ⊕ (Int × Int × Int × Int)=>some (AV.tup [Ai ((sumE (fun p44=>p44) (fun p45=>p45.1)) o),Ai ((sumE (fun p44=>(xa.length:Int)) (fun p45=>p45.2.1)) o)])) (fun p44=>(fun _=>rfl)) (fun p45=>(fun _=>rfl)))) h1)
 ·cases h
def F82_0 (t0:List AV) (t1 t7 t8:Int):Out (Int) (Unit ⊕ Int):=(bif decide (t8<t7) then (bif (decide (0≤t8) && decide (t8<(t0.length:Int))) then (bif decide (t1=fI (t0.getD t8.toNat .undef) 0) then .stop (.inr t8)
 else .next (IntKind.i64.wrap (t8+1)))
 else .fail)
 else .stop (.inl ()))
def R82_0 (t0:List AV) (t1 t7:Int):(Int)→Out (Int) (Unit ⊕ Int):=fun s:Int=>F82_0 t0 t1 t7 s
def E82_0 (t0:List AV) (t1 t7:Int):(Int)→St:=fun s:Int=>⟨[(0,AV.sl [.int .i64] t0),(1,Ai t1),(7,Ai t7),(8,Ai s)],[]⟩
def K82_0 (k:Kont):(Unit ⊕ Int)→Option AV:=sumE (fun _:Unit=>k (.exit 0) ⟨[],[]⟩) (fun p:Int=>k .ret ⟨[(4,Ai p)],[]⟩)
def l82_0:LModel:=fun _ _ st k=>match st with
 | ⟨[(0,.sl g0 t0),(1,.int .i64 t1),(7,.int .i64 t7),(8,.int .i64 t8)],[]⟩=>bif ctsEq g0 ([.int .i64]) then ro (runW (R82_0 t0 t1 t7) ((t7 - t8:Int).toNat+1) t8) none (K82_0 k) else none
 | _=>none
noncomputable def c82:Cfg:=cfg Tryz.prog [(82,0,[0,1,7,8]),(82,999,[4]),(82,1000,[]),(82,1001,[0,1,7,8])] [] [] [] [(82,0,l82_0)]
theorem s82_0 (ce:CallE) (t0:List AV) (t1 t7 t8:Int) (next:St→Option AV) (k:Kont):stepA (codeA c82 ce [] 82 0 (sub [1,0,1,0,0] (body Tryz.f82))) (normA [] [0,1,7,8]) next ⟨[(0,AV.sl [.int .i64] t0),(1,Ai t1),(7,Ai t7),(8,Ai t8)],[]⟩ k=(bif decide (t8<t7) then (bif (decide (0≤t8) && decide (t8<(t0.length:Int))) then (bif decide (t1=fI (t0.getD t8.toNat .undef) 0) then k .ret ⟨[(4,Ai t8)],[]⟩
 else next ⟨[(0,AV.sl [.int .i64] t0),(1,Ai t1),(7,Ai t7),(8,Ai (IntKind.i64.wrap (t8+1)))],[]⟩)
 else none)
 else k (.exit 0) ⟨[],[]⟩):=by kernel_rfl
theorem st82_0 (t0:List AV) (t1 t7:Int) (ce:CallE) (k:Kont) (s:Int) (next:St→Option AV):stepA (codeA c82 ce [] 82 0 (sub [1,0,1,0,0] (body Tryz.f82))) (normA [] [0,1,7,8]) next ((E82_0 t0 t1 t7) s) k=(R82_0 t0 t1 t7 s).el none (fun s=>next ((E82_0 t0 t1 t7) s)) (K82_0 k):=(s82_0 ce t0 t1 t7 s next k).trans (by unfold R82_0;unfold F82_0;simp only [el_cond,el_ro,el_sum,el_fail,el_next,el_stop] <;> rfl)
theorem ok82_0 {ce:CallE}:LoopOK c82 ce [] 82 0 (sub [1,0,1,0,0] (body Tryz.f82)):=by
 intro m hm st k r h
 obtain rfl:l82_0=m:=Option.some.inj hm
 unfold l82_0 at h
 split at h
 ·rename_i g0 t0 t1 t7 t8
  obtain ⟨hg,h⟩:=bif_some h
  have q0:=hg
  obtain rfl:=ctsEq_eq _ _ q0
  refine ⟨((t7 - t8:Int).toNat+1),?_⟩
  rw [← h]
  exact loop_run (E82_0 t0 t1 t7) (K82_0 k) (st82_0 t0 t1 t7 ce k) _ t8
 ·cases h
def q82 (a0:List AV) (a1:Int):Bool:=(ro (runW (R82_0 a0 a1 (a0.length:Int)) (((a0.length:Int) - 0:Int).toNat+1) 0) false (sumE (fun _=>true) (fun p47=>true)))
def v82_0 (a0:List AV) (a1:Int):Int:=(ro (runW (R82_0 a0 a1 (a0.length:Int)) (((a0.length:Int) - 0:Int).toNat+1) 0) 0 (sumE (fun _=>(-1)) (fun p47=>p47)))
theorem e82 (a0:List AV) (a1:Int):funA c82 0 82 [AV.sl [.int .i64] a0,Ai a1]=(ro (runW (R82_0 a0 a1 (a0.length:Int)) (((a0.length:Int) - 0:Int).toNat+1) 0) none (sumE (fun _=>some (Ai (-1))) (fun p47=>some (Ai p47)))):=by kernel_rfl
def m82:TModel
 | [.sl g0 a0,.int .i64 a1]=>bif ctsEq g0 ([.int .i64]) then some (q82 a0 a1,AV.int .i64 (v82_0 a0 a1)) else none
 | _=>none
theorem k82:Known Tryz.prog 82:=⟨Tryz.f82,Tryz.func82,by kernel_rfl,by kernel_rfl⟩
theorem meets82:Meets Tryz.prog 82 m82:=by
 refine meet (f:=Tryz.f82) (l:=[(0,sub [1,0,1,0,0] (body Tryz.f82))]) (hs:=[(82,0,[0,1,7,8]),(82,999,[4]),(82,1000,[]),(82,1001,[0,1,7,8])]) (ts:=[]) (ws:=[]) (is:=[]) (ls:=[(82,0,l82_0)]) (lvl:=0) mixed k82 Tryz.func82 (by kernel_rfl) (loops_cons ok82_0 noLoop) allT_nil allM_nil noI fun w xs us r hl hv h=>?_
 unfold m82 at h
 split at h
 ·rename_i g0 a0 a1
  obtain ⟨hg,h⟩:=bif_pair h
  have q0:=hg
  obtain rfl:=ctsEq_eq _ _ q0
  obtain ⟨h1,rfl⟩:=pair_inj h
  exact (e82 a0 a1).trans ((brO (fun o:Option (Unit ⊕ Int)=>some (Ai (ro o 0 (sumE (fun _=>(-1)) (fun p47=>p47))))) (brS (fun o:Unit ⊕ Int=>some (Ai ((sumE (fun _=>(-1)) (fun p47=>p47)) o))) (fun _=>(fun _=>rfl)) (fun p47=>(fun _=>rfl)))) h1)
 ·cases h
noncomputable def c69:Cfg:=cfg Tryz.prog [(69,999,[4])] [(82,m82)] [] [] []
def q69 (a0:List AV) (a1:Int):Bool:=q82 a0 a1
def v69_0 (a0:List AV) (a1:Int):Bool:=decide ((v82_0 a0 a1) ≥ 0)
theorem e69 (a0:List AV) (a1:Int):funA c69 0 69 [AV.sl [.int .i64] a0,Ai a1]=(bif q82 a0 a1 then some (AV.bool (decide ((v82_0 a0 a1) ≥ 0)))
 else none):=by kernel_rfl
def m69:TModel
 | [.sl g0 a0,.int .i64 a1]=>bif ctsEq g0 ([.int .i64]) then some (q69 a0 a1,AV.bool (v69_0 a0 a1)) else none
 | _=>none
theorem k69:Known Tryz.prog 69:=⟨Tryz.f69,Tryz.func69,by kernel_rfl,by kernel_rfl⟩
theorem meets69:Meets Tryz.prog 69 m69:=by
 refine meet (f:=Tryz.f69) (l:=[]) (hs:=[(69,999,[4])]) (ts:=[(82,m82)]) (ws:=[]) (is:=[]) (ls:=[]) (lvl:=0) mixed k69 Tryz.func69 (by kernel_rfl) noLoop (allT_cons meets82 allT_nil) allM_nil noI fun w xs us r hl hv h=>?_
 unfold m69 at h
 split at h
 ·rename_i g0 a0 a1
  obtain ⟨hg,h⟩:=bif_pair h
  have q0:=hg
  obtain rfl:=ctsEq_eq _ _ q0
  obtain ⟨h1,rfl⟩:=pair_inj h
  exact (e69 a0 a1).trans ((brL1 (fun _=>rfl)) h1)
 ·cases h
noncomputable def c70:Cfg:=cfg Tryz.prog [(70,999,[2])] [] [] [] []
def q70 (a0:Int):Bool:=true
def v70_0 (a0:Int):Bool:=(bif decide (a0 ≥ (-1000)) then decide (a0≤1000) else false)
theorem e70 (a0:Int):funA c70 0 70 [Ai a0]=(bif decide (a0 ≥ (-1000)) then some (AV.bool (decide (a0≤1000)))
 else some (AV.bool false)):=by kernel_rfl
def m70:TModel
 | [.int .i64 a0]=>some (true,AV.bool (v70_0 a0))
 | _=>none
theorem k70:Known Tryz.prog 70:=⟨Tryz.f70,Tryz.func70,by kernel_rfl,by kernel_rfl⟩
theorem meets70:Meets Tryz.prog 70 m70:=by
 refine meet (f:=Tryz.f70) (l:=[]) (hs:=[(70,999,[2])]) (ts:=[]) (ws:=[]) (is:=[]) (ls:=[]) (lvl:=0) mixed k70 Tryz.func70 (by kernel_rfl) noLoop allT_nil allM_nil noI fun w xs us r hl hv h=>?_
 unfold m70 at h
 split at h
 ·rename_i a0
  obtain ⟨h1,rfl⟩:=pair_inj h
  exact (e70 a0).trans (of_tt (brT (fun b=>some (AV.bool (bif b then decide (a0≤1000) else false))) (fun _=>rfl) (fun _=>rfl)))
 ·cases h
def F54_4 (t50:List AV) (t51 t52:Int) (t103:List AV) (t104:Int) (h0_0 h0_1 h0_2:List AV) (h1_0 h1_1 t105:Int):Out (Int) (Unit ⊕ Unit):=(bif decide (t105<t104) then (bif (decide (0≤t105) && decide (t105<(t103.length:Int))) then (bif !(decide (fI (t103.getD t105.toNat .undef) 0<h1_0) == decide (t105<h1_1)) then .stop (.inr ())
 else .next (IntKind.i64.wrap (t105+1)))
 else .fail)
 else .stop (.inl ()))
def R54_4 (t50:List AV) (t51 t52:Int) (t103:List AV) (t104:Int) (h0_0 h0_1 h0_2:List AV) (h1_0 h1_1:Int):(Int)→Out (Int) (Unit ⊕ Unit):=fun s:Int=>F54_4 t50 t51 t52 t103 t104 h0_0 h0_1 h0_2 h1_0 h1_1 s
def E54_4 (t50:List AV) (t51 t52:Int) (t103:List AV) (t104:Int) (h0_0 h0_1 h0_2:List AV) (h1_0 h1_1:Int):(Int)→St:=fun s:Int=>⟨[(1,AV.ptr [0,1] 0 0),(6,AV.ptr [0,6] 0 0),(50,AV.sl [.int .i64,.int .i64] t50),(51,Ai t51),(52,Ai t52),(103,AV.sl [.int .i64] t103),(104,Ai t104),(105,Ai s)],[([0,1],⟨true,[],[AV.agg [AV.sl [.int .i64] h0_0,AV.sl [.int .i64] h0_1,AV.sl [.int .i64,.int .i64] h0_2]]⟩),([0,6],⟨true,[],[AV.agg [Ai h1_0,Ai h1_1]]⟩)]⟩
def K54_4 (t50:List AV) (t51 t52:Int) (h0_0 h0_1 h0_2:List AV) (h1_0 h1_1:Int) (k:Kont):(Unit ⊕ Unit)→Option AV:=sumE (fun _:Unit=>k (.exit 4) ⟨[(1,AV.ptr [0,1] 0 0),(50,AV.sl [.int .i64,.int .i64] t50),(51,Ai t51),(52,Ai t52)],[([0,1],⟨true,[],[AV.agg [AV.sl [.int .i64] h0_0,AV.sl [.int .i64] h0_1,AV.sl [.int .i64,.int .i64] h0_2]]⟩),([0,6],⟨true,[],[AV.agg [Ai h1_0,Ai h1_1]]⟩)]⟩) (fun _:Unit=>k .ret ⟨[(2,AV.bool false)],[([0,1],⟨true,[],[AV.agg [AV.sl [.int .i64] h0_0,AV.sl [.int .i64] h0_1,AV.sl [.int .i64,.int .i64] h0_2]]⟩),([0,6],⟨true,[],[AV.agg [Ai h1_0,Ai h1_1]]⟩)]⟩)
def l54_4:LModel:=fun _ _ st k=>match st with
 | ⟨[(1,.ptr g0 g1 g2),(6,.ptr g3 g4 g5),(50,.sl g6 t50),(51,.int .i64 t51),(52,.int .i64 t52),(103,.sl g7 t103),(104,.int .i64 t104),(105,.int .i64 t105)],[(g8,⟨true,[],[.agg [.sl g9 h0_0,.sl g10 h0_1,.sl g11 h0_2]]⟩),(g12,⟨true,[],[.agg [.int .i64 h1_0,.int .i64 h1_1]]⟩)]⟩=>bif nmEq g0 ([0,1]) && Nat.beq g1 0 && Nat.beq g2 0 && nmEq g3 ([0,6]) && Nat.beq g4 0 && Nat.beq g5 0 && ctsEq g6 ([.int .i64,.int .i64]) && ctsEq g7 ([.int .i64]) && nmEq g8 ([0,1]) && ctsEq g9 ([.int .i64]) && ctsEq g10 ([.int .i64]) && ctsEq g11 ([.int .i64,.int .i64]) && nmEq g12 ([0,6]) then ro (runW (R54_4 t50 t51 t52 t103 t104 h0_0 h0_1 h0_2 h1_0 h1_1) ((t104 - t105:Int).toNat+1) t105) none (K54_4 t50 t51 t52 h0_0 h0_1 h0_2 h1_0 h1_1 k) else none
 | _=>none
def F54_2 (t50:List AV) (t51:Int) (h0_0 h0_1 h0_2:List AV) (t52:Int):Out (Int) (Unit ⊕ (Int × Int) ⊕ (Int × Int)):=(bif decide (t52<t51) then (bif (decide (0≤t52) && decide (t52<(t50.length:Int))) then (bif !(v70_0 (fI (t50.getD t52.toNat .undef) 0)) then .stop (.inr (.inl (fI (t50.getD t52.toNat .undef) 0,fI (t50.getD t52.toNat .undef) 1)))
 else (bif decide (fI (t50.getD t52.toNat .undef) 1<0) then .stop (.inr (.inl (fI (t50.getD t52.toNat .undef) 0,fI (t50.getD t52.toNat .undef) 1)))
 else (bif decide (fI (t50.getD t52.toNat .undef) 1 > (h0_0.length:Int)) then .stop (.inr (.inl (fI (t50.getD t52.toNat .undef) 0,fI (t50.getD t52.toNat .undef) 1)))
 else (bif decide (t52 > 0) then (bif (decide (0≤IntKind.i64.wrap (t52 - 1)) && decide (IntKind.i64.wrap (t52 - 1)<(h0_2.length:Int))) then (bif decide (fI (t50.getD t52.toNat .undef) 0≤fI (h0_2.getD (IntKind.i64.wrap (t52 - 1)).toNat .undef) 0) then .stop (.inr (.inl (fI (t50.getD t52.toNat .undef) 0,fI (t50.getD t52.toNat .undef) 1)))
 else (bif (decide (0≤IntKind.i64.wrap (t52 - 1)) && decide (IntKind.i64.wrap (t52 - 1)<(h0_2.length:Int))) then (bif decide (fI (t50.getD t52.toNat .undef) 1<fI (h0_2.getD (IntKind.i64.wrap (t52 - 1)).toNat .undef) 1) then .stop (.inr (.inl (fI (t50.getD t52.toNat .undef) 0,fI (t50.getD t52.toNat .undef) 1)))
 else (ro (runW (R54_4 t50 t51 t52 h0_0 (h0_0.length:Int) h0_0 h0_1 h0_2 (fI (t50.getD t52.toNat .undef) 0) (fI (t50.getD t52.toNat .undef) 1)) (((h0_0.length:Int) - 0:Int).toNat+1) 0) .fail (sumE (fun _ => .next (IntKind.i64.wrap (t52+1))) (fun _ => .stop (.inr (.inr (fI (t50.getD t52.toNat .undef) 0,fI (t50.getD t52.toNat .undef) 1)))))))
 else .fail))
 else .fail)
 else (ro (runW (R54_4 t50 t51 t52 h0_0 (h0_0.length:Int) h0_0 h0_1 h0_2 (fI (t50.getD t52.toNat .undef) 0) (fI (t50.getD t52.toNat .undef) 1)) (((h0_0.length:Int) - 0:Int).toNat+1) 0) .fail (sumE (fun _ => .next (IntKind.i64.wrap (t52+1))) (fun _ => .stop (.inr (.inr (fI (t50.getD t52.toNat .undef) 0,fI (t50.getD t52.toNat .undef) 1))))))))))
 else .fail)
 else .stop (.inl ()))
def R54_2 (t50:List AV) (t51:Int) (h0_0 h0_1 h0_2:List AV):(Int)→Out (Int) (Unit ⊕ (Int × Int) ⊕ (Int × Int)):=fun s:Int=>F54_2 t50 t51 h0_0 h0_1 h0_2 s
def E54_2 (t50:List AV) (t51:Int) (h0_0 h0_1 h0_2:List AV):(Int)→St:=fun s:Int=>⟨[(1,AV.ptr [0,1] 0 0),(50,AV.sl [.int .i64,.int .i64] t50),(51,Ai t51),(52,Ai s)],[([0,1],⟨true,[],[AV.agg [AV.sl [.int .i64] h0_0,AV.sl [.int .i64] h0_1,AV.sl [.int .i64,.int .i64] h0_2]]⟩)]⟩
def K54_2 (h0_0 h0_1 h0_2:List AV) (k:Kont):(Unit ⊕ (Int × Int) ⊕ (Int × Int))→Option AV:=sumE (fun _:Unit=>k (.exit 2) ⟨[],[([0,1],⟨true,[],[AV.agg [AV.sl [.int .i64] h0_0,AV.sl [.int .i64] h0_1,AV.sl [.int .i64,.int .i64] h0_2]]⟩)]⟩) (sumE (fun p:Int × Int=>k .ret ⟨[(2,AV.bool false)],[([0,1],⟨true,[],[AV.agg [AV.sl [.int .i64] h0_0,AV.sl [.int .i64] h0_1,AV.sl [.int .i64,.int .i64] h0_2]]⟩),([1,6],⟨true,[],[AV.agg [Ai p.1,Ai p.2]]⟩)]⟩) (fun p:Int × Int=>k .ret ⟨[(2,AV.bool false)],[([0,1],⟨true,[],[AV.agg [AV.sl [.int .i64] h0_0,AV.sl [.int .i64] h0_1,AV.sl [.int .i64,.int .i64] h0_2]]⟩),([0,6],⟨true,[],[AV.agg [Ai p.1,Ai p.2]]⟩)]⟩))
def l54_2:LModel:=fun _ _ st k=>match st with
 | ⟨[(1,.ptr g0 g1 g2),(50,.sl g3 t50),(51,.int .i64 t51),(52,.int .i64 t52)],[(g4,⟨true,[],[.agg [.sl g5 h0_0,.sl g6 h0_1,.sl g7 h0_2]]⟩)]⟩=>bif nmEq g0 ([0,1]) && Nat.beq g1 0 && Nat.beq g2 0 && ctsEq g3 ([.int .i64,.int .i64]) && nmEq g4 ([0,1]) && ctsEq g5 ([.int .i64]) && ctsEq g6 ([.int .i64]) && ctsEq g7 ([.int .i64,.int .i64]) then ro (runW (R54_2 t50 t51 h0_0 h0_1 h0_2) ((t51 - t52:Int).toNat+1) t52) none (K54_2 h0_0 h0_1 h0_2 k) else none
 | _=>none
def F54_0 (t35:List AV) (t36:Int) (h0_0 h0_1 h0_2:List AV) (t37:Int):Out (Int) (Unit ⊕ Unit):=(bif decide (t37<t36) then (bif (decide (0≤t37) && decide (t37<(t35.length:Int))) then (bif (decide (0≤0) && decide (0≤t37) && decide (t37≤(h0_1.length:Int))) then (bif q69 ((h0_1.take (Int.toNat t37)).drop (Int.toNat 0)) (fI (t35.getD t37.toNat .undef) 0) then (bif (v69_0 ((h0_1.take (Int.toNat t37)).drop (Int.toNat 0)) (fI (t35.getD t37.toNat .undef) 0)) then .stop (.inr ())
 else .next (IntKind.i64.wrap (t37+1)))
 else .fail)
 else .fail)
 else .fail)
 else .stop (.inl ()))
def R54_0 (t35:List AV) (t36:Int) (h0_0 h0_1 h0_2:List AV):(Int)→Out (Int) (Unit ⊕ Unit):=fun s:Int=>F54_0 t35 t36 h0_0 h0_1 h0_2 s
def E54_0 (t35:List AV) (t36:Int) (h0_0 h0_1 h0_2:List AV):(Int)→St:=fun s:Int=>⟨[(1,AV.ptr [0,1] 0 0),(35,AV.sl [.int .i64] t35),(36,Ai t36),(37,Ai s)],[([0,1],⟨true,[],[AV.agg [AV.sl [.int .i64] h0_0,AV.sl [.int .i64] h0_1,AV.sl [.int .i64,.int .i64] h0_2]]⟩)]⟩
def K54_0 (h0_0 h0_1 h0_2:List AV) (k:Kont):(Unit ⊕ Unit)→Option AV:=sumE (fun _:Unit=>k (.exit 0) ⟨[(1,AV.ptr [0,1] 0 0)],[([0,1],⟨true,[],[AV.agg [AV.sl [.int .i64] h0_0,AV.sl [.int .i64] h0_1,AV.sl [.int .i64,.int .i64] h0_2]]⟩)]⟩) (fun _:Unit=>k .ret ⟨[(2,AV.bool false)],[([0,1],⟨true,[],[AV.agg [AV.sl [.int .i64] h0_0,AV.sl [.int .i64] h0_1,AV.sl [.int .i64,.int .i64] h0_2]]⟩)]⟩)
def l54_0:LModel:=fun _ _ st k=>match st with
 | ⟨[(1,.ptr g0 g1 g2),(35,.sl g3 t35),(36,.int .i64 t36),(37,.int .i64 t37)],[(g4,⟨true,[],[.agg [.sl g5 h0_0,.sl g6 h0_1,.sl g7 h0_2]]⟩)]⟩=>bif nmEq g0 ([0,1]) && Nat.beq g1 0 && Nat.beq g2 0 && ctsEq g3 ([.int .i64]) && nmEq g4 ([0,1]) && ctsEq g5 ([.int .i64]) && ctsEq g6 ([.int .i64]) && ctsEq g7 ([.int .i64,.int .i64]) then ro (runW (R54_0 t35 t36 h0_0 h0_1 h0_2) ((t36 - t37:Int).toNat+1) t37) none (K54_0 h0_0 h0_1 h0_2 k) else none
 | _=>none
noncomputable def c54:Cfg:=cfg Tryz.prog [(54,0,[1,35,36,37]),(54,2,[1,50,51,52]),(54,4,[1,6,50,51,52,103,104,105]),(54,999,[2]),(54,1000,[1]),(54,1001,[1,35,36,37]),(54,1002,[]),(54,1003,[1,50,51,52]),(54,1004,[1,50,51,52]),(54,1005,[1,6,50,51,52,103,104,105])] [(46,m46),(60,m60),(69,m69),(70,m70)] [] [] [(54,0,l54_0),(54,2,l54_2),(54,4,l54_4)]
theorem s54_4 (ce:CallE) (t50:List AV) (t51 t52:Int) (t103:List AV) (t104 t105:Int) (h0_0 h0_1 h0_2:List AV) (h1_0 h1_1:Int) (next:St→Option AV) (k:Kont):stepA (codeA c54 ce [] 54 4 (sub [1,1,1,0,1,0,0,1,1,0,0,1,1,1,0,0] (body Tryz.f54))) (normA [] [1,6,50,51,52,103,104,105]) next ⟨[(1,AV.ptr [0,1] 0 0),(6,AV.ptr [0,6] 0 0),(50,AV.sl [.int .i64,.int .i64] t50),(51,Ai t51),(52,Ai t52),(103,AV.sl [.int .i64] t103),(104,Ai t104),(105,Ai t105)],[([0,1],⟨true,[],[AV.agg [AV.sl [.int .i64] h0_0,AV.sl [.int .i64] h0_1,AV.sl [.int .i64,.int .i64] h0_2]]⟩),([0,6],⟨true,[],[AV.agg [Ai h1_0,Ai h1_1]]⟩)]⟩ k=(bif decide (t105<t104) then (bif (decide (0≤t105) && decide (t105<(t103.length:Int))) then (bif !(decide (fI (t103.getD t105.toNat .undef) 0<h1_0) == decide (t105<h1_1)) then k .ret ⟨[(2,AV.bool false)],[([0,1],⟨true,[],[AV.agg [AV.sl [.int .i64] h0_0,AV.sl [.int .i64] h0_1,AV.sl [.int .i64,.int .i64] h0_2]]⟩),([0,6],⟨true,[],[AV.agg [Ai h1_0,Ai h1_1]]⟩)]⟩
 else next ⟨[(1,AV.ptr [0,1] 0 0),(6,AV.ptr [0,6] 0 0),(50,AV.sl [.int .i64,.int .i64] t50),(51,Ai t51),(52,Ai t52),(103,AV.sl [.int .i64] t103),(104,Ai t104),(105,Ai (IntKind.i64.wrap (t105+1)))],[([0,1],⟨true,[],[AV.agg [AV.sl [.int .i64] h0_0,AV.sl [.int .i64] h0_1,AV.sl [.int .i64,.int .i64] h0_2]]⟩),([0,6],⟨true,[],[AV.agg [Ai h1_0,Ai h1_1]]⟩)]⟩)
 else none)
 else k (.exit 4) ⟨[(1,AV.ptr [0,1] 0 0),(50,AV.sl [.int .i64,.int .i64] t50),(51,Ai t51),(52,Ai t52)],[([0,1],⟨true,[],[AV.agg [AV.sl [.int .i64] h0_0,AV.sl [.int .i64] h0_1,AV.sl [.int .i64,.int .i64] h0_2]]⟩),([0,6],⟨true,[],[AV.agg [Ai h1_0,Ai h1_1]]⟩)]⟩):=by kernel_rfl
theorem st54_4 (t50:List AV) (t51 t52:Int) (t103:List AV) (t104:Int) (h0_0 h0_1 h0_2:List AV) (h1_0 h1_1:Int) (ce:CallE) (k:Kont) (s:Int) (next:St→Option AV):stepA (codeA c54 ce [] 54 4 (sub [1,1,1,0,1,0,0,1,1,0,0,1,1,1,0,0] (body Tryz.f54))) (normA [] [1,6,50,51,52,103,104,105]) next ((E54_4 t50 t51 t52 t103 t104 h0_0 h0_1 h0_2 h1_0 h1_1) s) k=(R54_4 t50 t51 t52 t103 t104 h0_0 h0_1 h0_2 h1_0 h1_1 s).el none (fun s=>next ((E54_4 t50 t51 t52 t103 t104 h0_0 h0_1 h0_2 h1_0 h1_1) s)) (K54_4 t50 t51 t52 h0_0 h0_1 h0_2 h1_0 h1_1 k):=(s54_4 ce t50 t51 t52 t103 t104 s h0_0 h0_1 h0_2 h1_0 h1_1 next k).trans (by unfold R54_4;unfold F54_4;simp only [el_cond,el_ro,el_sum,el_fail,el_next,el_stop] <;> rfl)
theorem ok54_4 {ce:CallE}:LoopOK c54 ce [] 54 4 (sub [1,1,1,0,1,0,0,1,1,0,0,1,1,1,0,0] (body Tryz.f54)):=by
 intro m hm st k r h
 obtain rfl:l54_4=m:=Option.some.inj hm
 unfold l54_4 at h
 split at h
 ·rename_i g0 g1 g2 g3 g4 g5 g6 t50 t51 t52 g7 t103 t104 t105 g8 g9 h0_0 g10 h0_1 g11 h0_2 g12 h1_0 h1_1
  obtain ⟨hg,h⟩:=bif_some h
  simp only [Bool.and_eq_true] at hg
  obtain ⟨⟨⟨⟨⟨⟨⟨⟨⟨⟨⟨⟨q0,q1⟩,q2⟩,q3⟩,q4⟩,q5⟩,q6⟩,q7⟩,q8⟩,q9⟩,q10⟩,q11⟩,q12⟩:=hg
  obtain rfl:=(nmEq_iff _ _).1 q0
  obtain rfl:=Nat.eq_of_beq_eq_true q1
  obtain rfl:=Nat.eq_of_beq_eq_true q2
  obtain rfl:=(nmEq_iff _ _).1 q3
  obtain rfl:=Nat.eq_of_beq_eq_true q4
  obtain rfl:=Nat.eq_of_beq_eq_true q5
  obtain rfl:=ctsEq_eq _ _ q6
  obtain rfl:=ctsEq_eq _ _ q7
  obtain rfl:=(nmEq_iff _ _).1 q8
  obtain rfl:=ctsEq_eq _ _ q9
  obtain rfl:=ctsEq_eq _ _ q10
  obtain rfl:=ctsEq_eq _ _ q11
  obtain rfl:=(nmEq_iff _ _).1 q12
  refine ⟨((t104 - t105:Int).toNat+1),?_⟩
  rw [← h]
  exact loop_run (E54_4 t50 t51 t52 t103 t104 h0_0 h0_1 h0_2 h1_0 h1_1) (K54_4 t50 t51 t52 h0_0 h0_1 h0_2 h1_0 h1_1 k) (st54_4 t50 t51 t52 t103 t104 h0_0 h0_1 h0_2 h1_0 h1_1 ce k) _ t105
 ·cases h
theorem s54_2 (ce:CallE) (t50:List AV) (t51 t52:Int) (h0_0 h0_1 h0_2:List AV) (next:St→Option AV) (k:Kont):stepA (codeA c54 ce [] 54 2 (sub [1,1,1,0,1,0,0] (body Tryz.f54))) (normA [] [1,50,51,52]) next ⟨[(1,AV.ptr [0,1] 0 0),(50,AV.sl [.int .i64,.int .i64] t50),(51,Ai t51),(52,Ai t52)],[([0,1],⟨true,[],[AV.agg [AV.sl [.int .i64] h0_0,AV.sl [.int .i64] h0_1,AV.sl [.int .i64,.int .i64] h0_2]]⟩)]⟩ k=(bif decide (t52<t51) then (bif (decide (0≤t52) && decide (t52<(t50.length:Int))) then (bif !(v70_0 (fI (t50.getD t52.toNat .undef) 0)) then k .ret ⟨[(2,AV.bool false)],[([0,1],⟨true,[],[AV.agg [AV.sl [.int .i64] h0_0,AV.sl [.int .i64] h0_1,AV.sl [.int .i64,.int .i64] h0_2]]⟩),([1,6],⟨true,[],[AV.agg [Ai (fI (t50.getD t52.toNat .undef) 0),Ai (fI (t50.getD t52.toNat .undef) 1)]]⟩)]⟩
 else (bif decide (fI (t50.getD t52.toNat .undef) 1<0) then k .ret ⟨[(2,AV.bool false)],[([0,1],⟨true,[],[AV.agg [AV.sl [.int .i64] h0_0,AV.sl [.int .i64] h0_1,AV.sl [.int .i64,.int .i64] h0_2]]⟩),([1,6],⟨true,[],[AV.agg [Ai (fI (t50.getD t52.toNat .undef) 0),Ai (fI (t50.getD t52.toNat .undef) 1)]]⟩)]⟩
 else (bif decide (fI (t50.getD t52.toNat .undef) 1 > (h0_0.length:Int)) then k .ret ⟨[(2,AV.bool false)],[([0,1],⟨true,[],[AV.agg [AV.sl [.int .i64] h0_0,AV.sl [.int .i64] h0_1,AV.sl [.int .i64,.int .i64] h0_2]]⟩),([1,6],⟨true,[],[AV.agg [Ai (fI (t50.getD t52.toNat .undef) 0),Ai (fI (t50.getD t52.toNat .undef) 1)]]⟩)]⟩
 else (bif decide (t52 > 0) then (bif (decide (0≤IntKind.i64.wrap (t52 - 1)) && decide (IntKind.i64.wrap (t52 - 1)<(h0_2.length:Int))) then (bif decide (fI (t50.getD t52.toNat .undef) 0≤fI (h0_2.getD (IntKind.i64.wrap (t52 - 1)).toNat .undef) 0) then k .ret ⟨[(2,AV.bool false)],[([0,1],⟨true,[],[AV.agg [AV.sl [.int .i64] h0_0,AV.sl [.int .i64] h0_1,AV.sl [.int .i64,.int .i64] h0_2]]⟩),([1,6],⟨true,[],[AV.agg [Ai (fI (t50.getD t52.toNat .undef) 0),Ai (fI (t50.getD t52.toNat .undef) 1)]]⟩)]⟩
 else (bif (decide (0≤IntKind.i64.wrap (t52 - 1)) && decide (IntKind.i64.wrap (t52 - 1)<(h0_2.length:Int))) then (bif decide (fI (t50.getD t52.toNat .undef) 1<fI (h0_2.getD (IntKind.i64.wrap (t52 - 1)).toNat .undef) 1) then k .ret ⟨[(2,AV.bool false)],[([0,1],⟨true,[],[AV.agg [AV.sl [.int .i64] h0_0,AV.sl [.int .i64] h0_1,AV.sl [.int .i64,.int .i64] h0_2]]⟩),([1,6],⟨true,[],[AV.agg [Ai (fI (t50.getD t52.toNat .undef) 0),Ai (fI (t50.getD t52.toNat .undef) 1)]]⟩)]⟩
 else (ro (runW (R54_4 t50 t51 t52 h0_0 (h0_0.length:Int) h0_0 h0_1 h0_2 (fI (t50.getD t52.toNat .undef) 0) (fI (t50.getD t52.toNat .undef) 1)) (((h0_0.length:Int) - 0:Int).toNat+1) 0) none (sumE (fun _=>next ⟨[(1,AV.ptr [0,1] 0 0),(50,AV.sl [.int .i64,.int .i64] t50),(51,Ai t51),(52,Ai (IntKind.i64.wrap (t52+1)))],[([0,1],⟨true,[],[AV.agg [AV.sl [.int .i64] h0_0,AV.sl [.int .i64] h0_1,AV.sl [.int .i64,.int .i64] h0_2]]⟩)]⟩) (fun _=>k .ret ⟨[(2,AV.bool false)],[([0,1],⟨true,[],[AV.agg [AV.sl [.int .i64] h0_0,AV.sl [.int .i64] h0_1,AV.sl [.int .i64,.int .i64] h0_2]]⟩),([0,6],⟨true,[],[AV.agg [Ai (fI (t50.getD t52.toNat .undef) 0),Ai (fI (t50.getD t52.toNat .undef) 1)]]⟩)]⟩))))
 else none))
 else none)
 else (ro (runW (R54_4 t50 t51 t52 h0_0 (h0_0.length:Int) h0_0 h0_1 h0_2 (fI (t50.getD t52.toNat .undef) 0) (fI (t50.getD t52.toNat .undef) 1)) (((h0_0.length:Int) - 0:Int).toNat+1) 0) none (sumE (fun _=>next ⟨[(1,AV.ptr [0,1] 0 0),(50,AV.sl [.int .i64,.int .i64] t50),(51,Ai t51),(52,Ai (IntKind.i64.wrap (t52+1)))],[([0,1],⟨true,[],[AV.agg [AV.sl [.int .i64] h0_0,AV.sl [.int .i64] h0_1,AV.sl [.int .i64,.int .i64] h0_2]]⟩)]⟩) (fun _=>k .ret ⟨[(2,AV.bool false)],[([0,1],⟨true,[],[AV.agg [AV.sl [.int .i64] h0_0,AV.sl [.int .i64] h0_1,AV.sl [.int .i64,.int .i64] h0_2]]⟩),([0,6],⟨true,[],[AV.agg [Ai (fI (t50.getD t52.toNat .undef) 0),Ai (fI (t50.getD t52.toNat .undef) 1)]]⟩)]⟩)))))))
 else none)
 else k (.exit 2) ⟨[],[([0,1],⟨true,[],[AV.agg [AV.sl [.int .i64] h0_0,AV.sl [.int .i64] h0_1,AV.sl [.int .i64,.int .i64] h0_2]]⟩)]⟩):=by kernel_rfl
theorem st54_2 (t50:List AV) (t51:Int) (h0_0 h0_1 h0_2:List AV) (ce:CallE) (k:Kont) (s:Int) (next:St→Option AV):stepA (codeA c54 ce [] 54 2 (sub [1,1,1,0,1,0,0] (body Tryz.f54))) (normA [] [1,50,51,52]) next ((E54_2 t50 t51 h0_0 h0_1 h0_2) s) k=(R54_2 t50 t51 h0_0 h0_1 h0_2 s).el none (fun s=>next ((E54_2 t50 t51 h0_0 h0_1 h0_2) s)) (K54_2 h0_0 h0_1 h0_2 k):=(s54_2 ce t50 t51 s h0_0 h0_1 h0_2 next k).trans (by unfold R54_2;unfold F54_2;simp only [el_cond,el_ro,el_sum,el_fail,el_next,el_stop] <;> rfl)
theorem ok54_2 {ce:CallE}:LoopOK c54 ce [] 54 2 (sub [1,1,1,0,1,0,0] (body Tryz.f54)):=by
 intro m hm st k r h
 obtain rfl:l54_2=m:=Option.some.inj hm
 unfold l54_2 at h
 split at h
 ·rename_i g0 g1 g2 g3 t50 t51 t52 g4 g5 h0_0 g6 h0_1 g7 h0_2
  obtain ⟨hg,h⟩:=bif_some h
  simp only [Bool.and_eq_true] at hg
  obtain ⟨⟨⟨⟨⟨⟨⟨q0,q1⟩,q2⟩,q3⟩,q4⟩,q5⟩,q6⟩,q7⟩:=hg
  obtain rfl:=(nmEq_iff _ _).1 q0
  obtain rfl:=Nat.eq_of_beq_eq_true q1
  obtain rfl:=Nat.eq_of_beq_eq_true q2
  obtain rfl:=ctsEq_eq _ _ q3
  obtain rfl:=(nmEq_iff _ _).1 q4
  obtain rfl:=ctsEq_eq _ _ q5
  obtain rfl:=ctsEq_eq _ _ q6
  obtain rfl:=ctsEq_eq _ _ q7
  refine ⟨((t51 - t52:Int).toNat+1),?_⟩
  rw [← h]
  exact loop_run (E54_2 t50 t51 h0_0 h0_1 h0_2) (K54_2 h0_0 h0_1 h0_2 k) (st54_2 t50 t51 h0_0 h0_1 h0_2 ce k) _ t52
 ·cases h
theorem s54_0 (ce:CallE) (t35:List AV) (t36 t37:Int) (h0_0 h0_1 h0_2:List AV) (next:St→Option AV) (k:Kont):stepA (codeA c54 ce [] 54 0 (sub [1,1,0,1,0,0] (body Tryz.f54))) (normA [] [1,35,36,37]) next ⟨[(1,AV.ptr [0,1] 0 0),(35,AV.sl [.int .i64] t35),(36,Ai t36),(37,Ai t37)],[([0,1],⟨true,[],[AV.agg [AV.sl [.int .i64] h0_0,AV.sl [.int .i64] h0_1,AV.sl [.int .i64,.int .i64] h0_2]]⟩)]⟩ k=(bif decide (t37<t36) then (bif (decide (0≤t37) && decide (t37<(t35.length:Int))) then (bif (decide (0≤0) && decide (0≤t37) && decide (t37≤(h0_1.length:Int))) then (bif q69 ((h0_1.take (Int.toNat t37)).drop (Int.toNat 0)) (fI (t35.getD t37.toNat .undef) 0) then (bif (v69_0 ((h0_1.take (Int.toNat t37)).drop (Int.toNat 0)) (fI (t35.getD t37.toNat .undef) 0)) then k .ret ⟨[(2,AV.bool false)],[([0,1],⟨true,[],[AV.agg [AV.sl [.int .i64] h0_0,AV.sl [.int .i64] h0_1,AV.sl [.int .i64,.int .i64] h0_2]]⟩)]⟩
 else next ⟨[(1,AV.ptr [0,1] 0 0),(35,AV.sl [.int .i64] t35),(36,Ai t36),(37,Ai (IntKind.i64.wrap (t37+1)))],[([0,1],⟨true,[],[AV.agg [AV.sl [.int .i64] h0_0,AV.sl [.int .i64] h0_1,AV.sl [.int .i64,.int .i64] h0_2]]⟩)]⟩)
 else none)
 else none)
 else none)
 else k (.exit 0) ⟨[(1,AV.ptr [0,1] 0 0)],[([0,1],⟨true,[],[AV.agg [AV.sl [.int .i64] h0_0,AV.sl [.int .i64] h0_1,AV.sl [.int .i64,.int .i64] h0_2]]⟩)]⟩):=by kernel_rfl
theorem st54_0 (t35:List AV) (t36:Int) (h0_0 h0_1 h0_2:List AV) (ce:CallE) (k:Kont) (s:Int) (next:St→Option AV):stepA (codeA c54 ce [] 54 0 (sub [1,1,0,1,0,0] (body Tryz.f54))) (normA [] [1,35,36,37]) next ((E54_0 t35 t36 h0_0 h0_1 h0_2) s) k=(R54_0 t35 t36 h0_0 h0_1 h0_2 s).el none (fun s=>next ((E54_0 t35 t36 h0_0 h0_1 h0_2) s)) (K54_0 h0_0 h0_1 h0_2 k):=(s54_0 ce t35 t36 s h0_0 h0_1 h0_2 next k).trans (by unfold R54_0;unfold F54_0;simp only [el_cond,el_ro,el_sum,el_fail,el_next,el_stop] <;> rfl)
theorem ok54_0 {ce:CallE}:LoopOK c54 ce [] 54 0 (sub [1,1,0,1,0,0] (body Tryz.f54)):=by
 intro m hm st k r h
 obtain rfl:l54_0=m:=Option.some.inj hm
 unfold l54_0 at h
 split at h
 ·rename_i g0 g1 g2 g3 t35 t36 t37 g4 g5 h0_0 g6 h0_1 g7 h0_2
  obtain ⟨hg,h⟩:=bif_some h
  simp only [Bool.and_eq_true] at hg
  obtain ⟨⟨⟨⟨⟨⟨⟨q0,q1⟩,q2⟩,q3⟩,q4⟩,q5⟩,q6⟩,q7⟩:=hg
  obtain rfl:=(nmEq_iff _ _).1 q0
  obtain rfl:=Nat.eq_of_beq_eq_true q1
  obtain rfl:=Nat.eq_of_beq_eq_true q2
  obtain rfl:=ctsEq_eq _ _ q3
  obtain rfl:=(nmEq_iff _ _).1 q4
  obtain rfl:=ctsEq_eq _ _ q5
  obtain rfl:=ctsEq_eq _ _ q6
  obtain rfl:=ctsEq_eq _ _ q7
  refine ⟨((t36 - t37:Int).toNat+1),?_⟩
  rw [← h]
  exact loop_run (E54_0 t35 t36 h0_0 h0_1 h0_2) (K54_0 h0_0 h0_1 h0_2 k) (st54_0 t35 t36 h0_0 h0_1 h0_2 ce k) _ t37
 ·cases h
def q54 (xa xb xc:List AV):Bool:=(q46 xa && (bif !(v46_0 xa) then true else (bif !decide ((xb.length:Int)=(xa.length:Int)) then true else (q60 xb 0 999 && (bif !(v60_0 xb 0 999) then true else (bif decide ((xc.length:Int) > 2001) then true else (ro (runW (R54_0 xb (xb.length:Int) xa xb xc) (((xb.length:Int) - 0:Int).toNat+1) 0) false (sumE (fun _=>(ro (runW (R54_2 xc (xc.length:Int) xa xb xc) (((xc.length:Int) - 0:Int).toNat+1) 0) false (sumE (fun _=>true) (sumE (fun p54=>true) (fun p55=>true))))) (fun _=>true)))))))))
def v54_0 (xa xb xc:List AV):Bool:=(bif !(v46_0 xa) then false else (bif !decide ((xb.length:Int)=(xa.length:Int)) then false else (bif !(v60_0 xb 0 999) then false else (bif decide ((xc.length:Int) > 2001) then false else (ro (runW (R54_0 xb (xb.length:Int) xa xb xc) (((xb.length:Int) - 0:Int).toNat+1) 0) false (sumE (fun _=>(ro (runW (R54_2 xc (xc.length:Int) xa xb xc) (((xc.length:Int) - 0:Int).toNat+1) 0) false (sumE (fun _=>true) (sumE (fun p54=>false) (fun p55=>false))))) (fun _=>false)))))))
theorem e54 (xa xb xc:List AV):funA c54 0 54 [AV.agg [AV.sl [.int .i64] xa,AV.sl [.int .i64] xb,AV.sl [.int .i64,.int .i64] xc]]=(bif q46 xa then (bif !(v46_0 xa) then some (AV.bool false)
 else (bif !decide ((xb.length:Int)=(xa.length:Int)) then some (AV.bool false)
 else (bif q60 xb 0 999 then (bif !(v60_0 xb 0 999) then some (AV.bool false)
 else (bif decide ((xc.length:Int) > 2001) then some (AV.bool false)
 else (ro (runW (R54_0 xb (xb.length:Int) xa xb xc) (((xb.length:Int) - 0:Int).toNat+1) 0) none (sumE (fun _=>(ro (runW (R54_2 xc (xc.length:Int) xa xb xc) (((xc.length:Int) - 0:Int).toNat+1) 0) none (sumE (fun _=>some (AV.bool true)) (sumE (fun p54=>some (AV.bool false)) (fun p55=>some (AV.bool false)))))) (fun _=>some (AV.bool false))))))
 else none)))
 else none):=by kernel_rfl
def m54:TModel
 | [.agg [.sl g0 xa,.sl g1 xb,.sl g2 xc]]=>bif ctsEq g0 ([.int .i64]) && ctsEq g1 ([.int .i64]) && ctsEq g2 ([.int .i64,.int .i64]) then some (q54 xa xb xc,AV.bool (v54_0 xa xb xc)) else none
 | _=>none
theorem k54:Known Tryz.prog 54:=⟨Tryz.f54,Tryz.func54,by kernel_rfl,by kernel_rfl⟩
theorem meets54:Meets Tryz.prog 54 m54:=by
 refine meet (f:=Tryz.f54) (l:=[(0,sub [1,1,0,1,0,0] (body Tryz.f54)),(2,sub [1,1,1,0,1,0,0] (body Tryz.f54)),(4,sub [1,1,1,0,1,0,0,1,1,0,0,1,1,1,0,0] (body Tryz.f54))]) (hs:=[(54,0,[1,35,36,37]),(54,2,[1,50,51,52]),(54,4,[1,6,50,51,52,103,104,105]),(54,999,[2]),(54,1000,[1]),(54,1001,[1,35,36,37]),(54,1002,[]),(54,1003,[1,50,51,52]),(54,1004,[1,50,51,52]),(54,1005,[1,6,50,51,52,103,104,105])]) (ts:=[(46,m46),(60,m60),(69,m69),(70,m70)]) (ws:=[]) (is:=[]) (ls:=[(54,0,l54_0),(54,2,l54_2),(54,4,l54_4)]) (lvl:=0) mixed k54 Tryz.func54 (by kernel_rfl) (loops_cons ok54_0 (loops_cons ok54_2 (loops_cons ok54_4 noLoop))) (allT_cons meets46 (allT_cons meets60 (allT_cons meets69 (allT_cons meets70 allT_nil)))) allM_nil noI fun w xs us r hl hv h=>?_
 unfold m54 at h
 split at h
 ·rename_i g0 xa g1 xb g2 xc
  obtain ⟨hg,h⟩:=bif_pair h
  simp only [Bool.and_eq_true] at hg
  obtain ⟨⟨q0,q1⟩,q2⟩:=hg
  obtain rfl:=ctsEq_eq _ _ q0
  obtain rfl:=ctsEq_eq _ _ q1
  obtain rfl:=ctsEq_eq _ _ q2
  obtain ⟨h1,rfl⟩:=pair_inj h
  exact (e54 xa xb xc).trans ((brL (br (fun b=>some (AV.bool (bif b then false else (bif !decide ((xb.length:Int)=(xa.length:Int)) then false else (bif !(v60_0 xb 0 999) then false else (bif decide ((xc.length:Int) > 2001) then false else (ro (runW (R54_0 xb (xb.length:Int) xa xb xc) (((xb.length:Int) - 0:Int).toNat+1) 0) false (sumE (fun _=>(ro (runW (R54_2 xc (xc.length:Int) xa xb xc) (((xc.length:Int) - 0:Int).toNat+1) 0) false (sumE (fun _=>true) (sumE (fun p54=>false) (fun p55=>false))))) (fun _=>false))))))))) (fun _=>rfl) (br (fun b=>some (AV.bool (bif b then false else (bif !(v60_0 xb 0 999) then false else (bif decide ((xc.length:Int) > 2001) then false else (ro (runW (R54_0 xb (xb.length:Int) xa xb xc) (((xb.length:Int) - 0:Int).toNat+1) 0) false (sumE (fun _=>(ro (runW (R54_2 xc (xc.length:Int) xa xb xc) (((xc.length:Int) - 0:Int).toNat+1) 0) false (sumE (fun _=>true) (sumE (fun p54=>false) (fun p55=>false))))) (fun _=>false)))))))) (fun _=>rfl) (brL (br (fun b=>some (AV.bool (bif b then false else (bif decide ((xc.length:Int) > 2001) then false else (ro (runW (R54_0 xb (xb.length:Int) xa xb xc) (((xb.length:Int) - 0:Int).toNat+1) 0) false (sumE (fun _=>(ro (runW (R54_2 xc (xc.length:Int) xa xb xc) (((xc.length:Int) - 0:Int).toNat+1) 0) false (sumE (fun _=>true) (sumE (fun p54=>false) (fun p55=>false))))) (fun _=>false))))))) (fun _=>rfl) (br (fun b=>some (AV.bool (bif b then false else (ro (runW (R54_0 xb (xb.length:Int) xa xb xc) (((xb.length:Int) - 0:Int).toNat+1) 0) false (sumE (fun _=>(ro (runW (R54_2 xc (xc.length:Int) xa xb xc) (((xc.length:Int) - 0:Int).toNat+1) 0) false (sumE (fun _=>true) (sumE (fun p54=>false) (fun p55=>false))))) (fun _=>false)))))) (fun _=>rfl) (brO (fun o:Option (Unit ⊕ Unit)=>some (AV.bool (ro o false (sumE (fun _=>(ro (runW (R54_2 xc (xc.length:Int) xa xb xc) (((xc.length:Int) - 0:Int).toNat+1) 0) false (sumE (fun _=>true) (sumE (fun p54=>false) (fun p55=>false))))) (fun _=>false))))) (brS (fun o:Unit ⊕ Unit=>some (AV.bool ((sumE (fun _=>(ro (runW (R54_2 xc (xc.length:Int) xa xb xc) (((xc.length:Int) - 0:Int).toNat+1) 0) false (sumE (fun _=>true) (sumE (fun p54=>false) (fun p55=>false))))) (fun _=>false)) o))) (fun _=>(brO (fun o:Option (Unit ⊕ (Int × Int) ⊕ (Int × Int))=>some (AV.bool (ro o false (sumE (fun _=>true) (sumE (fun p54=>false) (fun p55=>false)))))) (brS (fun o:Unit ⊕ (Int × Int) ⊕ (Int × Int)=>some (AV.bool ((sumE (fun _=>true) (sumE (fun p54=>false) (fun p55=>false))) o))) (fun _=>(fun _=>rfl)) (brS (fun o:(Int × Int) ⊕ (Int × Int)=>some (AV.bool ((sumE (fun p54=>false) (fun p55=>false)) o))) (fun p54=>(fun _=>rfl)) (fun p55=>(fun _=>rfl)))))) (fun _=>(fun _=>rfl)))))))))) h1)
 ·cases h
noncomputable def c102:Cfg:=cfg Tryz.prog [(102,999,[2])] [] [] [] []
def q102 (a0:Int):Bool:=(!decide (10007=0) && (bif decide (Int.tmod a0 10007<0) then !decide (10007=0) else !decide (10007=0)))
def v102_0 (a0:Int):Int:=(bif decide (Int.tmod a0 10007<0) then Int.tmod (IntKind.i64.wrap (IntKind.i64.wrap (IntKind.i64.wrap (Int.tmod a0 10007+10007)*1103)+2345)) 10007 else Int.tmod (IntKind.i64.wrap (IntKind.i64.wrap (Int.tmod a0 10007*1103)+2345)) 10007)
theorem e102 (a0:Int):funA c102 0 102 [Ai a0]=(bif !decide (10007=0) then (bif decide (Int.tmod a0 10007<0) then (bif !decide (10007=0) then some (Ai (Int.tmod (IntKind.i64.wrap (IntKind.i64.wrap (IntKind.i64.wrap (Int.tmod a0 10007+10007)*1103)+2345)) 10007))
 else none)
 else (bif !decide (10007=0) then some (Ai (Int.tmod (IntKind.i64.wrap (IntKind.i64.wrap (Int.tmod a0 10007*1103)+2345)) 10007))
 else none))
 else none):=by kernel_rfl
def m102:TModel
 | [.int .i64 a0]=>some (q102 a0,AV.int .i64 (v102_0 a0))
 | _=>none
theorem k102:Known Tryz.prog 102:=⟨Tryz.f102,Tryz.func102,by kernel_rfl,by kernel_rfl⟩
theorem meets102:Meets Tryz.prog 102 m102:=by
 refine meet (f:=Tryz.f102) (l:=[]) (hs:=[(102,999,[2])]) (ts:=[]) (ws:=[]) (is:=[]) (ls:=[]) (lvl:=0) mixed k102 Tryz.func102 (by kernel_rfl) noLoop allT_nil allM_nil noI fun w xs us r hl hv h=>?_
 unfold m102 at h
 split at h
 ·rename_i a0
  obtain ⟨h1,rfl⟩:=pair_inj h
  exact (e102 a0).trans ((brL (br (fun b=>some (Ai (bif b then Int.tmod (IntKind.i64.wrap (IntKind.i64.wrap (IntKind.i64.wrap (Int.tmod a0 10007+10007)*1103)+2345)) 10007 else Int.tmod (IntKind.i64.wrap (IntKind.i64.wrap (Int.tmod a0 10007*1103)+2345)) 10007))) (brL1 (fun _=>rfl)) (brL1 (fun _=>rfl)))) h1)
 ·cases h
def q104 (b0:List AV):Bool:=decide (b0.length*8≤140737488355328)
def v104_0 (b0:List AV):List AV:=sortL b0
def m104:WModel:=sortM
theorem k104:Known Tryz.prog 104:=⟨Tryz.f104,Tryz.func104,by kernel_rfl,by kernel_rfl⟩
theorem meets104:MeetsM Tryz.prog 104 m104:=sort_meets ⟨k104,fun blk off cap zs w h1 h2 h3=>Any.slices_Sort_int lays189 blk off cap zs w h1 h2 h3,fun p cap w=>Any.slices_Sort_int_none lays189 p cap w⟩
noncomputable def c93:Cfg:=cfg Tryz.prog [(93,999,[2])] [(78,m78)] [(104,.w m104)] [] []
def q93 (a0:List AV):Bool:=(q78 a0 && q104 (v78_0 a0))
def v93_0 (a0:List AV):List AV:=(v104_0 (v78_0 a0))
theorem e93 (a0:List AV):funA c93 0 93 [AV.sl [.int .i64] a0]=(bif q78 a0 then (bif q104 (v78_0 a0) then some (AV.fl [.int .i64] (v104_0 (v78_0 a0)))
 else none)
 else none):=by kernel_rfl
def m93:TModel
 | [.sl g0 a0]=>bif ctsEq g0 ([.int .i64]) then some (q93 a0,AV.fl [.int .i64] (v93_0 a0)) else none
 | _=>none
theorem k93:Known Tryz.prog 93:=⟨Tryz.f93,Tryz.func93,by kernel_rfl,by kernel_rfl⟩
theorem meets93:Meets Tryz.prog 93 m93:=by
 refine meet (f:=Tryz.f93) (l:=[]) (hs:=[(93,999,[2])]) (ts:=[(78,m78)]) (ws:=[(104,.w m104)]) (is:=[]) (ls:=[]) (lvl:=0) mixed k93 Tryz.func93 (by kernel_rfl) noLoop (allT_cons meets78 allT_nil) (allM_cons meets104 allM_nil) noI fun w xs us r hl hv h=>?_
 unfold m93 at h
 split at h
 ·rename_i g0 a0
  obtain ⟨hg,h⟩:=bif_pair h
  have q0:=hg
  obtain rfl:=ctsEq_eq _ _ q0
  obtain ⟨h1,rfl⟩:=pair_inj h
  exact (e93 a0).trans ((brL (brL1 (fun _=>rfl))) h1)
 ·cases h
noncomputable def c103:Cfg:=cfg Tryz.prog [(103,999,[2])] [(93,m93)] [] [] []
def q103 (a0:List AV):Bool:=(bif decide ((a0.length:Int)=0) then true else (bif decide ((a0.length:Int) > 64) then true else (q93 a0 && (!decide (2=0) && (decide (0≤IntKind.i64.wrap (Int.tdiv (IntKind.i64.wrap ((a0.length:Int) - 1)) 2)) && decide (IntKind.i64.wrap (Int.tdiv (IntKind.i64.wrap ((a0.length:Int) - 1)) 2)<((v93_0 a0).length:Int)))))))
def v103_0 (a0:List AV):Int:=(bif decide ((a0.length:Int)=0) then 0 else (bif decide ((a0.length:Int) > 64) then 0 else fI ((v93_0 a0).getD (IntKind.i64.wrap (Int.tdiv (IntKind.i64.wrap ((a0.length:Int) - 1)) 2)).toNat .undef) 0))
theorem e103 (a0:List AV):funA c103 0 103 [AV.sl [.int .i64] a0]=(bif decide ((a0.length:Int)=0) then some (Ai 0)
 else (bif decide ((a0.length:Int) > 64) then some (Ai 0)
 else (bif q93 a0 then (bif !decide (2=0) then (bif (decide (0≤IntKind.i64.wrap (Int.tdiv (IntKind.i64.wrap ((a0.length:Int) - 1)) 2)) && decide (IntKind.i64.wrap (Int.tdiv (IntKind.i64.wrap ((a0.length:Int) - 1)) 2)<((v93_0 a0).length:Int))) then some (Ai (fI ((v93_0 a0).getD (IntKind.i64.wrap (Int.tdiv (IntKind.i64.wrap ((a0.length:Int) - 1)) 2)).toNat .undef) 0))
 else none)
 else none)
 else none))):=by kernel_rfl
def m103:TModel
 | [.sl g0 a0]=>bif ctsEq g0 ([.int .i64]) then some (q103 a0,AV.int .i64 (v103_0 a0)) else none
 | _=>none
theorem k103:Known Tryz.prog 103:=⟨Tryz.f103,Tryz.func103,by kernel_rfl,by kernel_rfl⟩
theorem meets103:Meets Tryz.prog 103 m103:=by
 refine meet (f:=Tryz.f103) (l:=[]) (hs:=[(103,999,[2])]) (ts:=[(93,m93)]) (ws:=[]) (is:=[]) (ls:=[]) (lvl:=0) mixed k103 Tryz.func103 (by kernel_rfl) noLoop (allT_cons meets93 allT_nil) allM_nil noI fun w xs us r hl hv h=>?_
 unfold m103 at h
 split at h
 ·rename_i g0 a0
  obtain ⟨hg,h⟩:=bif_pair h
  have q0:=hg
  obtain rfl:=ctsEq_eq _ _ q0
  obtain ⟨h1,rfl⟩:=pair_inj h
  exact (e103 a0).trans ((br (fun b=>some (Ai (bif b then 0 else (bif decide ((a0.length:Int) > 64) then 0 else fI ((v93_0 a0).getD (IntKind.i64.wrap (Int.tdiv (IntKind.i64.wrap ((a0.length:Int) - 1)) 2)).toNat .undef) 0)))) (fun _=>rfl) (br (fun b=>some (Ai (bif b then 0 else fI ((v93_0 a0).getD (IntKind.i64.wrap (Int.tdiv (IntKind.i64.wrap ((a0.length:Int) - 1)) 2)).toNat .undef) 0))) (fun _=>rfl) (brL (brL (brL1 (fun _=>rfl)))))) h1)
 ·cases h
noncomputable def c92:Cfg:=cfg Tryz.prog [(92,999,[8,9])] [(47,m47),(54,m54),(102,m102),(103,m103)] [] [] []
def q92 (xa xb xc:List AV) (ya yb yc a2 a3:Int):Bool:=(q54 xa xb xc && (bif !(v54_0 xa xb xc) then true else (bif !(v47_0 ya yb yc) then true else (bif decide (a2<0) then true else (bif decide (a2 ≥ a3) then true else (bif decide (a3 > (xa.length:Int)) then true else (bif decide (ya=2) then (q102 yc && (!decide (IntKind.i64.wrap (a3 - a2)=0) && (decide (0≤IntKind.i64.wrap (a2+Int.tmod (v102_0 yc) (IntKind.i64.wrap (a3 - a2)))) && decide (IntKind.i64.wrap (a2+Int.tmod (v102_0 yc) (IntKind.i64.wrap (a3 - a2)))<(xa.length:Int))))) else ((decide (0≤a2) && decide (a2≤a3) && decide (a3≤(xa.length:Int))) && q103 ((xa.take (Int.toNat a3)).drop (Int.toNat a2))))))))))
def v92_0 (xa xb xc:List AV) (ya yb yc a2 a3:Int):Int:=(bif !(v54_0 xa xb xc) then 0 else (bif !(v47_0 ya yb yc) then 0 else (bif decide (a2<0) then 0 else (bif decide (a2 ≥ a3) then 0 else (bif decide (a3 > (xa.length:Int)) then 0 else (bif decide (ya=2) then fI (xa.getD (IntKind.i64.wrap (a2+Int.tmod (v102_0 yc) (IntKind.i64.wrap (a3 - a2)))).toNat .undef) 0 else (v103_0 ((xa.take (Int.toNat a3)).drop (Int.toNat a2)))))))))
def v92_1 (xa xb xc:List AV) (ya yb yc a2 a3:Int):Int:=ya
def v92_2 (xa xb xc:List AV) (ya yb yc a2 a3:Int):Int:=yb
def v92_3 (xa xb xc:List AV) (ya yb yc a2 a3:Int):Int:=(bif !(v54_0 xa xb xc) then yc else (bif !(v47_0 ya yb yc) then yc else (bif decide (a2<0) then yc else (bif decide (a2 ≥ a3) then yc else (bif decide (a3 > (xa.length:Int)) then yc else (bif decide (ya=2) then (v102_0 yc) else yc))))))
theorem e92 (xa xb xc:List AV) (ya yb yc a2 a3:Int):funA c92 0 92 [AV.agg [AV.sl [.int .i64] xa,AV.sl [.int .i64] xb,AV.sl [.int .i64,.int .i64] xc],AV.agg [Ai ya,Ai yb,Ai yc],Ai a2,Ai a3]=(bif q54 xa xb xc then (bif !(v54_0 xa xb xc) then some (AV.tup [Ai 0,AV.agg [Ai ya,Ai yb,Ai yc]])
 else (bif !(v47_0 ya yb yc) then some (AV.tup [Ai 0,AV.agg [Ai ya,Ai yb,Ai yc]])
 else (bif decide (a2<0) then some (AV.tup [Ai 0,AV.agg [Ai ya,Ai yb,Ai yc]])
 else (bif decide (a2 ≥ a3) then some (AV.tup [Ai 0,AV.agg [Ai ya,Ai yb,Ai yc]])
 else (bif decide (a3 > (xa.length:Int)) then some (AV.tup [Ai 0,AV.agg [Ai ya,Ai yb,Ai yc]])
 else (bif decide (ya=2) then (bif q102 yc then (bif !decide (IntKind.i64.wrap (a3 - a2)=0) then (bif (decide (0≤IntKind.i64.wrap (a2+Int.tmod (v102_0 yc) (IntKind.i64.wrap (a3 - a2)))) && decide (IntKind.i64.wrap (a2+Int.tmod (v102_0 yc) (IntKind.i64.wrap (a3 - a2)))<(xa.length:Int))) then some (AV.tup [Ai (fI (xa.getD (IntKind.i64.wrap (a2+Int.tmod (v102_0 yc) (IntKind.i64.wrap (a3 - a2)))).toNat .undef) 0),AV.agg [Ai ya,Ai yb,Ai (v102_0 yc)]])
 else none)
 else none)
 else none)
 else (bif (decide (0≤a2) && decide (a2≤a3) && decide (a3≤(xa.length:Int))) then (bif q103 ((xa.take (Int.toNat a3)).drop (Int.toNat a2)) then some (AV.tup [Ai (v103_0 ((xa.take (Int.toNat a3)).drop (Int.toNat a2))),AV.agg [Ai ya,Ai yb,Ai yc]])
 else none)
 else none)))))))
 else none):=by kernel_rfl
def m92:TModel
 | [.agg [.sl g0 xa,.sl g1 xb,.sl g2 xc],.agg [.int .i64 ya,.int .i64 yb,.int .i64 yc],.int .i64 a2,.int .i64 a3]=>bif ctsEq g0 ([.int .i64]) && ctsEq g1 ([.int .i64]) && ctsEq g2 ([.int .i64,.int .i64]) then some (q92 xa xb xc ya yb yc a2 a3,AV.tup [AV.int .i64 (v92_0 xa xb xc ya yb yc a2 a3),AV.agg [AV.int .i64 (v92_1 xa xb xc ya yb yc a2 a3),AV.int .i64 (v92_2 xa xb xc ya yb yc a2 a3),AV.int .i64 (v92_3 xa xb xc ya yb yc a2 a3)]]) else none
 | _=>none
theorem k92:Known Tryz.prog 92:=⟨Tryz.f92,Tryz.func92,by kernel_rfl,by kernel_rfl⟩
theorem meets92:Meets Tryz.prog 92 m92:=by
 refine meet (f:=Tryz.f92) (l:=[]) (hs:=[(92,999,[8,9])]) (ts:=[(47,m47),(54,m54),(102,m102),(103,m103)]) (ws:=[]) (is:=[]) (ls:=[]) (lvl:=0) mixed k92 Tryz.func92 (by kernel_rfl) noLoop (allT_cons meets47 (allT_cons meets54 (allT_cons meets102 (allT_cons meets103 allT_nil)))) allM_nil noI fun w xs us r hl hv h=>?_
 unfold m92 at h
 split at h
 ·rename_i g0 xa g1 xb g2 xc ya yb yc a2 a3
  obtain ⟨hg,h⟩:=bif_pair h
  simp only [Bool.and_eq_true] at hg
  obtain ⟨⟨q0,q1⟩,q2⟩:=hg
  obtain rfl:=ctsEq_eq _ _ q0
  obtain rfl:=ctsEq_eq _ _ q1
  obtain rfl:=ctsEq_eq _ _ q2
  obtain ⟨h1,rfl⟩:=pair_inj h
  exact (e92 xa xb xc ya yb yc a2 a3).trans ((brL (br (fun b=>some (AV.tup [Ai (bif b then 0 else (bif !(v47_0 ya yb yc) then 0 else (bif decide (a2<0) then 0 else (bif decide (a2 ≥ a3) then 0 else (bif decide (a3 > (xa.length:Int)) then 0 else (bif decide (ya=2) then fI (xa.getD (IntKind.i64.wrap (a2+Int.tmod (v102_0 yc) (IntKind.i64.wrap (a3 - a2)))).toNat .undef) 0 else (v103_0 ((xa.take (Int.toNat a3)).drop (Int.toNat a2))))))))),AV.agg [Ai ya,Ai yb,Ai (bif b then yc else (bif !(v47_0 ya yb yc) then yc else (bif decide (a2<0) then yc else (bif decide (a2 ≥ a3) then yc else (bif decide (a3 > (xa.length:Int)) then yc else (bif decide (ya=2) then (v102_0 yc) else yc))))))]])) (fun _=>rfl) (br (fun b=>some (AV.tup [Ai (bif b then 0 else (bif decide (a2<0) then 0 else (bif decide (a2 ≥ a3) then 0 else (bif decide (a3 > (xa.length:Int)) then 0 else (bif decide (ya=2) then fI (xa.getD (IntKind.i64.wrap (a2+Int.tmod (v102_0 yc) (IntKind.i64.wrap (a3 - a2)))).toNat .undef) 0 else (v103_0 ((xa.take (Int.toNat a3)).drop (Int.toNat a2)))))))),AV.agg [Ai ya,Ai yb,Ai (bif b then yc else (bif decide (a2<0) then yc else (bif decide (a2 ≥ a3) then yc else (bif decide (a3 > (xa.length:Int)) then yc else (bif decide (ya=2) then (v102_0 yc) else yc)))))]])) (fun _=>rfl) (br (fun b=>some (AV.tup [Ai (bif b then 0 else (bif decide (a2 ≥ a3) then 0 else (bif decide (a3 > (xa.length:Int)) then 0 else (bif decide (ya=2) then fI (xa.getD (IntKind.i64.wrap (a2+Int.tmod (v102_0 yc) (IntKind.i64.wrap (a3 - a2)))).toNat .undef) 0 else (v103_0 ((xa.take (Int.toNat a3)).drop (Int.toNat a2))))))),AV.agg [Ai ya,Ai yb,Ai (bif b then yc else (bif decide (a2 ≥ a3) then yc else (bif decide (a3 > (xa.length:Int)) then yc else (bif decide (ya=2) then (v102_0 yc) else yc))))]])) (fun _=>rfl) (br (fun b=>some (AV.tup [Ai (bif b then 0 else (bif decide (a3 > (xa.length:Int)) then 0 else (bif decide (ya=2) then fI (xa.getD (IntKind.i64.wrap (a2+Int.tmod (v102_0 yc) (IntKind.i64.wrap (a3 - a2)))).toNat .undef) 0 else (v103_0 ((xa.take (Int.toNat a3)).drop (Int.toNat a2)))))),AV.agg [Ai ya,Ai yb,Ai (bif b then yc else (bif decide (a3 > (xa.length:Int)) then yc else (bif decide (ya=2) then (v102_0 yc) else yc)))]])) (fun _=>rfl) (br (fun b=>some (AV.tup [Ai (bif b then 0 else (bif decide (ya=2) then fI (xa.getD (IntKind.i64.wrap (a2+Int.tmod (v102_0 yc) (IntKind.i64.wrap (a3 - a2)))).toNat .undef) 0 else (v103_0 ((xa.take (Int.toNat a3)).drop (Int.toNat a2))))),AV.agg [Ai ya,Ai yb,Ai (bif b then yc else (bif decide (ya=2) then (v102_0 yc) else yc))]])) (fun _=>rfl) (br (fun b=>some (AV.tup [Ai (bif b then fI (xa.getD (IntKind.i64.wrap (a2+Int.tmod (v102_0 yc) (IntKind.i64.wrap (a3 - a2)))).toNat .undef) 0 else (v103_0 ((xa.take (Int.toNat a3)).drop (Int.toNat a2)))),AV.agg [Ai ya,Ai yb,Ai (bif b then (v102_0 yc) else yc)]])) (brL (brL (brL1 (fun _=>rfl)))) (brL (brL1 (fun _=>rfl)))))))))) h1)
 ·cases h
noncomputable def c71:Cfg:=cfg Tryz.prog [(71,999,[2])] [] [] [] []
def q71 (a0:List AV):Bool:=decide (a0.length*16≤140737488355328) && decide (a0.length≤140737488355328)
def v71_0 (a0:List AV):List AV:=a0
theorem e71 (a0:List AV):funA c71 0 71 [AV.sl [.int .i64,.int .i64] a0]=(bif decide (0<a0.length) then (bif (decide ((([]:List AV).length+a0.length)*16≤140737488355328) && decide ((([]:List AV).length+a0.length)≤140737488355328)) then some (AV.fl [.int .i64,.int .i64] (([]:List AV)++a0))
 else none)
 else none):=by kernel_rfl
theorem e71n (b:Bool):funA c71 0 71 [AV.sle b [.int .i64,.int .i64]]=some (AV.fl [.int .i64,.int .i64] []):=by cases b <;> kernel_rfl
def m71:TModel
 | [.sl g0 a0]=>bif ctsEq g0 [.int .i64,.int .i64] then some (q71 a0,AV.fl [.int .i64,.int .i64] (v71_0 a0)) else none
 | _=>none
theorem k71:Known Tryz.prog 71:=⟨Tryz.f71,Tryz.func71,by kernel_rfl,by kernel_rfl⟩
theorem meets71:Meets Tryz.prog 71 m71:=by
 refine meet_nil (f:=Tryz.f71) (l:=[]) (hs:=[(71,999,[2])]) (ts:=[]) (ws:=[]) (is:=[]) (ls:=[]) (lvl:=0) (tys:=[.int .i64,.int .i64]) mixed k71 Tryz.func71 (by kernel_rfl) noLoop allT_nil allM_nil noI (fun xs r h=>?_) (fun b r h=>?_) (fun ys r h0 h=>?_)
 ·unfold m71 at h
  split at h
  ·rename_i g0 a0
   obtain ⟨hg,h⟩:=bif_pair h
   obtain rfl:=ctsEq_eq _ _ hg
   exact ⟨a0,rfl⟩
  ·cases h
 ·obtain ⟨hg,h⟩:=bif_pair (g:=ctsEq [.int .i64,.int .i64] [.int .i64,.int .i64]) h
  obtain ⟨_,rfl⟩:=pair_inj h
  exact e71n b
 ·obtain ⟨hg,h⟩:=bif_pair (g:=ctsEq [.int .i64,.int .i64] [.int .i64,.int .i64]) h
  obtain ⟨hq,rfl⟩:=pair_inj h
  refine (e71 ys).trans ?_
  unfold q71 at hq
  have e:([]:List AV).length+ys.length=ys.length:=by simp
  rw [e,hq,decide_eq_true h0]
  rfl
noncomputable def c98:Cfg:=cfg Tryz.prog [(98,999,[2])] [(71,m71),(78,m78)] [] [] []
def q98 (xa xb xc:List AV):Bool:=(q78 xa && (q78 xb && q71 xc))
def v98_0 (xa xb xc:List AV):List AV:=(v78_0 xa)
def v98_1 (xa xb xc:List AV):List AV:=(v78_0 xb)
def v98_2 (xa xb xc:List AV):List AV:=(v71_0 xc)
theorem e98 (xa xb xc:List AV):funA c98 0 98 [AV.agg [AV.sl [.int .i64] xa,AV.sl [.int .i64] xb,AV.sl [.int .i64,.int .i64] xc]]=(bif q78 xa then (bif q78 xb then (bif q71 xc then some (AV.agg [AV.fl [.int .i64] (v78_0 xa),AV.fl [.int .i64] (v78_0 xb),AV.fl [.int .i64,.int .i64] (v71_0 xc)])
 else none)
 else none)
 else none):=by kernel_rfl
def m98:TModel
 | [.agg [.sl g0 xa,.sl g1 xb,.sl g2 xc]]=>bif ctsEq g0 ([.int .i64]) && ctsEq g1 ([.int .i64]) && ctsEq g2 ([.int .i64,.int .i64]) then some (q98 xa xb xc,AV.agg [AV.fl [.int .i64] (v98_0 xa xb xc),AV.fl [.int .i64] (v98_1 xa xb xc),AV.fl [.int .i64,.int .i64] (v98_2 xa xb xc)]) else none
 | _=>none
theorem k98:Known Tryz.prog 98:=⟨Tryz.f98,Tryz.func98,by kernel_rfl,by kernel_rfl⟩
theorem meets98:Meets Tryz.prog 98 m98:=by
 refine meet (f:=Tryz.f98) (l:=[]) (hs:=[(98,999,[2])]) (ts:=[(71,m71),(78,m78)]) (ws:=[]) (is:=[]) (ls:=[]) (lvl:=0) mixed k98 Tryz.func98 (by kernel_rfl) noLoop (allT_cons meets71 (allT_cons meets78 allT_nil)) allM_nil noI fun w xs us r hl hv h=>?_
 unfold m98 at h
 split at h
 ·rename_i g0 xa g1 xb g2 xc
  obtain ⟨hg,h⟩:=bif_pair h
  simp only [Bool.and_eq_true] at hg
  obtain ⟨⟨q0,q1⟩,q2⟩:=hg
  obtain rfl:=ctsEq_eq _ _ q0
  obtain rfl:=ctsEq_eq _ _ q1
  obtain rfl:=ctsEq_eq _ _ q2
  obtain ⟨h1,rfl⟩:=pair_inj h
  exact (e98 xa xb xc).trans ((brL (brL (brL1 (fun _=>rfl)))) h1)
 ·cases h
noncomputable def c108:Cfg:=cfg Tryz.prog [(108,999,[8,9,10]),(108,1000,[1,2])] [] [] [] []
def q108 (a0:List AV) (a1 a2 a3:Int):Bool:=((decide (0≤a1) && decide (a1<(a0.length:Int))) && (bif decide (fI (a0.getD a1.toNat .undef) 0<a3) then true else (decide (0≤a2) && decide (a2<(a0.length:Int)))))
def v108_0 (a0:List AV) (a1 a2 a3:Int):Int:=(bif decide (fI (a0.getD a1.toNat .undef) 0<a3) then IntKind.i64.wrap (a1+1) else (bif decide (fI (a0.getD a2.toNat .undef) 0 ≥ a3) then a1 else IntKind.i64.wrap (a1+1)))
def v108_1 (a0:List AV) (a1 a2 a3:Int):Int:=(bif decide (fI (a0.getD a1.toNat .undef) 0<a3) then a2 else IntKind.i64.wrap (a2 - 1))
def v108_2 (a0:List AV) (a1 a2 a3:Int):Bool:=(bif decide (fI (a0.getD a1.toNat .undef) 0<a3) then false else (bif decide (fI (a0.getD a2.toNat .undef) 0 ≥ a3) then false else true))
theorem e108 (a0:List AV) (a1 a2 a3:Int):funA c108 0 108 [AV.sl [.int .i64] a0,Ai a1,Ai a2,Ai a3]=(bif (decide (0≤a1) && decide (a1<(a0.length:Int))) then (bif decide (fI (a0.getD a1.toNat .undef) 0<a3) then some (AV.tup [Ai (IntKind.i64.wrap (a1+1)),Ai a2,AV.bool false])
 else (bif (decide (0≤a2) && decide (a2<(a0.length:Int))) then (bif decide (fI (a0.getD a2.toNat .undef) 0 ≥ a3) then some (AV.tup [Ai a1,Ai (IntKind.i64.wrap (a2 - 1)),AV.bool false])
 else some (AV.tup [Ai (IntKind.i64.wrap (a1+1)),Ai (IntKind.i64.wrap (a2 - 1)),AV.bool true]))
 else none))
 else none):=by kernel_rfl
def m108:TModel
 | [.sl g0 a0,.int .i64 a1,.int .i64 a2,.int .i64 a3]=>bif ctsEq g0 ([.int .i64]) then some (q108 a0 a1 a2 a3,AV.tup [AV.int .i64 (v108_0 a0 a1 a2 a3),AV.int .i64 (v108_1 a0 a1 a2 a3),AV.bool (v108_2 a0 a1 a2 a3)]) else none
 | _=>none
theorem k108:Known Tryz.prog 108:=⟨Tryz.f108,Tryz.func108,by kernel_rfl,by kernel_rfl⟩
theorem meets108:Meets Tryz.prog 108 m108:=by
 refine meet (f:=Tryz.f108) (l:=[]) (hs:=[(108,999,[8,9,10]),(108,1000,[1,2])]) (ts:=[]) (ws:=[]) (is:=[]) (ls:=[]) (lvl:=0) mixed k108 Tryz.func108 (by kernel_rfl) noLoop allT_nil allM_nil noI fun w xs us r hl hv h=>?_
 unfold m108 at h
 split at h
 ·rename_i g0 a0 a1 a2 a3
  obtain ⟨hg,h⟩:=bif_pair h
  have q0:=hg
  obtain rfl:=ctsEq_eq _ _ q0
  obtain ⟨h1,rfl⟩:=pair_inj h
  exact (e108 a0 a1 a2 a3).trans ((brL (br (fun b=>some (AV.tup [Ai (bif b then IntKind.i64.wrap (a1+1) else (bif decide (fI (a0.getD a2.toNat .undef) 0 ≥ a3) then a1 else IntKind.i64.wrap (a1+1))),Ai (bif b then a2 else IntKind.i64.wrap (a2 - 1)),AV.bool (bif b then false else (bif decide (fI (a0.getD a2.toNat .undef) 0 ≥ a3) then false else true))])) (fun _=>rfl) (brL1 (brT (fun b=>some (AV.tup [Ai (bif b then a1 else IntKind.i64.wrap (a1+1)),Ai (IntKind.i64.wrap (a2 - 1)),AV.bool (bif b then false else true)])) (fun _=>rfl) (fun _=>rfl))))) h1)
 ·cases h
def F99_0 (t3 t12 t13:Int) (h0 h1:List AV):Out ((Int × Int × (List AV) × (List AV))) ((Int × (List AV) × (List AV))):=(bif decide (t12≤t13) then (bif q108 h0 t12 t13 t3 then (bif (v108_2 h0 t12 t13 t3) then (bif (decide (0≤t13) && decide (t13<(h0.length:Int))) then (bif (decide (0≤t12) && decide (t12<(h0.length:Int))) then (bif (decide (0≤t12) && decide (t12<(h0.length:Int))) then (bif (decide (0≤t13) && decide (t13<((h0.set t12.toNat (AV.agg [AV.int .i64 (fI (h0.getD t13.toNat .undef) 0)])).length:Int))) then (bif (decide ((h1.length+([AV.agg [AV.int .i64 t12,AV.int .i64 t13]]).length)*16≤140737488355328) && decide ((h1.length+([AV.agg [AV.int .i64 t12,AV.int .i64 t13]]).length)≤140737488355328)) then .next ((v108_0 h0 t12 t13 t3),(v108_1 h0 t12 t13 t3),(h0.set t12.toNat (AV.agg [AV.int .i64 (fI (h0.getD t13.toNat .undef) 0)])).set t13.toNat (AV.agg [AV.int .i64 (fI (h0.getD t12.toNat .undef) 0)]),h1++([AV.agg [AV.int .i64 t12,AV.int .i64 t13]]))
 else .fail)
 else .fail)
 else .fail)
 else .fail)
 else .fail)
 else .next ((v108_0 h0 t12 t13 t3),(v108_1 h0 t12 t13 t3),h0,h1))
 else .fail)
 else .stop (t12,h0,h1))
def R99_0 (t3:Int):((Int × Int × (List AV) × (List AV)))→Out ((Int × Int × (List AV) × (List AV))) ((Int × (List AV) × (List AV))):=fun s:Int × Int × (List AV) × (List AV)=>F99_0 t3 s.1 s.2.1 s.2.2.1 s.2.2.2
def E99_0 (t3:Int):((Int × Int × (List AV) × (List AV)))→St:=fun s:Int × Int × (List AV) × (List AV)=>⟨[(3,Ai t3),(10,AV.own [0,10]),(11,AV.own [0,11]),(12,Ai s.1),(13,Ai s.2.1)],[([0,10],⟨false,[.int .i64],s.2.2.1⟩),([0,11],⟨false,[.int .i64,.int .i64],s.2.2.2⟩)]⟩
def K99_0 (k:Kont):((Int × (List AV) × (List AV)))→Option AV:=fun p:Int × (List AV) × (List AV)=>k (.exit 0) ⟨[(11,AV.own [0,11]),(12,Ai p.1)],[([0,10],⟨false,[.int .i64],p.2.1⟩),([0,11],⟨false,[.int .i64,.int .i64],p.2.2⟩)]⟩
def l99_0:LModel:=fun _ _ st k=>match st with
 | ⟨[(3,.int .i64 t3),(10,.own g0),(11,.own g1),(12,.int .i64 t12),(13,.int .i64 t13)],[(g2,⟨false,g3,h0⟩),(g4,⟨false,g5,h1⟩)]⟩=>bif nmEq g0 ([0,10]) && nmEq g1 ([0,11]) && nmEq g2 ([0,10]) && ctsEq g3 ([.int .i64]) && nmEq g4 ([0,11]) && ctsEq g5 ([.int .i64,.int .i64]) then ro (runW (R99_0 t3) ((t13 - t12+1:Int).toNat+1) (t12,t13,h0,h1)) none (K99_0 k) else none
 | _=>none
noncomputable def c99:Cfg:=cfg Tryz.prog [(99,0,[3,10,11,12,13]),(99,999,[8,9]),(99,1000,[11,12]),(99,1001,[3,10,11,12,13])] [(78,m78),(108,m108)] [] [] [(99,0,l99_0)]
theorem s99_0 (ce:CallE) (t3 t12 t13:Int) (h0 h1:List AV) (next:St→Option AV) (k:Kont):stepA (codeA c99 ce [] 99 0 (sub [1,1,1,1,0,0,0] (body Tryz.f99))) (normA [] [3,10,11,12,13]) next ⟨[(3,Ai t3),(10,AV.own [0,10]),(11,AV.own [0,11]),(12,Ai t12),(13,Ai t13)],[([0,10],⟨false,[.int .i64],h0⟩),([0,11],⟨false,[.int .i64,.int .i64],h1⟩)]⟩ k=(bif decide (t12≤t13) then (bif q108 h0 t12 t13 t3 then (bif (v108_2 h0 t12 t13 t3) then (bif (decide (0≤t13) && decide (t13<(h0.length:Int))) then (bif (decide (0≤t12) && decide (t12<(h0.length:Int))) then (bif (decide (0≤t12) && decide (t12<(h0.length:Int))) then (bif (decide (0≤t13) && decide (t13<((h0.set t12.toNat (AV.agg [Ai (fI (h0.getD t13.toNat .undef) 0)])).length:Int))) then (bif (decide ((h1.length+([AV.agg [Ai t12,Ai t13]]).length)*16≤140737488355328) && decide ((h1.length+([AV.agg [Ai t12,Ai t13]]).length)≤140737488355328)) then next ⟨[(3,Ai t3),(10,AV.own [0,10]),(11,AV.own [0,11]),(12,Ai (v108_0 h0 t12 t13 t3)),(13,Ai (v108_1 h0 t12 t13 t3))],[([0,10],⟨false,[.int .i64],(h0.set t12.toNat (AV.agg [Ai (fI (h0.getD t13.toNat .undef) 0)])).set t13.toNat (AV.agg [Ai (fI (h0.getD t12.toNat .undef) 0)])⟩),([0,11],⟨false,[.int .i64,.int .i64],h1++([AV.agg [Ai t12,Ai t13]])⟩)]⟩
 else none)
 else none)
 else none)
 else none)
 else none)
 else next ⟨[(3,Ai t3),(10,AV.own [0,10]),(11,AV.own [0,11]),(12,Ai (v108_0 h0 t12 t13 t3)),(13,Ai (v108_1 h0 t12 t13 t3))],[([0,10],⟨false,[.int .i64],h0⟩),([0,11],⟨false,[.int .i64,.int .i64],h1⟩)]⟩)
 else none)
 else k (.exit 0) ⟨[(11,AV.own [0,11]),(12,Ai t12)],[([0,10],⟨false,[.int .i64],h0⟩),([0,11],⟨false,[.int .i64,.int .i64],h1⟩)]⟩):=by kernel_rfl
theorem st99_0 (t3:Int) (ce:CallE) (k:Kont) (s:(Int × Int × (List AV) × (List AV))) (next:St→Option AV):stepA (codeA c99 ce [] 99 0 (sub [1,1,1,1,0,0,0] (body Tryz.f99))) (normA [] [3,10,11,12,13]) next ((E99_0 t3) s) k=(R99_0 t3 s).el none (fun s=>next ((E99_0 t3) s)) (K99_0 k):=(s99_0 ce t3 s.1 s.2.1 s.2.2.1 s.2.2.2 next k).trans (by unfold R99_0;unfold F99_0;simp only [el_cond,el_ro,el_sum,el_fail,el_next,el_stop] <;> rfl)
theorem ok99_0 {ce:CallE}:LoopOK c99 ce [] 99 0 (sub [1,1,1,1,0,0,0] (body Tryz.f99)):=by
 intro m hm st k r h
 obtain rfl:l99_0=m:=Option.some.inj hm
 unfold l99_0 at h
 split at h
 ·rename_i t3 g0 g1 t12 t13 g2 g3 h0 g4 g5 h1
  obtain ⟨hg,h⟩:=bif_some h
  simp only [Bool.and_eq_true] at hg
  obtain ⟨⟨⟨⟨⟨q0,q1⟩,q2⟩,q3⟩,q4⟩,q5⟩:=hg
  obtain rfl:=(nmEq_iff _ _).1 q0
  obtain rfl:=(nmEq_iff _ _).1 q1
  obtain rfl:=(nmEq_iff _ _).1 q2
  obtain rfl:=ctsEq_eq _ _ q3
  obtain rfl:=(nmEq_iff _ _).1 q4
  obtain rfl:=ctsEq_eq _ _ q5
  refine ⟨((t13 - t12+1:Int).toNat+1),?_⟩
  rw [← h]
  exact loop_run (E99_0 t3) (K99_0 k) (st99_0 t3 ce k) _ (t12,t13,h0,h1)
 ·cases h
def q99 (a0:List AV) (a1 a2 a3:Int):Bool:=(bif decide (a1<0) then true else (bif decide (a1 > a2) then true else (bif decide (a2 > (a0.length:Int)) then true else (q78 a0 && (ro (runW (R99_0 a3) (((IntKind.i64.wrap (a2 - 1)) - a1+1:Int).toNat+1) (a1,IntKind.i64.wrap (a2 - 1),(v78_0 a0),([]:List AV))) false (fun p57=>true))))))
def v99_0 (a0:List AV) (a1 a2 a3:Int):List AV:=(bif decide (a1<0) then ([]:List AV) else (bif decide (a1 > a2) then ([]:List AV) else (bif decide (a2 > (a0.length:Int)) then ([]:List AV) else (ro (runW (R99_0 a3) (((IntKind.i64.wrap (a2 - 1)) - a1+1:Int).toNat+1) (a1,IntKind.i64.wrap (a2 - 1),(v78_0 a0),([]:List AV))) [] (fun p57=>p57.2.2)))))
def v99_1 (a0:List AV) (a1 a2 a3:Int):Int:=(bif decide (a1<0) then 0 else (bif decide (a1 > a2) then 0 else (bif decide (a2 > (a0.length:Int)) then 0 else (ro (runW (R99_0 a3) (((IntKind.i64.wrap (a2 - 1)) - a1+1:Int).toNat+1) (a1,IntKind.i64.wrap (a2 - 1),(v78_0 a0),([]:List AV))) 0 (fun p57=>p57.1)))))
theorem e99 (a0:List AV) (a1 a2 a3:Int):funA c99 0 99 [AV.sl [.int .i64] a0,Ai a1,Ai a2,Ai a3]=(bif decide (a1<0) then some (AV.tup [AV.fl [.int .i64,.int .i64] ([]:List AV),Ai 0])
 else (bif decide (a1 > a2) then some (AV.tup [AV.fl [.int .i64,.int .i64] ([]:List AV),Ai 0])
 else (bif decide (a2 > (a0.length:Int)) then some (AV.tup [AV.fl [.int .i64,.int .i64] ([]:List AV),Ai 0])
 else (bif q78 a0 then (ro (runW (R99_0 a3) (((IntKind.i64.wrap (a2 - 1)) - a1+1:Int).toNat+1) (a1,IntKind.i64.wrap (a2 - 1),(v78_0 a0),([]:List AV))) none (fun p57=>some (AV.tup [AV.fl [.int .i64,.int .i64] p57.2.2,Ai p57.1])))
 else none)))):=by kernel_rfl
def m99:TModel
 | [.sl g0 a0,.int .i64 a1,.int .i64 a2,.int .i64 a3]=>bif ctsEq g0 ([.int .i64]) then some (q99 a0 a1 a2 a3,AV.tup [AV.fl [.int .i64,.int .i64] (v99_0 a0 a1 a2 a3),AV.int .i64 (v99_1 a0 a1 a2 a3)]) else none
 | _=>none
theorem k99:Known Tryz.prog 99:=⟨Tryz.f99,Tryz.func99,by kernel_rfl,by kernel_rfl⟩
theorem meets99:Meets Tryz.prog 99 m99:=by
 refine meet (f:=Tryz.f99) (l:=[(0,sub [1,1,1,1,0,0,0] (body Tryz.f99))]) (hs:=[(99,0,[3,10,11,12,13]),(99,999,[8,9]),(99,1000,[11,12]),(99,1001,[3,10,11,12,13])]) (ts:=[(78,m78),(108,m108)]) (ws:=[]) (is:=[]) (ls:=[(99,0,l99_0)]) (lvl:=0) mixed k99 Tryz.func99 (by kernel_rfl) (loops_cons ok99_0 noLoop) (allT_cons meets78 (allT_cons meets108 allT_nil)) allM_nil noI fun w xs us r hl hv h=>?_
 unfold m99 at h
 split at h
 ·rename_i g0 a0 a1 a2 a3
  obtain ⟨hg,h⟩:=bif_pair h
  have q0:=hg
  obtain rfl:=ctsEq_eq _ _ q0
  obtain ⟨h1,rfl⟩:=pair_inj h
  exact (e99 a0 a1 a2 a3).trans ((br (fun b=>some (AV.tup [AV.fl [.int .i64,.int .i64] (bif b then ([]:List AV) else (bif decide (a1 > a2) then ([]:List AV) else (bif decide (a2 > (a0.length:Int)) then ([]:List AV) else (ro (runW (R99_0 a3) (((IntKind.i64.wrap (a2 - 1)) - a1+1:Int).toNat+1) (a1,IntKind.i64.wrap (a2 - 1),(v78_0 a0),([]:List AV))) [] (fun p57=>p57.2.2))))),Ai (bif b then 0 else (bif decide (a1 > a2) then 0 else (bif decide (a2 > (a0.length:Int)) then 0 else (ro (runW (R99_0 a3) (((IntKind.i64.wrap (a2 - 1)) - a1+1:Int).toNat+1) (a1,IntKind.i64.wrap (a2 - 1),(v78_0 a0),([]:List AV))) 0 (fun p57=>p57.1)))))])) (fun _=>rfl) (br (fun b=>some (AV.tup [AV.fl [.int .i64,.int .i64] (bif b then ([]:List AV) else (bif decide (a2 > (a0.length:Int)) then ([]:List AV) else (ro (runW (R99_0 a3) (((IntKind.i64.wrap (a2 - 1)) - a1+1:Int).toNat+1) (a1,IntKind.i64.wrap (a2 - 1),(v78_0 a0),([]:List AV))) [] (fun p57=>p57.2.2)))),Ai (bif b then 0 else (bif decide (a2 > (a0.length:Int)) then 0 else (ro (runW (R99_0 a3) (((IntKind.i64.wrap (a2 - 1)) - a1+1:Int).toNat+1) (a1,IntKind.i64.wrap (a2 - 1),(v78_0 a0),([]:List AV))) 0 (fun p57=>p57.1))))])) (fun _=>rfl) (br (fun b=>some (AV.tup [AV.fl [.int .i64,.int .i64] (bif b then ([]:List AV) else (ro (runW (R99_0 a3) (((IntKind.i64.wrap (a2 - 1)) - a1+1:Int).toNat+1) (a1,IntKind.i64.wrap (a2 - 1),(v78_0 a0),([]:List AV))) [] (fun p57=>p57.2.2))),Ai (bif b then 0 else (ro (runW (R99_0 a3) (((IntKind.i64.wrap (a2 - 1)) - a1+1:Int).toNat+1) (a1,IntKind.i64.wrap (a2 - 1),(v78_0 a0),([]:List AV))) 0 (fun p57=>p57.1)))])) (fun _=>rfl) (brL (brO (fun o:Option ((Int × (List AV) × (List AV)))=>some (AV.tup [AV.fl [.int .i64,.int .i64] (ro o [] (fun p57=>p57.2.2)),Ai (ro o 0 (fun p57=>p57.1))])) (fun p57=>(fun _=>rfl))))))) h1)
 ·cases h
def F100_0 (t7:Int) (t21:List AV) (t22:Int) (h2_0 h2_1 h2_2 h3:List AV) (t23:Int) (h0 h1:List AV):Out ((Int × (List AV) × (List AV))) (((List AV) × (List AV)) ⊕ ((List AV) × (List AV) × (List AV) × (List AV) × Int × Int × (List AV))):=(bif decide (t23<t22) then (bif (decide (0≤t23) && decide (t23<(t21.length:Int))) then (bif decide (fI (t21.getD t23.toNat .undef) 0<0) then (bif q98 h2_0 h2_1 h2_2 then .stop (.inr (h0,h1,(v98_0 h2_0 h2_1 h2_2),(v98_1 h2_0 h2_1 h2_2),fI (t21.getD t23.toNat .undef) 0,fI (t21.getD t23.toNat .undef) 1,(v98_2 h2_0 h2_1 h2_2)))
 else .fail)
 else (bif decide (fI (t21.getD t23.toNat .undef) 0 ≥ t7) then (bif q98 h2_0 h2_1 h2_2 then .stop (.inr (h0,h1,(v98_0 h2_0 h2_1 h2_2),(v98_1 h2_0 h2_1 h2_2),fI (t21.getD t23.toNat .undef) 0,fI (t21.getD t23.toNat .undef) 1,(v98_2 h2_0 h2_1 h2_2)))
 else .fail)
 else (bif decide (fI (t21.getD t23.toNat .undef) 1<0) then (bif q98 h2_0 h2_1 h2_2 then .stop (.inr (h0,h1,(v98_0 h2_0 h2_1 h2_2),(v98_1 h2_0 h2_1 h2_2),fI (t21.getD t23.toNat .undef) 0,fI (t21.getD t23.toNat .undef) 1,(v98_2 h2_0 h2_1 h2_2)))
 else .fail)
 else (bif decide (fI (t21.getD t23.toNat .undef) 1 ≥ t7) then (bif q98 h2_0 h2_1 h2_2 then .stop (.inr (h0,h1,(v98_0 h2_0 h2_1 h2_2),(v98_1 h2_0 h2_1 h2_2),fI (t21.getD t23.toNat .undef) 0,fI (t21.getD t23.toNat .undef) 1,(v98_2 h2_0 h2_1 h2_2)))
 else .fail)
 else (bif (decide (0≤fI (t21.getD t23.toNat .undef) 1) && decide (fI (t21.getD t23.toNat .undef) 1<(h0.length:Int))) then (bif (decide (0≤fI (t21.getD t23.toNat .undef) 0) && decide (fI (t21.getD t23.toNat .undef) 0<(h0.length:Int))) then (bif (decide (0≤fI (t21.getD t23.toNat .undef) 0) && decide (fI (t21.getD t23.toNat .undef) 0<(h0.length:Int))) then (bif (decide (0≤fI (t21.getD t23.toNat .undef) 1) && decide (fI (t21.getD t23.toNat .undef) 1<((h0.set (fI (t21.getD t23.toNat .undef) 0).toNat (AV.agg [AV.int .i64 (fI (h0.getD (fI (t21.getD t23.toNat .undef) 1).toNat .undef) 0)])).length:Int))) then (bif (decide (0≤fI (t21.getD t23.toNat .undef) 1) && decide (fI (t21.getD t23.toNat .undef) 1<(h1.length:Int))) then (bif (decide (0≤fI (t21.getD t23.toNat .undef) 0) && decide (fI (t21.getD t23.toNat .undef) 0<(h1.length:Int))) then (bif (decide (0≤fI (t21.getD t23.toNat .undef) 0) && decide (fI (t21.getD t23.toNat .undef) 0<(h1.length:Int))) then (bif (decide (0≤fI (t21.getD t23.toNat .undef) 1) && decide (fI (t21.getD t23.toNat .undef) 1<((h1.set (fI (t21.getD t23.toNat .undef) 0).toNat (AV.agg [AV.int .i64 (fI (h1.getD (fI (t21.getD t23.toNat .undef) 1).toNat .undef) 0)])).length:Int))) then .next (IntKind.i64.wrap (t23+1),(h0.set (fI (t21.getD t23.toNat .undef) 0).toNat (AV.agg [AV.int .i64 (fI (h0.getD (fI (t21.getD t23.toNat .undef) 1).toNat .undef) 0)])).set (fI (t21.getD t23.toNat .undef) 1).toNat (AV.agg [AV.int .i64 (fI (h0.getD (fI (t21.getD t23.toNat .undef) 0).toNat .undef) 0)]),(h1.set (fI (t21.getD t23.toNat .undef) 0).toNat (AV.agg [AV.int .i64 (fI (h1.getD (fI (t21.getD t23.toNat .undef) 1).toNat .undef) 0)])).set (fI (t21.getD t23.toNat .undef) 1).toNat (AV.agg [AV.int .i64 (fI (h1.getD (fI (t21.getD t23.toNat .undef) 0).toNat .undef) 0)]))
 else .fail)
 else .fail)
 else .fail)
 else .fail)
 else .fail)
 else .fail)
 else .fail)
 else .fail)))))
 else .fail)
 else .stop (.inl (h0,h1)))
def R100_0 (t7:Int) (t21:List AV) (t22:Int) (h2_0 h2_1 h2_2 h3:List AV):((Int × (List AV) × (List AV)))→Out ((Int × (List AV) × (List AV))) (((List AV) × (List AV)) ⊕ ((List AV) × (List AV) × (List AV) × (List AV) × Int × Int × (List AV))):=fun s:Int × (List AV) × (List AV)=>F100_0 t7 t21 t22 h2_0 h2_1 h2_2 h3 s.1 s.2.1 s.2.2
def E100_0 (t7:Int) (t21:List AV) (t22:Int) (h2_0 h2_1 h2_2 h3:List AV):((Int × (List AV) × (List AV)))→St:=fun s:Int × (List AV) × (List AV)=>⟨[(2,AV.ptr [0,2] 0 0),(4,AV.ptr [0,4] 0 0),(6,AV.ptr [0,6] 0 0),(7,Ai t7),(21,AV.sl [.int .i64,.int .i64] t21),(22,Ai t22),(23,Ai s.1)],[([0,0,6],⟨false,[.int .i64],s.2.1⟩),([0,1,6],⟨false,[.int .i64],s.2.2⟩),([0,2],⟨true,[],[AV.agg [AV.sl [.int .i64] h2_0,AV.sl [.int .i64] h2_1,AV.sl [.int .i64,.int .i64] h2_2]]⟩),([0,2,6],⟨false,[.int .i64,.int .i64],h3⟩),([0,4],⟨true,[],[AV.agg [AV.snil,AV.snil,AV.snil]]⟩),([0,6],⟨true,[],[AV.agg [AV.own [0,0,6],AV.own [0,1,6],AV.own [0,2,6]]]⟩)]⟩
def K100_0 (h2_0 h2_1 h2_2 h3:List AV) (k:Kont):(((List AV) × (List AV)) ⊕ ((List AV) × (List AV) × (List AV) × (List AV) × Int × Int × (List AV)))→Option AV:=sumE (fun p:(List AV) × (List AV)=>k (.exit 0) ⟨[(4,AV.ptr [0,4] 0 0),(6,AV.ptr [0,6] 0 0)],[([0,0,6],⟨false,[.int .i64],p.1⟩),([0,1,6],⟨false,[.int .i64],p.2⟩),([0,2],⟨true,[],[AV.agg [AV.sl [.int .i64] h2_0,AV.sl [.int .i64] h2_1,AV.sl [.int .i64,.int .i64] h2_2]]⟩),([0,2,6],⟨false,[.int .i64,.int .i64],h3⟩),([0,4],⟨true,[],[AV.agg [AV.snil,AV.snil,AV.snil]]⟩),([0,6],⟨true,[],[AV.agg [AV.own [0,0,6],AV.own [0,1,6],AV.own [0,2,6]]]⟩)]⟩) (fun p:(List AV) × (List AV) × (List AV) × (List AV) × Int × Int × (List AV)=>k .ret ⟨[(4,AV.ptr [0,4] 0 0),(5,AV.bool false)],[([0,0,6],⟨false,[.int .i64],p.1⟩),([0,1,6],⟨false,[.int .i64],p.2.1⟩),([0,1,48],⟨false,[.int .i64],p.2.2.1⟩),([0,2],⟨true,[],[AV.agg [AV.sl [.int .i64] h2_0,AV.sl [.int .i64] h2_1,AV.sl [.int .i64,.int .i64] h2_2]]⟩),([0,2,6],⟨false,[.int .i64,.int .i64],h3⟩),([0,4],⟨true,[],[AV.agg [AV.own [0,1,48],AV.own [1,1,48],AV.own [2,1,48]]]⟩),([0,6],⟨true,[],[AV.agg [AV.own [0,0,6],AV.own [0,1,6],AV.own [0,2,6]]]⟩),([1,1,48],⟨false,[.int .i64],p.2.2.2.1⟩),([1,9],⟨true,[],[AV.agg [Ai p.2.2.2.2.1,Ai p.2.2.2.2.2.1]]⟩),([2,1,48],⟨false,[.int .i64,.int .i64],p.2.2.2.2.2.2⟩)]⟩)
def l100_0:LModel:=fun _ _ st k=>match st with
 | ⟨[(2,.ptr g0 g1 g2),(4,.ptr g3 g4 g5),(6,.ptr g6 g7 g8),(7,.int .i64 t7),(21,.sl g9 t21),(22,.int .i64 t22),(23,.int .i64 t23)],[(g10,⟨false,g11,h0⟩),(g12,⟨false,g13,h1⟩),(g14,⟨true,[],[.agg [.sl g15 h2_0,.sl g16 h2_1,.sl g17 h2_2]]⟩),(g18,⟨false,g19,h3⟩),(g20,⟨true,[],[.agg [.snil,.snil,.snil]]⟩),(g21,⟨true,[],[.agg [.own g22,.own g23,.own g24]]⟩)]⟩=>bif nmEq g0 ([0,2]) && Nat.beq g1 0 && Nat.beq g2 0 && nmEq g3 ([0,4]) && Nat.beq g4 0 && Nat.beq g5 0 && nmEq g6 ([0,6]) && Nat.beq g7 0 && Nat.beq g8 0 && ctsEq g9 ([.int .i64,.int .i64]) && nmEq g10 ([0,0,6]) && ctsEq g11 ([.int .i64]) && nmEq g12 ([0,1,6]) && ctsEq g13 ([.int .i64]) && nmEq g14 ([0,2]) && ctsEq g15 ([.int .i64]) && ctsEq g16 ([.int .i64]) && ctsEq g17 ([.int .i64,.int .i64]) && nmEq g18 ([0,2,6]) && ctsEq g19 ([.int .i64,.int .i64]) && nmEq g20 ([0,4]) && nmEq g21 ([0,6]) && nmEq g22 ([0,0,6]) && nmEq g23 ([0,1,6]) && nmEq g24 ([0,2,6]) then ro (runW (R100_0 t7 t21 t22 h2_0 h2_1 h2_2 h3) ((t22 - t23:Int).toNat+1) (t23,h0,h1)) none (K100_0 h2_0 h2_1 h2_2 h3 k) else none
 | _=>none
noncomputable def c100:Cfg:=cfg Tryz.prog [(100,0,[2,4,6,7,21,22,23]),(100,999,[4,5]),(100,1000,[4,6]),(100,1001,[2,4,6,7,21,22,23])] [(98,m98)] [] [] [(100,0,l100_0)]
theorem s100_0 (ce:CallE) (t7:Int) (t21:List AV) (t22 t23:Int) (h0 h1 h2_0 h2_1 h2_2 h3:List AV) (next:St→Option AV) (k:Kont):stepA (codeA c100 ce [] 100 0 (sub [1,1,1,0,1,0,0] (body Tryz.f100))) (normA [] [2,4,6,7,21,22,23]) next ⟨[(2,AV.ptr [0,2] 0 0),(4,AV.ptr [0,4] 0 0),(6,AV.ptr [0,6] 0 0),(7,Ai t7),(21,AV.sl [.int .i64,.int .i64] t21),(22,Ai t22),(23,Ai t23)],[([0,0,6],⟨false,[.int .i64],h0⟩),([0,1,6],⟨false,[.int .i64],h1⟩),([0,2],⟨true,[],[AV.agg [AV.sl [.int .i64] h2_0,AV.sl [.int .i64] h2_1,AV.sl [.int .i64,.int .i64] h2_2]]⟩),([0,2,6],⟨false,[.int .i64,.int .i64],h3⟩),([0,4],⟨true,[],[AV.agg [AV.snil,AV.snil,AV.snil]]⟩),([0,6],⟨true,[],[AV.agg [AV.own [0,0,6],AV.own [0,1,6],AV.own [0,2,6]]]⟩)]⟩ k=(bif decide (t23<t22) then (bif (decide (0≤t23) && decide (t23<(t21.length:Int))) then (bif decide (fI (t21.getD t23.toNat .undef) 0<0) then (bif q98 h2_0 h2_1 h2_2 then k .ret ⟨[(4,AV.ptr [0,4] 0 0),(5,AV.bool false)],[([0,0,6],⟨false,[.int .i64],h0⟩),([0,1,6],⟨false,[.int .i64],h1⟩),([0,1,48],⟨false,[.int .i64],(v98_0 h2_0 h2_1 h2_2)⟩),([0,2],⟨true,[],[AV.agg [AV.sl [.int .i64] h2_0,AV.sl [.int .i64] h2_1,AV.sl [.int .i64,.int .i64] h2_2]]⟩),([0,2,6],⟨false,[.int .i64,.int .i64],h3⟩),([0,4],⟨true,[],[AV.agg [AV.own [0,1,48],AV.own [1,1,48],AV.own [2,1,48]]]⟩),([0,6],⟨true,[],[AV.agg [AV.own [0,0,6],AV.own [0,1,6],AV.own [0,2,6]]]⟩),([1,1,48],⟨false,[.int .i64],(v98_1 h2_0 h2_1 h2_2)⟩),([1,9],⟨true,[],[AV.agg [Ai (fI (t21.getD t23.toNat .undef) 0),Ai (fI (t21.getD t23.toNat .undef) 1)]]⟩),([2,1,48],⟨false,[.int .i64,.int .i64],(v98_2 h2_0 h2_1 h2_2)⟩)]⟩
 else none)
 else (bif decide (fI (t21.getD t23.toNat .undef) 0 ≥ t7) then (bif q98 h2_0 h2_1 h2_2 then k .ret ⟨[(4,AV.ptr [0,4] 0 0),(5,AV.bool false)],[([0,0,6],⟨false,[.int .i64],h0⟩),([0,1,6],⟨false,[.int .i64],h1⟩),([0,1,48],⟨false,[.int .i64],(v98_0 h2_0 h2_1 h2_2)⟩),([0,2],⟨true,[],[AV.agg [AV.sl [.int .i64] h2_0,AV.sl [.int .i64] h2_1,AV.sl [.int .i64,.int .i64] h2_2]]⟩),([0,2,6],⟨false,[.int .i64,.int .i64],h3⟩),([0,4],⟨true,[],[AV.agg [AV.own [0,1,48],AV.own [1,1,48],AV.own [2,1,48]]]⟩),([0,6],⟨true,[],[AV.agg [AV.own [0,0,6],AV.own [0,1,6],AV.own [0,2,6]]]⟩),([1,1,48],⟨false,[.int .i64],(v98_1 h2_0 h2_1 h2_2)⟩),([1,9],⟨true,[],[AV.agg [Ai (fI (t21.getD t23.toNat .undef) 0),Ai (fI (t21.getD t23.toNat .undef) 1)]]⟩),([2,1,48],⟨false,[.int .i64,.int .i64],(v98_2 h2_0 h2_1 h2_2)⟩)]⟩
 else none)
 else (bif decide (fI (t21.getD t23.toNat .undef) 1<0) then (bif q98 h2_0 h2_1 h2_2 then k .ret ⟨[(4,AV.ptr [0,4] 0 0),(5,AV.bool false)],[([0,0,6],⟨false,[.int .i64],h0⟩),([0,1,6],⟨false,[.int .i64],h1⟩),([0,1,48],⟨false,[.int .i64],(v98_0 h2_0 h2_1 h2_2)⟩),([0,2],⟨true,[],[AV.agg [AV.sl [.int .i64] h2_0,AV.sl [.int .i64] h2_1,AV.sl [.int .i64,.int .i64] h2_2]]⟩),([0,2,6],⟨false,[.int .i64,.int .i64],h3⟩),([0,4],⟨true,[],[AV.agg [AV.own [0,1,48],AV.own [1,1,48],AV.own [2,1,48]]]⟩),([0,6],⟨true,[],[AV.agg [AV.own [0,0,6],AV.own [0,1,6],AV.own [0,2,6]]]⟩),([1,1,48],⟨false,[.int .i64],(v98_1 h2_0 h2_1 h2_2)⟩),([1,9],⟨true,[],[AV.agg [Ai (fI (t21.getD t23.toNat .undef) 0),Ai (fI (t21.getD t23.toNat .undef) 1)]]⟩),([2,1,48],⟨false,[.int .i64,.int .i64],(v98_2 h2_0 h2_1 h2_2)⟩)]⟩
 else none)
 else (bif decide (fI (t21.getD t23.toNat .undef) 1 ≥ t7) then (bif q98 h2_0 h2_1 h2_2 then k .ret ⟨[(4,AV.ptr [0,4] 0 0),(5,AV.bool false)],[([0,0,6],⟨false,[.int .i64],h0⟩),([0,1,6],⟨false,[.int .i64],h1⟩),([0,1,48],⟨false,[.int .i64],(v98_0 h2_0 h2_1 h2_2)⟩),([0,2],⟨true,[],[AV.agg [AV.sl [.int .i64] h2_0,AV.sl [.int .i64] h2_1,AV.sl [.int .i64,.int .i64] h2_2]]⟩),([0,2,6],⟨false,[.int .i64,.int .i64],h3⟩),([0,4],⟨true,[],[AV.agg [AV.own [0,1,48],AV.own [1,1,48],AV.own [2,1,48]]]⟩),([0,6],⟨true,[],[AV.agg [AV.own [0,0,6],AV.own [0,1,6],AV.own [0,2,6]]]⟩),([1,1,48],⟨false,[.int .i64],(v98_1 h2_0 h2_1 h2_2)⟩),([1,9],⟨true,[],[AV.agg [Ai (fI (t21.getD t23.toNat .undef) 0),Ai (fI (t21.getD t23.toNat .undef) 1)]]⟩),([2,1,48],⟨false,[.int .i64,.int .i64],(v98_2 h2_0 h2_1 h2_2)⟩)]⟩
 else none)
 else (bif (decide (0≤fI (t21.getD t23.toNat .undef) 1) && decide (fI (t21.getD t23.toNat .undef) 1<(h0.length:Int))) then (bif (decide (0≤fI (t21.getD t23.toNat .undef) 0) && decide (fI (t21.getD t23.toNat .undef) 0<(h0.length:Int))) then (bif (decide (0≤fI (t21.getD t23.toNat .undef) 0) && decide (fI (t21.getD t23.toNat .undef) 0<(h0.length:Int))) then (bif (decide (0≤fI (t21.getD t23.toNat .undef) 1) && decide (fI (t21.getD t23.toNat .undef) 1<((h0.set (fI (t21.getD t23.toNat .undef) 0).toNat (AV.agg [Ai (fI (h0.getD (fI (t21.getD t23.toNat .undef) 1).toNat .undef) 0)])).length:Int))) then (bif (decide (0≤fI (t21.getD t23.toNat .undef) 1) && decide (fI (t21.getD t23.toNat .undef) 1<(h1.length:Int))) then (bif (decide (0≤fI (t21.getD t23.toNat .undef) 0) && decide (fI (t21.getD t23.toNat .undef) 0<(h1.length:Int))) then (bif (decide (0≤fI (t21.getD t23.toNat .undef) 0) && decide (fI (t21.getD t23.toNat .undef) 0<(h1.length:Int))) then (bif (decide (0≤fI (t21.getD t23.toNat .undef) 1) && decide (fI (t21.getD t23.toNat .undef) 1<((h1.set (fI (t21.getD t23.toNat .undef) 0).toNat (AV.agg [Ai (fI (h1.getD (fI (t21.getD t23.toNat .undef) 1).toNat .undef) 0)])).length:Int))) then next ⟨[(2,AV.ptr [0,2] 0 0),(4,AV.ptr [0,4] 0 0),(6,AV.ptr [0,6] 0 0),(7,Ai t7),(21,AV.sl [.int .i64,.int .i64] t21),(22,Ai t22),(23,Ai (IntKind.i64.wrap (t23+1)))],[([0,0,6],⟨false,[.int .i64],(h0.set (fI (t21.getD t23.toNat .undef) 0).toNat (AV.agg [Ai (fI (h0.getD (fI (t21.getD t23.toNat .undef) 1).toNat .undef) 0)])).set (fI (t21.getD t23.toNat .undef) 1).toNat (AV.agg [Ai (fI (h0.getD (fI (t21.getD t23.toNat .undef) 0).toNat .undef) 0)])⟩),([0,1,6],⟨false,[.int .i64],(h1.set (fI (t21.getD t23.toNat .undef) 0).toNat (AV.agg [Ai (fI (h1.getD (fI (t21.getD t23.toNat .undef) 1).toNat .undef) 0)])).set (fI (t21.getD t23.toNat .undef) 1).toNat (AV.agg [Ai (fI (h1.getD (fI (t21.getD t23.toNat .undef) 0).toNat .undef) 0)])⟩),([0,2],⟨true,[],[AV.agg [AV.sl [.int .i64] h2_0,AV.sl [.int .i64] h2_1,AV.sl [.int .i64,.int .i64] h2_2]]⟩),([0,2,6],⟨false,[.int .i64,.int .i64],h3⟩),([0,4],⟨true,[],[AV.agg [AV.snil,AV.snil,AV.snil]]⟩),([0,6],⟨true,[],[AV.agg [AV.own [0,0,6],AV.own [0,1,6],AV.own [0,2,6]]]⟩)]⟩
 else none)
 else none)
 else none)
 else none)
 else none)
 else none)
 else none)
 else none)))))
 else none)
 else k (.exit 0) ⟨[(4,AV.ptr [0,4] 0 0),(6,AV.ptr [0,6] 0 0)],[([0,0,6],⟨false,[.int .i64],h0⟩),([0,1,6],⟨false,[.int .i64],h1⟩),([0,2],⟨true,[],[AV.agg [AV.sl [.int .i64] h2_0,AV.sl [.int .i64] h2_1,AV.sl [.int .i64,.int .i64] h2_2]]⟩),([0,2,6],⟨false,[.int .i64,.int .i64],h3⟩),([0,4],⟨true,[],[AV.agg [AV.snil,AV.snil,AV.snil]]⟩),([0,6],⟨true,[],[AV.agg [AV.own [0,0,6],AV.own [0,1,6],AV.own [0,2,6]]]⟩)]⟩):=by kernel_rfl
theorem st100_0 (t7:Int) (t21:List AV) (t22:Int) (h2_0 h2_1 h2_2 h3:List AV) (ce:CallE) (k:Kont) (s:(Int × (List AV) × (List AV))) (next:St→Option AV):stepA (codeA c100 ce [] 100 0 (sub [1,1,1,0,1,0,0] (body Tryz.f100))) (normA [] [2,4,6,7,21,22,23]) next ((E100_0 t7 t21 t22 h2_0 h2_1 h2_2 h3) s) k=(R100_0 t7 t21 t22 h2_0 h2_1 h2_2 h3 s).el none (fun s=>next ((E100_0 t7 t21 t22 h2_0 h2_1 h2_2 h3) s)) (K100_0 h2_0 h2_1 h2_2 h3 k):=(s100_0 ce t7 t21 t22 s.1 s.2.1 s.2.2 h2_0 h2_1 h2_2 h3 next k).trans (by unfold R100_0;unfold F100_0;simp only [el_cond,el_ro,el_sum,el_fail,el_next,el_stop] <;> rfl)
theorem ok100_0 {ce:CallE}:LoopOK c100 ce [] 100 0 (sub [1,1,1,0,1,0,0] (body Tryz.f100)):=by
 intro m hm st k r h
 obtain rfl:l100_0=m:=Option.some.inj hm
 unfold l100_0 at h
 split at h
 ·rename_i g0 g1 g2 g3 g4 g5 g6 g7 g8 t7 g9 t21 t22 t23 g10 g11 h0 g12 g13 h1 g14 g15 h2_0 g16 h2_1 g17 h2_2 g18 g19 h3 g20 g21 g22 g23 g24
  obtain ⟨hg,h⟩:=bif_some h
  simp only [Bool.and_eq_true] at hg
  obtain ⟨⟨⟨⟨⟨⟨⟨⟨⟨⟨⟨⟨⟨⟨⟨⟨⟨⟨⟨⟨⟨⟨⟨⟨q0,q1⟩,q2⟩,q3⟩,q4⟩,q5⟩,q6⟩,q7⟩,q8⟩,q9⟩,q10⟩,q11⟩,q12⟩,q13⟩,q14⟩,q15⟩,q16⟩,q17⟩,q18⟩,q19⟩,q20⟩,q21⟩,q22⟩,q23⟩,q24⟩:=hg
  obtain rfl:=(nmEq_iff _ _).1 q0
  obtain rfl:=Nat.eq_of_beq_eq_true q1
  obtain rfl:=Nat.eq_of_beq_eq_true q2
  obtain rfl:=(nmEq_iff _ _).1 q3
  obtain rfl:=Nat.eq_of_beq_eq_true q4
  obtain rfl:=Nat.eq_of_beq_eq_true q5
  obtain rfl:=(nmEq_iff _ _).1 q6
  obtain rfl:=Nat.eq_of_beq_eq_true q7
  obtain rfl:=Nat.eq_of_beq_eq_true q8
  obtain rfl:=ctsEq_eq _ _ q9
  obtain rfl:=(nmEq_iff _ _).1 q10
  obtain rfl:=ctsEq_eq _ _ q11
  obtain rfl:=(nmEq_iff _ _).1 q12
  obtain rfl:=ctsEq_eq _ _ q13
  obtain rfl:=(nmEq_iff _ _).1 q14
  obtain rfl:=ctsEq_eq _ _ q15
  obtain rfl:=ctsEq_eq _ _ q16
  obtain rfl:=ctsEq_eq _ _ q17
  obtain rfl:=(nmEq_iff _ _).1 q18
  obtain rfl:=ctsEq_eq _ _ q19
  obtain rfl:=(nmEq_iff _ _).1 q20
  obtain rfl:=(nmEq_iff _ _).1 q21
  obtain rfl:=(nmEq_iff _ _).1 q22
  obtain rfl:=(nmEq_iff _ _).1 q23
  obtain rfl:=(nmEq_iff _ _).1 q24
  refine ⟨((t22 - t23:Int).toNat+1),?_⟩
  rw [← h]
  exact loop_run (E100_0 t7 t21 t22 h2_0 h2_1 h2_2 h3) (K100_0 h2_0 h2_1 h2_2 h3 k) (st100_0 t7 t21 t22 h2_0 h2_1 h2_2 h3 ce k) _ (t23,h0,h1)
 ·cases h
def q100 (xa xb xc a1:List AV):Bool:=(q98 xa xb xc && (bif !decide ((xb.length:Int)=(xa.length:Int)) then true else (ro (runW (R100_0 (xa.length:Int) a1 (a1.length:Int) xa xb xc (v98_2 xa xb xc)) (((a1.length:Int) - 0:Int).toNat+1) (0,(v98_0 xa xb xc),(v98_1 xa xb xc))) false (sumE (fun p58=>true) (fun p59=>true)))))
def v100_0 (xa xb xc a1:List AV):List AV:=(bif !decide ((xb.length:Int)=(xa.length:Int)) then (v98_0 xa xb xc) else (ro (runW (R100_0 (xa.length:Int) a1 (a1.length:Int) xa xb xc (v98_2 xa xb xc)) (((a1.length:Int) - 0:Int).toNat+1) (0,(v98_0 xa xb xc),(v98_1 xa xb xc))) [] (sumE (fun p58=>p58.1) (fun p59=>p59.2.2.1))))
def v100_1 (xa xb xc a1:List AV):List AV:=(bif !decide ((xb.length:Int)=(xa.length:Int)) then (v98_1 xa xb xc) else (ro (runW (R100_0 (xa.length:Int) a1 (a1.length:Int) xa xb xc (v98_2 xa xb xc)) (((a1.length:Int) - 0:Int).toNat+1) (0,(v98_0 xa xb xc),(v98_1 xa xb xc))) [] (sumE (fun p58=>p58.2) (fun p59=>p59.2.2.2.1))))
def v100_2 (xa xb xc a1:List AV):List AV:=(bif !decide ((xb.length:Int)=(xa.length:Int)) then (v98_2 xa xb xc) else (ro (runW (R100_0 (xa.length:Int) a1 (a1.length:Int) xa xb xc (v98_2 xa xb xc)) (((a1.length:Int) - 0:Int).toNat+1) (0,(v98_0 xa xb xc),(v98_1 xa xb xc))) [] (sumE (fun p58=>(v98_2 xa xb xc)) (fun p59=>p59.2.2.2.2.2.2))))
def v100_3 (xa xb xc a1:List AV):Bool:=(bif !decide ((xb.length:Int)=(xa.length:Int)) then false else (ro (runW (R100_0 (xa.length:Int) a1 (a1.length:Int) xa xb xc (v98_2 xa xb xc)) (((a1.length:Int) - 0:Int).toNat+1) (0,(v98_0 xa xb xc),(v98_1 xa xb xc))) false (sumE (fun p58=>true) (fun p59=>false))))
theorem e100 (xa xb xc a1:List AV):funA c100 0 100 [AV.agg [AV.sl [.int .i64] xa,AV.sl [.int .i64] xb,AV.sl [.int .i64,.int .i64] xc],AV.sl [.int .i64,.int .i64] a1]=(bif q98 xa xb xc then (bif !decide ((xb.length:Int)=(xa.length:Int)) then some (AV.tup [AV.agg [AV.fl [.int .i64] (v98_0 xa xb xc),AV.fl [.int .i64] (v98_1 xa xb xc),AV.fl [.int .i64,.int .i64] (v98_2 xa xb xc)],AV.bool false])
 else (ro (runW (R100_0 (xa.length:Int) a1 (a1.length:Int) xa xb xc (v98_2 xa xb xc)) (((a1.length:Int) - 0:Int).toNat+1) (0,(v98_0 xa xb xc),(v98_1 xa xb xc))) none (sumE (fun p58=>some (AV.tup [AV.agg [AV.fl [.int .i64] p58.1,AV.fl [.int .i64] p58.2,AV.fl [.int .i64,.int .i64] (v98_2 xa xb xc)],AV.bool true])) (fun p59=>some (AV.tup [AV.agg [AV.fl [.int .i64] p59.2.2.1,AV.fl [.int .i64] p59.2.2.2.1,AV.fl [.int .i64,.int .i64] p59.2.2.2.2.2.2],AV.bool false])))))
 else none):=by kernel_rfl
def m100:TModel
 | [.agg [.sl g0 xa,.sl g1 xb,.sl g2 xc],.sl g3 a1]=>bif ctsEq g0 ([.int .i64]) && ctsEq g1 ([.int .i64]) && ctsEq g2 ([.int .i64,.int .i64]) && ctsEq g3 ([.int .i64,.int .i64]) then some (q100 xa xb xc a1,AV.tup [AV.agg [AV.fl [.int .i64] (v100_0 xa xb xc a1),AV.fl [.int .i64] (v100_1 xa xb xc a1),AV.fl [.int .i64,.int .i64] (v100_2 xa xb xc a1)],AV.bool (v100_3 xa xb xc a1)]) else none
 | _=>none
theorem k100:Known Tryz.prog 100:=⟨Tryz.f100,Tryz.func100,by kernel_rfl,by kernel_rfl⟩
theorem meets100:Meets Tryz.prog 100 m100:=by
 refine meet (f:=Tryz.f100) (l:=[(0,sub [1,1,1,0,1,0,0] (body Tryz.f100))]) (hs:=[(100,0,[2,4,6,7,21,22,23]),(100,999,[4,5]),(100,1000,[4,6]),(100,1001,[2,4,6,7,21,22,23])]) (ts:=[(98,m98)]) (ws:=[]) (is:=[]) (ls:=[(100,0,l100_0)]) (lvl:=0) mixed k100 Tryz.func100 (by kernel_rfl) (loops_cons ok100_0 noLoop) (allT_cons meets98 allT_nil) allM_nil noI fun w xs us r hl hv h=>?_
 unfold m100 at h
 split at h
 ·rename_i g0 xa g1 xb g2 xc g3 a1
  obtain ⟨hg,h⟩:=bif_pair h
  simp only [Bool.and_eq_true] at hg
  obtain ⟨⟨⟨q0,q1⟩,q2⟩,q3⟩:=hg
  obtain rfl:=ctsEq_eq _ _ q0
  obtain rfl:=ctsEq_eq _ _ q1
  obtain rfl:=ctsEq_eq _ _ q2
  obtain rfl:=ctsEq_eq _ _ q3
  obtain ⟨h1,rfl⟩:=pair_inj h
  exact (e100 xa xb xc a1).trans ((brL (br (fun b=>some (AV.tup [AV.agg [AV.fl [.int .i64] (bif b then (v98_0 xa xb xc) else (ro (runW (R100_0 (xa.length:Int) a1 (a1.length:Int) xa xb xc (v98_2 xa xb xc)) (((a1.length:Int) - 0:Int).toNat+1) (0,(v98_0 xa xb xc),(v98_1 xa xb xc))) [] (sumE (fun p58=>p58.1) (fun p59=>p59.2.2.1)))),AV.fl [.int .i64] (bif b then (v98_1 xa xb xc) else (ro (runW (R100_0 (xa.length:Int) a1 (a1.length:Int) xa xb xc (v98_2 xa xb xc)) (((a1.length:Int) - 0:Int).toNat+1) (0,(v98_0 xa xb xc),(v98_1 xa xb xc))) [] (sumE (fun p58=>p58.2) (fun p59=>p59.2.2.2.1)))),AV.fl [.int .i64,.int .i64] (bif b then (v98_2 xa xb xc) else (ro (runW (R100_0 (xa.length:Int) a1 (a1.length:Int) xa xb xc (v98_2 xa xb xc)) (((a1.length:Int) - 0:Int).toNat+1) (0,(v98_0 xa xb xc),(v98_1 xa xb xc))) [] (sumE (fun p58=>(v98_2 xa xb xc)) (fun p59=>p59.2.2.2.2.2.2))))],AV.bool (bif b then false else (ro (runW (R100_0 (xa.length:Int) a1 (a1.length:Int) xa xb xc (v98_2 xa xb xc)) (((a1.length:Int) - 0:Int).toNat+1) (0,(v98_0 xa xb xc),(v98_1 xa xb xc))) false (sumE (fun p58=>true) (fun p59=>false))))])) (fun _=>rfl) (brO (fun o:Option (((List AV) × (List AV)) ⊕ ((List AV) × (List AV) × (List AV) × (List AV) × Int × Int × (List AV)))=>some (AV.tup [AV.agg [AV.fl [.int .i64] (ro o [] (sumE (fun p58=>p58.1) (fun p59=>p59.2.2.1))),AV.fl [.int .i64] (ro o [] (sumE (fun p58=>p58.2) (fun p59=>p59.2.2.2.1))),AV.fl [.int .i64,.int .i64] (ro o [] (sumE (fun p58=>(v98_2 xa xb xc)) (fun p59=>p59.2.2.2.2.2.2)))],AV.bool (ro o false (sumE (fun p58=>true) (fun p59=>false)))])) (brS (fun o:((List AV) × (List AV)) ⊕ ((List AV) × (List AV) × (List AV) × (List AV) × Int × Int × (List AV))=>some (AV.tup [AV.agg [AV.fl [.int .i64] ((sumE (fun p58=>p58.1) (fun p59=>p59.2.2.1)) o),AV.fl [.int .i64] ((sumE (fun p58=>p58.2) (fun p59=>p59.2.2.2.1)) o),AV.fl [.int .i64,.int .i64] ((sumE (fun p58=>(v98_2 xa xb xc)) (fun p59=>p59.2.2.2.2.2.2)) o)],AV.bool ((sumE (fun p58=>true) (fun p59=>false)) o)])) (fun p58=>(fun _=>rfl)) (fun p59=>(fun _=>rfl)))))) h1)
 ·cases h
noncomputable def c110:Cfg:=cfg Tryz.prog [(110,999,[3])] [] [] [] []
def q110 (xa xb:Int) (a1:AV):Bool:=true
def v110_0 (xa xb:Int) (a1:AV):Bool:=decide (xa > fI a1 0)
theorem e110 (xa xb:Int) (a1:AV):funA c110 0 110 [AV.agg [Ai xa,Ai xb],AV.rptr [.int .i64,.int .i64] a1 0]=some (AV.bool (decide (xa > fI a1 0))):=by kernel_rfl
def m110:TModel
 | [.agg [.int .i64 xa,.int .i64 xb],.rptr g0 a1 g1]=>bif ctsEq g0 ([.int .i64,.int .i64]) && Nat.beq g1 0 then some (true,AV.bool (v110_0 xa xb a1)) else none
 | _=>none
theorem k110:Known Tryz.prog 110:=⟨Tryz.f110,Tryz.func110,by kernel_rfl,by kernel_rfl⟩
theorem meets110:Meets Tryz.prog 110 m110:=by
 refine meet (f:=Tryz.f110) (l:=[]) (hs:=[(110,999,[3])]) (ts:=[]) (ws:=[]) (is:=[]) (ls:=[]) (lvl:=0) mixed k110 Tryz.func110 (by kernel_rfl) noLoop allT_nil allM_nil noI fun w xs us r hl hv h=>?_
 unfold m110 at h
 split at h
 ·rename_i xa xb g0 a1 g1
  obtain ⟨hg,h⟩:=bif_pair h
  simp only [Bool.and_eq_true] at hg
  obtain ⟨q0,q1⟩:=hg
  obtain rfl:=ctsEq_eq _ _ q0
  obtain rfl:=Nat.eq_of_beq_eq_true q1
  obtain ⟨h1,rfl⟩:=pair_inj h
  exact (e110 xa xb a1).trans (of_tt (fun _=>rfl))
 ·cases h
def F109_0 (t0:List AV) (t1:AV) (t7 t8:Int):Out (Int) (Unit ⊕ Int):=(bif decide (t8<t7) then (bif (decide (0≤t8) && decide (t8<(t0.length:Int))) then (bif (v110_0 (fI (t0.getD t8.toNat .undef) 0) (fI (t0.getD t8.toNat .undef) 1) t1) then .stop (.inr t8)
 else .next (IntKind.i64.wrap (t8+1)))
 else .fail)
 else .stop (.inl ()))
def R109_0 (t0:List AV) (t1:AV) (t7:Int):(Int)→Out (Int) (Unit ⊕ Int):=fun s:Int=>F109_0 t0 t1 t7 s
def E109_0 (t0:List AV) (t1:AV) (t7:Int):(Int)→St:=fun s:Int=>⟨[(0,AV.sl [.int .i64,.int .i64] t0),(1,AV.fn 110 [AV.rptr [.int .i64,.int .i64] t1 0]),(7,Ai t7),(8,Ai s)],[]⟩
def K109_0 (k:Kont):(Unit ⊕ Int)→Option AV:=sumE (fun _:Unit=>k (.exit 0) ⟨[],[]⟩) (fun p:Int=>k .ret ⟨[(4,Ai p)],[]⟩)
def l109_0:LModel:=fun _ _ st k=>match st with
 | ⟨[(0,.sl g0 t0),(1,.fn g1 [.rptr g2 t1 g3]),(7,.int .i64 t7),(8,.int .i64 t8)],[]⟩=>bif ctsEq g0 ([.int .i64,.int .i64]) && Nat.beq g1 110 && ctsEq g2 ([.int .i64,.int .i64]) && Nat.beq g3 0 then ro (runW (R109_0 t0 t1 t7) ((t7 - t8:Int).toNat+1) t8) none (K109_0 k) else none
 | _=>none
noncomputable def c109:Cfg:=cfg Tryz.prog [(109,0,[0,1,7,8]),(109,999,[4]),(109,1000,[]),(109,1001,[0,1,7,8])] [(110,m110)] [] [] [(109,0,l109_0)]
theorem s109_0 (ce:CallE) (t0:List AV) (t1:AV) (t7 t8:Int) (next:St→Option AV) (k:Kont):stepA (codeA c109 ce [] 109 0 (sub [1,0,1,0,0] (body Tryz.f109))) (normA [] [0,1,7,8]) next ⟨[(0,AV.sl [.int .i64,.int .i64] t0),(1,AV.fn 110 [AV.rptr [.int .i64,.int .i64] t1 0]),(7,Ai t7),(8,Ai t8)],[]⟩ k=(bif decide (t8<t7) then (bif (decide (0≤t8) && decide (t8<(t0.length:Int))) then (bif (v110_0 (fI (t0.getD t8.toNat .undef) 0) (fI (t0.getD t8.toNat .undef) 1) t1) then k .ret ⟨[(4,Ai t8)],[]⟩
 else next ⟨[(0,AV.sl [.int .i64,.int .i64] t0),(1,AV.fn 110 [AV.rptr [.int .i64,.int .i64] t1 0]),(7,Ai t7),(8,Ai (IntKind.i64.wrap (t8+1)))],[]⟩)
 else none)
 else k (.exit 0) ⟨[],[]⟩):=by kernel_rfl
theorem st109_0 (t0:List AV) (t1:AV) (t7:Int) (ce:CallE) (k:Kont) (s:Int) (next:St→Option AV):stepA (codeA c109 ce [] 109 0 (sub [1,0,1,0,0] (body Tryz.f109))) (normA [] [0,1,7,8]) next ((E109_0 t0 t1 t7) s) k=(R109_0 t0 t1 t7 s).el none (fun s=>next ((E109_0 t0 t1 t7) s)) (K109_0 k):=(s109_0 ce t0 t1 t7 s next k).trans (by unfold R109_0;unfold F109_0;simp only [el_cond,el_ro,el_sum,el_fail,el_next,el_stop] <;> rfl)
theorem ok109_0 {ce:CallE}:LoopOK c109 ce [] 109 0 (sub [1,0,1,0,0] (body Tryz.f109)):=by
 intro m hm st k r h
 obtain rfl:l109_0=m:=Option.some.inj hm
 unfold l109_0 at h
 split at h
 ·rename_i g0 t0 g1 g2 t1 g3 t7 t8
  obtain ⟨hg,h⟩:=bif_some h
  simp only [Bool.and_eq_true] at hg
  obtain ⟨⟨⟨q0,q1⟩,q2⟩,q3⟩:=hg
  obtain rfl:=ctsEq_eq _ _ q0
  obtain rfl:=Nat.eq_of_beq_eq_true q1
  obtain rfl:=ctsEq_eq _ _ q2
  obtain rfl:=Nat.eq_of_beq_eq_true q3
  refine ⟨((t7 - t8:Int).toNat+1),?_⟩
  rw [← h]
  exact loop_run (E109_0 t0 t1 t7) (K109_0 k) (st109_0 t0 t1 t7 ce k) _ t8
 ·cases h
def q109 (a0:List AV) (a1:AV):Bool:=(ro (runW (R109_0 a0 a1 (a0.length:Int)) (((a0.length:Int) - 0:Int).toNat+1) 0) false (sumE (fun _=>true) (fun p61=>true)))
def v109_0 (a0:List AV) (a1:AV):Int:=(ro (runW (R109_0 a0 a1 (a0.length:Int)) (((a0.length:Int) - 0:Int).toNat+1) 0) 0 (sumE (fun _=>(-1)) (fun p61=>p61)))
theorem e109 (a0:List AV) (a1:AV):funA c109 0 109 [AV.sl [.int .i64,.int .i64] a0,AV.fn 110 [AV.rptr [.int .i64,.int .i64] a1 0]]=(ro (runW (R109_0 a0 a1 (a0.length:Int)) (((a0.length:Int) - 0:Int).toNat+1) 0) none (sumE (fun _=>some (Ai (-1))) (fun p61=>some (Ai p61)))):=by kernel_rfl
def m109:TModel
 | [.sl g0 a0,.fn g1 [.rptr g2 a1 g3]]=>bif ctsEq g0 ([.int .i64,.int .i64]) && Nat.beq g1 110 && ctsEq g2 ([.int .i64,.int .i64]) && Nat.beq g3 0 then some (q109 a0 a1,AV.int .i64 (v109_0 a0 a1)) else none
 | _=>none
theorem k109:Known Tryz.prog 109:=⟨Tryz.f109,Tryz.func109,by kernel_rfl,by kernel_rfl⟩
theorem meets109:Meets Tryz.prog 109 m109:=by
 refine meet (f:=Tryz.f109) (l:=[(0,sub [1,0,1,0,0] (body Tryz.f109))]) (hs:=[(109,0,[0,1,7,8]),(109,999,[4]),(109,1000,[]),(109,1001,[0,1,7,8])]) (ts:=[(110,m110)]) (ws:=[]) (is:=[]) (ls:=[(109,0,l109_0)]) (lvl:=0) mixed k109 Tryz.func109 (by kernel_rfl) (loops_cons ok109_0 noLoop) (allT_cons meets110 allT_nil) allM_nil noI fun w xs us r hl hv h=>?_
 unfold m109 at h
 split at h
 ·rename_i g0 a0 g1 g2 a1 g3
  obtain ⟨hg,h⟩:=bif_pair h
  simp only [Bool.and_eq_true] at hg
  obtain ⟨⟨⟨q0,q1⟩,q2⟩,q3⟩:=hg
  obtain rfl:=ctsEq_eq _ _ q0
  obtain rfl:=Nat.eq_of_beq_eq_true q1
  obtain rfl:=ctsEq_eq _ _ q2
  obtain rfl:=Nat.eq_of_beq_eq_true q3
  obtain ⟨h1,rfl⟩:=pair_inj h
  exact (e109 a0 a1).trans ((brO (fun o:Option (Unit ⊕ Int)=>some (Ai (ro o 0 (sumE (fun _=>(-1)) (fun p61=>p61))))) (brS (fun o:Unit ⊕ Int=>some (Ai ((sumE (fun _=>(-1)) (fun p61=>p61)) o))) (fun _=>(fun _=>rfl)) (fun p61=>(fun _=>rfl)))) h1)
 ·cases h
noncomputable def c101:Cfg:=cfg Tryz.prog [(101,999,[4]),(111,999,[6])] [(98,m98),(109,m109)] [] [111] [] [(111,insA Tryz.prog 52)]
def q101 (xa xb xc:List AV) (ya yb:Int):Bool:=(q98 xa xb xc && (q109 (v98_2 xa xb xc) (AV.agg [AV.int .i64 ya,AV.int .i64 yb]) && (bif decide ((v109_0 (v98_2 xa xb xc) (AV.agg [AV.int .i64 ya,AV.int .i64 yb]))<0) then (decide (0≤((v98_2 xa xb xc).length:Int)) && decide (((v98_2 xa xb xc).length:Int)≤((v98_2 xa xb xc).length:Int)) && decide (((v98_2 xa xb xc).length+1)*16≤140737488355328)) else (decide (0≤(v109_0 (v98_2 xa xb xc) (AV.agg [AV.int .i64 ya,AV.int .i64 yb]))) && decide ((v109_0 (v98_2 xa xb xc) (AV.agg [AV.int .i64 ya,AV.int .i64 yb]))≤((v98_2 xa xb xc).length:Int)) && decide (((v98_2 xa xb xc).length+1)*16≤140737488355328)))))
def v101_0 (xa xb xc:List AV) (ya yb:Int):List AV:=(v98_0 xa xb xc)
def v101_1 (xa xb xc:List AV) (ya yb:Int):List AV:=(v98_1 xa xb xc)
def v101_2 (xa xb xc:List AV) (ya yb:Int):List AV:=(bif decide ((v109_0 (v98_2 xa xb xc) (AV.agg [AV.int .i64 ya,AV.int .i64 yb]))<0) then (v98_2 xa xb xc).take (Int.toNat ((v98_2 xa xb xc).length:Int))++([AV.agg [AV.int .i64 ya,AV.int .i64 yb]])++(v98_2 xa xb xc).drop (Int.toNat ((v98_2 xa xb xc).length:Int)) else (v98_2 xa xb xc).take (Int.toNat (v109_0 (v98_2 xa xb xc) (AV.agg [AV.int .i64 ya,AV.int .i64 yb])))++([AV.agg [AV.int .i64 ya,AV.int .i64 yb]])++(v98_2 xa xb xc).drop (Int.toNat (v109_0 (v98_2 xa xb xc) (AV.agg [AV.int .i64 ya,AV.int .i64 yb]))))
theorem e101 (xa xb xc:List AV) (ya yb:Int):funA c101 1 101 [AV.agg [AV.sl [.int .i64] xa,AV.sl [.int .i64] xb,AV.sl [.int .i64,.int .i64] xc],AV.agg [Ai ya,Ai yb]]=(bif q98 xa xb xc then (bif q109 (v98_2 xa xb xc) (AV.agg [Ai ya,Ai yb]) then (bif decide ((v109_0 (v98_2 xa xb xc) (AV.agg [Ai ya,Ai yb]))<0) then (bif (decide (0≤((v98_2 xa xb xc).length:Int)) && decide (((v98_2 xa xb xc).length:Int)≤((v98_2 xa xb xc).length:Int)) && decide (((v98_2 xa xb xc).length+1)*16≤140737488355328)) then some (AV.agg [AV.fl [.int .i64] (v98_0 xa xb xc),AV.fl [.int .i64] (v98_1 xa xb xc),AV.fl [.int .i64,.int .i64] ((v98_2 xa xb xc).take (Int.toNat ((v98_2 xa xb xc).length:Int))++([AV.agg [Ai ya,Ai yb]])++(v98_2 xa xb xc).drop (Int.toNat ((v98_2 xa xb xc).length:Int)))])
 else none)
 else (bif (decide (0≤(v109_0 (v98_2 xa xb xc) (AV.agg [Ai ya,Ai yb]))) && decide ((v109_0 (v98_2 xa xb xc) (AV.agg [Ai ya,Ai yb]))≤((v98_2 xa xb xc).length:Int)) && decide (((v98_2 xa xb xc).length+1)*16≤140737488355328)) then some (AV.agg [AV.fl [.int .i64] (v98_0 xa xb xc),AV.fl [.int .i64] (v98_1 xa xb xc),AV.fl [.int .i64,.int .i64] ((v98_2 xa xb xc).take (Int.toNat (v109_0 (v98_2 xa xb xc) (AV.agg [Ai ya,Ai yb])))++([AV.agg [Ai ya,Ai yb]])++(v98_2 xa xb xc).drop (Int.toNat (v109_0 (v98_2 xa xb xc) (AV.agg [Ai ya,Ai yb]))))])
 else none))
 else none)
 else none):=by kernel_rfl
def m101:TModel
 | [.agg [.sl g0 xa,.sl g1 xb,.sl g2 xc],.agg [.int .i64 ya,.int .i64 yb]]=>bif ctsEq g0 ([.int .i64]) && ctsEq g1 ([.int .i64]) && ctsEq g2 ([.int .i64,.int .i64]) then some (q101 xa xb xc ya yb,AV.agg [AV.fl [.int .i64] (v101_0 xa xb xc ya yb),AV.fl [.int .i64] (v101_1 xa xb xc ya yb),AV.fl [.int .i64,.int .i64] (v101_2 xa xb xc ya yb)]) else none
 | _=>none
theorem k101:Known Tryz.prog 101:=⟨Tryz.f101,Tryz.func101,by kernel_rfl,by kernel_rfl⟩
theorem i101_111:InlK Tryz.prog [(101,999,[4]),(111,999,[6])] [(98,m98),(109,m109)] [] [111] [] 111 [(111,insA Tryz.prog 52)]:=⟨⟨Tryz.f111,Tryz.func111,by kernel_rfl,by kernel_rfl⟩,Tryz.f111,[],Tryz.func111,by kernel_rfl,fun _ _=>noLoop⟩
theorem meets101:Meets Tryz.prog 101 m101:=by
 refine meet (f:=Tryz.f101) (l:=[]) (hs:=[(101,999,[4]),(111,999,[6])]) (ts:=[(98,m98),(109,m109)]) (ws:=[]) (is:=[111]) (ls:=[]) (sp:=[(111,insA Tryz.prog 52)]) (hS:=(allS_cons ins111 allS_nil)) (lvl:=1) mixed k101 Tryz.func101 (by kernel_rfl) noLoop (allT_cons meets98 (allT_cons meets109 allT_nil)) allM_nil (allI_cons i101_111 noI) fun w xs us r hl hv h=>?_
 unfold m101 at h
 split at h
 ·rename_i g0 xa g1 xb g2 xc ya yb
  obtain ⟨hg,h⟩:=bif_pair h
  simp only [Bool.and_eq_true] at hg
  obtain ⟨⟨q0,q1⟩,q2⟩:=hg
  obtain rfl:=ctsEq_eq _ _ q0
  obtain rfl:=ctsEq_eq _ _ q1
  obtain rfl:=ctsEq_eq _ _ q2
  obtain ⟨h1,rfl⟩:=pair_inj h
  exact (e101 xa xb xc ya yb).trans ((brL (brL (br (fun b=>some (AV.agg [AV.fl [.int .i64] (v98_0 xa xb xc),AV.fl [.int .i64] (v98_1 xa xb xc),AV.fl [.int .i64,.int .i64] (bif b then (v98_2 xa xb xc).take (Int.toNat ((v98_2 xa xb xc).length:Int))++([AV.agg [Ai ya,Ai yb]])++(v98_2 xa xb xc).drop (Int.toNat ((v98_2 xa xb xc).length:Int)) else (v98_2 xa xb xc).take (Int.toNat (v109_0 (v98_2 xa xb xc) (AV.agg [Ai ya,Ai yb])))++([AV.agg [Ai ya,Ai yb]])++(v98_2 xa xb xc).drop (Int.toNat (v109_0 (v98_2 xa xb xc) (AV.agg [Ai ya,Ai yb]))))])) (brL1 (fun _=>rfl)) (brL1 (fun _=>rfl))))) h1)
 ·cases h
noncomputable def c91:Cfg:=cfg Tryz.prog [(91,999,[4,5])] [(89,m89),(90,m90),(98,m98),(99,m99),(100,m100),(101,m101)] [] [] []
def q91 (xa xb xc:List AV) (a1:Int):Bool:=(q89 xa xb xc a1 && (bif (v89_0 xa xb xc a1) then q98 xa xb xc else (q90 xa xb xc a1 && (q99 xa (v90_0 xa xb xc a1) (v90_1 xa xb xc a1) a1 && (q100 xa xb xc (v99_0 xa (v90_0 xa xb xc a1) (v90_1 xa xb xc a1) a1) && q101 (v100_0 xa xb xc (v99_0 xa (v90_0 xa xb xc a1) (v90_1 xa xb xc a1) a1)) (v100_1 xa xb xc (v99_0 xa (v90_0 xa xb xc a1) (v90_1 xa xb xc a1) a1)) (v100_2 xa xb xc (v99_0 xa (v90_0 xa xb xc a1) (v90_1 xa xb xc a1) a1)) a1 (v99_1 xa (v90_0 xa xb xc a1) (v90_1 xa xb xc a1) a1))))))
def v91_0 (xa xb xc:List AV) (a1:Int):List AV:=(bif (v89_0 xa xb xc a1) then (v98_0 xa xb xc) else (v101_0 (v100_0 xa xb xc (v99_0 xa (v90_0 xa xb xc a1) (v90_1 xa xb xc a1) a1)) (v100_1 xa xb xc (v99_0 xa (v90_0 xa xb xc a1) (v90_1 xa xb xc a1) a1)) (v100_2 xa xb xc (v99_0 xa (v90_0 xa xb xc a1) (v90_1 xa xb xc a1) a1)) a1 (v99_1 xa (v90_0 xa xb xc a1) (v90_1 xa xb xc a1) a1)))
def v91_1 (xa xb xc:List AV) (a1:Int):List AV:=(bif (v89_0 xa xb xc a1) then (v98_1 xa xb xc) else (v101_1 (v100_0 xa xb xc (v99_0 xa (v90_0 xa xb xc a1) (v90_1 xa xb xc a1) a1)) (v100_1 xa xb xc (v99_0 xa (v90_0 xa xb xc a1) (v90_1 xa xb xc a1) a1)) (v100_2 xa xb xc (v99_0 xa (v90_0 xa xb xc a1) (v90_1 xa xb xc a1) a1)) a1 (v99_1 xa (v90_0 xa xb xc a1) (v90_1 xa xb xc a1) a1)))
def v91_2 (xa xb xc:List AV) (a1:Int):List AV:=(bif (v89_0 xa xb xc a1) then (v98_2 xa xb xc) else (v101_2 (v100_0 xa xb xc (v99_0 xa (v90_0 xa xb xc a1) (v90_1 xa xb xc a1) a1)) (v100_1 xa xb xc (v99_0 xa (v90_0 xa xb xc a1) (v90_1 xa xb xc a1) a1)) (v100_2 xa xb xc (v99_0 xa (v90_0 xa xb xc a1) (v90_1 xa xb xc a1) a1)) a1 (v99_1 xa (v90_0 xa xb xc a1) (v90_1 xa xb xc a1) a1)))
def v91_3 (xa xb xc:List AV) (a1:Int):List AV:=(bif (v89_0 xa xb xc a1) then ([]:List AV) else (v99_0 xa (v90_0 xa xb xc a1) (v90_1 xa xb xc a1) a1))
theorem e91 (xa xb xc:List AV) (a1:Int):funA c91 0 91 [AV.agg [AV.sl [.int .i64] xa,AV.sl [.int .i64] xb,AV.sl [.int .i64,.int .i64] xc],Ai a1]=(bif q89 xa xb xc a1 then (bif (v89_0 xa xb xc a1) then (bif q98 xa xb xc then some (AV.tup [AV.agg [AV.fl [.int .i64] (v98_0 xa xb xc),AV.fl [.int .i64] (v98_1 xa xb xc),AV.fl [.int .i64,.int .i64] (v98_2 xa xb xc)],AV.fl [.int .i64,.int .i64] ([]:List AV)])
 else none)
 else (bif q90 xa xb xc a1 then (bif q99 xa (v90_0 xa xb xc a1) (v90_1 xa xb xc a1) a1 then (bif q100 xa xb xc (v99_0 xa (v90_0 xa xb xc a1) (v90_1 xa xb xc a1) a1) then (bif q101 (v100_0 xa xb xc (v99_0 xa (v90_0 xa xb xc a1) (v90_1 xa xb xc a1) a1)) (v100_1 xa xb xc (v99_0 xa (v90_0 xa xb xc a1) (v90_1 xa xb xc a1) a1)) (v100_2 xa xb xc (v99_0 xa (v90_0 xa xb xc a1) (v90_1 xa xb xc a1) a1)) a1 (v99_1 xa (v90_0 xa xb xc a1) (v90_1 xa xb xc a1) a1) then some (AV.tup [AV.agg [AV.fl [.int .i64] (v101_0 (v100_0 xa xb xc (v99_0 xa (v90_0 xa xb xc a1) (v90_1 xa xb xc a1) a1)) (v100_1 xa xb xc (v99_0 xa (v90_0 xa xb xc a1) (v90_1 xa xb xc a1) a1)) (v100_2 xa xb xc (v99_0 xa (v90_0 xa xb xc a1) (v90_1 xa xb xc a1) a1)) a1 (v99_1 xa (v90_0 xa xb xc a1) (v90_1 xa xb xc a1) a1)),AV.fl [.int .i64] (v101_1 (v100_0 xa xb xc (v99_0 xa (v90_0 xa xb xc a1) (v90_1 xa xb xc a1) a1)) (v100_1 xa xb xc (v99_0 xa (v90_0 xa xb xc a1) (v90_1 xa xb xc a1) a1)) (v100_2 xa xb xc (v99_0 xa (v90_0 xa xb xc a1) (v90_1 xa xb xc a1) a1)) a1 (v99_1 xa (v90_0 xa xb xc a1) (v90_1 xa xb xc a1) a1)),AV.fl [.int .i64,.int .i64] (v101_2 (v100_0 xa xb xc (v99_0 xa (v90_0 xa xb xc a1) (v90_1 xa xb xc a1) a1)) (v100_1 xa xb xc (v99_0 xa (v90_0 xa xb xc a1) (v90_1 xa xb xc a1) a1)) (v100_2 xa xb xc (v99_0 xa (v90_0 xa xb xc a1) (v90_1 xa xb xc a1) a1)) a1 (v99_1 xa (v90_0 xa xb xc a1) (v90_1 xa xb xc a1) a1))],AV.fl [.int .i64,.int .i64] (v99_0 xa (v90_0 xa xb xc a1) (v90_1 xa xb xc a1) a1)])
 else none)
 else none)
 else none)
 else none))
 else none):=by kernel_rfl
def m91:TModel
 | [.agg [.sl g0 xa,.sl g1 xb,.sl g2 xc],.int .i64 a1]=>bif ctsEq g0 ([.int .i64]) && ctsEq g1 ([.int .i64]) && ctsEq g2 ([.int .i64,.int .i64]) then some (q91 xa xb xc a1,AV.tup [AV.agg [AV.fl [.int .i64] (v91_0 xa xb xc a1),AV.fl [.int .i64] (v91_1 xa xb xc a1),AV.fl [.int .i64,.int .i64] (v91_2 xa xb xc a1)],AV.fl [.int .i64,.int .i64] (v91_3 xa xb xc a1)]) else none
 | _=>none
theorem k91:Known Tryz.prog 91:=⟨Tryz.f91,Tryz.func91,by kernel_rfl,by kernel_rfl⟩
theorem meets91:Meets Tryz.prog 91 m91:=by
 refine meet (f:=Tryz.f91) (l:=[]) (hs:=[(91,999,[4,5])]) (ts:=[(89,m89),(90,m90),(98,m98),(99,m99),(100,m100),(101,m101)]) (ws:=[]) (is:=[]) (ls:=[]) (lvl:=0) mixed k91 Tryz.func91 (by kernel_rfl) noLoop (allT_cons meets89 (allT_cons meets90 (allT_cons meets98 (allT_cons meets99 (allT_cons meets100 (allT_cons meets101 allT_nil)))))) allM_nil noI fun w xs us r hl hv h=>?_
 unfold m91 at h
 split at h
 ·rename_i g0 xa g1 xb g2 xc a1
  obtain ⟨hg,h⟩:=bif_pair h
  simp only [Bool.and_eq_true] at hg
  obtain ⟨⟨q0,q1⟩,q2⟩:=hg
  obtain rfl:=ctsEq_eq _ _ q0
  obtain rfl:=ctsEq_eq _ _ q1
  obtain rfl:=ctsEq_eq _ _ q2
  obtain ⟨h1,rfl⟩:=pair_inj h
  exact (e91 xa xb xc a1).trans ((brL (br (fun b=>some (AV.tup [AV.agg [AV.fl [.int .i64] (bif b then (v98_0 xa xb xc) else (v101_0 (v100_0 xa xb xc (v99_0 xa (v90_0 xa xb xc a1) (v90_1 xa xb xc a1) a1)) (v100_1 xa xb xc (v99_0 xa (v90_0 xa xb xc a1) (v90_1 xa xb xc a1) a1)) (v100_2 xa xb xc (v99_0 xa (v90_0 xa xb xc a1) (v90_1 xa xb xc a1) a1)) a1 (v99_1 xa (v90_0 xa xb xc a1) (v90_1 xa xb xc a1) a1))),AV.fl [.int .i64] (bif b then (v98_1 xa xb xc) else (v101_1 (v100_0 xa xb xc (v99_0 xa (v90_0 xa xb xc a1) (v90_1 xa xb xc a1) a1)) (v100_1 xa xb xc (v99_0 xa (v90_0 xa xb xc a1) (v90_1 xa xb xc a1) a1)) (v100_2 xa xb xc (v99_0 xa (v90_0 xa xb xc a1) (v90_1 xa xb xc a1) a1)) a1 (v99_1 xa (v90_0 xa xb xc a1) (v90_1 xa xb xc a1) a1))),AV.fl [.int .i64,.int .i64] (bif b then (v98_2 xa xb xc) else (v101_2 (v100_0 xa xb xc (v99_0 xa (v90_0 xa xb xc a1) (v90_1 xa xb xc a1) a1)) (v100_1 xa xb xc (v99_0 xa (v90_0 xa xb xc a1) (v90_1 xa xb xc a1) a1)) (v100_2 xa xb xc (v99_0 xa (v90_0 xa xb xc a1) (v90_1 xa xb xc a1) a1)) a1 (v99_1 xa (v90_0 xa xb xc a1) (v90_1 xa xb xc a1) a1)))],AV.fl [.int .i64,.int .i64] (bif b then ([]:List AV) else (v99_0 xa (v90_0 xa xb xc a1) (v90_1 xa xb xc a1) a1))])) (brL1 (fun _=>rfl)) (brL (brL (brL (brL1 (fun _=>rfl))))))) h1)
 ·cases h
noncomputable def c50:Cfg:=cfg Tryz.prog [(50,999,[])] [] [] [] []
def q50 (a0 a1 a2 a3 a4:Int):Bool:=true
theorem e50 (a0 a1 a2 a3 a4:Int):funA c50 0 50 [Ai a0,Ai a1,Ai a2,Ai a3,Ai a4]=some (AV.tup []):=by kernel_rfl
def m50:TModel
 | [.int .i64 a0,.int .i64 a1,.int .i64 a2,.int .i64 a3,.int .i64 a4]=>some (true,AV.tup [])
 | _=>none
theorem k50:Known Tryz.prog 50:=⟨Tryz.f50,Tryz.func50,by kernel_rfl,by kernel_rfl⟩
theorem meets50:Meets Tryz.prog 50 m50:=by
 refine meet (f:=Tryz.f50) (l:=[]) (hs:=[(50,999,[])]) (ts:=[]) (ws:=[]) (is:=[]) (ls:=[]) (lvl:=0) mixed k50 Tryz.func50 (by kernel_rfl) noLoop allT_nil allM_nil noI fun w xs us r hl hv h=>?_
 unfold m50 at h
 split at h
 ·rename_i a0 a1 a2 a3 a4
  obtain ⟨h1,rfl⟩:=pair_inj h
  exact (e50 a0 a1 a2 a3 a4).trans (of_tt (fun _=>rfl))
 ·cases h
noncomputable def c66:Cfg:=cfg Tryz.prog [(66,999,[])] [(50,m50)] [] [] []
def q66 (a0 a1 a2 a3:Int) (a4 a5:AV):Bool:=true
theorem e66 (a0 a1 a2 a3:Int) (a4 a5:AV):funA c66 0 66 [Ai a0,Ai a1,Ai a2,Ai a3,AV.rptr [.fnc 50] a4 0,AV.rptr [.int .i64] a5 0]=some (AV.tup []):=by kernel_rfl
def m66:TModel
 | [.int .i64 a0,.int .i64 a1,.int .i64 a2,.int .i64 a3,.rptr g0 a4 g1,.rptr g2 a5 g3]=>bif ctsEq g0 ([.fnc 50]) && Nat.beq g1 0 && ctsEq g2 ([.int .i64]) && Nat.beq g3 0 then some (true,AV.tup []) else none
 | _=>none
theorem k66:Known Tryz.prog 66:=⟨Tryz.f66,Tryz.func66,by kernel_rfl,by kernel_rfl⟩
theorem meets66:Meets Tryz.prog 66 m66:=by
 refine meet (f:=Tryz.f66) (l:=[]) (hs:=[(66,999,[])]) (ts:=[(50,m50)]) (ws:=[]) (is:=[]) (ls:=[]) (lvl:=0) mixed k66 Tryz.func66 (by kernel_rfl) noLoop (allT_cons meets50 allT_nil) allM_nil noI fun w xs us r hl hv h=>?_
 unfold m66 at h
 split at h
 ·rename_i a0 a1 a2 a3 g0 a4 g1 g2 a5 g3
  obtain ⟨hg,h⟩:=bif_pair h
  simp only [Bool.and_eq_true] at hg
  obtain ⟨⟨⟨q0,q1⟩,q2⟩,q3⟩:=hg
  obtain rfl:=ctsEq_eq _ _ q0
  obtain rfl:=Nat.eq_of_beq_eq_true q1
  obtain rfl:=ctsEq_eq _ _ q2
  obtain rfl:=Nat.eq_of_beq_eq_true q3
  obtain ⟨h1,rfl⟩:=pair_inj h
  exact (e66 a0 a1 a2 a3 a4 a5).trans (of_tt (fun _=>rfl))
 ·cases h
end Go.Proofs.YtmcnplggcedihaaGreat
