import Derived.Test.YtkdnhnkhcldonaaST4
import Derived.Test.YtkdnhnkhcldonaaProg
import Derived.KernelRfl
namespace Go.Proofs.Ytkdnhnkhcldonaa
open Go Go.Proofs.VE
set_option linter.unusedVariables false
set_option linter.unusedSimpArgs false
set_option maxRecDepth 100000
set_option maxHeartbeats 4000000
noncomputable section
def F17_0 (h0_0:List AV) (h0_1:Int) (h0_2 h0_3 h0_4 h1_0:List AV) (h1_1:Int) (h1_2 h1_3 h1_4:List AV) (t5:Int):Out (Int) (Unit ⊕ Unit):=(bif decide (t5<(h0_0.length:Int)) then (bif (decide (0≤t5) && decide (t5<(h0_0.length:Int))) then (bif (decide (0≤t5) && decide (t5<(h1_0.length:Int))) then (bif !(bif decide (fI (h0_0.getD t5.toNat .undef) 0=fI (h1_0.getD t5.toNat .undef) 0) then (bif decide (fI (h0_0.getD t5.toNat .undef) 1=fI (h1_0.getD t5.toNat .undef) 1) then (bif decide (fI (h0_0.getD t5.toNat .undef) 2=fI (h1_0.getD t5.toNat .undef) 2) then (bif decide (fI (h0_0.getD t5.toNat .undef) 3=fI (h1_0.getD t5.toNat .undef) 3) then true else false) else false) else false) else false) then .stop (.inr ())
 else .next (IntKind.i64.wrap (t5+1)))
 else .fail)
 else .fail)
 else .stop (.inl ()))
def R17_0 (h0_0:List AV) (h0_1:Int) (h0_2 h0_3 h0_4 h1_0:List AV) (h1_1:Int) (h1_2 h1_3 h1_4:List AV):(Int)→Out (Int) (Unit ⊕ Unit):=fun s:Int=>F17_0 h0_0 h0_1 h0_2 h0_3 h0_4 h1_0 h1_1 h1_2 h1_3 h1_4 s
def E17_0 (h0_0:List AV) (h0_1:Int) (h0_2 h0_3 h0_4 h1_0:List AV) (h1_1:Int) (h1_2 h1_3 h1_4:List AV):(Int)→St:=fun s:Int=>⟨[(2,AV.ptr [0,2] 0 0),(3,AV.ptr [0,3] 0 0),(5,Ai s)],[([0,2],⟨true,[],[AV.agg [AV.sl [.int .i64,.int .i64,.int .i64,.int .i64] h0_0,Ai h0_1,AV.sl [.int .i64] h0_2,AV.sl [.int .i64] h0_3,AV.sl [.int .i64,.int .i64] h0_4]]⟩),([0,3],⟨true,[],[AV.agg [AV.sl [.int .i64,.int .i64,.int .i64,.int .i64] h1_0,Ai h1_1,AV.sl [.int .i64] h1_2,AV.sl [.int .i64] h1_3,AV.sl [.int .i64,.int .i64] h1_4]]⟩)]⟩
def K17_0 (h0_0:List AV) (h0_1:Int) (h0_2 h0_3 h0_4 h1_0:List AV) (h1_1:Int) (h1_2 h1_3 h1_4:List AV) (k:Kont):(Unit ⊕ Unit)→Option AV:=sumE (fun _:Unit=>k (.exit 0) ⟨[],[([0,2],⟨true,[],[AV.agg [AV.sl [.int .i64,.int .i64,.int .i64,.int .i64] h0_0,Ai h0_1,AV.sl [.int .i64] h0_2,AV.sl [.int .i64] h0_3,AV.sl [.int .i64,.int .i64] h0_4]]⟩),([0,3],⟨true,[],[AV.agg [AV.sl [.int .i64,.int .i64,.int .i64,.int .i64] h1_0,Ai h1_1,AV.sl [.int .i64] h1_2,AV.sl [.int .i64] h1_3,AV.sl [.int .i64,.int .i64] h1_4]]⟩)]⟩) (fun _:Unit=>k .ret ⟨[(4,AV.bool false)],[([0,2],⟨true,[],[AV.agg [AV.sl [.int .i64,.int .i64,.int .i64,.int .i64] h0_0,Ai h0_1,AV.sl [.int .i64] h0_2,AV.sl [.int .i64] h0_3,AV.sl [.int .i64,.int .i64] h0_4]]⟩),([0,3],⟨true,[],[AV.agg [AV.sl [.int .i64,.int .i64,.int .i64,.int .i64] h1_0,Ai h1_1,AV.sl [.int .i64] h1_2,AV.sl [.int .i64] h1_3,AV.sl [.int .i64,.int .i64] h1_4]]⟩)]⟩)
def l17_0:LModel:=fun _ _ st k=>match st with
 | ⟨[(2,.ptr g0 g1 g2),(3,.ptr g3 g4 g5),(5,.int .i64 t5)],[(g6,⟨true,[],[.agg [.sl g7 h0_0,.int .i64 h0_1,.sl g8 h0_2,.sl g9 h0_3,.sl g10 h0_4]]⟩),(g11,⟨true,[],[.agg [.sl g12 h1_0,.int .i64 h1_1,.sl g13 h1_2,.sl g14 h1_3,.sl g15 h1_4]]⟩)]⟩=>bif nmEq g0 ([0,2]) && Nat.beq g1 0 && Nat.beq g2 0 && nmEq g3 ([0,3]) && Nat.beq g4 0 && Nat.beq g5 0 && nmEq g6 ([0,2]) && ctsEq g7 ([.int .i64,.int .i64,.int .i64,.int .i64]) && ctsEq g8 ([.int .i64]) && ctsEq g9 ([.int .i64]) && ctsEq g10 ([.int .i64,.int .i64]) && nmEq g11 ([0,3]) && ctsEq g12 ([.int .i64,.int .i64,.int .i64,.int .i64]) && ctsEq g13 ([.int .i64]) && ctsEq g14 ([.int .i64]) && ctsEq g15 ([.int .i64,.int .i64]) then ro (runW (R17_0 h0_0 h0_1 h0_2 h0_3 h0_4 h1_0 h1_1 h1_2 h1_3 h1_4) (((h0_0.length:Int) - t5:Int).toNat+1) t5) none (K17_0 h0_0 h0_1 h0_2 h0_3 h0_4 h1_0 h1_1 h1_2 h1_3 h1_4 k) else none
 | _=>none
noncomputable def c17:Cfg:=cfg Try.prog [(17,0,[2,3,5]),(17,999,[4]),(17,1000,[]),(17,1001,[2,3,5])] [(9,m9)] [] [] [(17,0,l17_0)]
theorem s17_0 (ce:CallE) (t5:Int) (h0_0:List AV) (h0_1:Int) (h0_2 h0_3 h0_4 h1_0:List AV) (h1_1:Int) (h1_2 h1_3 h1_4:List AV) (next:St→Option AV) (k:Kont):stepA (codeA c17 ce [] 17 0 (sub [1,1,0,1,0,0] (body Try.f17))) (normA [] [2,3,5]) next ⟨[(2,AV.ptr [0,2] 0 0),(3,AV.ptr [0,3] 0 0),(5,Ai t5)],[([0,2],⟨true,[],[AV.agg [AV.sl [.int .i64,.int .i64,.int .i64,.int .i64] h0_0,Ai h0_1,AV.sl [.int .i64] h0_2,AV.sl [.int .i64] h0_3,AV.sl [.int .i64,.int .i64] h0_4]]⟩),([0,3],⟨true,[],[AV.agg [AV.sl [.int .i64,.int .i64,.int .i64,.int .i64] h1_0,Ai h1_1,AV.sl [.int .i64] h1_2,AV.sl [.int .i64] h1_3,AV.sl [.int .i64,.int .i64] h1_4]]⟩)]⟩ k=(bif decide (t5<(h0_0.length:Int)) then (bif (decide (0≤t5) && decide (t5<(h0_0.length:Int))) then (bif (decide (0≤t5) && decide (t5<(h1_0.length:Int))) then (bif !(bif decide (fI (h0_0.getD t5.toNat .undef) 0=fI (h1_0.getD t5.toNat .undef) 0) then (bif decide (fI (h0_0.getD t5.toNat .undef) 1=fI (h1_0.getD t5.toNat .undef) 1) then (bif decide (fI (h0_0.getD t5.toNat .undef) 2=fI (h1_0.getD t5.toNat .undef) 2) then (bif decide (fI (h0_0.getD t5.toNat .undef) 3=fI (h1_0.getD t5.toNat .undef) 3) then true else false) else false) else false) else false) then k .ret ⟨[(4,AV.bool false)],[([0,2],⟨true,[],[AV.agg [AV.sl [.int .i64,.int .i64,.int .i64,.int .i64] h0_0,Ai h0_1,AV.sl [.int .i64] h0_2,AV.sl [.int .i64] h0_3,AV.sl [.int .i64,.int .i64] h0_4]]⟩),([0,3],⟨true,[],[AV.agg [AV.sl [.int .i64,.int .i64,.int .i64,.int .i64] h1_0,Ai h1_1,AV.sl [.int .i64] h1_2,AV.sl [.int .i64] h1_3,AV.sl [.int .i64,.int .i64] h1_4]]⟩)]⟩
 else next ⟨[(2,AV.ptr [0,2] 0 0),(3,AV.ptr [0,3] 0 0),(5,Ai (IntKind.i64.wrap (t5+1)))],[([0,2],⟨true,[],[AV.agg [AV.sl [.int .i64,.int .i64,.int .i64,.int .i64] h0_0,Ai h0_1,AV.sl [.int .i64] h0_2,AV.sl [.int .i64] h0_3,AV.sl [.int .i64,.int .i64] h0_4]]⟩),([0,3],⟨true,[],[AV.agg [AV.sl [.int .i64,.int .i64,.int .i64,.int .i64] h1_0,Ai h1_1,AV.sl [.int .i64] h1_2,AV.sl [.int .i64] h1_3,AV.sl [.int .i64,.int .i64] h1_4]]⟩)]⟩)
 else none)
 else none)
 else k (.exit 0) ⟨[],[([0,2],⟨true,[],[AV.agg [AV.sl [.int .i64,.int .i64,.int .i64,.int .i64] h0_0,Ai h0_1,AV.sl [.int .i64] h0_2,AV.sl [.int .i64] h0_3,AV.sl [.int .i64,.int .i64] h0_4]]⟩),([0,3],⟨true,[],[AV.agg [AV.sl [.int .i64,.int .i64,.int .i64,.int .i64] h1_0,Ai h1_1,AV.sl [.int .i64] h1_2,AV.sl [.int .i64] h1_3,AV.sl [.int .i64,.int .i64] h1_4]]⟩)]⟩):=by kernel_rfl
theorem st17_0 (h0_0:List AV) (h0_1:Int) (h0_2 h0_3 h0_4 h1_0:List AV) (h1_1:Int) (h1_2 h1_3 h1_4:List AV) (ce:CallE) (k:Kont) (s:Int) (next:St→Option AV):stepA (codeA c17 ce [] 17 0 (sub [1,1,0,1,0,0] (body Try.f17))) (normA [] [2,3,5]) next ((E17_0 h0_0 h0_1 h0_2 h0_3 h0_4 h1_0 h1_1 h1_2 h1_3 h1_4) s) k=(R17_0 h0_0 h0_1 h0_2 h0_3 h0_4 h1_0 h1_1 h1_2 h1_3 h1_4 s).el none (fun s=>next ((E17_0 h0_0 h0_1 h0_2 h0_3 h0_4 h1_0 h1_1 h1_2 h1_3 h1_4) s)) (K17_0 h0_0 h0_1 h0_2 h0_3 h0_4 h1_0 h1_1 h1_2 h1_3 h1_4 k):=(s17_0 ce s h0_0 h0_1 h0_2 h0_3 h0_4 h1_0 h1_1 h1_2 h1_3 h1_4 next k).trans (by unfold R17_0;unfold F17_0;simp only [el_cond,el_ro,el_sum,el_fail,el_next,el_stop] <;> rfl)
theorem ok17_0 {ce:CallE}:LoopOK c17 ce [] 17 0 (sub [1,1,0,1,0,0] (body Try.f17)):=by
 intro m hm st k r h
 obtain rfl:l17_0=m:=Option.some.inj hm
 unfold l17_0 at h
 split at h
 ·rename_i g0 g1 g2 g3 g4 g5 t5 g6 g7 h0_0 h0_1 g8 h0_2 g9 h0_3 g10 h0_4 g11 g12 h1_0 h1_1 g13 h1_2 g14 h1_3 g15 h1_4
  obtain ⟨hg,h⟩:=bif_some h
  simp only [Bool.and_eq_true] at hg
  obtain ⟨⟨⟨⟨⟨⟨⟨⟨⟨⟨⟨⟨⟨⟨⟨q0,q1⟩,q2⟩,q3⟩,q4⟩,q5⟩,q6⟩,q7⟩,q8⟩,q9⟩,q10⟩,q11⟩,q12⟩,q13⟩,q14⟩,q15⟩:=hg
  obtain rfl:=(nmEq_iff _ _).1 q0
  obtain rfl:=Nat.eq_of_beq_eq_true q1
  obtain rfl:=Nat.eq_of_beq_eq_true q2
  obtain rfl:=(nmEq_iff _ _).1 q3
  obtain rfl:=Nat.eq_of_beq_eq_true q4
  obtain rfl:=Nat.eq_of_beq_eq_true q5
  obtain rfl:=(nmEq_iff _ _).1 q6
  obtain rfl:=ctsEq_eq _ _ q7
  obtain rfl:=ctsEq_eq _ _ q8
  obtain rfl:=ctsEq_eq _ _ q9
  obtain rfl:=ctsEq_eq _ _ q10
  obtain rfl:=(nmEq_iff _ _).1 q11
  obtain rfl:=ctsEq_eq _ _ q12
  obtain rfl:=ctsEq_eq _ _ q13
  obtain rfl:=ctsEq_eq _ _ q14
  obtain rfl:=ctsEq_eq _ _ q15
  refine ⟨(((h0_0.length:Int) - t5:Int).toNat+1),?_⟩
  rw [← h]
  exact loop_run (E17_0 h0_0 h0_1 h0_2 h0_3 h0_4 h1_0 h1_1 h1_2 h1_3 h1_4) (K17_0 h0_0 h0_1 h0_2 h0_3 h0_4 h1_0 h1_1 h1_2 h1_3 h1_4 k) (st17_0 h0_0 h0_1 h0_2 h0_3 h0_4 h1_0 h1_1 h1_2 h1_3 h1_4 ce k) _ t5
 ·cases h
def q17 (xa:List AV) (xb:Int) (xc xd xe ya:List AV) (yb:Int) (yc yd ye:List AV):Bool:=(bif !decide ((xa.length:Int)=(ya.length:Int)) then true else (bif !decide (xb=yb) then true else (q9 xc xd xe yc yd ye && (bif !(v9_0 xc xd xe yc yd ye) then true else (ro (runW (R17_0 xa xb xc xd xe ya yb yc yd ye) (((xa.length:Int) - 0:Int).toNat+1) 0) false (sumE (fun _=>true) (fun _=>true)))))))
def v17_0 (xa:List AV) (xb:Int) (xc xd xe ya:List AV) (yb:Int) (yc yd ye:List AV):Bool:=(bif !decide ((xa.length:Int)=(ya.length:Int)) then false else (bif !decide (xb=yb) then false else (bif !(v9_0 xc xd xe yc yd ye) then false else (ro (runW (R17_0 xa xb xc xd xe ya yb yc yd ye) (((xa.length:Int) - 0:Int).toNat+1) 0) false (sumE (fun _=>true) (fun _=>false))))))
theorem e17 (xa:List AV) (xb:Int) (xc xd xe ya:List AV) (yb:Int) (yc yd ye:List AV):funA c17 0 17 [AV.agg [AV.sl [.int .i64,.int .i64,.int .i64,.int .i64] xa,Ai xb,AV.sl [.int .i64] xc,AV.sl [.int .i64] xd,AV.sl [.int .i64,.int .i64] xe],AV.agg [AV.sl [.int .i64,.int .i64,.int .i64,.int .i64] ya,Ai yb,AV.sl [.int .i64] yc,AV.sl [.int .i64] yd,AV.sl [.int .i64,.int .i64] ye]]=(bif !decide ((xa.length:Int)=(ya.length:Int)) then some (AV.bool false)
 else (bif !decide (xb=yb) then some (AV.bool false)
 else (bif q9 xc xd xe yc yd ye then (bif !(v9_0 xc xd xe yc yd ye) then some (AV.bool false)
 else (ro (runW (R17_0 xa xb xc xd xe ya yb yc yd ye) (((xa.length:Int) - 0:Int).toNat+1) 0) none (sumE (fun _=>some (AV.bool true)) (fun _=>some (AV.bool false)))))
 else none))):=by kernel_rfl
def m17:TModel
 | [.agg [.sl g0 xa,.int .i64 xb,.sl g1 xc,.sl g2 xd,.sl g3 xe],.agg [.sl g4 ya,.int .i64 yb,.sl g5 yc,.sl g6 yd,.sl g7 ye]]=>bif ctsEq g0 ([.int .i64,.int .i64,.int .i64,.int .i64]) && ctsEq g1 ([.int .i64]) && ctsEq g2 ([.int .i64]) && ctsEq g3 ([.int .i64,.int .i64]) && ctsEq g4 ([.int .i64,.int .i64,.int .i64,.int .i64]) && ctsEq g5 ([.int .i64]) && ctsEq g6 ([.int .i64]) && ctsEq g7 ([.int .i64,.int .i64]) then some (q17 xa xb xc xd xe ya yb yc yd ye,AV.bool (v17_0 xa xb xc xd xe ya yb yc yd ye)) else none
 | _=>none
theorem k17:Known Try.prog 17:=⟨Try.f17,Try.func17,by kernel_rfl,by kernel_rfl⟩
theorem meets17:Meets Try.prog 17 m17:=by
 refine meet (f:=Try.f17) (l:=[(0,sub [1,1,0,1,0,0] (body Try.f17))]) (hs:=[(17,0,[2,3,5]),(17,999,[4]),(17,1000,[]),(17,1001,[2,3,5])]) (ts:=[(9,m9)]) (ws:=[]) (is:=[]) (ls:=[(17,0,l17_0)]) (lvl:=0) mixed k17 Try.func17 (by kernel_rfl) (loops_cons ok17_0 noLoop) (allT_cons meets9 allT_nil) allM_nil noI fun w xs us r hl hv h=>?_
 unfold m17 at h
 split at h
 ·rename_i g0 xa xb g1 xc g2 xd g3 xe g4 ya yb g5 yc g6 yd g7 ye
  obtain ⟨hg,h⟩:=bif_pair h
  simp only [Bool.and_eq_true] at hg
  obtain ⟨⟨⟨⟨⟨⟨⟨q0,q1⟩,q2⟩,q3⟩,q4⟩,q5⟩,q6⟩,q7⟩:=hg
  obtain rfl:=ctsEq_eq _ _ q0
  obtain rfl:=ctsEq_eq _ _ q1
  obtain rfl:=ctsEq_eq _ _ q2
  obtain rfl:=ctsEq_eq _ _ q3
  obtain rfl:=ctsEq_eq _ _ q4
  obtain rfl:=ctsEq_eq _ _ q5
  obtain rfl:=ctsEq_eq _ _ q6
  obtain rfl:=ctsEq_eq _ _ q7
  obtain ⟨h1,rfl⟩:=pair_inj h
  exact (e17 xa xb xc xd xe ya yb yc yd ye).trans ((br (fun b=>some (AV.bool (bif b then false else (bif !decide (xb=yb) then false else (bif !(v9_0 xc xd xe yc yd ye) then false else (ro (runW (R17_0 xa xb xc xd xe ya yb yc yd ye) (((xa.length:Int) - 0:Int).toNat+1) 0) false (sumE (fun _=>true) (fun _=>false)))))))) (fun _=>rfl) (br (fun b=>some (AV.bool (bif b then false else (bif !(v9_0 xc xd xe yc yd ye) then false else (ro (runW (R17_0 xa xb xc xd xe ya yb yc yd ye) (((xa.length:Int) - 0:Int).toNat+1) 0) false (sumE (fun _=>true) (fun _=>false))))))) (fun _=>rfl) (brL (br (fun b=>some (AV.bool (bif b then false else (ro (runW (R17_0 xa xb xc xd xe ya yb yc yd ye) (((xa.length:Int) - 0:Int).toNat+1) 0) false (sumE (fun _=>true) (fun _=>false)))))) (fun _=>rfl) (brO (fun o:Option (Unit ⊕ Unit)=>some (AV.bool (ro o false (sumE (fun _=>true) (fun _=>false))))) (brS (fun o:Unit ⊕ Unit=>some (AV.bool ((sumE (fun _=>true) (fun _=>false)) o))) (fun _=>(fun _=>rfl)) (fun _=>(fun _=>rfl)))))))) h1)
 ·cases h
def F21_0 (t0:List AV) (t1 t5:Int):Out (Int) (Unit ⊕ Unit):=(bif decide (t5<(t0.length:Int)) then (bif (decide (0≤t5) && decide (t5<(t0.length:Int))) then (bif decide (fI (t0.getD t5.toNat .undef) 0=t1) then .stop (.inr ())
 else .next (IntKind.i64.wrap (t5+1)))
 else .fail)
 else .stop (.inl ()))
def R21_0 (t0:List AV) (t1:Int):(Int)→Out (Int) (Unit ⊕ Unit):=fun s:Int=>F21_0 t0 t1 s
def E21_0 (t0:List AV) (t1:Int):(Int)→St:=fun s:Int=>⟨[(0,AV.sl [.int .i64] t0),(1,Ai t1),(5,Ai s)],[]⟩
def K21_0 (k:Kont):(Unit ⊕ Unit)→Option AV:=sumE (fun _:Unit=>k (.exit 0) ⟨[],[]⟩) (fun _:Unit=>k .ret ⟨[(4,AV.bool true)],[]⟩)
def l21_0:LModel:=fun _ _ st k=>match st with
 | ⟨[(0,.sl g0 t0),(1,.int .i64 t1),(5,.int .i64 t5)],[]⟩=>bif ctsEq g0 ([.int .i64]) then ro (runW (R21_0 t0 t1) (((t0.length:Int) - t5:Int).toNat+1) t5) none (K21_0 k) else none
 | _=>none
noncomputable def c21:Cfg:=cfg Try.prog [(21,0,[0,1,5]),(21,999,[4]),(21,1000,[]),(21,1001,[0,1,5])] [] [] [] [(21,0,l21_0)]
theorem s21_0 (ce:CallE) (t0:List AV) (t1 t5:Int) (next:St→Option AV) (k:Kont):stepA (codeA c21 ce [] 21 0 (sub [1,0,1,0,0] (body Try.f21))) (normA [] [0,1,5]) next ⟨[(0,AV.sl [.int .i64] t0),(1,Ai t1),(5,Ai t5)],[]⟩ k=(bif decide (t5<(t0.length:Int)) then (bif (decide (0≤t5) && decide (t5<(t0.length:Int))) then (bif decide (fI (t0.getD t5.toNat .undef) 0=t1) then k .ret ⟨[(4,AV.bool true)],[]⟩
 else next ⟨[(0,AV.sl [.int .i64] t0),(1,Ai t1),(5,Ai (IntKind.i64.wrap (t5+1)))],[]⟩)
 else none)
 else k (.exit 0) ⟨[],[]⟩):=by kernel_rfl
theorem st21_0 (t0:List AV) (t1:Int) (ce:CallE) (k:Kont) (s:Int) (next:St→Option AV):stepA (codeA c21 ce [] 21 0 (sub [1,0,1,0,0] (body Try.f21))) (normA [] [0,1,5]) next ((E21_0 t0 t1) s) k=(R21_0 t0 t1 s).el none (fun s=>next ((E21_0 t0 t1) s)) (K21_0 k):=(s21_0 ce t0 t1 s next k).trans (by unfold R21_0;unfold F21_0;simp only [el_cond,el_ro,el_sum,el_fail,el_next,el_stop] <;> rfl)
theorem ok21_0 {ce:CallE}:LoopOK c21 ce [] 21 0 (sub [1,0,1,0,0] (body Try.f21)):=by
 intro m hm st k r h
 obtain rfl:l21_0=m:=Option.some.inj hm
 unfold l21_0 at h
 split at h
 ·rename_i g0 t0 t1 t5
  obtain ⟨hg,h⟩:=bif_some h
  have q0:=hg
  obtain rfl:=ctsEq_eq _ _ q0
  refine ⟨(((t0.length:Int) - t5:Int).toNat+1),?_⟩
  rw [← h]
  exact loop_run (E21_0 t0 t1) (K21_0 k) (st21_0 t0 t1 ce k) _ t5
 ·cases h
def q21 (a0:List AV) (a1:Int):Bool:=(ro (runW (R21_0 a0 a1) (((a0.length:Int) - 0:Int).toNat+1) 0) false (sumE (fun _=>true) (fun _=>true)))
def v21_0 (a0:List AV) (a1:Int):Bool:=(ro (runW (R21_0 a0 a1) (((a0.length:Int) - 0:Int).toNat+1) 0) false (sumE (fun _=>false) (fun _=>true)))
theorem e21 (a0:List AV) (a1:Int):funA c21 0 21 [AV.sl [.int .i64] a0,Ai a1]=(ro (runW (R21_0 a0 a1) (((a0.length:Int) - 0:Int).toNat+1) 0) none (sumE (fun _=>some (AV.bool false)) (fun _=>some (AV.bool true)))):=by kernel_rfl
def m21:TModel
 | [.sl g0 a0,.int .i64 a1]=>bif ctsEq g0 ([.int .i64]) then some (q21 a0 a1,AV.bool (v21_0 a0 a1)) else none
 | _=>none
theorem k21:Known Try.prog 21:=⟨Try.f21,Try.func21,by kernel_rfl,by kernel_rfl⟩
theorem meets21:Meets Try.prog 21 m21:=by
 refine meet (f:=Try.f21) (l:=[(0,sub [1,0,1,0,0] (body Try.f21))]) (hs:=[(21,0,[0,1,5]),(21,999,[4]),(21,1000,[]),(21,1001,[0,1,5])]) (ts:=[]) (ws:=[]) (is:=[]) (ls:=[(21,0,l21_0)]) (lvl:=0) mixed k21 Try.func21 (by kernel_rfl) (loops_cons ok21_0 noLoop) allT_nil allM_nil noI fun w xs us r hl hv h=>?_
 unfold m21 at h
 split at h
 ·rename_i g0 a0 a1
  obtain ⟨hg,h⟩:=bif_pair h
  have q0:=hg
  obtain rfl:=ctsEq_eq _ _ q0
  obtain ⟨h1,rfl⟩:=pair_inj h
  exact (e21 a0 a1).trans ((brO (fun o:Option (Unit ⊕ Unit)=>some (AV.bool (ro o false (sumE (fun _=>false) (fun _=>true))))) (brS (fun o:Unit ⊕ Unit=>some (AV.bool ((sumE (fun _=>false) (fun _=>true)) o))) (fun _=>(fun _=>rfl)) (fun _=>(fun _=>rfl)))) h1)
 ·cases h
def F22i29_0 (t0:List AV) (h0 t3 t4:Int):Out ((Int × Int)) (Int):=(bif decide (t4<(t0.length:Int)) then (bif decide (t4<4000) then (bif (decide (0≤t4) && decide (t4<(t0.length:Int))) then .next (IntKind.i64.wrap ((BitVec.ofInt 64 (IntKind.i64.wrap (IntKind.i64.wrap (IntKind.i64.wrap (t3*131)+IntKind.i64.wrap (fI (t0.getD t4.toNat .undef) 0))+7)) &&& BitVec.ofInt 64 1073741823).toNat:Int),IntKind.i64.wrap (t4+1))
 else .fail)
 else .stop t3)
 else .stop t3)
def R22i29_0 (t0:List AV) (h0:Int):((Int × Int))→Out ((Int × Int)) (Int):=fun s:Int × Int=>F22i29_0 t0 h0 s.1 s.2
def l22i29_0:LModel:=fun _ π st k=>match st with
 | ⟨[(0,.sl g1 t0),(3,.int .i64 t3),(4,.int .i64 t4)],[(g2,⟨true,[],[.agg [.snil,.int .i64 h0,.snil,.snil,.snil]]⟩)]⟩=>bif nmEq π ([7]) && ctsEq g1 ([.int .u8]) && nmEq g2 ([1,2]) then ro (runW (R22i29_0 t0 h0) (((t0.length:Int) - t4:Int).toNat+1) (t3,t4)) none (fun p:Int=>k (.exit 0) ⟨[(0,AV.sl [.int .u8] t0),(3,AV.int .i64 p)],[([1,2],⟨true,[],[AV.agg [AV.snil,AV.int .i64 h0,AV.snil,AV.snil,AV.snil]]⟩)]⟩) else none
 | _=>none
noncomputable def c22:Cfg:=cfg Try.prog [(22,999,[2,3]),(29,0,[0,3,4]),(29,999,[2]),(29,1000,[0,3]),(29,1001,[0,3,4])] [] [(43,.g m43),(57,.g m57)] [29] [(29,0,l22i29_0)]
theorem s22i29_0 (ce:CallE) (t0:List AV) (t3 t4 h0:Int) (next:St→Option AV) (k:Kont):stepA (codeA c22 ce [7] 29 0 (sub [1,1,0,1,0,0] (body Try.f29))) (normA [7] [0,3,4]) next ⟨[(0,AV.sl [.int .u8] t0),(3,Ai t3),(4,Ai t4)],[([1,2],⟨true,[],[AV.agg [AV.snil,Ai h0,AV.snil,AV.snil,AV.snil]]⟩)]⟩ k=(bif decide (t4<(t0.length:Int)) then (bif decide (t4<4000) then (bif (decide (0≤t4) && decide (t4<(t0.length:Int))) then next ⟨[(0,AV.sl [.int .u8] t0),(3,Ai (IntKind.i64.wrap ((BitVec.ofInt 64 (IntKind.i64.wrap (IntKind.i64.wrap (IntKind.i64.wrap (t3*131)+IntKind.i64.wrap (fI (t0.getD t4.toNat .undef) 0))+7)) &&& BitVec.ofInt 64 1073741823).toNat:Int))),(4,Ai (IntKind.i64.wrap (t4+1)))],[([1,2],⟨true,[],[AV.agg [AV.snil,Ai h0,AV.snil,AV.snil,AV.snil]]⟩)]⟩
 else none)
 else k (.exit 0) ⟨[(0,AV.sl [.int .u8] t0),(3,Ai t3)],[([1,2],⟨true,[],[AV.agg [AV.snil,Ai h0,AV.snil,AV.snil,AV.snil]]⟩)]⟩)
 else k (.exit 0) ⟨[(0,AV.sl [.int .u8] t0),(3,Ai t3)],[([1,2],⟨true,[],[AV.agg [AV.snil,Ai h0,AV.snil,AV.snil,AV.snil]]⟩)]⟩):=by kernel_rfl
theorem st22i29_0 (t0:List AV) (h0:Int) (ce:CallE) (k:Kont) (s:(Int × Int)) (next:St→Option AV):stepA (codeA c22 ce [7] 29 0 (sub [1,1,0,1,0,0] (body Try.f29))) (normA [7] [0,3,4]) next ((fun s:Int × Int=>⟨[(0,AV.sl [.int .u8] t0),(3,Ai s.1),(4,Ai s.2)],[([1,2],⟨true,[],[AV.agg [AV.snil,Ai h0,AV.snil,AV.snil,AV.snil]]⟩)]⟩) s) k=(R22i29_0 t0 h0 s).el none (fun s=>next ((fun s:Int × Int=>⟨[(0,AV.sl [.int .u8] t0),(3,Ai s.1),(4,Ai s.2)],[([1,2],⟨true,[],[AV.agg [AV.snil,Ai h0,AV.snil,AV.snil,AV.snil]]⟩)]⟩) s)) (fun p:Int=>k (.exit 0) ⟨[(0,AV.sl [.int .u8] t0),(3,Ai p)],[([1,2],⟨true,[],[AV.agg [AV.snil,Ai h0,AV.snil,AV.snil,AV.snil]]⟩)]⟩):=(s22i29_0 ce t0 s.1 s.2 h0 next k).trans (by unfold R22i29_0;unfold F22i29_0;simp only [el_cond,el_ro,el_sum,el_fail,el_next,el_stop] <;> rfl)
theorem ok22i29_0 {ce:CallE} {π:Nm}:LoopOK c22 ce π 29 0 (sub [1,1,0,1,0,0] (body Try.f29)):=by
 intro m hm st k r h
 obtain rfl:l22i29_0=m:=Option.some.inj hm
 unfold l22i29_0 at h
 split at h
 ·rename_i g1 t0 t3 t4 g2 h0
  obtain ⟨hg,h⟩:=bif_some h
  simp only [Bool.and_eq_true] at hg
  obtain ⟨⟨q0,q1⟩,q2⟩:=hg
  obtain rfl:=(nmEq_iff _ _).1 q0
  obtain rfl:=ctsEq_eq _ _ q1
  obtain rfl:=(nmEq_iff _ _).1 q2
  refine ⟨(((t0.length:Int) - t4:Int).toNat+1),?_⟩
  rw [← h]
  exact loop_run (fun s:Int × Int=>⟨[(0,AV.sl [.int .u8] t0),(3,Ai s.1),(4,Ai s.2)],[([1,2],⟨true,[],[AV.agg [AV.snil,Ai h0,AV.snil,AV.snil,AV.snil]]⟩)]⟩) (fun p:Int=>k (.exit 0) ⟨[(0,AV.sl [.int .u8] t0),(3,Ai p)],[([1,2],⟨true,[],[AV.agg [AV.snil,Ai h0,AV.snil,AV.snil,AV.snil]]⟩)]⟩) (st22i29_0 t0 h0 ce k) _ (t3,t4)
 ·cases h
def q22 (a0:List AV):Bool:=(ro (runW (R22i29_0 a0 0) (((a0.length:Int) - 0:Int).toNat+1) (IntKind.i64.wrap (10101+(a0.length:Int)),0)) false (fun p64=>(q43 a0 0 p64 && q57 12 (v43_5 a0 0 p64) (v43_6 a0 0 p64) (v43_7 a0 0 p64))))
def v22_0 (a0:List AV):List AV:=(ro (runW (R22i29_0 a0 0) (((a0.length:Int) - 0:Int).toNat+1) (IntKind.i64.wrap (10101+(a0.length:Int)),0)) [] (fun p64=>(v43_0 a0 0 p64)))
def v22_1 (a0:List AV):Int:=(ro (runW (R22i29_0 a0 0) (((a0.length:Int) - 0:Int).toNat+1) (IntKind.i64.wrap (10101+(a0.length:Int)),0)) 0 (fun p64=>(v43_1 a0 0 p64)))
def v22_2 (a0:List AV):List AV:=(ro (runW (R22i29_0 a0 0) (((a0.length:Int) - 0:Int).toNat+1) (IntKind.i64.wrap (10101+(a0.length:Int)),0)) [] (fun p64=>(v43_2 a0 0 p64)))
def v22_3 (a0:List AV):List AV:=(ro (runW (R22i29_0 a0 0) (((a0.length:Int) - 0:Int).toNat+1) (IntKind.i64.wrap (10101+(a0.length:Int)),0)) [] (fun p64=>(v43_3 a0 0 p64)))
def v22_4 (a0:List AV):List AV:=(ro (runW (R22i29_0 a0 0) (((a0.length:Int) - 0:Int).toNat+1) (IntKind.i64.wrap (10101+(a0.length:Int)),0)) [] (fun p64=>(v43_4 a0 0 p64)))
def v22_5 (a0:List AV):Int:=(ro (runW (R22i29_0 a0 0) (((a0.length:Int) - 0:Int).toNat+1) (IntKind.i64.wrap (10101+(a0.length:Int)),0)) 0 (fun p64=>IntKind.i64.wrap ((v57_0 12 (v43_5 a0 0 p64) (v43_6 a0 0 p64) (v43_7 a0 0 p64)) - 1)))
theorem e22 (a0:List AV):funA c22 1 22 [AV.sl [.int .u8] a0]=(ro (runW (R22i29_0 a0 0) (((a0.length:Int) - 0:Int).toNat+1) (IntKind.i64.wrap (10101+(a0.length:Int)),0)) none (fun p64=>(bif q43 a0 0 p64 then (bif q57 12 (v43_5 a0 0 p64) (v43_6 a0 0 p64) (v43_7 a0 0 p64) then some (AV.tup [AV.agg [AV.fl [.int .i64,.int .i64,.int .i64,.int .i64] (v43_0 a0 0 p64),Ai (v43_1 a0 0 p64),AV.fl [.int .i64] (v43_2 a0 0 p64),AV.fl [.int .i64] (v43_3 a0 0 p64),AV.fl [.int .i64,.int .i64] (v43_4 a0 0 p64)],Ai (IntKind.i64.wrap ((v57_0 12 (v43_5 a0 0 p64) (v43_6 a0 0 p64) (v43_7 a0 0 p64)) - 1))])
 else none)
 else none))):=by kernel_rfl
def m22:TModel
 | [.sl g0 a0]=>bif ctsEq g0 ([.int .u8]) then some (q22 a0,AV.tup [AV.agg [AV.fl [.int .i64,.int .i64,.int .i64,.int .i64] (v22_0 a0),AV.int .i64 (v22_1 a0),AV.fl [.int .i64] (v22_2 a0),AV.fl [.int .i64] (v22_3 a0),AV.fl [.int .i64,.int .i64] (v22_4 a0)],AV.int .i64 (v22_5 a0)]) else none
 | _=>none
theorem k22:Known Try.prog 22:=⟨Try.f22,Try.func22,by kernel_rfl,by kernel_rfl⟩
theorem i22_29:InlK Try.prog [(22,999,[2,3]),(29,0,[0,3,4]),(29,999,[2]),(29,1000,[0,3]),(29,1001,[0,3,4])] [] [(43,.g m43),(57,.g m57)] [29] [(29,0,l22i29_0)] 29:=⟨⟨Try.f29,Try.func29,by kernel_rfl,by kernel_rfl⟩,Try.f29,[(0,sub [1,1,0,1,0,0] (body Try.f29))],Try.func29,by kernel_rfl,fun ce π=>(loops_cons (ok22i29_0 (ce:=ce) (π:=π)) noLoop)⟩
theorem meets22:Meets Try.prog 22 m22:=by
 refine meet (f:=Try.f22) (l:=[]) (hs:=[(22,999,[2,3]),(29,0,[0,3,4]),(29,999,[2]),(29,1000,[0,3]),(29,1001,[0,3,4])]) (ts:=[]) (ws:=[(43,.g m43),(57,.g m57)]) (is:=[29]) (ls:=[(29,0,l22i29_0)]) (lvl:=1) mixed k22 Try.func22 (by kernel_rfl) noLoop allT_nil (allG_cons meets43 (allG_cons meets57 allM_nil)) (allI_cons i22_29 noI) fun w xs us r hl hv h=>?_
 unfold m22 at h
 split at h
 ·rename_i g0 a0
  obtain ⟨hg,h⟩:=bif_pair h
  have q0:=hg
  obtain rfl:=ctsEq_eq _ _ q0
  obtain ⟨h1,rfl⟩:=pair_inj h
  exact (e22 a0).trans ((brO (fun o:Option (Int)=>some (AV.tup [AV.agg [AV.fl [.int .i64,.int .i64,.int .i64,.int .i64] (ro o [] (fun p64=>(v43_0 a0 0 p64))),Ai (ro o 0 (fun p64=>(v43_1 a0 0 p64))),AV.fl [.int .i64] (ro o [] (fun p64=>(v43_2 a0 0 p64))),AV.fl [.int .i64] (ro o [] (fun p64=>(v43_3 a0 0 p64))),AV.fl [.int .i64,.int .i64] (ro o [] (fun p64=>(v43_4 a0 0 p64)))],Ai (ro o 0 (fun p64=>IntKind.i64.wrap ((v57_0 12 (v43_5 a0 0 p64) (v43_6 a0 0 p64) (v43_7 a0 0 p64)) - 1)))])) (fun p64=>(brL (brL1 (fun _=>rfl))))) h1)
 ·cases h
noncomputable def c59:Cfg:=cfg Try.prog [(59,999,[3])] [] [] [] []
def q59 (xa xb xc xd:Int) (a1:AV):Bool:=true
def v59_0 (xa xb xc xd:Int) (a1:AV):Bool:=(bif decide (xb=fI a1 0) then decide (xd=(-1)) else false)
theorem e59 (xa xb xc xd:Int) (a1:AV):funA c59 0 59 [AV.agg [Ai xa,Ai xb,Ai xc,Ai xd],AV.rptr [.int .i64] a1 0]=(bif decide (xb=fI a1 0) then some (AV.bool (decide (xd=(-1))))
 else some (AV.bool false)):=by kernel_rfl
def m59:TModel
 | [.agg [.int .i64 xa,.int .i64 xb,.int .i64 xc,.int .i64 xd],.rptr g0 a1 g1]=>bif ctsEq g0 ([.int .i64]) && Nat.beq g1 0 then some (true,AV.bool (v59_0 xa xb xc xd a1)) else none
 | _=>none
theorem k59:Known Try.prog 59:=⟨Try.f59,Try.func59,by kernel_rfl,by kernel_rfl⟩
theorem meets59:Meets Try.prog 59 m59:=by
 refine meet (f:=Try.f59) (l:=[]) (hs:=[(59,999,[3])]) (ts:=[]) (ws:=[]) (is:=[]) (ls:=[]) (lvl:=0) mixed k59 Try.func59 (by kernel_rfl) noLoop allT_nil allM_nil noI fun w xs us r hl hv h=>?_
 unfold m59 at h
 split at h
 ·rename_i xa xb xc xd g0 a1 g1
  obtain ⟨hg,h⟩:=bif_pair h
  simp only [Bool.and_eq_true] at hg
  obtain ⟨q0,q1⟩:=hg
  obtain rfl:=ctsEq_eq _ _ q0
  obtain rfl:=Nat.eq_of_beq_eq_true q1
  obtain ⟨h1,rfl⟩:=pair_inj h
  exact (e59 xa xb xc xd a1).trans (of_tt (brT (fun b=>some (AV.bool (bif b then decide (xd=(-1)) else false))) (fun _=>rfl) (fun _=>rfl)))
 ·cases h
def F58_0 (t0:List AV) (t1:AV) (t7 t8:Int):Out (Int) (Unit ⊕ Int):=(bif decide (t8<t7) then (bif (decide (0≤t8) && decide (t8<(t0.length:Int))) then (bif (v59_0 (fI (t0.getD t8.toNat .undef) 0) (fI (t0.getD t8.toNat .undef) 1) (fI (t0.getD t8.toNat .undef) 2) (fI (t0.getD t8.toNat .undef) 3) t1) then .stop (.inr t8)
 else .next (IntKind.i64.wrap (t8+1)))
 else .fail)
 else .stop (.inl ()))
def R58_0 (t0:List AV) (t1:AV) (t7:Int):(Int)→Out (Int) (Unit ⊕ Int):=fun s:Int=>F58_0 t0 t1 t7 s
def E58_0 (t0:List AV) (t1:AV) (t7:Int):(Int)→St:=fun s:Int=>⟨[(0,AV.sl [.int .i64,.int .i64,.int .i64,.int .i64] t0),(1,AV.fn 59 [AV.rptr [.int .i64] t1 0]),(7,Ai t7),(8,Ai s)],[]⟩
def K58_0 (k:Kont):(Unit ⊕ Int)→Option AV:=sumE (fun _:Unit=>k (.exit 0) ⟨[],[]⟩) (fun p:Int=>k .ret ⟨[(4,Ai p)],[]⟩)
def l58_0:LModel:=fun _ _ st k=>match st with
 | ⟨[(0,.sl g0 t0),(1,.fn g1 [.rptr g2 t1 g3]),(7,.int .i64 t7),(8,.int .i64 t8)],[]⟩=>bif ctsEq g0 ([.int .i64,.int .i64,.int .i64,.int .i64]) && Nat.beq g1 59 && ctsEq g2 ([.int .i64]) && Nat.beq g3 0 then ro (runW (R58_0 t0 t1 t7) ((t7 - t8:Int).toNat+1) t8) none (K58_0 k) else none
 | _=>none
noncomputable def c58:Cfg:=cfg Try.prog [(58,0,[0,1,7,8]),(58,999,[4]),(58,1000,[]),(58,1001,[0,1,7,8])] [(59,m59)] [] [] [(58,0,l58_0)]
theorem s58_0 (ce:CallE) (t0:List AV) (t1:AV) (t7 t8:Int) (next:St→Option AV) (k:Kont):stepA (codeA c58 ce [] 58 0 (sub [1,0,1,0,0] (body Try.f58))) (normA [] [0,1,7,8]) next ⟨[(0,AV.sl [.int .i64,.int .i64,.int .i64,.int .i64] t0),(1,AV.fn 59 [AV.rptr [.int .i64] t1 0]),(7,Ai t7),(8,Ai t8)],[]⟩ k=(bif decide (t8<t7) then (bif (decide (0≤t8) && decide (t8<(t0.length:Int))) then (bif (v59_0 (fI (t0.getD t8.toNat .undef) 0) (fI (t0.getD t8.toNat .undef) 1) (fI (t0.getD t8.toNat .undef) 2) (fI (t0.getD t8.toNat .undef) 3) t1) then k .ret ⟨[(4,Ai t8)],[]⟩
 else next ⟨[(0,AV.sl [.int .i64,.int .i64,.int .i64,.int .i64] t0),(1,AV.fn 59 [AV.rptr [.int .i64] t1 0]),(7,Ai t7),(8,Ai (IntKind.i64.wrap (t8+1)))],[]⟩)
 else none)
 else k (.exit 0) ⟨[],[]⟩):=by kernel_rfl
theorem st58_0 (t0:List AV) (t1:AV) (t7:Int) (ce:CallE) (k:Kont) (s:Int) (next:St→Option AV):stepA (codeA c58 ce [] 58 0 (sub [1,0,1,0,0] (body Try.f58))) (normA [] [0,1,7,8]) next ((E58_0 t0 t1 t7) s) k=(R58_0 t0 t1 t7 s).el none (fun s=>next ((E58_0 t0 t1 t7) s)) (K58_0 k):=(s58_0 ce t0 t1 t7 s next k).trans (by unfold R58_0;unfold F58_0;simp only [el_cond,el_ro,el_sum,el_fail,el_next,el_stop] <;> rfl)
theorem ok58_0 {ce:CallE}:LoopOK c58 ce [] 58 0 (sub [1,0,1,0,0] (body Try.f58)):=by
 intro m hm st k r h
 obtain rfl:l58_0=m:=Option.some.inj hm
 unfold l58_0 at h
 split at h
 ·rename_i g0 t0 g1 g2 t1 g3 t7 t8
  obtain ⟨hg,h⟩:=bif_some h
  simp only [Bool.and_eq_true] at hg
  obtain ⟨⟨⟨q0,q1⟩,q2⟩,q3⟩:=hg
  obtain rfl:=ctsEq_eq _ _ q0
  obtain rfl:=Nat.eq_of_beq_eq_true q1
  obtain rfl:=ctsEq_eq _ _ q2
  obtain rfl:=Nat.eq_of_beq_eq_true q3
  refine ⟨((t7 - t8:Int).toNat+1),?_⟩
  rw [← h]
  exact loop_run (E58_0 t0 t1 t7) (K58_0 k) (st58_0 t0 t1 t7 ce k) _ t8
 ·cases h
def q58 (a0:List AV) (a1:AV):Bool:=(ro (runW (R58_0 a0 a1 (a0.length:Int)) (((a0.length:Int) - 0:Int).toNat+1) 0) false (sumE (fun _=>true) (fun p66=>true)))
def v58_0 (a0:List AV) (a1:AV):Int:=(ro (runW (R58_0 a0 a1 (a0.length:Int)) (((a0.length:Int) - 0:Int).toNat+1) 0) 0 (sumE (fun _=>(-1)) (fun p66=>p66)))
theorem e58 (a0:List AV) (a1:AV):funA c58 0 58 [AV.sl [.int .i64,.int .i64,.int .i64,.int .i64] a0,AV.fn 59 [AV.rptr [.int .i64] a1 0]]=(ro (runW (R58_0 a0 a1 (a0.length:Int)) (((a0.length:Int) - 0:Int).toNat+1) 0) none (sumE (fun _=>some (Ai (-1))) (fun p66=>some (Ai p66)))):=by kernel_rfl
def m58:TModel
 | [.sl g0 a0,.fn g1 [.rptr g2 a1 g3]]=>bif ctsEq g0 ([.int .i64,.int .i64,.int .i64,.int .i64]) && Nat.beq g1 59 && ctsEq g2 ([.int .i64]) && Nat.beq g3 0 then some (q58 a0 a1,AV.int .i64 (v58_0 a0 a1)) else none
 | _=>none
theorem k58:Known Try.prog 58:=⟨Try.f58,Try.func58,by kernel_rfl,by kernel_rfl⟩
theorem meets58:Meets Try.prog 58 m58:=by
 refine meet (f:=Try.f58) (l:=[(0,sub [1,0,1,0,0] (body Try.f58))]) (hs:=[(58,0,[0,1,7,8]),(58,999,[4]),(58,1000,[]),(58,1001,[0,1,7,8])]) (ts:=[(59,m59)]) (ws:=[]) (is:=[]) (ls:=[(58,0,l58_0)]) (lvl:=0) mixed k58 Try.func58 (by kernel_rfl) (loops_cons ok58_0 noLoop) (allT_cons meets59 allT_nil) allM_nil noI fun w xs us r hl hv h=>?_
 unfold m58 at h
 split at h
 ·rename_i g0 a0 g1 g2 a1 g3
  obtain ⟨hg,h⟩:=bif_pair h
  simp only [Bool.and_eq_true] at hg
  obtain ⟨⟨⟨q0,q1⟩,q2⟩,q3⟩:=hg
  obtain rfl:=ctsEq_eq _ _ q0
  obtain rfl:=Nat.eq_of_beq_eq_true q1
  obtain rfl:=ctsEq_eq _ _ q2
  obtain rfl:=Nat.eq_of_beq_eq_true q3
  obtain ⟨h1,rfl⟩:=pair_inj h
  exact (e58 a0 a1).trans ((brO (fun o:Option (Unit ⊕ Int)=>some (Ai (ro o 0 (sumE (fun _=>(-1)) (fun p66=>p66))))) (brS (fun o:Unit ⊕ Int=>some (Ai ((sumE (fun _=>(-1)) (fun p66=>p66)) o))) (fun _=>(fun _=>rfl)) (fun p66=>(fun _=>rfl)))) h1)
 ·cases h
noncomputable def c23:Cfg:=cfg Try.prog [(23,999,[4,5])] [(18,m18),(45,m45),(58,m58)] [] [] []
def q23 (xa:List AV) (xb:Int) (xc xd xe:List AV) (a1:Int):Bool:=(q45 xa xb xc xd xe && (q58 xa (AV.int .i64 a1) && (q18 xa xb xc xd xe && (bif !(v18_0 xa xb xc xd xe) then true else (bif decide (xb ≥ 1000) then true else (bif decide ((v58_0 xa (AV.int .i64 a1))<0) then true else (decide (0≤(v58_0 xa (AV.int .i64 a1))) && decide ((v58_0 xa (AV.int .i64 a1))<((v45_0 xa xb xc xd xe).length:Int)))))))))
def v23_0 (xa:List AV) (xb:Int) (xc xd xe:List AV) (a1:Int):List AV:=(bif !(v18_0 xa xb xc xd xe) then (v45_0 xa xb xc xd xe) else (bif decide (xb ≥ 1000) then (v45_0 xa xb xc xd xe) else (bif decide ((v58_0 xa (AV.int .i64 a1))<0) then (v45_0 xa xb xc xd xe) else (v45_0 xa xb xc xd xe).set (v58_0 xa (AV.int .i64 a1)).toNat (AV.agg [AV.int .i64 (fI ((v45_0 xa xb xc xd xe).getD (v58_0 xa (AV.int .i64 a1)).toNat .undef) 0),AV.int .i64 (fI ((v45_0 xa xb xc xd xe).getD (v58_0 xa (AV.int .i64 a1)).toNat .undef) 1),AV.int .i64 (fI ((v45_0 xa xb xc xd xe).getD (v58_0 xa (AV.int .i64 a1)).toNat .undef) 2),AV.int .i64 (IntKind.i64.wrap ((v45_1 xa xb xc xd xe)+1))]))))
def v23_1 (xa:List AV) (xb:Int) (xc xd xe:List AV) (a1:Int):Int:=(bif !(v18_0 xa xb xc xd xe) then (v45_1 xa xb xc xd xe) else (bif decide (xb ≥ 1000) then (v45_1 xa xb xc xd xe) else (bif decide ((v58_0 xa (AV.int .i64 a1))<0) then (v45_1 xa xb xc xd xe) else IntKind.i64.wrap ((v45_1 xa xb xc xd xe)+1))))
def v23_2 (xa:List AV) (xb:Int) (xc xd xe:List AV) (a1:Int):List AV:=(v45_2 xa xb xc xd xe)
def v23_3 (xa:List AV) (xb:Int) (xc xd xe:List AV) (a1:Int):List AV:=(v45_3 xa xb xc xd xe)
def v23_4 (xa:List AV) (xb:Int) (xc xd xe:List AV) (a1:Int):List AV:=(v45_4 xa xb xc xd xe)
def v23_5 (xa:List AV) (xb:Int) (xc xd xe:List AV) (a1:Int):Bool:=(bif !(v18_0 xa xb xc xd xe) then false else (bif decide (xb ≥ 1000) then false else (bif decide ((v58_0 xa (AV.int .i64 a1))<0) then false else true)))
theorem e23 (xa:List AV) (xb:Int) (xc xd xe:List AV) (a1:Int):funA c23 0 23 [AV.agg [AV.sl [.int .i64,.int .i64,.int .i64,.int .i64] xa,Ai xb,AV.sl [.int .i64] xc,AV.sl [.int .i64] xd,AV.sl [.int .i64,.int .i64] xe],Ai a1]=(bif q45 xa xb xc xd xe then (bif q58 xa (Ai a1) then (bif q18 xa xb xc xd xe then (bif !(v18_0 xa xb xc xd xe) then some (AV.tup [AV.agg [AV.fl [.int .i64,.int .i64,.int .i64,.int .i64] (v45_0 xa xb xc xd xe),Ai (v45_1 xa xb xc xd xe),AV.fl [.int .i64] (v45_2 xa xb xc xd xe),AV.fl [.int .i64] (v45_3 xa xb xc xd xe),AV.fl [.int .i64,.int .i64] (v45_4 xa xb xc xd xe)],AV.bool false])
 else (bif decide (xb ≥ 1000) then some (AV.tup [AV.agg [AV.fl [.int .i64,.int .i64,.int .i64,.int .i64] (v45_0 xa xb xc xd xe),Ai (v45_1 xa xb xc xd xe),AV.fl [.int .i64] (v45_2 xa xb xc xd xe),AV.fl [.int .i64] (v45_3 xa xb xc xd xe),AV.fl [.int .i64,.int .i64] (v45_4 xa xb xc xd xe)],AV.bool false])
 else (bif decide ((v58_0 xa (Ai a1))<0) then some (AV.tup [AV.agg [AV.fl [.int .i64,.int .i64,.int .i64,.int .i64] (v45_0 xa xb xc xd xe),Ai (v45_1 xa xb xc xd xe),AV.fl [.int .i64] (v45_2 xa xb xc xd xe),AV.fl [.int .i64] (v45_3 xa xb xc xd xe),AV.fl [.int .i64,.int .i64] (v45_4 xa xb xc xd xe)],AV.bool false])
 else (bif (decide (0≤(v58_0 xa (Ai a1))) && decide ((v58_0 xa (Ai a1))<((v45_0 xa xb xc xd xe).length:Int))) then some (AV.tup [AV.agg [AV.fl [.int .i64,.int .i64,.int .i64,.int .i64] ((v45_0 xa xb xc xd xe).set (v58_0 xa (Ai a1)).toNat (AV.agg [Ai (fI ((v45_0 xa xb xc xd xe).getD (v58_0 xa (Ai a1)).toNat .undef) 0),Ai (fI ((v45_0 xa xb xc xd xe).getD (v58_0 xa (Ai a1)).toNat .undef) 1),Ai (fI ((v45_0 xa xb xc xd xe).getD (v58_0 xa (Ai a1)).toNat .undef) 2),Ai (IntKind.i64.wrap ((v45_1 xa xb xc xd xe)+1))])),Ai (IntKind.i64.wrap ((v45_1 xa xb xc xd xe)+1)),AV.fl [.int .i64] (v45_2 xa xb xc xd xe),AV.fl [.int .i64] (v45_3 xa xb xc xd xe),AV.fl [.int .i64,.int .i64] (v45_4 xa xb xc xd xe)],AV.bool true])
 else none))))
 else none)
 else none)
 else none):=by kernel_rfl
def m23:TModel
 | [.agg [.sl g0 xa,.int .i64 xb,.sl g1 xc,.sl g2 xd,.sl g3 xe],.int .i64 a1]=>bif ctsEq g0 ([.int .i64,.int .i64,.int .i64,.int .i64]) && ctsEq g1 ([.int .i64]) && ctsEq g2 ([.int .i64]) && ctsEq g3 ([.int .i64,.int .i64]) then some (q23 xa xb xc xd xe a1,AV.tup [AV.agg [AV.fl [.int .i64,.int .i64,.int .i64,.int .i64] (v23_0 xa xb xc xd xe a1),AV.int .i64 (v23_1 xa xb xc xd xe a1),AV.fl [.int .i64] (v23_2 xa xb xc xd xe a1),AV.fl [.int .i64] (v23_3 xa xb xc xd xe a1),AV.fl [.int .i64,.int .i64] (v23_4 xa xb xc xd xe a1)],AV.bool (v23_5 xa xb xc xd xe a1)]) else none
 | _=>none
theorem k23:Known Try.prog 23:=⟨Try.f23,Try.func23,by kernel_rfl,by kernel_rfl⟩
theorem meets23:Meets Try.prog 23 m23:=by
 refine meet (f:=Try.f23) (l:=[]) (hs:=[(23,999,[4,5])]) (ts:=[(18,m18),(45,m45),(58,m58)]) (ws:=[]) (is:=[]) (ls:=[]) (lvl:=0) mixed k23 Try.func23 (by kernel_rfl) noLoop (allT_cons meets18 (allT_cons meets45 (allT_cons meets58 allT_nil))) allM_nil noI fun w xs us r hl hv h=>?_
 unfold m23 at h
 split at h
 ·rename_i g0 xa xb g1 xc g2 xd g3 xe a1
  obtain ⟨hg,h⟩:=bif_pair h
  simp only [Bool.and_eq_true] at hg
  obtain ⟨⟨⟨q0,q1⟩,q2⟩,q3⟩:=hg
  obtain rfl:=ctsEq_eq _ _ q0
  obtain rfl:=ctsEq_eq _ _ q1
  obtain rfl:=ctsEq_eq _ _ q2
  obtain rfl:=ctsEq_eq _ _ q3
  obtain ⟨h1,rfl⟩:=pair_inj h
  exact (e23 xa xb xc xd xe a1).trans ((brL (brL (brL (br (fun b=>some (AV.tup [AV.agg [AV.fl [.int .i64,.int .i64,.int .i64,.int .i64] (bif b then (v45_0 xa xb xc xd xe) else (bif decide (xb ≥ 1000) then (v45_0 xa xb xc xd xe) else (bif decide ((v58_0 xa (Ai a1))<0) then (v45_0 xa xb xc xd xe) else (v45_0 xa xb xc xd xe).set (v58_0 xa (Ai a1)).toNat (AV.agg [Ai (fI ((v45_0 xa xb xc xd xe).getD (v58_0 xa (Ai a1)).toNat .undef) 0),Ai (fI ((v45_0 xa xb xc xd xe).getD (v58_0 xa (Ai a1)).toNat .undef) 1),Ai (fI ((v45_0 xa xb xc xd xe).getD (v58_0 xa (Ai a1)).toNat .undef) 2),Ai (IntKind.i64.wrap ((v45_1 xa xb xc xd xe)+1))])))),Ai (bif b then (v45_1 xa xb xc xd xe) else (bif decide (xb ≥ 1000) then (v45_1 xa xb xc xd xe) else (bif decide ((v58_0 xa (Ai a1))<0) then (v45_1 xa xb xc xd xe) else IntKind.i64.wrap ((v45_1 xa xb xc xd xe)+1)))),AV.fl [.int .i64] (v45_2 xa xb xc xd xe),AV.fl [.int .i64] (v45_3 xa xb xc xd xe),AV.fl [.int .i64,.int .i64] (v45_4 xa xb xc xd xe)],AV.bool (bif b then false else (bif decide (xb ≥ 1000) then false else (bif decide ((v58_0 xa (Ai a1))<0) then false else true)))])) (fun _=>rfl) (br (fun b=>some (AV.tup [AV.agg [AV.fl [.int .i64,.int .i64,.int .i64,.int .i64] (bif b then (v45_0 xa xb xc xd xe) else (bif decide ((v58_0 xa (Ai a1))<0) then (v45_0 xa xb xc xd xe) else (v45_0 xa xb xc xd xe).set (v58_0 xa (Ai a1)).toNat (AV.agg [Ai (fI ((v45_0 xa xb xc xd xe).getD (v58_0 xa (Ai a1)).toNat .undef) 0),Ai (fI ((v45_0 xa xb xc xd xe).getD (v58_0 xa (Ai a1)).toNat .undef) 1),Ai (fI ((v45_0 xa xb xc xd xe).getD (v58_0 xa (Ai a1)).toNat .undef) 2),Ai (IntKind.i64.wrap ((v45_1 xa xb xc xd xe)+1))]))),Ai (bif b then (v45_1 xa xb xc xd xe) else (bif decide ((v58_0 xa (Ai a1))<0) then (v45_1 xa xb xc xd xe) else IntKind.i64.wrap ((v45_1 xa xb xc xd xe)+1))),AV.fl [.int .i64] (v45_2 xa xb xc xd xe),AV.fl [.int .i64] (v45_3 xa xb xc xd xe),AV.fl [.int .i64,.int .i64] (v45_4 xa xb xc xd xe)],AV.bool (bif b then false else (bif decide ((v58_0 xa (Ai a1))<0) then false else true))])) (fun _=>rfl) (br (fun b=>some (AV.tup [AV.agg [AV.fl [.int .i64,.int .i64,.int .i64,.int .i64] (bif b then (v45_0 xa xb xc xd xe) else (v45_0 xa xb xc xd xe).set (v58_0 xa (Ai a1)).toNat (AV.agg [Ai (fI ((v45_0 xa xb xc xd xe).getD (v58_0 xa (Ai a1)).toNat .undef) 0),Ai (fI ((v45_0 xa xb xc xd xe).getD (v58_0 xa (Ai a1)).toNat .undef) 1),Ai (fI ((v45_0 xa xb xc xd xe).getD (v58_0 xa (Ai a1)).toNat .undef) 2),Ai (IntKind.i64.wrap ((v45_1 xa xb xc xd xe)+1))])),Ai (bif b then (v45_1 xa xb xc xd xe) else IntKind.i64.wrap ((v45_1 xa xb xc xd xe)+1)),AV.fl [.int .i64] (v45_2 xa xb xc xd xe),AV.fl [.int .i64] (v45_3 xa xb xc xd xe),AV.fl [.int .i64,.int .i64] (v45_4 xa xb xc xd xe)],AV.bool (bif b then false else true)])) (fun _=>rfl) (brL1 (fun _=>rfl)))))))) h1)
 ·cases h
def F25i29_0 (t0:List AV) (h0_0 h0_1 h0_2 h0_3 t3 t4:Int):Out ((Int × Int)) (Int):=(bif decide (t4<(t0.length:Int)) then (bif decide (t4<4000) then (bif (decide (0≤t4) && decide (t4<(t0.length:Int))) then .next (IntKind.i64.wrap ((BitVec.ofInt 64 (IntKind.i64.wrap (IntKind.i64.wrap (IntKind.i64.wrap (t3*131)+IntKind.i64.wrap (fI (t0.getD t4.toNat .undef) 0))+7)) &&& BitVec.ofInt 64 1073741823).toNat:Int),IntKind.i64.wrap (t4+1))
 else .fail)
 else .stop t3)
 else .stop t3)
def R25i29_0 (t0:List AV) (h0_0 h0_1 h0_2 h0_3:Int):((Int × Int))→Out ((Int × Int)) (Int):=fun s:Int × Int=>F25i29_0 t0 h0_0 h0_1 h0_2 h0_3 s.1 s.2
def l25i29_0:LModel:=fun _ π st k=>match st with
 | ⟨[(0,.sl g1 t0),(3,.int .i64 t3),(4,.int .i64 t4)],[(g2,⟨true,[],[.agg [.int .i64 h0_0,.int .i64 h0_1,.int .i64 h0_2,.int .i64 h0_3]]⟩)]⟩=>bif nmEq π ([8]) && ctsEq g1 ([.int .u8]) && nmEq g2 ([1,2]) then ro (runW (R25i29_0 t0 h0_0 h0_1 h0_2 h0_3) (((t0.length:Int) - t4:Int).toNat+1) (t3,t4)) none (fun p:Int=>k (.exit 0) ⟨[(0,AV.sl [.int .u8] t0),(3,AV.int .i64 p)],[([1,2],⟨true,[],[AV.agg [AV.int .i64 h0_0,AV.int .i64 h0_1,AV.int .i64 h0_2,AV.int .i64 h0_3]]⟩)]⟩) else none
 | _=>none
noncomputable def c25:Cfg:=cfg Try.prog [(25,999,[2,3]),(29,0,[0,3,4]),(29,999,[2]),(29,1000,[0,3]),(29,1001,[0,3,4])] [] [(57,.g m57),(60,.g m60)] [29] [(29,0,l25i29_0)]
theorem s25i29_0 (ce:CallE) (t0:List AV) (t3 t4 h0_0 h0_1 h0_2 h0_3:Int) (next:St→Option AV) (k:Kont):stepA (codeA c25 ce [8] 29 0 (sub [1,1,0,1,0,0] (body Try.f29))) (normA [8] [0,3,4]) next ⟨[(0,AV.sl [.int .u8] t0),(3,Ai t3),(4,Ai t4)],[([1,2],⟨true,[],[AV.agg [Ai h0_0,Ai h0_1,Ai h0_2,Ai h0_3]]⟩)]⟩ k=(bif decide (t4<(t0.length:Int)) then (bif decide (t4<4000) then (bif (decide (0≤t4) && decide (t4<(t0.length:Int))) then next ⟨[(0,AV.sl [.int .u8] t0),(3,Ai (IntKind.i64.wrap ((BitVec.ofInt 64 (IntKind.i64.wrap (IntKind.i64.wrap (IntKind.i64.wrap (t3*131)+IntKind.i64.wrap (fI (t0.getD t4.toNat .undef) 0))+7)) &&& BitVec.ofInt 64 1073741823).toNat:Int))),(4,Ai (IntKind.i64.wrap (t4+1)))],[([1,2],⟨true,[],[AV.agg [Ai h0_0,Ai h0_1,Ai h0_2,Ai h0_3]]⟩)]⟩
 else none)
 else k (.exit 0) ⟨[(0,AV.sl [.int .u8] t0),(3,Ai t3)],[([1,2],⟨true,[],[AV.agg [Ai h0_0,Ai h0_1,Ai h0_2,Ai h0_3]]⟩)]⟩)
 else k (.exit 0) ⟨[(0,AV.sl [.int .u8] t0),(3,Ai t3)],[([1,2],⟨true,[],[AV.agg [Ai h0_0,Ai h0_1,Ai h0_2,Ai h0_3]]⟩)]⟩):=by kernel_rfl
theorem st25i29_0 (t0:List AV) (h0_0 h0_1 h0_2 h0_3:Int) (ce:CallE) (k:Kont) (s:(Int × Int)) (next:St→Option AV):stepA (codeA c25 ce [8] 29 0 (sub [1,1,0,1,0,0] (body Try.f29))) (normA [8] [0,3,4]) next ((fun s:Int × Int=>⟨[(0,AV.sl [.int .u8] t0),(3,Ai s.1),(4,Ai s.2)],[([1,2],⟨true,[],[AV.agg [Ai h0_0,Ai h0_1,Ai h0_2,Ai h0_3]]⟩)]⟩) s) k=(R25i29_0 t0 h0_0 h0_1 h0_2 h0_3 s).el none (fun s=>next ((fun s:Int × Int=>⟨[(0,AV.sl [.int .u8] t0),(3,Ai s.1),(4,Ai s.2)],[([1,2],⟨true,[],[AV.agg [Ai h0_0,Ai h0_1,Ai h0_2,Ai h0_3]]⟩)]⟩) s)) (fun p:Int=>k (.exit 0) ⟨[(0,AV.sl [.int .u8] t0),(3,Ai p)],[([1,2],⟨true,[],[AV.agg [Ai h0_0,Ai h0_1,Ai h0_2,Ai h0_3]]⟩)]⟩):=(s25i29_0 ce t0 s.1 s.2 h0_0 h0_1 h0_2 h0_3 next k).trans (by unfold R25i29_0;unfold F25i29_0;simp only [el_cond,el_ro,el_sum,el_fail,el_next,el_stop] <;> rfl)
theorem ok25i29_0 {ce:CallE} {π:Nm}:LoopOK c25 ce π 29 0 (sub [1,1,0,1,0,0] (body Try.f29)):=by
 intro m hm st k r h
 obtain rfl:l25i29_0=m:=Option.some.inj hm
 unfold l25i29_0 at h
 split at h
 ·rename_i g1 t0 t3 t4 g2 h0_0 h0_1 h0_2 h0_3
  obtain ⟨hg,h⟩:=bif_some h
  simp only [Bool.and_eq_true] at hg
  obtain ⟨⟨q0,q1⟩,q2⟩:=hg
  obtain rfl:=(nmEq_iff _ _).1 q0
  obtain rfl:=ctsEq_eq _ _ q1
  obtain rfl:=(nmEq_iff _ _).1 q2
  refine ⟨(((t0.length:Int) - t4:Int).toNat+1),?_⟩
  rw [← h]
  exact loop_run (fun s:Int × Int=>⟨[(0,AV.sl [.int .u8] t0),(3,Ai s.1),(4,Ai s.2)],[([1,2],⟨true,[],[AV.agg [Ai h0_0,Ai h0_1,Ai h0_2,Ai h0_3]]⟩)]⟩) (fun p:Int=>k (.exit 0) ⟨[(0,AV.sl [.int .u8] t0),(3,Ai p)],[([1,2],⟨true,[],[AV.agg [Ai h0_0,Ai h0_1,Ai h0_2,Ai h0_3]]⟩)]⟩) (st25i29_0 t0 h0_0 h0_1 h0_2 h0_3 ce k) _ (t3,t4)
 ·cases h
def q25 (a0:List AV):Bool:=(ro (runW (R25i29_0 a0 0 0 0 0) (((a0.length:Int) - 0:Int).toNat+1) (IntKind.i64.wrap (10101+(a0.length:Int)),0)) false (fun p67=>(q57 4 a0 0 p67 && (q60 (v57_1 4 a0 0 p67) (v57_2 4 a0 0 p67) (v57_3 4 a0 0 p67) ([AV.int .i64 (-1),AV.int .i64 (IntKind.i64.wrap ((v57_0 4 a0 0 p67)+1)),AV.int .i64 (IntKind.i64.wrap ((v57_0 4 a0 0 p67)+2)),AV.int .i64 0]) && q57 8 (v60_1 (v57_1 4 a0 0 p67) (v57_2 4 a0 0 p67) (v57_3 4 a0 0 p67) ([AV.int .i64 (-1),AV.int .i64 (IntKind.i64.wrap ((v57_0 4 a0 0 p67)+1)),AV.int .i64 (IntKind.i64.wrap ((v57_0 4 a0 0 p67)+2)),AV.int .i64 0])) (v60_2 (v57_1 4 a0 0 p67) (v57_2 4 a0 0 p67) (v57_3 4 a0 0 p67) ([AV.int .i64 (-1),AV.int .i64 (IntKind.i64.wrap ((v57_0 4 a0 0 p67)+1)),AV.int .i64 (IntKind.i64.wrap ((v57_0 4 a0 0 p67)+2)),AV.int .i64 0])) (v60_3 (v57_1 4 a0 0 p67) (v57_2 4 a0 0 p67) (v57_3 4 a0 0 p67) ([AV.int .i64 (-1),AV.int .i64 (IntKind.i64.wrap ((v57_0 4 a0 0 p67)+1)),AV.int .i64 (IntKind.i64.wrap ((v57_0 4 a0 0 p67)+2)),AV.int .i64 0]))))))
def v25_0 (a0:List AV):Int:=0
def v25_1 (a0:List AV):Int:=0
def v25_2 (a0:List AV):Int:=(ro (runW (R25i29_0 a0 0 0 0 0) (((a0.length:Int) - 0:Int).toNat+1) (IntKind.i64.wrap (10101+(a0.length:Int)),0)) 0 (fun p67=>(v57_0 4 a0 0 p67)))
def v25_3 (a0:List AV):Int:=(ro (runW (R25i29_0 a0 0 0 0 0) (((a0.length:Int) - 0:Int).toNat+1) (IntKind.i64.wrap (10101+(a0.length:Int)),0)) 0 (fun p67=>(v60_0 (v57_1 4 a0 0 p67) (v57_2 4 a0 0 p67) (v57_3 4 a0 0 p67) ([AV.int .i64 (-1),AV.int .i64 (IntKind.i64.wrap ((v57_0 4 a0 0 p67)+1)),AV.int .i64 (IntKind.i64.wrap ((v57_0 4 a0 0 p67)+2)),AV.int .i64 0]))))
def v25_4 (a0:List AV):Int:=(ro (runW (R25i29_0 a0 0 0 0 0) (((a0.length:Int) - 0:Int).toNat+1) (IntKind.i64.wrap (10101+(a0.length:Int)),0)) 0 (fun p67=>IntKind.i64.wrap ((v57_0 8 (v60_1 (v57_1 4 a0 0 p67) (v57_2 4 a0 0 p67) (v57_3 4 a0 0 p67) ([AV.int .i64 (-1),AV.int .i64 (IntKind.i64.wrap ((v57_0 4 a0 0 p67)+1)),AV.int .i64 (IntKind.i64.wrap ((v57_0 4 a0 0 p67)+2)),AV.int .i64 0])) (v60_2 (v57_1 4 a0 0 p67) (v57_2 4 a0 0 p67) (v57_3 4 a0 0 p67) ([AV.int .i64 (-1),AV.int .i64 (IntKind.i64.wrap ((v57_0 4 a0 0 p67)+1)),AV.int .i64 (IntKind.i64.wrap ((v57_0 4 a0 0 p67)+2)),AV.int .i64 0])) (v60_3 (v57_1 4 a0 0 p67) (v57_2 4 a0 0 p67) (v57_3 4 a0 0 p67) ([AV.int .i64 (-1),AV.int .i64 (IntKind.i64.wrap ((v57_0 4 a0 0 p67)+1)),AV.int .i64 (IntKind.i64.wrap ((v57_0 4 a0 0 p67)+2)),AV.int .i64 0]))) - 1)))
theorem e25 (a0:List AV):funA c25 1 25 [AV.sl [.int .u8] a0]=(ro (runW (R25i29_0 a0 0 0 0 0) (((a0.length:Int) - 0:Int).toNat+1) (IntKind.i64.wrap (10101+(a0.length:Int)),0)) none (fun p67=>(bif q57 4 a0 0 p67 then (bif q60 (v57_1 4 a0 0 p67) (v57_2 4 a0 0 p67) (v57_3 4 a0 0 p67) ([Ai (-1),Ai (IntKind.i64.wrap ((v57_0 4 a0 0 p67)+1)),Ai (IntKind.i64.wrap ((v57_0 4 a0 0 p67)+2)),Ai 0]) then (bif q57 8 (v60_1 (v57_1 4 a0 0 p67) (v57_2 4 a0 0 p67) (v57_3 4 a0 0 p67) ([Ai (-1),Ai (IntKind.i64.wrap ((v57_0 4 a0 0 p67)+1)),Ai (IntKind.i64.wrap ((v57_0 4 a0 0 p67)+2)),Ai 0])) (v60_2 (v57_1 4 a0 0 p67) (v57_2 4 a0 0 p67) (v57_3 4 a0 0 p67) ([Ai (-1),Ai (IntKind.i64.wrap ((v57_0 4 a0 0 p67)+1)),Ai (IntKind.i64.wrap ((v57_0 4 a0 0 p67)+2)),Ai 0])) (v60_3 (v57_1 4 a0 0 p67) (v57_2 4 a0 0 p67) (v57_3 4 a0 0 p67) ([Ai (-1),Ai (IntKind.i64.wrap ((v57_0 4 a0 0 p67)+1)),Ai (IntKind.i64.wrap ((v57_0 4 a0 0 p67)+2)),Ai 0])) then some (AV.tup [AV.agg [Ai 0,Ai 0,Ai (v57_0 4 a0 0 p67),Ai (v60_0 (v57_1 4 a0 0 p67) (v57_2 4 a0 0 p67) (v57_3 4 a0 0 p67) ([Ai (-1),Ai (IntKind.i64.wrap ((v57_0 4 a0 0 p67)+1)),Ai (IntKind.i64.wrap ((v57_0 4 a0 0 p67)+2)),Ai 0]))],Ai (IntKind.i64.wrap ((v57_0 8 (v60_1 (v57_1 4 a0 0 p67) (v57_2 4 a0 0 p67) (v57_3 4 a0 0 p67) ([Ai (-1),Ai (IntKind.i64.wrap ((v57_0 4 a0 0 p67)+1)),Ai (IntKind.i64.wrap ((v57_0 4 a0 0 p67)+2)),Ai 0])) (v60_2 (v57_1 4 a0 0 p67) (v57_2 4 a0 0 p67) (v57_3 4 a0 0 p67) ([Ai (-1),Ai (IntKind.i64.wrap ((v57_0 4 a0 0 p67)+1)),Ai (IntKind.i64.wrap ((v57_0 4 a0 0 p67)+2)),Ai 0])) (v60_3 (v57_1 4 a0 0 p67) (v57_2 4 a0 0 p67) (v57_3 4 a0 0 p67) ([Ai (-1),Ai (IntKind.i64.wrap ((v57_0 4 a0 0 p67)+1)),Ai (IntKind.i64.wrap ((v57_0 4 a0 0 p67)+2)),Ai 0]))) - 1))])
 else none)
 else none)
 else none))):=by kernel_rfl
def m25:TModel
 | [.sl g0 a0]=>bif ctsEq g0 ([.int .u8]) then some (q25 a0,AV.tup [AV.agg [AV.int .i64 (v25_0 a0),AV.int .i64 (v25_1 a0),AV.int .i64 (v25_2 a0),AV.int .i64 (v25_3 a0)],AV.int .i64 (v25_4 a0)]) else none
 | _=>none
theorem k25:Known Try.prog 25:=⟨Try.f25,Try.func25,by kernel_rfl,by kernel_rfl⟩
theorem i25_29:InlK Try.prog [(25,999,[2,3]),(29,0,[0,3,4]),(29,999,[2]),(29,1000,[0,3]),(29,1001,[0,3,4])] [] [(57,.g m57),(60,.g m60)] [29] [(29,0,l25i29_0)] 29:=⟨⟨Try.f29,Try.func29,by kernel_rfl,by kernel_rfl⟩,Try.f29,[(0,sub [1,1,0,1,0,0] (body Try.f29))],Try.func29,by kernel_rfl,fun ce π=>(loops_cons (ok25i29_0 (ce:=ce) (π:=π)) noLoop)⟩
theorem meets25:Meets Try.prog 25 m25:=by
 refine meet (f:=Try.f25) (l:=[]) (hs:=[(25,999,[2,3]),(29,0,[0,3,4]),(29,999,[2]),(29,1000,[0,3]),(29,1001,[0,3,4])]) (ts:=[]) (ws:=[(57,.g m57),(60,.g m60)]) (is:=[29]) (ls:=[(29,0,l25i29_0)]) (lvl:=1) mixed k25 Try.func25 (by kernel_rfl) noLoop allT_nil (allG_cons meets57 (allG_cons meets60 allM_nil)) (allI_cons i25_29 noI) fun w xs us r hl hv h=>?_
 unfold m25 at h
 split at h
 ·rename_i g0 a0
  obtain ⟨hg,h⟩:=bif_pair h
  have q0:=hg
  obtain rfl:=ctsEq_eq _ _ q0
  obtain ⟨h1,rfl⟩:=pair_inj h
  exact (e25 a0).trans ((brO (fun o:Option (Int)=>some (AV.tup [AV.agg [Ai 0,Ai 0,Ai (ro o 0 (fun p67=>(v57_0 4 a0 0 p67))),Ai (ro o 0 (fun p67=>(v60_0 (v57_1 4 a0 0 p67) (v57_2 4 a0 0 p67) (v57_3 4 a0 0 p67) ([Ai (-1),Ai (IntKind.i64.wrap ((v57_0 4 a0 0 p67)+1)),Ai (IntKind.i64.wrap ((v57_0 4 a0 0 p67)+2)),Ai 0]))))],Ai (ro o 0 (fun p67=>IntKind.i64.wrap ((v57_0 8 (v60_1 (v57_1 4 a0 0 p67) (v57_2 4 a0 0 p67) (v57_3 4 a0 0 p67) ([Ai (-1),Ai (IntKind.i64.wrap ((v57_0 4 a0 0 p67)+1)),Ai (IntKind.i64.wrap ((v57_0 4 a0 0 p67)+2)),Ai 0])) (v60_2 (v57_1 4 a0 0 p67) (v57_2 4 a0 0 p67) (v57_3 4 a0 0 p67) ([Ai (-1),Ai (IntKind.i64.wrap ((v57_0 4 a0 0 p67)+1)),Ai (IntKind.i64.wrap ((v57_0 4 a0 0 p67)+2)),Ai 0])) (v60_3 (v57_1 4 a0 0 p67) (v57_2 4 a0 0 p67) (v57_3 4 a0 0 p67) ([Ai (-1),Ai (IntKind.i64.wrap ((v57_0 4 a0 0 p67)+1)),Ai (IntKind.i64.wrap ((v57_0 4 a0 0 p67)+2)),Ai 0]))) - 1)))])) (fun p67=>(brL (brL (brL1 (fun _=>rfl)))))) h1)
 ·cases h
noncomputable def c26:Cfg:=cfg Try.prog [(26,999,[4])] [] [] [] []
def q26 (xa xb xc xd a1:Int):Bool:=true
def v26_0 (xa xb xc xd a1:Int):Bool:=(bif decide (xc≤a1) then (bif decide (xd=(-1)) then true else decide (xd > a1)) else false)
theorem e26 (xa xb xc xd a1:Int):funA c26 0 26 [AV.agg [Ai xa,Ai xb,Ai xc,Ai xd],Ai a1]=(bif decide (xc≤a1) then (bif decide (xd=(-1)) then some (AV.bool true)
 else some (AV.bool (decide (xd > a1))))
 else some (AV.bool false)):=by kernel_rfl
def m26:TModel
 | [.agg [.int .i64 xa,.int .i64 xb,.int .i64 xc,.int .i64 xd],.int .i64 a1]=>some (true,AV.bool (v26_0 xa xb xc xd a1))
 | _=>none
theorem k26:Known Try.prog 26:=⟨Try.f26,Try.func26,by kernel_rfl,by kernel_rfl⟩
theorem meets26:Meets Try.prog 26 m26:=by
 refine meet (f:=Try.f26) (l:=[]) (hs:=[(26,999,[4])]) (ts:=[]) (ws:=[]) (is:=[]) (ls:=[]) (lvl:=0) mixed k26 Try.func26 (by kernel_rfl) noLoop allT_nil allM_nil noI fun w xs us r hl hv h=>?_
 unfold m26 at h
 split at h
 ·rename_i xa xb xc xd a1
  obtain ⟨h1,rfl⟩:=pair_inj h
  exact (e26 xa xb xc xd a1).trans (of_tt (brT (fun b=>some (AV.bool (bif b then (bif decide (xd=(-1)) then true else decide (xd > a1)) else false))) (brT (fun b=>some (AV.bool (bif b then true else decide (xd > a1)))) (fun _=>rfl) (fun _=>rfl)) (fun _=>rfl)))
 ·cases h
noncomputable def c4:Cfg:=cfg Try.prog [(4,999,[2])] [(5,m5),(14,m14),(15,m15),(16,m16),(17,m17),(18,m18),(19,m19),(20,m20),(21,m21),(22,m22),(23,m23),(24,m24),(25,m25),(26,m26),(27,m27)] [] [] []
def raw4 (a0:List AV):Option AV:=(bif (v5_0 a0) then some (AV.bool true)
 else (bif q14 a0 then (bif q15 (v14_0 a0) (v14_1 a0) (v14_2 a0) (v14_3 a0) (v14_4 a0) (v14_5 a0) then (bif q16 (v14_0 a0) (v14_1 a0) (v14_2 a0) (v14_3 a0) (v14_4 a0) (v14_5 a0) then (bif !((v15_6 (v14_0 a0) (v14_1 a0) (v14_2 a0) (v14_3 a0) (v14_4 a0) (v14_5 a0)) == (v16_6 (v14_0 a0) (v14_1 a0) (v14_2 a0) (v14_3 a0) (v14_4 a0) (v14_5 a0))) then some (AV.bool false)
 else (bif !decide ((v15_5 (v14_0 a0) (v14_1 a0) (v14_2 a0) (v14_3 a0) (v14_4 a0) (v14_5 a0))=(v16_5 (v14_0 a0) (v14_1 a0) (v14_2 a0) (v14_3 a0) (v14_4 a0) (v14_5 a0))) then some (AV.bool false)
 else (bif q17 (v15_0 (v14_0 a0) (v14_1 a0) (v14_2 a0) (v14_3 a0) (v14_4 a0) (v14_5 a0)) (v15_1 (v14_0 a0) (v14_1 a0) (v14_2 a0) (v14_3 a0) (v14_4 a0) (v14_5 a0)) (v15_2 (v14_0 a0) (v14_1 a0) (v14_2 a0) (v14_3 a0) (v14_4 a0) (v14_5 a0)) (v15_3 (v14_0 a0) (v14_1 a0) (v14_2 a0) (v14_3 a0) (v14_4 a0) (v14_5 a0)) (v15_4 (v14_0 a0) (v14_1 a0) (v14_2 a0) (v14_3 a0) (v14_4 a0) (v14_5 a0)) (v16_0 (v14_0 a0) (v14_1 a0) (v14_2 a0) (v14_3 a0) (v14_4 a0) (v14_5 a0)) (v16_1 (v14_0 a0) (v14_1 a0) (v14_2 a0) (v14_3 a0) (v14_4 a0) (v14_5 a0)) (v16_2 (v14_0 a0) (v14_1 a0) (v14_2 a0) (v14_3 a0) (v14_4 a0) (v14_5 a0)) (v16_3 (v14_0 a0) (v14_1 a0) (v14_2 a0) (v14_3 a0) (v14_4 a0) (v14_5 a0)) (v16_4 (v14_0 a0) (v14_1 a0) (v14_2 a0) (v14_3 a0) (v14_4 a0) (v14_5 a0)) then (bif !(v17_0 (v15_0 (v14_0 a0) (v14_1 a0) (v14_2 a0) (v14_3 a0) (v14_4 a0) (v14_5 a0)) (v15_1 (v14_0 a0) (v14_1 a0) (v14_2 a0) (v14_3 a0) (v14_4 a0) (v14_5 a0)) (v15_2 (v14_0 a0) (v14_1 a0) (v14_2 a0) (v14_3 a0) (v14_4 a0) (v14_5 a0)) (v15_3 (v14_0 a0) (v14_1 a0) (v14_2 a0) (v14_3 a0) (v14_4 a0) (v14_5 a0)) (v15_4 (v14_0 a0) (v14_1 a0) (v14_2 a0) (v14_3 a0) (v14_4 a0) (v14_5 a0)) (v16_0 (v14_0 a0) (v14_1 a0) (v14_2 a0) (v14_3 a0) (v14_4 a0) (v14_5 a0)) (v16_1 (v14_0 a0) (v14_1 a0) (v14_2 a0) (v14_3 a0) (v14_4 a0) (v14_5 a0)) (v16_2 (v14_0 a0) (v14_1 a0) (v14_2 a0) (v14_3 a0) (v14_4 a0) (v14_5 a0)) (v16_3 (v14_0 a0) (v14_1 a0) (v14_2 a0) (v14_3 a0) (v14_4 a0) (v14_5 a0)) (v16_4 (v14_0 a0) (v14_1 a0) (v14_2 a0) (v14_3 a0) (v14_4 a0) (v14_5 a0))) then some (AV.bool false)
 else (bif q18 (v14_0 a0) (v14_1 a0) (v14_2 a0) (v14_3 a0) (v14_4 a0) then (bif q19 (v14_0 a0) (v14_1 a0) (v14_2 a0) (v14_3 a0) (v14_4 a0) then (bif !((v18_0 (v14_0 a0) (v14_1 a0) (v14_2 a0) (v14_3 a0) (v14_4 a0)) == (v19_0 (v14_0 a0) (v14_1 a0) (v14_2 a0) (v14_3 a0) (v14_4 a0))) then some (AV.bool false)
 else (bif (v15_6 (v14_0 a0) (v14_1 a0) (v14_2 a0) (v14_3 a0) (v14_4 a0) (v14_5 a0)) then (bif q20 (v14_0 a0) (v14_1 a0) (v14_2 a0) (v14_3 a0) (v14_4 a0) (v14_1 a0) (-1000) 1000 then (bif q20 (v15_0 (v14_0 a0) (v14_1 a0) (v14_2 a0) (v14_3 a0) (v14_4 a0) (v14_5 a0)) (v15_1 (v14_0 a0) (v14_1 a0) (v14_2 a0) (v14_3 a0) (v14_4 a0) (v14_5 a0)) (v15_2 (v14_0 a0) (v14_1 a0) (v14_2 a0) (v14_3 a0) (v14_4 a0) (v14_5 a0)) (v15_3 (v14_0 a0) (v14_1 a0) (v14_2 a0) (v14_3 a0) (v14_4 a0) (v14_5 a0)) (v15_4 (v14_0 a0) (v14_1 a0) (v14_2 a0) (v14_3 a0) (v14_4 a0) (v14_5 a0)) (v15_1 (v14_0 a0) (v14_1 a0) (v14_2 a0) (v14_3 a0) (v14_4 a0) (v14_5 a0)) (-1000) 1000 then (bif !decide ((v15_1 (v14_0 a0) (v14_1 a0) (v14_2 a0) (v14_3 a0) (v14_4 a0) (v14_5 a0))=IntKind.i64.wrap ((v14_1 a0)+1)) then some (AV.bool false)
 else (bif !decide (((v20_5 (v15_0 (v14_0 a0) (v14_1 a0) (v14_2 a0) (v14_3 a0) (v14_4 a0) (v14_5 a0)) (v15_1 (v14_0 a0) (v14_1 a0) (v14_2 a0) (v14_3 a0) (v14_4 a0) (v14_5 a0)) (v15_2 (v14_0 a0) (v14_1 a0) (v14_2 a0) (v14_3 a0) (v14_4 a0) (v14_5 a0)) (v15_3 (v14_0 a0) (v14_1 a0) (v14_2 a0) (v14_3 a0) (v14_4 a0) (v14_5 a0)) (v15_4 (v14_0 a0) (v14_1 a0) (v14_2 a0) (v14_3 a0) (v14_4 a0) (v14_5 a0)) (v15_1 (v14_0 a0) (v14_1 a0) (v14_2 a0) (v14_3 a0) (v14_4 a0) (v14_5 a0)) (-1000) 1000).length:Int)=IntKind.i64.wrap (((v20_5 (v14_0 a0) (v14_1 a0) (v14_2 a0) (v14_3 a0) (v14_4 a0) (v14_1 a0) (-1000) 1000).length:Int)+1)) then some (AV.bool false)
 else (bif q21 (v20_5 (v15_0 (v14_0 a0) (v14_1 a0) (v14_2 a0) (v14_3 a0) (v14_4 a0) (v14_5 a0)) (v15_1 (v14_0 a0) (v14_1 a0) (v14_2 a0) (v14_3 a0) (v14_4 a0) (v14_5 a0)) (v15_2 (v14_0 a0) (v14_1 a0) (v14_2 a0) (v14_3 a0) (v14_4 a0) (v14_5 a0)) (v15_3 (v14_0 a0) (v14_1 a0) (v14_2 a0) (v14_3 a0) (v14_4 a0) (v14_5 a0)) (v15_4 (v14_0 a0) (v14_1 a0) (v14_2 a0) (v14_3 a0) (v14_4 a0) (v14_5 a0)) (v15_1 (v14_0 a0) (v14_1 a0) (v14_2 a0) (v14_3 a0) (v14_4 a0) (v14_5 a0)) (-1000) 1000) (v15_5 (v14_0 a0) (v14_1 a0) (v14_2 a0) (v14_3 a0) (v14_4 a0) (v14_5 a0)) then (bif !(v21_0 (v20_5 (v15_0 (v14_0 a0) (v14_1 a0) (v14_2 a0) (v14_3 a0) (v14_4 a0) (v14_5 a0)) (v15_1 (v14_0 a0) (v14_1 a0) (v14_2 a0) (v14_3 a0) (v14_4 a0) (v14_5 a0)) (v15_2 (v14_0 a0) (v14_1 a0) (v14_2 a0) (v14_3 a0) (v14_4 a0) (v14_5 a0)) (v15_3 (v14_0 a0) (v14_1 a0) (v14_2 a0) (v14_3 a0) (v14_4 a0) (v14_5 a0)) (v15_4 (v14_0 a0) (v14_1 a0) (v14_2 a0) (v14_3 a0) (v14_4 a0) (v14_5 a0)) (v15_1 (v14_0 a0) (v14_1 a0) (v14_2 a0) (v14_3 a0) (v14_4 a0) (v14_5 a0)) (-1000) 1000) (v15_5 (v14_0 a0) (v14_1 a0) (v14_2 a0) (v14_3 a0) (v14_4 a0) (v14_5 a0))) then some (AV.bool false)
 else (bif q21 (v20_5 (v14_0 a0) (v14_1 a0) (v14_2 a0) (v14_3 a0) (v14_4 a0) (v14_1 a0) (-1000) 1000) (v15_5 (v14_0 a0) (v14_1 a0) (v14_2 a0) (v14_3 a0) (v14_4 a0) (v14_5 a0)) then (bif (v21_0 (v20_5 (v14_0 a0) (v14_1 a0) (v14_2 a0) (v14_3 a0) (v14_4 a0) (v14_1 a0) (-1000) 1000) (v15_5 (v14_0 a0) (v14_1 a0) (v14_2 a0) (v14_3 a0) (v14_4 a0) (v14_5 a0))) then some (AV.bool false)
 else (bif q18 (v15_0 (v14_0 a0) (v14_1 a0) (v14_2 a0) (v14_3 a0) (v14_4 a0) (v14_5 a0)) (v15_1 (v14_0 a0) (v14_1 a0) (v14_2 a0) (v14_3 a0) (v14_4 a0) (v14_5 a0)) (v15_2 (v14_0 a0) (v14_1 a0) (v14_2 a0) (v14_3 a0) (v14_4 a0) (v14_5 a0)) (v15_3 (v14_0 a0) (v14_1 a0) (v14_2 a0) (v14_3 a0) (v14_4 a0) (v14_5 a0)) (v15_4 (v14_0 a0) (v14_1 a0) (v14_2 a0) (v14_3 a0) (v14_4 a0) (v14_5 a0)) then (bif !(v18_0 (v15_0 (v14_0 a0) (v14_1 a0) (v14_2 a0) (v14_3 a0) (v14_4 a0) (v14_5 a0)) (v15_1 (v14_0 a0) (v14_1 a0) (v14_2 a0) (v14_3 a0) (v14_4 a0) (v14_5 a0)) (v15_2 (v14_0 a0) (v14_1 a0) (v14_2 a0) (v14_3 a0) (v14_4 a0) (v14_5 a0)) (v15_3 (v14_0 a0) (v14_1 a0) (v14_2 a0) (v14_3 a0) (v14_4 a0) (v14_5 a0)) (v15_4 (v14_0 a0) (v14_1 a0) (v14_2 a0) (v14_3 a0) (v14_4 a0) (v14_5 a0))) then some (AV.bool false)
 else (bif q22 a0 then (bif q23 (v22_0 a0) (v22_1 a0) (v22_2 a0) (v22_3 a0) (v22_4 a0) (v22_5 a0) then (bif q24 (v22_0 a0) (v22_1 a0) (v22_2 a0) (v22_3 a0) (v22_4 a0) (v22_5 a0) then (bif !((v23_5 (v22_0 a0) (v22_1 a0) (v22_2 a0) (v22_3 a0) (v22_4 a0) (v22_5 a0)) == (v24_5 (v22_0 a0) (v22_1 a0) (v22_2 a0) (v22_3 a0) (v22_4 a0) (v22_5 a0))) then some (AV.bool false)
 else (bif q17 (v23_0 (v22_0 a0) (v22_1 a0) (v22_2 a0) (v22_3 a0) (v22_4 a0) (v22_5 a0)) (v23_1 (v22_0 a0) (v22_1 a0) (v22_2 a0) (v22_3 a0) (v22_4 a0) (v22_5 a0)) (v23_2 (v22_0 a0) (v22_1 a0) (v22_2 a0) (v22_3 a0) (v22_4 a0) (v22_5 a0)) (v23_3 (v22_0 a0) (v22_1 a0) (v22_2 a0) (v22_3 a0) (v22_4 a0) (v22_5 a0)) (v23_4 (v22_0 a0) (v22_1 a0) (v22_2 a0) (v22_3 a0) (v22_4 a0) (v22_5 a0)) (v24_0 (v22_0 a0) (v22_1 a0) (v22_2 a0) (v22_3 a0) (v22_4 a0) (v22_5 a0)) (v24_1 (v22_0 a0) (v22_1 a0) (v22_2 a0) (v22_3 a0) (v22_4 a0) (v22_5 a0)) (v24_2 (v22_0 a0) (v22_1 a0) (v22_2 a0) (v22_3 a0) (v22_4 a0) (v22_5 a0)) (v24_3 (v22_0 a0) (v22_1 a0) (v22_2 a0) (v22_3 a0) (v22_4 a0) (v22_5 a0)) (v24_4 (v22_0 a0) (v22_1 a0) (v22_2 a0) (v22_3 a0) (v22_4 a0) (v22_5 a0)) then (bif !(v17_0 (v23_0 (v22_0 a0) (v22_1 a0) (v22_2 a0) (v22_3 a0) (v22_4 a0) (v22_5 a0)) (v23_1 (v22_0 a0) (v22_1 a0) (v22_2 a0) (v22_3 a0) (v22_4 a0) (v22_5 a0)) (v23_2 (v22_0 a0) (v22_1 a0) (v22_2 a0) (v22_3 a0) (v22_4 a0) (v22_5 a0)) (v23_3 (v22_0 a0) (v22_1 a0) (v22_2 a0) (v22_3 a0) (v22_4 a0) (v22_5 a0)) (v23_4 (v22_0 a0) (v22_1 a0) (v22_2 a0) (v22_3 a0) (v22_4 a0) (v22_5 a0)) (v24_0 (v22_0 a0) (v22_1 a0) (v22_2 a0) (v22_3 a0) (v22_4 a0) (v22_5 a0)) (v24_1 (v22_0 a0) (v22_1 a0) (v22_2 a0) (v22_3 a0) (v22_4 a0) (v22_5 a0)) (v24_2 (v22_0 a0) (v22_1 a0) (v22_2 a0) (v22_3 a0) (v22_4 a0) (v22_5 a0)) (v24_3 (v22_0 a0) (v22_1 a0) (v22_2 a0) (v22_3 a0) (v22_4 a0) (v22_5 a0)) (v24_4 (v22_0 a0) (v22_1 a0) (v22_2 a0) (v22_3 a0) (v22_4 a0) (v22_5 a0))) then some (AV.bool false)
 else (bif (v23_5 (v22_0 a0) (v22_1 a0) (v22_2 a0) (v22_3 a0) (v22_4 a0) (v22_5 a0)) then (bif q20 (v22_0 a0) (v22_1 a0) (v22_2 a0) (v22_3 a0) (v22_4 a0) (v22_1 a0) (-1000) 1000 then (bif q20 (v23_0 (v22_0 a0) (v22_1 a0) (v22_2 a0) (v22_3 a0) (v22_4 a0) (v22_5 a0)) (v23_1 (v22_0 a0) (v22_1 a0) (v22_2 a0) (v22_3 a0) (v22_4 a0) (v22_5 a0)) (v23_2 (v22_0 a0) (v22_1 a0) (v22_2 a0) (v22_3 a0) (v22_4 a0) (v22_5 a0)) (v23_3 (v22_0 a0) (v22_1 a0) (v22_2 a0) (v22_3 a0) (v22_4 a0) (v22_5 a0)) (v23_4 (v22_0 a0) (v22_1 a0) (v22_2 a0) (v22_3 a0) (v22_4 a0) (v22_5 a0)) (v23_1 (v22_0 a0) (v22_1 a0) (v22_2 a0) (v22_3 a0) (v22_4 a0) (v22_5 a0)) (-1000) 1000 then (bif !decide (((v20_5 (v23_0 (v22_0 a0) (v22_1 a0) (v22_2 a0) (v22_3 a0) (v22_4 a0) (v22_5 a0)) (v23_1 (v22_0 a0) (v22_1 a0) (v22_2 a0) (v22_3 a0) (v22_4 a0) (v22_5 a0)) (v23_2 (v22_0 a0) (v22_1 a0) (v22_2 a0) (v22_3 a0) (v22_4 a0) (v22_5 a0)) (v23_3 (v22_0 a0) (v22_1 a0) (v22_2 a0) (v22_3 a0) (v22_4 a0) (v22_5 a0)) (v23_4 (v22_0 a0) (v22_1 a0) (v22_2 a0) (v22_3 a0) (v22_4 a0) (v22_5 a0)) (v23_1 (v22_0 a0) (v22_1 a0) (v22_2 a0) (v22_3 a0) (v22_4 a0) (v22_5 a0)) (-1000) 1000).length:Int)=IntKind.i64.wrap (((v20_5 (v22_0 a0) (v22_1 a0) (v22_2 a0) (v22_3 a0) (v22_4 a0) (v22_1 a0) (-1000) 1000).length:Int) - 1)) then some (AV.bool false)
 else (bif q21 (v20_5 (v23_0 (v22_0 a0) (v22_1 a0) (v22_2 a0) (v22_3 a0) (v22_4 a0) (v22_5 a0)) (v23_1 (v22_0 a0) (v22_1 a0) (v22_2 a0) (v22_3 a0) (v22_4 a0) (v22_5 a0)) (v23_2 (v22_0 a0) (v22_1 a0) (v22_2 a0) (v22_3 a0) (v22_4 a0) (v22_5 a0)) (v23_3 (v22_0 a0) (v22_1 a0) (v22_2 a0) (v22_3 a0) (v22_4 a0) (v22_5 a0)) (v23_4 (v22_0 a0) (v22_1 a0) (v22_2 a0) (v22_3 a0) (v22_4 a0) (v22_5 a0)) (v23_1 (v22_0 a0) (v22_1 a0) (v22_2 a0) (v22_3 a0) (v22_4 a0) (v22_5 a0)) (-1000) 1000) (v22_5 a0) then (bif (v21_0 (v20_5 (v23_0 (v22_0 a0) (v22_1 a0) (v22_2 a0) (v22_3 a0) (v22_4 a0) (v22_5 a0)) (v23_1 (v22_0 a0) (v22_1 a0) (v22_2 a0) (v22_3 a0) (v22_4 a0) (v22_5 a0)) (v23_2 (v22_0 a0) (v22_1 a0) (v22_2 a0) (v22_3 a0) (v22_4 a0) (v22_5 a0)) (v23_3 (v22_0 a0) (v22_1 a0) (v22_2 a0) (v22_3 a0) (v22_4 a0) (v22_5 a0)) (v23_4 (v22_0 a0) (v22_1 a0) (v22_2 a0) (v22_3 a0) (v22_4 a0) (v22_5 a0)) (v23_1 (v22_0 a0) (v22_1 a0) (v22_2 a0) (v22_3 a0) (v22_4 a0) (v22_5 a0)) (-1000) 1000) (v22_5 a0)) then some (AV.bool false)
 else (bif q21 (v20_5 (v22_0 a0) (v22_1 a0) (v22_2 a0) (v22_3 a0) (v22_4 a0) (v22_1 a0) (-1000) 1000) (v22_5 a0) then (bif !(v21_0 (v20_5 (v22_0 a0) (v22_1 a0) (v22_2 a0) (v22_3 a0) (v22_4 a0) (v22_1 a0) (-1000) 1000) (v22_5 a0)) then some (AV.bool false)
 else (bif q18 (v23_0 (v22_0 a0) (v22_1 a0) (v22_2 a0) (v22_3 a0) (v22_4 a0) (v22_5 a0)) (v23_1 (v22_0 a0) (v22_1 a0) (v22_2 a0) (v22_3 a0) (v22_4 a0) (v22_5 a0)) (v23_2 (v22_0 a0) (v22_1 a0) (v22_2 a0) (v22_3 a0) (v22_4 a0) (v22_5 a0)) (v23_3 (v22_0 a0) (v22_1 a0) (v22_2 a0) (v22_3 a0) (v22_4 a0) (v22_5 a0)) (v23_4 (v22_0 a0) (v22_1 a0) (v22_2 a0) (v22_3 a0) (v22_4 a0) (v22_5 a0)) then (bif !(v18_0 (v23_0 (v22_0 a0) (v22_1 a0) (v22_2 a0) (v22_3 a0) (v22_4 a0) (v22_5 a0)) (v23_1 (v22_0 a0) (v22_1 a0) (v22_2 a0) (v22_3 a0) (v22_4 a0) (v22_5 a0)) (v23_2 (v22_0 a0) (v22_1 a0) (v22_2 a0) (v22_3 a0) (v22_4 a0) (v22_5 a0)) (v23_3 (v22_0 a0) (v22_1 a0) (v22_2 a0) (v22_3 a0) (v22_4 a0) (v22_5 a0)) (v23_4 (v22_0 a0) (v22_1 a0) (v22_2 a0) (v22_3 a0) (v22_4 a0) (v22_5 a0))) then some (AV.bool false)
 else (bif q25 a0 then some (AV.bool ((v26_0 (v25_0 a0) (v25_1 a0) (v25_2 a0) (v25_3 a0) (v25_4 a0)) == (v27_0 (v25_0 a0) (v25_1 a0) (v25_2 a0) (v25_3 a0) (v25_4 a0))))
 else none))
 else none))
 else none))
 else none))
 else none)
 else none)
 else (bif q25 a0 then some (AV.bool ((v26_0 (v25_0 a0) (v25_1 a0) (v25_2 a0) (v25_3 a0) (v25_4 a0)) == (v27_0 (v25_0 a0) (v25_1 a0) (v25_2 a0) (v25_3 a0) (v25_4 a0))))
 else none)))
 else none))
 else none)
 else none)
 else none))
 else none))
 else none))
 else none)))
 else none)
 else none)
 else (bif q22 a0 then (bif q23 (v22_0 a0) (v22_1 a0) (v22_2 a0) (v22_3 a0) (v22_4 a0) (v22_5 a0) then (bif q24 (v22_0 a0) (v22_1 a0) (v22_2 a0) (v22_3 a0) (v22_4 a0) (v22_5 a0) then (bif !((v23_5 (v22_0 a0) (v22_1 a0) (v22_2 a0) (v22_3 a0) (v22_4 a0) (v22_5 a0)) == (v24_5 (v22_0 a0) (v22_1 a0) (v22_2 a0) (v22_3 a0) (v22_4 a0) (v22_5 a0))) then some (AV.bool false)
 else (bif q17 (v23_0 (v22_0 a0) (v22_1 a0) (v22_2 a0) (v22_3 a0) (v22_4 a0) (v22_5 a0)) (v23_1 (v22_0 a0) (v22_1 a0) (v22_2 a0) (v22_3 a0) (v22_4 a0) (v22_5 a0)) (v23_2 (v22_0 a0) (v22_1 a0) (v22_2 a0) (v22_3 a0) (v22_4 a0) (v22_5 a0)) (v23_3 (v22_0 a0) (v22_1 a0) (v22_2 a0) (v22_3 a0) (v22_4 a0) (v22_5 a0)) (v23_4 (v22_0 a0) (v22_1 a0) (v22_2 a0) (v22_3 a0) (v22_4 a0) (v22_5 a0)) (v24_0 (v22_0 a0) (v22_1 a0) (v22_2 a0) (v22_3 a0) (v22_4 a0) (v22_5 a0)) (v24_1 (v22_0 a0) (v22_1 a0) (v22_2 a0) (v22_3 a0) (v22_4 a0) (v22_5 a0)) (v24_2 (v22_0 a0) (v22_1 a0) (v22_2 a0) (v22_3 a0) (v22_4 a0) (v22_5 a0)) (v24_3 (v22_0 a0) (v22_1 a0) (v22_2 a0) (v22_3 a0) (v22_4 a0) (v22_5 a0)) (v24_4 (v22_0 a0) (v22_1 a0) (v22_2 a0) (v22_3 a0) (v22_4 a0) (v22_5 a0)) then (bif !(v17_0 (v23_0 (v22_0 a0) (v22_1 a0) (v22_2 a0) (v22_3 a0) (v22_4 a0) (v22_5 a0)) (v23_1 (v22_0 a0) (v22_1 a0) (v22_2 a0) (v22_3 a0) (v22_4 a0) (v22_5 a0)) (v23_2 (v22_0 a0) (v22_1 a0) (v22_2 a0) (v22_3 a0) (v22_4 a0) (v22_5 a0)) (v23_3 (v22_0 a0) (v22_1 a0) (v22_2 a0) (v22_3 a0) (v22_4 a0) (v22_5 a0)) (v23_4 (v22_0 a0) (v22_1 a0) (v22_2 a0) (v22_3 a0) (v22_4 a0) (v22_5 a0)) (v24_0 (v22_0 a0) (v22_1 a0) (v22_2 a0) (v22_3 a0) (v22_4 a0) (v22_5 a0)) (v24_1 (v22_0 a0) (v22_1 a0) (v22_2 a0) (v22_3 a0) (v22_4 a0) (v22_5 a0)) (v24_2 (v22_0 a0) (v22_1 a0) (v22_2 a0) (v22_3 a0) (v22_4 a0) (v22_5 a0)) (v24_3 (v22_0 a0) (v22_1 a0) (v22_2 a0) (v22_3 a0) (v22_4 a0) (v22_5 a0)) (v24_4 (v22_0 a0) (v22_1 a0) (v22_2 a0) (v22_3 a0) (v22_4 a0) (v22_5 a0))) then some (AV.bool false)
 else (bif (v23_5 (v22_0 a0) (v22_1 a0) (v22_2 a0) (v22_3 a0) (v22_4 a0) (v22_5 a0)) then (bif q20 (v22_0 a0) (v22_1 a0) (v22_2 a0) (v22_3 a0) (v22_4 a0) (v22_1 a0) (-1000) 1000 then (bif q20 (v23_0 (v22_0 a0) (v22_1 a0) (v22_2 a0) (v22_3 a0) (v22_4 a0) (v22_5 a0)) (v23_1 (v22_0 a0) (v22_1 a0) (v22_2 a0) (v22_3 a0) (v22_4 a0) (v22_5 a0)) (v23_2 (v22_0 a0) (v22_1 a0) (v22_2 a0) (v22_3 a0) (v22_4 a0) (v22_5 a0)) (v23_3 (v22_0 a0) (v22_1 a0) (v22_2 a0) (v22_3 a0) (v22_4 a0) (v22_5 a0)) (v23_4 (v22_0 a0) (v22_1 a0) (v22_2 a0) (v22_3 a0) (v22_4 a0) (v22_5 a0)) (v23_1 (v22_0 a0) (v22_1 a0) (v22_2 a0) (v22_3 a0) (v22_4 a0) (v22_5 a0)) (-1000) 1000 then (bif !decide (((v20_5 (v23_0 (v22_0 a0) (v22_1 a0) (v22_2 a0) (v22_3 a0) (v22_4 a0) (v22_5 a0)) (v23_1 (v22_0 a0) (v22_1 a0) (v22_2 a0) (v22_3 a0) (v22_4 a0) (v22_5 a0)) (v23_2 (v22_0 a0) (v22_1 a0) (v22_2 a0) (v22_3 a0) (v22_4 a0) (v22_5 a0)) (v23_3 (v22_0 a0) (v22_1 a0) (v22_2 a0) (v22_3 a0) (v22_4 a0) (v22_5 a0)) (v23_4 (v22_0 a0) (v22_1 a0) (v22_2 a0) (v22_3 a0) (v22_4 a0) (v22_5 a0)) (v23_1 (v22_0 a0) (v22_1 a0) (v22_2 a0) (v22_3 a0) (v22_4 a0) (v22_5 a0)) (-1000) 1000).length:Int)=IntKind.i64.wrap (((v20_5 (v22_0 a0) (v22_1 a0) (v22_2 a0) (v22_3 a0) (v22_4 a0) (v22_1 a0) (-1000) 1000).length:Int) - 1)) then some (AV.bool false)
 else (bif q21 (v20_5 (v23_0 (v22_0 a0) (v22_1 a0) (v22_2 a0) (v22_3 a0) (v22_4 a0) (v22_5 a0)) (v23_1 (v22_0 a0) (v22_1 a0) (v22_2 a0) (v22_3 a0) (v22_4 a0) (v22_5 a0)) (v23_2 (v22_0 a0) (v22_1 a0) (v22_2 a0) (v22_3 a0) (v22_4 a0) (v22_5 a0)) (v23_3 (v22_0 a0) (v22_1 a0) (v22_2 a0) (v22_3 a0) (v22_4 a0) (v22_5 a0)) (v23_4 (v22_0 a0) (v22_1 a0) (v22_2 a0) (v22_3 a0) (v22_4 a0) (v22_5 a0)) (v23_1 (v22_0 a0) (v22_1 a0) (v22_2 a0) (v22_3 a0) (v22_4 a0) (v22_5 a0)) (-1000) 1000) (v22_5 a0) then (bif (v21_0 (v20_5 (v23_0 (v22_0 a0) (v22_1 a0) (v22_2 a0) (v22_3 a0) (v22_4 a0) (v22_5 a0)) (v23_1 (v22_0 a0) (v22_1 a0) (v22_2 a0) (v22_3 a0) (v22_4 a0) (v22_5 a0)) (v23_2 (v22_0 a0) (v22_1 a0) (v22_2 a0) (v22_3 a0) (v22_4 a0) (v22_5 a0)) (v23_3 (v22_0 a0) (v22_1 a0) (v22_2 a0) (v22_3 a0) (v22_4 a0) (v22_5 a0)) (v23_4 (v22_0 a0) (v22_1 a0) (v22_2 a0) (v22_3 a0) (v22_4 a0) (v22_5 a0)) (v23_1 (v22_0 a0) (v22_1 a0) (v22_2 a0) (v22_3 a0) (v22_4 a0) (v22_5 a0)) (-1000) 1000) (v22_5 a0)) then some (AV.bool false)
 else (bif q21 (v20_5 (v22_0 a0) (v22_1 a0) (v22_2 a0) (v22_3 a0) (v22_4 a0) (v22_1 a0) (-1000) 1000) (v22_5 a0) then (bif !(v21_0 (v20_5 (v22_0 a0) (v22_1 a0) (v22_2 a0) (v22_3 a0) (v22_4 a0) (v22_1 a0) (-1000) 1000) (v22_5 a0)) then some (AV.bool false)
 else (bif q18 (v23_0 (v22_0 a0) (v22_1 a0) (v22_2 a0) (v22_3 a0) (v22_4 a0) (v22_5 a0)) (v23_1 (v22_0 a0) (v22_1 a0) (v22_2 a0) (v22_3 a0) (v22_4 a0) (v22_5 a0)) (v23_2 (v22_0 a0) (v22_1 a0) (v22_2 a0) (v22_3 a0) (v22_4 a0) (v22_5 a0)) (v23_3 (v22_0 a0) (v22_1 a0) (v22_2 a0) (v22_3 a0) (v22_4 a0) (v22_5 a0)) (v23_4 (v22_0 a0) (v22_1 a0) (v22_2 a0) (v22_3 a0) (v22_4 a0) (v22_5 a0)) then (bif !(v18_0 (v23_0 (v22_0 a0) (v22_1 a0) (v22_2 a0) (v22_3 a0) (v22_4 a0) (v22_5 a0)) (v23_1 (v22_0 a0) (v22_1 a0) (v22_2 a0) (v22_3 a0) (v22_4 a0) (v22_5 a0)) (v23_2 (v22_0 a0) (v22_1 a0) (v22_2 a0) (v22_3 a0) (v22_4 a0) (v22_5 a0)) (v23_3 (v22_0 a0) (v22_1 a0) (v22_2 a0) (v22_3 a0) (v22_4 a0) (v22_5 a0)) (v23_4 (v22_0 a0) (v22_1 a0) (v22_2 a0) (v22_3 a0) (v22_4 a0) (v22_5 a0))) then some (AV.bool false)
 else (bif q25 a0 then some (AV.bool ((v26_0 (v25_0 a0) (v25_1 a0) (v25_2 a0) (v25_3 a0) (v25_4 a0)) == (v27_0 (v25_0 a0) (v25_1 a0) (v25_2 a0) (v25_3 a0) (v25_4 a0))))
 else none))
 else none))
 else none))
 else none))
 else none)
 else none)
 else (bif q25 a0 then some (AV.bool ((v26_0 (v25_0 a0) (v25_1 a0) (v25_2 a0) (v25_3 a0) (v25_4 a0)) == (v27_0 (v25_0 a0) (v25_1 a0) (v25_2 a0) (v25_3 a0) (v25_4 a0))))
 else none)))
 else none))
 else none)
 else none)
 else none)))
 else none)
 else none))
 else none)))
 else none)
 else none)
 else none))
theorem e4 (a0:List AV):funA c4 0 4 [AV.sl [.int .u8] a0]=raw4 a0:=by kernel_rfl
def m4:TModel
 | [.sl g0 a0]=>bif ctsEq g0 ([.int .u8]) then (raw4 a0).map fun r=>(true,r) else none
 | _=>none
theorem k4:Known Try.prog 4:=⟨Try.f4,Try.func4,by kernel_rfl,by kernel_rfl⟩
theorem meets4:Meets Try.prog 4 m4:=by
 refine meet (f:=Try.f4) (l:=[]) (hs:=[(4,999,[2])]) (ts:=[(5,m5),(14,m14),(15,m15),(16,m16),(17,m17),(18,m18),(19,m19),(20,m20),(21,m21),(22,m22),(23,m23),(24,m24),(25,m25),(26,m26),(27,m27)]) (ws:=[]) (is:=[]) (ls:=[]) (lvl:=0) mixed k4 Try.func4 (by kernel_rfl) noLoop (allT_cons meets5 (allT_cons meets14 (allT_cons meets15 (allT_cons meets16 (allT_cons meets17 (allT_cons meets18 (allT_cons meets19 (allT_cons meets20 (allT_cons meets21 (allT_cons meets22 (allT_cons meets23 (allT_cons meets24 (allT_cons meets25 (allT_cons meets26 (allT_cons meets27 allT_nil))))))))))))))) allM_nil noI fun w xs us r hl hv h=>?_
 unfold m4 at h
 split at h
 ·rename_i g0 a0
  obtain ⟨hg,h⟩:=bif_pair h
  have q0:=hg
  obtain rfl:=ctsEq_eq _ _ q0
  obtain ⟨r',h1,h2⟩:=Option.map_eq_some_iff.1 h
  obtain ⟨_,rfl⟩:=Prod.mk.inj h2
  exact (e4 a0).trans h1
 ·cases h
end
end Go.Proofs.Ytkdnhnkhcldonaa
