import Derived.Test.YtealoedecngaoaaGreatDoorP10
import Derived.Test.YtealoedecngaoaaGreatDoorProg
import Derived.KernelRfl
namespace Go.Proofs.YtealoedecngaoaaGreatDoor
open Go Go.Proofs.VE
set_option linter.unusedVariables false
set_option linter.unusedSimpArgs false
set_option maxRecDepth 100000
set_option maxHeartbeats 4000000
noncomputable section
def G39_4 {β:Type} (t50:List AV) (t51:Int) (t52:Int) (t103:List AV) (t104:Int) (h0_0:List AV) (h0_1:List AV) (h0_2:List AV) (h1_0:Int) (h1_1:Int) (t105:Int) (N:(Int)→β) (K:(Unit ⊕ Unit)→β) (d:β):β:=(bif decide (t105<t104) then (bif (decide (0≤t105) && decide (t105<(t103.length:Int))) then (bif !(decide (fI (t103.getD t105.toNat .undef) 0<h1_0) == decide (t105<h1_1)) then K (.inr ())
 else N (IntKind.i64.wrap (t105+1)))
 else d)
 else K (.inl ()))
def F39_4 (t50:List AV) (t51 t52:Int) (t103:List AV) (t104:Int) (h0_0 h0_1 h0_2:List AV) (h1_0 h1_1 t105:Int):Out (Int) (Unit ⊕ Unit):=G39_4 t50 t51 t52 t103 t104 h0_0 h0_1 h0_2 h1_0 h1_1 t105 .next .stop .fail
def R39_4 (t50:List AV) (t51 t52:Int) (t103:List AV) (t104:Int) (h0_0 h0_1 h0_2:List AV) (h1_0 h1_1:Int):(Int)→Out (Int) (Unit ⊕ Unit):=fun s:Int=>F39_4 t50 t51 t52 t103 t104 h0_0 h0_1 h0_2 h1_0 h1_1 s
def E39_4 (t50:List AV) (t51 t52:Int) (t103:List AV) (t104:Int) (h0_0 h0_1 h0_2:List AV) (h1_0 h1_1:Int):(Int)→St:=fun s:Int=>⟨[(1,AV.ptr [0,1] 0 0),(6,AV.ptr [0,6] 0 0),(50,AV.sl [.int .i64,.int .i64] t50),(51,Ai t51),(52,Ai t52),(103,AV.sl [.int .i64] t103),(104,Ai t104),(105,Ai s)],[([0,1],⟨true,[],[AV.agg [AV.sl [.int .i64] h0_0,AV.sl [.int .i64] h0_1,AV.sl [.int .i64,.int .i64] h0_2]]⟩),([0,6],⟨true,[],[AV.agg [Ai h1_0,Ai h1_1]]⟩)]⟩
def K39_4 (t50:List AV) (t51 t52:Int) (t103:List AV) (t104:Int) (h0_0 h0_1 h0_2:List AV) (h1_0 h1_1:Int) (k:Kont):(Unit ⊕ Unit)→Option AV:=sumE (fun _:Unit=>k (.exit 4) ⟨[(1,AV.ptr [0,1] 0 0),(50,AV.sl [.int .i64,.int .i64] t50),(51,Ai t51),(52,Ai t52)],[([0,1],⟨true,[],[AV.agg [AV.sl [.int .i64] h0_0,AV.sl [.int .i64] h0_1,AV.sl [.int .i64,.int .i64] h0_2]]⟩),([0,6],⟨true,[],[AV.agg [Ai h1_0,Ai h1_1]]⟩)]⟩) (fun _:Unit=>k .ret ⟨[(2,AV.bool false)],[([0,1],⟨true,[],[AV.agg [AV.sl [.int .i64] h0_0,AV.sl [.int .i64] h0_1,AV.sl [.int .i64,.int .i64] h0_2]]⟩),([0,6],⟨true,[],[AV.agg [Ai h1_0,Ai h1_1]]⟩)]⟩)
def l39_4:LModel:=fun _ _ st k=>match st with
 | ⟨[(1,.ptr g0 g1 g2),(6,.ptr g3 g4 g5),(50,.sl g6 t50),(51,.int .i64 t51),(52,.int .i64 t52),(103,.sl g7 t103),(104,.int .i64 t104),(105,.int .i64 t105)],[(g8,⟨true,[],[.agg [.sl g9 h0_0,.sl g10 h0_1,.sl g11 h0_2]]⟩),(g12,⟨true,[],[.agg [.int .i64 h1_0,.int .i64 h1_1]]⟩)]⟩=>bif nmEq g0 ([0,1]) && Nat.beq g1 0 && Nat.beq g2 0 && nmEq g3 ([0,6]) && Nat.beq g4 0 && Nat.beq g5 0 && ctsEq g6 ([.int .i64,.int .i64]) && ctsEq g7 ([.int .i64]) && nmEq g8 ([0,1]) && ctsEq g9 ([.int .i64]) && ctsEq g10 ([.int .i64]) && ctsEq g11 ([.int .i64,.int .i64]) && nmEq g12 ([0,6]) then ro (runW (R39_4 t50 t51 t52 t103 t104 h0_0 h0_1 h0_2 h1_0 h1_1) ((t104 - t105:Int).toNat+1) t105) none (K39_4 t50 t51 t52 t103 t104 h0_0 h0_1 h0_2 h1_0 h1_1 k) else none
 | _=>none
def G39_2 {β:Type} (t50:List AV) (t51:Int) (h0_0:List AV) (h0_1:List AV) (h0_2:List AV) (t52:Int) (N:(Int)→β) (K:(Unit ⊕ (Int × Int) ⊕ (Int × Int))→β) (d:β):β:=(bif decide (t52<t51) then (bif (decide (0≤t52) && decide (t52<(t50.length:Int))) then (bif !(v108_0 (fI (t50.getD t52.toNat .undef) 0)) then K (.inr (.inl (fI (t50.getD t52.toNat .undef) 0,fI (t50.getD t52.toNat .undef) 1)))
 else (bif decide (fI (t50.getD t52.toNat .undef) 1<0) then K (.inr (.inl (fI (t50.getD t52.toNat .undef) 0,fI (t50.getD t52.toNat .undef) 1)))
 else (bif decide (fI (t50.getD t52.toNat .undef) 1 > (h0_0.length:Int)) then K (.inr (.inl (fI (t50.getD t52.toNat .undef) 0,fI (t50.getD t52.toNat .undef) 1)))
 else (bif decide (t52 > 0) then (bif (decide (0≤IntKind.i64.wrap (t52 - 1)) && decide (IntKind.i64.wrap (t52 - 1)<(h0_2.length:Int))) then (bif decide (fI (t50.getD t52.toNat .undef) 0≤fI (h0_2.getD (IntKind.i64.wrap (t52 - 1)).toNat .undef) 0) then K (.inr (.inl (fI (t50.getD t52.toNat .undef) 0,fI (t50.getD t52.toNat .undef) 1)))
 else (bif (decide (0≤IntKind.i64.wrap (t52 - 1)) && decide (IntKind.i64.wrap (t52 - 1)<(h0_2.length:Int))) then (bif decide (fI (t50.getD t52.toNat .undef) 1<fI (h0_2.getD (IntKind.i64.wrap (t52 - 1)).toNat .undef) 1) then K (.inr (.inl (fI (t50.getD t52.toNat .undef) 0,fI (t50.getD t52.toNat .undef) 1)))
 else (ro (runW (R39_4 t50 t51 t52 h0_0 (h0_0.length:Int) h0_0 h0_1 h0_2 (fI (t50.getD t52.toNat .undef) 0) (fI (t50.getD t52.toNat .undef) 1)) (((h0_0.length:Int) - 0:Int).toNat+1) 0) d (sumE (fun _=>N (IntKind.i64.wrap (t52+1))) (fun _=>K (.inr (.inr (fI (t50.getD t52.toNat .undef) 0,fI (t50.getD t52.toNat .undef) 1)))))))
 else d))
 else d)
 else (ro (runW (R39_4 t50 t51 t52 h0_0 (h0_0.length:Int) h0_0 h0_1 h0_2 (fI (t50.getD t52.toNat .undef) 0) (fI (t50.getD t52.toNat .undef) 1)) (((h0_0.length:Int) - 0:Int).toNat+1) 0) d (sumE (fun _=>N (IntKind.i64.wrap (t52+1))) (fun _=>K (.inr (.inr (fI (t50.getD t52.toNat .undef) 0,fI (t50.getD t52.toNat .undef) 1))))))))))
 else d)
 else K (.inl ()))
def F39_2 (t50:List AV) (t51:Int) (h0_0 h0_1 h0_2:List AV) (t52:Int):Out (Int) (Unit ⊕ (Int × Int) ⊕ (Int × Int)):=G39_2 t50 t51 h0_0 h0_1 h0_2 t52 .next .stop .fail
def R39_2 (t50:List AV) (t51:Int) (h0_0 h0_1 h0_2:List AV):(Int)→Out (Int) (Unit ⊕ (Int × Int) ⊕ (Int × Int)):=fun s:Int=>F39_2 t50 t51 h0_0 h0_1 h0_2 s
def E39_2 (t50:List AV) (t51:Int) (h0_0 h0_1 h0_2:List AV):(Int)→St:=fun s:Int=>⟨[(1,AV.ptr [0,1] 0 0),(50,AV.sl [.int .i64,.int .i64] t50),(51,Ai t51),(52,Ai s)],[([0,1],⟨true,[],[AV.agg [AV.sl [.int .i64] h0_0,AV.sl [.int .i64] h0_1,AV.sl [.int .i64,.int .i64] h0_2]]⟩)]⟩
def K39_2 (t50:List AV) (t51:Int) (h0_0 h0_1 h0_2:List AV) (k:Kont):(Unit ⊕ (Int × Int) ⊕ (Int × Int))→Option AV:=sumE (fun _:Unit=>k (.exit 2) ⟨[],[([0,1],⟨true,[],[AV.agg [AV.sl [.int .i64] h0_0,AV.sl [.int .i64] h0_1,AV.sl [.int .i64,.int .i64] h0_2]]⟩)]⟩) (sumE (fun p:Int × Int=>k .ret ⟨[(2,AV.bool false)],[([0,1],⟨true,[],[AV.agg [AV.sl [.int .i64] h0_0,AV.sl [.int .i64] h0_1,AV.sl [.int .i64,.int .i64] h0_2]]⟩),([1,6],⟨true,[],[AV.agg [Ai p.1,Ai p.2]]⟩)]⟩) (fun p:Int × Int=>k .ret ⟨[(2,AV.bool false)],[([0,1],⟨true,[],[AV.agg [AV.sl [.int .i64] h0_0,AV.sl [.int .i64] h0_1,AV.sl [.int .i64,.int .i64] h0_2]]⟩),([0,6],⟨true,[],[AV.agg [Ai p.1,Ai p.2]]⟩)]⟩))
def l39_2:LModel:=fun _ _ st k=>match st with
 | ⟨[(1,.ptr g0 g1 g2),(50,.sl g3 t50),(51,.int .i64 t51),(52,.int .i64 t52)],[(g4,⟨true,[],[.agg [.sl g5 h0_0,.sl g6 h0_1,.sl g7 h0_2]]⟩)]⟩=>bif nmEq g0 ([0,1]) && Nat.beq g1 0 && Nat.beq g2 0 && ctsEq g3 ([.int .i64,.int .i64]) && nmEq g4 ([0,1]) && ctsEq g5 ([.int .i64]) && ctsEq g6 ([.int .i64]) && ctsEq g7 ([.int .i64,.int .i64]) then ro (runW (R39_2 t50 t51 h0_0 h0_1 h0_2) ((t51 - t52:Int).toNat+1) t52) none (K39_2 t50 t51 h0_0 h0_1 h0_2 k) else none
 | _=>none
def G39_0 {β:Type} (t35:List AV) (t36:Int) (h0_0:List AV) (h0_1:List AV) (h0_2:List AV) (t37:Int) (N:(Int)→β) (K:(Unit ⊕ Unit)→β) (d:β):β:=(bif decide (t37<t36) then (bif (decide (0≤t37) && decide (t37<(t35.length:Int))) then (bif (decide (0≤0) && decide (0≤t37) && decide (t37≤(h0_1.length:Int))) then (bif q107 ((h0_1.take (Int.toNat t37)).drop (Int.toNat 0)) (fI (t35.getD t37.toNat .undef) 0) then (bif (v107_0 ((h0_1.take (Int.toNat t37)).drop (Int.toNat 0)) (fI (t35.getD t37.toNat .undef) 0)) then K (.inr ())
 else N (IntKind.i64.wrap (t37+1)))
 else d)
 else d)
 else d)
 else K (.inl ()))
def F39_0 (t35:List AV) (t36:Int) (h0_0 h0_1 h0_2:List AV) (t37:Int):Out (Int) (Unit ⊕ Unit):=G39_0 t35 t36 h0_0 h0_1 h0_2 t37 .next .stop .fail
def R39_0 (t35:List AV) (t36:Int) (h0_0 h0_1 h0_2:List AV):(Int)→Out (Int) (Unit ⊕ Unit):=fun s:Int=>F39_0 t35 t36 h0_0 h0_1 h0_2 s
def E39_0 (t35:List AV) (t36:Int) (h0_0 h0_1 h0_2:List AV):(Int)→St:=fun s:Int=>⟨[(1,AV.ptr [0,1] 0 0),(35,AV.sl [.int .i64] t35),(36,Ai t36),(37,Ai s)],[([0,1],⟨true,[],[AV.agg [AV.sl [.int .i64] h0_0,AV.sl [.int .i64] h0_1,AV.sl [.int .i64,.int .i64] h0_2]]⟩)]⟩
def K39_0 (t35:List AV) (t36:Int) (h0_0 h0_1 h0_2:List AV) (k:Kont):(Unit ⊕ Unit)→Option AV:=sumE (fun _:Unit=>k (.exit 0) ⟨[(1,AV.ptr [0,1] 0 0)],[([0,1],⟨true,[],[AV.agg [AV.sl [.int .i64] h0_0,AV.sl [.int .i64] h0_1,AV.sl [.int .i64,.int .i64] h0_2]]⟩)]⟩) (fun _:Unit=>k .ret ⟨[(2,AV.bool false)],[([0,1],⟨true,[],[AV.agg [AV.sl [.int .i64] h0_0,AV.sl [.int .i64] h0_1,AV.sl [.int .i64,.int .i64] h0_2]]⟩)]⟩)
def l39_0:LModel:=fun _ _ st k=>match st with
 | ⟨[(1,.ptr g0 g1 g2),(35,.sl g3 t35),(36,.int .i64 t36),(37,.int .i64 t37)],[(g4,⟨true,[],[.agg [.sl g5 h0_0,.sl g6 h0_1,.sl g7 h0_2]]⟩)]⟩=>bif nmEq g0 ([0,1]) && Nat.beq g1 0 && Nat.beq g2 0 && ctsEq g3 ([.int .i64]) && nmEq g4 ([0,1]) && ctsEq g5 ([.int .i64]) && ctsEq g6 ([.int .i64]) && ctsEq g7 ([.int .i64,.int .i64]) then ro (runW (R39_0 t35 t36 h0_0 h0_1 h0_2) ((t36 - t37:Int).toNat+1) t37) none (K39_0 t35 t36 h0_0 h0_1 h0_2 k) else none
 | _=>none
noncomputable def c39:Cfg:=cfg Tryz.prog [(39,0,[1,35,36,37]),(39,2,[1,50,51,52]),(39,4,[1,6,50,51,52,103,104,105]),(39,999,[2]),(39,1000,[1]),(39,1001,[1,35,36,37]),(39,1002,[]),(39,1003,[1,50,51,52]),(39,1004,[1,50,51,52]),(39,1005,[1,6,50,51,52,103,104,105])] [(95,m95),(106,m106),(107,m107),(108,m108)] [] [] [(39,0,l39_0),(39,2,l39_2),(39,4,l39_4)]
theorem s39_4 (t50:List AV) (t51 t52:Int) (t103:List AV) (t104:Int) (h0_0 h0_1 h0_2:List AV) (h1_0 h1_1:Int) (ce:CallE) (k:Kont) (s:Int) (next:St→Option AV):stepA (codeA c39 ce [] 39 4 (sub [1,1,1,0,1,0,0,1,1,0,0,1,1,1,0,0] (body Tryz.f39))) (normA [] [1,6,50,51,52,103,104,105]) next ((E39_4 t50 t51 t52 t103 t104 h0_0 h0_1 h0_2 h1_0 h1_1) s) k=G39_4 t50 t51 t52 t103 t104 h0_0 h0_1 h0_2 h1_0 h1_1 s (fun s=>next ((E39_4 t50 t51 t52 t103 t104 h0_0 h0_1 h0_2 h1_0 h1_1) s)) (K39_4 t50 t51 t52 t103 t104 h0_0 h0_1 h0_2 h1_0 h1_1 k) none:=by kernel_rfl
theorem st39_4 (t50:List AV) (t51 t52:Int) (t103:List AV) (t104:Int) (h0_0 h0_1 h0_2:List AV) (h1_0 h1_1:Int) (ce:CallE) (k:Kont) (s:Int) (next:St→Option AV):stepA (codeA c39 ce [] 39 4 (sub [1,1,1,0,1,0,0,1,1,0,0,1,1,1,0,0] (body Tryz.f39))) (normA [] [1,6,50,51,52,103,104,105]) next ((E39_4 t50 t51 t52 t103 t104 h0_0 h0_1 h0_2 h1_0 h1_1) s) k=(R39_4 t50 t51 t52 t103 t104 h0_0 h0_1 h0_2 h1_0 h1_1 s).el none (fun s=>next ((E39_4 t50 t51 t52 t103 t104 h0_0 h0_1 h0_2 h1_0 h1_1) s)) (K39_4 t50 t51 t52 t103 t104 h0_0 h0_1 h0_2 h1_0 h1_1 k):=(s39_4 t50 t51 t52 t103 t104 h0_0 h0_1 h0_2 h1_0 h1_1 ce k s next).trans (by unfold R39_4;unfold F39_4 G39_4;simp only [el_cond,el_ro,el_sum,el_fail,el_next,el_stop] <;> rfl)
theorem ok39_4 {ce:CallE}:LoopOK c39 ce [] 39 4 (sub [1,1,1,0,1,0,0,1,1,0,0,1,1,1,0,0] (body Tryz.f39)):=by
 intro m hm st k r h
 obtain rfl:l39_4=m:=Option.some.inj hm
 unfold l39_4 at h
 split at h
 ·rename_i g0 g1 g2 g3 g4 g5 g6 t50 t51 t52 g7 t103 t104 t105 g8 g9 h0_0 g10 h0_1 g11 h0_2 g12 h1_0 h1_1
  obtain ⟨hg,h⟩:=bif_some h
  simp only [Bool.and_eq_true] at hg
  obtain ⟨⟨⟨⟨⟨⟨⟨⟨⟨⟨⟨⟨q0,q1⟩,q2⟩,q3⟩,q4⟩,q5⟩,q6⟩,q7⟩,q8⟩,q9⟩,q10⟩,q11⟩,q12⟩:=hg
  obtain rfl:=nE q0
  obtain rfl:=bE q1
  obtain rfl:=bE q2
  obtain rfl:=nE q3
  obtain rfl:=bE q4
  obtain rfl:=bE q5
  obtain rfl:=cE q6
  obtain rfl:=cE q7
  obtain rfl:=nE q8
  obtain rfl:=cE q9
  obtain rfl:=cE q10
  obtain rfl:=cE q11
  obtain rfl:=nE q12
  refine ⟨((t104 - t105:Int).toNat+1),?_⟩
  rw [← h]
  exact loop_run (E39_4 t50 t51 t52 t103 t104 h0_0 h0_1 h0_2 h1_0 h1_1) (K39_4 t50 t51 t52 t103 t104 h0_0 h0_1 h0_2 h1_0 h1_1 k) (st39_4 t50 t51 t52 t103 t104 h0_0 h0_1 h0_2 h1_0 h1_1 ce k) _ t105
 ·cases h
theorem s39_2 (t50:List AV) (t51:Int) (h0_0 h0_1 h0_2:List AV) (ce:CallE) (k:Kont) (s:Int) (next:St→Option AV):stepA (codeA c39 ce [] 39 2 (sub [1,1,1,0,1,0,0] (body Tryz.f39))) (normA [] [1,50,51,52]) next ((E39_2 t50 t51 h0_0 h0_1 h0_2) s) k=G39_2 t50 t51 h0_0 h0_1 h0_2 s (fun s=>next ((E39_2 t50 t51 h0_0 h0_1 h0_2) s)) (K39_2 t50 t51 h0_0 h0_1 h0_2 k) none:=by kernel_rfl
theorem st39_2 (t50:List AV) (t51:Int) (h0_0 h0_1 h0_2:List AV) (ce:CallE) (k:Kont) (s:Int) (next:St→Option AV):stepA (codeA c39 ce [] 39 2 (sub [1,1,1,0,1,0,0] (body Tryz.f39))) (normA [] [1,50,51,52]) next ((E39_2 t50 t51 h0_0 h0_1 h0_2) s) k=(R39_2 t50 t51 h0_0 h0_1 h0_2 s).el none (fun s=>next ((E39_2 t50 t51 h0_0 h0_1 h0_2) s)) (K39_2 t50 t51 h0_0 h0_1 h0_2 k):=(s39_2 t50 t51 h0_0 h0_1 h0_2 ce k s next).trans (by unfold R39_2;unfold F39_2 G39_2;simp only [el_cond,el_ro,el_sum,el_fail,el_next,el_stop] <;> rfl)
theorem ok39_2 {ce:CallE}:LoopOK c39 ce [] 39 2 (sub [1,1,1,0,1,0,0] (body Tryz.f39)):=by
 intro m hm st k r h
 obtain rfl:l39_2=m:=Option.some.inj hm
 unfold l39_2 at h
 split at h
 ·rename_i g0 g1 g2 g3 t50 t51 t52 g4 g5 h0_0 g6 h0_1 g7 h0_2
  obtain ⟨hg,h⟩:=bif_some h
  simp only [Bool.and_eq_true] at hg
  obtain ⟨⟨⟨⟨⟨⟨⟨q0,q1⟩,q2⟩,q3⟩,q4⟩,q5⟩,q6⟩,q7⟩:=hg
  obtain rfl:=nE q0
  obtain rfl:=bE q1
  obtain rfl:=bE q2
  obtain rfl:=cE q3
  obtain rfl:=nE q4
  obtain rfl:=cE q5
  obtain rfl:=cE q6
  obtain rfl:=cE q7
  refine ⟨((t51 - t52:Int).toNat+1),?_⟩
  rw [← h]
  exact loop_run (E39_2 t50 t51 h0_0 h0_1 h0_2) (K39_2 t50 t51 h0_0 h0_1 h0_2 k) (st39_2 t50 t51 h0_0 h0_1 h0_2 ce k) _ t52
 ·cases h
theorem s39_0 (t35:List AV) (t36:Int) (h0_0 h0_1 h0_2:List AV) (ce:CallE) (k:Kont) (s:Int) (next:St→Option AV):stepA (codeA c39 ce [] 39 0 (sub [1,1,0,1,0,0] (body Tryz.f39))) (normA [] [1,35,36,37]) next ((E39_0 t35 t36 h0_0 h0_1 h0_2) s) k=G39_0 t35 t36 h0_0 h0_1 h0_2 s (fun s=>next ((E39_0 t35 t36 h0_0 h0_1 h0_2) s)) (K39_0 t35 t36 h0_0 h0_1 h0_2 k) none:=by kernel_rfl
theorem st39_0 (t35:List AV) (t36:Int) (h0_0 h0_1 h0_2:List AV) (ce:CallE) (k:Kont) (s:Int) (next:St→Option AV):stepA (codeA c39 ce [] 39 0 (sub [1,1,0,1,0,0] (body Tryz.f39))) (normA [] [1,35,36,37]) next ((E39_0 t35 t36 h0_0 h0_1 h0_2) s) k=(R39_0 t35 t36 h0_0 h0_1 h0_2 s).el none (fun s=>next ((E39_0 t35 t36 h0_0 h0_1 h0_2) s)) (K39_0 t35 t36 h0_0 h0_1 h0_2 k):=(s39_0 t35 t36 h0_0 h0_1 h0_2 ce k s next).trans (by unfold R39_0;unfold F39_0 G39_0;simp only [el_cond,el_ro,el_sum,el_fail,el_next,el_stop] <;> rfl)
theorem ok39_0 {ce:CallE}:LoopOK c39 ce [] 39 0 (sub [1,1,0,1,0,0] (body Tryz.f39)):=by
 intro m hm st k r h
 obtain rfl:l39_0=m:=Option.some.inj hm
 unfold l39_0 at h
 split at h
 ·rename_i g0 g1 g2 g3 t35 t36 t37 g4 g5 h0_0 g6 h0_1 g7 h0_2
  obtain ⟨hg,h⟩:=bif_some h
  simp only [Bool.and_eq_true] at hg
  obtain ⟨⟨⟨⟨⟨⟨⟨q0,q1⟩,q2⟩,q3⟩,q4⟩,q5⟩,q6⟩,q7⟩:=hg
  obtain rfl:=nE q0
  obtain rfl:=bE q1
  obtain rfl:=bE q2
  obtain rfl:=cE q3
  obtain rfl:=nE q4
  obtain rfl:=cE q5
  obtain rfl:=cE q6
  obtain rfl:=cE q7
  refine ⟨((t36 - t37:Int).toNat+1),?_⟩
  rw [← h]
  exact loop_run (E39_0 t35 t36 h0_0 h0_1 h0_2) (K39_0 t35 t36 h0_0 h0_1 h0_2 k) (st39_0 t35 t36 h0_0 h0_1 h0_2 ce k) _ t37
 ·cases h
def q39 (xa xb xc:List AV):Bool:=(q95 xa && (bif !(v95_0 xa) then true else (bif !decide ((xb.length:Int)=(xa.length:Int)) then true else (q106 xb 0 999 && (bif !(v106_0 xb 0 999) then true else (bif decide ((xc.length:Int) > 2001) then true else (ro (runW (R39_0 xb (xb.length:Int) xa xb xc) (((xb.length:Int) - 0:Int).toNat+1) 0) false (sumE (fun _=>(ro (runW (R39_2 xc (xc.length:Int) xa xb xc) (((xc.length:Int) - 0:Int).toNat+1) 0) false (sumE (fun _=>true) (sumE (fun p37=>true) (fun p38=>true))))) (fun _=>true)))))))))
def v39_0 (xa xb xc:List AV):Bool:=(bif !(v95_0 xa) then false else (bif !decide ((xb.length:Int)=(xa.length:Int)) then false else (bif !(v106_0 xb 0 999) then false else (bif decide ((xc.length:Int) > 2001) then false else (ro (runW (R39_0 xb (xb.length:Int) xa xb xc) (((xb.length:Int) - 0:Int).toNat+1) 0) false (sumE (fun _=>(ro (runW (R39_2 xc (xc.length:Int) xa xb xc) (((xc.length:Int) - 0:Int).toNat+1) 0) false (sumE (fun _=>true) (sumE (fun p37=>false) (fun p38=>false))))) (fun _=>false)))))))
theorem e39 (xa xb xc:List AV):funA c39 0 39 [AV.agg [AV.sl [.int .i64] xa,AV.sl [.int .i64] xb,AV.sl [.int .i64,.int .i64] xc]]=(bif q95 xa then (bif !(v95_0 xa) then some (AV.bool false)
 else (bif !decide ((xb.length:Int)=(xa.length:Int)) then some (AV.bool false)
 else (bif q106 xb 0 999 then (bif !(v106_0 xb 0 999) then some (AV.bool false)
 else (bif decide ((xc.length:Int) > 2001) then some (AV.bool false)
 else (ro (runW (R39_0 xb (xb.length:Int) xa xb xc) (((xb.length:Int) - 0:Int).toNat+1) 0) none (sumE (fun _=>(ro (runW (R39_2 xc (xc.length:Int) xa xb xc) (((xc.length:Int) - 0:Int).toNat+1) 0) none (sumE (fun _=>some (AV.bool true)) (sumE (fun p37=>some (AV.bool false)) (fun p38=>some (AV.bool false)))))) (fun _=>some (AV.bool false))))))
 else none)))
 else none):=by kernel_rfl
theorem r39 (xa xb xc:List AV) (h:q39 xa xb xc=true):funA c39 0 39 [AV.agg [AV.sl [.int .i64] xa,AV.sl [.int .i64] xb,AV.sl [.int .i64,.int .i64] xc]]=some (AV.bool (v39_0 xa xb xc)):=by
 refine (e39 xa xb xc).trans ?_
 unfold q39 at h
 unfold v39_0
 refine ifG (fun hc=>?_) (fun hc=>?_) <;> first|rw [hc] at h ⊢|rw [hc] at h|rw [hc]|skip
 ·refine ifG (fun hc=>?_) (fun hc=>?_) <;> first|rw [hc] at h ⊢|rw [hc] at h|rw [hc]|skip
  ·rfl
  ·refine ifG (fun hc=>?_) (fun hc=>?_) <;> first|rw [hc] at h ⊢|rw [hc] at h|rw [hc]|skip
   ·rfl
   ·refine ifG (fun hc=>?_) (fun hc=>?_) <;> first|rw [hc] at h ⊢|rw [hc] at h|rw [hc]|skip
    ·refine ifG (fun hc=>?_) (fun hc=>?_) <;> first|rw [hc] at h ⊢|rw [hc] at h|rw [hc]|skip
     ·rfl
     ·refine ifG (fun hc=>?_) (fun hc=>?_) <;> first|rw [hc] at h ⊢|rw [hc] at h|rw [hc]|skip
      ·rfl
      ·refine roG (fun hc=>?_) (fun r hc=>?_) <;> first|rw [hc] at h ⊢|rw [hc] at h|rw [hc]|skip
       ·exact Bool.noConfusion h
       ·try simp only [ro] at h ⊢
        cases r with
        | inl _ =>
         try simp only [sumE] at h ⊢
         refine roG (fun hc=>?_) (fun r hc=>?_) <;> first|rw [hc] at h ⊢|rw [hc] at h|rw [hc]|skip
         ·exact Bool.noConfusion h
         ·try simp only [ro] at h ⊢
          cases r with
          | inl _ =>
           try simp only [sumE] at h ⊢
           rfl
          | inr r =>
           try simp only [sumE] at h ⊢
           cases r with
           | inl p37 =>
            try simp only [sumE] at h ⊢
            rfl
           | inr p38 =>
            try simp only [sumE] at h ⊢
            rfl
        | inr _ =>
         try simp only [sumE] at h ⊢
         rfl
    ·first|exact Bool.noConfusion h|exact Bool.noConfusion hc
 ·first|exact Bool.noConfusion h|exact Bool.noConfusion hc
def m39:TModel
 | [.agg [.sl g0 xa,.sl g1 xb,.sl g2 xc]]=>bif ctsEq g0 ([.int .i64]) && ctsEq g1 ([.int .i64]) && ctsEq g2 ([.int .i64,.int .i64]) then some (q39 xa xb xc,AV.bool (v39_0 xa xb xc)) else none
 | _=>none
theorem k39:Known Tryz.prog 39:=⟨Tryz.f39,Tryz.func39,by kernel_rfl,by kernel_rfl⟩
theorem meets39:Meets Tryz.prog 39 m39:=by
 refine mt (lvl:=0) (cf:=c39) rfl mixed k39 Tryz.func39 (by kernel_rfl) (loops_cons ok39_0 (loops_cons ok39_2 (loops_cons ok39_4 noLoop))) (allT_cons meets95 (allT_cons meets106 (allT_cons meets107 (allT_cons meets108 allT_nil)))) allM_nil noI fun xs r h=>?_
 unfold m39 at h
 split at h
 ·rename_i g0 xa g1 xb g2 xc
  obtain ⟨hg,h⟩:=bif_pair h
  simp only [Bool.and_eq_true] at hg
  obtain ⟨⟨q0,q1⟩,q2⟩:=hg
  obtain rfl:=cE q0
  obtain rfl:=cE q1
  obtain rfl:=cE q2
  obtain ⟨h1,rfl⟩:=pair_inj h
  exact r39 xa xb xc h1
 ·cases h
noncomputable def c152:Cfg:=cfg Tryz.prog [(152,999,[2])] [] [] [] []
def q152 (a0:List AV):Bool:=decide (a0.length*16≤140737488355328) && decide (a0.length≤140737488355328)
def v152_0 (a0:List AV):List AV:=a0
theorem e152 (a0:List AV):funA c152 0 152 [AV.sl [.int .i64,.int .i64] a0]=(bif decide (0<a0.length) then (bif (decide ((([]:List AV).length+a0.length)*16≤140737488355328) && decide ((([]:List AV).length+a0.length)≤140737488355328)) then some (AV.fl [.int .i64,.int .i64] (([]:List AV)++a0))
 else none)
 else none):=by kernel_rfl
theorem e152n (b:Bool):funA c152 0 152 [AV.sle b [.int .i64,.int .i64]]=some (AV.fl [.int .i64,.int .i64] []):=by cases b <;> kernel_rfl
def m152:TModel
 | [.sl g0 a0]=>bif ctsEq g0 [.int .i64,.int .i64] then some (q152 a0,AV.fl [.int .i64,.int .i64] (v152_0 a0)) else none
 | _=>none
theorem k152:Known Tryz.prog 152:=⟨Tryz.f152,Tryz.func152,by kernel_rfl,by kernel_rfl⟩
theorem meets152:Meets Tryz.prog 152 m152:=by
 refine meet_nil (f:=Tryz.f152) (l:=[]) (hs:=[(152,999,[2])]) (ts:=[]) (ws:=[]) (is:=[]) (ls:=[]) (lvl:=0) (tys:=[.int .i64,.int .i64]) mixed k152 Tryz.func152 (by kernel_rfl) noLoop allT_nil allM_nil noI (fun xs r h=>?_) (fun b r h=>?_) (fun ys r h0 h=>?_)
 ·unfold m152 at h
  split at h
  ·rename_i g0 a0
   obtain ⟨hg,h⟩:=bif_pair h
   obtain rfl:=ctsEq_eq _ _ hg
   exact ⟨a0,rfl⟩
  ·cases h
 ·obtain ⟨hg,h⟩:=bif_pair (g:=ctsEq [.int .i64,.int .i64] [.int .i64,.int .i64]) h
  obtain ⟨_,rfl⟩:=pair_inj h
  exact e152n b
 ·obtain ⟨hg,h⟩:=bif_pair (g:=ctsEq [.int .i64,.int .i64] [.int .i64,.int .i64]) h
  obtain ⟨hq,rfl⟩:=pair_inj h
  refine (e152 ys).trans ?_
  unfold q152 at hq
  have e:([]:List AV).length+ys.length=ys.length:=by simp
  rw [e,hq,decide_eq_true h0]
  rfl
def G81_0 {β:Type} (t17:Int) (h1:List AV) (t4:Int) (t18:Int) (h0:List AV) (N:((Int × Int × (List AV)))→β) (K:(((List AV)))→β) (d:β):β:=(bif decide (t18<t17) then (bif (decide (0≤t18) && decide (t18<(h1.length:Int))) then (bif decide (fI (h1.getD t18.toNat .undef) 1 > t4) then (bif (decide ((h0.length+([AV.agg [AV.int .i64 t4,AV.int .i64 (fI (h1.getD t18.toNat .undef) 1)]]).length)*16≤140737488355328) && decide ((h0.length+([AV.agg [AV.int .i64 t4,AV.int .i64 (fI (h1.getD t18.toNat .undef) 1)]]).length)≤140737488355328)) then N (fI (h1.getD t18.toNat .undef) 1,IntKind.i64.wrap (t18+1),h0++([AV.agg [AV.int .i64 t4,AV.int .i64 (fI (h1.getD t18.toNat .undef) 1)]]))
 else d)
 else N (fI (h1.getD t18.toNat .undef) 1,IntKind.i64.wrap (t18+1),h0))
 else d)
 else K h0)
def F81_0 (t17:Int) (h1:List AV) (t4 t18:Int) (h0:List AV):Out ((Int × Int × (List AV))) (((List AV))):=G81_0 t17 h1 t4 t18 h0 .next .stop .fail
def R81_0 (t17:Int) (h1:List AV):((Int × Int × (List AV)))→Out ((Int × Int × (List AV))) (((List AV))):=fun s:Int × Int × (List AV)=>F81_0 t17 h1 s.1 s.2.1 s.2.2
def E81_0 (t17:Int) (h1:List AV):((Int × Int × (List AV)))→St:=fun s:Int × Int × (List AV)=>⟨[(3,AV.own [0,3]),(4,Ai s.1),(16,AV.own [0,16]),(17,Ai t17),(18,Ai s.2.1)],[([0,3],⟨false,[.int .i64,.int .i64],s.2.2⟩),([0,16],⟨false,[.int .i64,.int .i64],h1⟩)]⟩
def K81_0 (t17:Int) (h1:List AV) (k:Kont):(((List AV)))→Option AV:=fun p:(List AV)=>k (.exit 0) ⟨[(3,AV.own [0,3])],[([0,3],⟨false,[.int .i64,.int .i64],p⟩),([0,16],⟨false,[.int .i64,.int .i64],h1⟩)]⟩
def l81_0:LModel:=fun _ _ st k=>match st with
 | ⟨[(3,.own g0),(4,.int .i64 t4),(16,.own g1),(17,.int .i64 t17),(18,.int .i64 t18)],[(g2,⟨false,g3,h0⟩),(g4,⟨false,g5,h1⟩)]⟩=>bif nmEq g0 ([0,3]) && nmEq g1 ([0,16]) && nmEq g2 ([0,3]) && ctsEq g3 ([.int .i64,.int .i64]) && nmEq g4 ([0,16]) && ctsEq g5 ([.int .i64,.int .i64]) then ro (runW (R81_0 t17 h1) ((t17 - t18:Int).toNat+1) (t4,t18,h0)) none (K81_0 t17 h1 k) else none
 | _=>none
noncomputable def c81:Cfg:=cfg Tryz.prog [(81,0,[3,4,16,17,18]),(81,999,[2]),(81,1000,[3]),(81,1001,[3,4,16,17,18])] [(152,m152)] [] [] [(81,0,l81_0)]
theorem s81_0 (t17:Int) (h1:List AV) (ce:CallE) (k:Kont) (s:Int × Int × (List AV)) (next:St→Option AV):stepA (codeA c81 ce [] 81 0 (sub [1,1,0,1,0,0] (body Tryz.f81))) (normA [] [3,4,16,17,18]) next ((E81_0 t17 h1) s) k=G81_0 t17 h1 s.1 s.2.1 s.2.2 (fun s=>next ((E81_0 t17 h1) s)) (K81_0 t17 h1 k) none:=by kernel_rfl
theorem st81_0 (t17:Int) (h1:List AV) (ce:CallE) (k:Kont) (s:(Int × Int × (List AV))) (next:St→Option AV):stepA (codeA c81 ce [] 81 0 (sub [1,1,0,1,0,0] (body Tryz.f81))) (normA [] [3,4,16,17,18]) next ((E81_0 t17 h1) s) k=(R81_0 t17 h1 s).el none (fun s=>next ((E81_0 t17 h1) s)) (K81_0 t17 h1 k):=(s81_0 t17 h1 ce k s next).trans (by unfold R81_0;unfold F81_0 G81_0;simp only [el_cond,el_ro,el_sum,el_fail,el_next,el_stop] <;> rfl)
theorem ok81_0 {ce:CallE}:LoopOK c81 ce [] 81 0 (sub [1,1,0,1,0,0] (body Tryz.f81)):=by
 intro m hm st k r h
 obtain rfl:l81_0=m:=Option.some.inj hm
 unfold l81_0 at h
 split at h
 ·rename_i g0 t4 g1 t17 t18 g2 g3 h0 g4 g5 h1
  obtain ⟨hg,h⟩:=bif_some h
  simp only [Bool.and_eq_true] at hg
  obtain ⟨⟨⟨⟨⟨q0,q1⟩,q2⟩,q3⟩,q4⟩,q5⟩:=hg
  obtain rfl:=nE q0
  obtain rfl:=nE q1
  obtain rfl:=nE q2
  obtain rfl:=cE q3
  obtain rfl:=nE q4
  obtain rfl:=cE q5
  refine ⟨((t17 - t18:Int).toNat+1),?_⟩
  rw [← h]
  exact loop_run (E81_0 t17 h1) (K81_0 t17 h1 k) (st81_0 t17 h1 ce k) _ (t4,t18,h0)
 ·cases h
def q81 (xa xb xc:List AV):Bool:=(q152 xc && ((decide (((v152_0 xc).length+([AV.agg [AV.int .i64 0,AV.int .i64 (xa.length:Int)]]).length)*16≤140737488355328) && decide (((v152_0 xc).length+([AV.agg [AV.int .i64 0,AV.int .i64 (xa.length:Int)]]).length)≤140737488355328)) && (ro (runW (R81_0 (((v152_0 xc)++([AV.agg [AV.int .i64 0,AV.int .i64 (xa.length:Int)]])).length:Int) ((v152_0 xc)++([AV.agg [AV.int .i64 0,AV.int .i64 (xa.length:Int)]]))) (((((v152_0 xc)++([AV.agg [AV.int .i64 0,AV.int .i64 (xa.length:Int)]])).length:Int) - 0:Int).toNat+1) (0,0,([]:List AV))) false (fun p40=>true))))
def v81_0 (xa xb xc:List AV):List AV:=(ro (runW (R81_0 (((v152_0 xc)++([AV.agg [AV.int .i64 0,AV.int .i64 (xa.length:Int)]])).length:Int) ((v152_0 xc)++([AV.agg [AV.int .i64 0,AV.int .i64 (xa.length:Int)]]))) (((((v152_0 xc)++([AV.agg [AV.int .i64 0,AV.int .i64 (xa.length:Int)]])).length:Int) - 0:Int).toNat+1) (0,0,([]:List AV))) [] (fun p40=>p40))
theorem e81 (xa xb xc:List AV):funA c81 0 81 [AV.agg [AV.sl [.int .i64] xa,AV.sl [.int .i64] xb,AV.sl [.int .i64,.int .i64] xc]]=(bif q152 xc then (bif (decide (((v152_0 xc).length+([AV.agg [Ai 0,Ai (xa.length:Int)]]).length)*16≤140737488355328) && decide (((v152_0 xc).length+([AV.agg [Ai 0,Ai (xa.length:Int)]]).length)≤140737488355328)) then (ro (runW (R81_0 (((v152_0 xc)++([AV.agg [Ai 0,Ai (xa.length:Int)]])).length:Int) ((v152_0 xc)++([AV.agg [Ai 0,Ai (xa.length:Int)]]))) (((((v152_0 xc)++([AV.agg [Ai 0,Ai (xa.length:Int)]])).length:Int) - 0:Int).toNat+1) (0,0,([]:List AV))) none (fun p40=>some (AV.fl [.int .i64,.int .i64] p40)))
 else none)
 else none):=by kernel_rfl
def m81:TModel
 | [.agg [.sl g0 xa,.sl g1 xb,.sl g2 xc]]=>bif ctsEq g0 ([.int .i64]) && ctsEq g1 ([.int .i64]) && ctsEq g2 ([.int .i64,.int .i64]) then some (q81 xa xb xc,AV.fl [.int .i64,.int .i64] (v81_0 xa xb xc)) else none
 | _=>none
theorem k81:Known Tryz.prog 81:=⟨Tryz.f81,Tryz.func81,by kernel_rfl,by kernel_rfl⟩
theorem meets81:Meets Tryz.prog 81 m81:=by
 refine mt (lvl:=0) (cf:=c81) rfl mixed k81 Tryz.func81 (by kernel_rfl) (loops_cons ok81_0 noLoop) (allT_cons meets152 allT_nil) allM_nil noI fun xs r h=>?_
 unfold m81 at h
 split at h
 ·rename_i g0 xa g1 xb g2 xc
  obtain ⟨hg,h⟩:=bif_pair h
  simp only [Bool.and_eq_true] at hg
  obtain ⟨⟨q0,q1⟩,q2⟩:=hg
  obtain rfl:=cE q0
  obtain rfl:=cE q1
  obtain rfl:=cE q2
  obtain ⟨h1,rfl⟩:=pair_inj h
  exact (e81 xa xb xc).trans ((brL (brL (brO (fun o:Option (((List AV)))=>some (AV.fl [.int .i64,.int .i64] (ro o [] (fun p40=>p40)))) (fun p40=>(fun _=>rfl))))) h1)
 ·cases h
def q150 (a0:Int):Bool:=decide (-9223372036854775808≤a0) && decide (a0≤9223372036854775807)
def v150_0 (a0:Int):ByteArray:=itoaB a0
def m150:TModel:=itoaM
theorem k150:Known Tryz.prog 150:=⟨Tryz.f150,Tryz.func150,by kernel_rfl,by kernel_rfl⟩
theorem meets150:Meets Tryz.prog 150 m150:=itoa_meets ⟨k150,fun n w h0 h1 hG=>Any.strconv_Itoa lays171 n h0 h1 w hG⟩
noncomputable def c79:Cfg:=cfg Tryz.prog [(79,999,[2])] [(150,m150)] [] [] []
def q79 (a0:Int):Bool:=q150 a0
def v79_0 (a0:Int):ByteArray:=(v150_0 a0)
theorem e79 (a0:Int):funA c79 0 79 [Ai a0]=(bif q150 a0 then some (AV.str (v150_0 a0))
 else none):=by kernel_rfl
def m79:TModel
 | [.int .i64 a0]=>some (q79 a0,AV.str (v79_0 a0))
 | _=>none
theorem k79:Known Tryz.prog 79:=⟨Tryz.f79,Tryz.func79,by kernel_rfl,by kernel_rfl⟩
theorem meets79:Meets Tryz.prog 79 m79:=by
 refine mt (lvl:=0) (cf:=c79) rfl mixed k79 Tryz.func79 (by kernel_rfl) noLoop (allT_cons meets150 allT_nil) allM_nil noI fun xs r h=>?_
 unfold m79 at h
 split at h
 ·rename_i a0
  obtain ⟨h1,rfl⟩:=pair_inj h
  exact (e79 a0).trans ((brL1 (fun _=>rfl)) h1)
 ·cases h
def G92_0 {β:Type} (t6:List AV) (t7:Int) (t3:Int) (t8:Int) (N:((Int × Int))→β) (K:(Int)→β) (d:β):β:=(bif decide (t8<t7) then (bif (decide (0≤t8) && decide (t8<(t6.length:Int))) then N (IntKind.i64.wrap (t3+fI (t6.getD t8.toNat .undef) 0),IntKind.i64.wrap (t8+1))
 else d)
 else K t3)
def F92_0 (t6:List AV) (t7 t3 t8:Int):Out ((Int × Int)) (Int):=G92_0 t6 t7 t3 t8 .next .stop .fail
def R92_0 (t6:List AV) (t7:Int):((Int × Int))→Out ((Int × Int)) (Int):=fun s:Int × Int=>F92_0 t6 t7 s.1 s.2
def E92_0 (t6:List AV) (t7:Int):((Int × Int))→St:=fun s:Int × Int=>⟨[(3,Ai s.1),(6,AV.sl [.int .i64] t6),(7,Ai t7),(8,Ai s.2)],[]⟩
def K92_0 (t6:List AV) (t7:Int) (k:Kont):(Int)→Option AV:=fun p:Int=>k (.exit 0) ⟨[(3,Ai p)],[]⟩
def l92_0:LModel:=fun _ _ st k=>match st with
 | ⟨[(3,.int .i64 t3),(6,.sl g0 t6),(7,.int .i64 t7),(8,.int .i64 t8)],[]⟩=>bif ctsEq g0 ([.int .i64]) then ro (runW (R92_0 t6 t7) ((t7 - t8:Int).toNat+1) (t3,t8)) none (K92_0 t6 t7 k) else none
 | _=>none
noncomputable def c92:Cfg:=cfg Tryz.prog [(92,0,[3,6,7,8]),(92,999,[2]),(92,1000,[3]),(92,1001,[3,6,7,8])] [] [] [] [(92,0,l92_0)]
theorem s92_0 (t6:List AV) (t7:Int) (ce:CallE) (k:Kont) (s:Int × Int) (next:St→Option AV):stepA (codeA c92 ce [] 92 0 (sub [1,1,0,1,0,0] (body Tryz.f92))) (normA [] [3,6,7,8]) next ((E92_0 t6 t7) s) k=G92_0 t6 t7 s.1 s.2 (fun s=>next ((E92_0 t6 t7) s)) (K92_0 t6 t7 k) none:=by kernel_rfl
theorem st92_0 (t6:List AV) (t7:Int) (ce:CallE) (k:Kont) (s:(Int × Int)) (next:St→Option AV):stepA (codeA c92 ce [] 92 0 (sub [1,1,0,1,0,0] (body Tryz.f92))) (normA [] [3,6,7,8]) next ((E92_0 t6 t7) s) k=(R92_0 t6 t7 s).el none (fun s=>next ((E92_0 t6 t7) s)) (K92_0 t6 t7 k):=(s92_0 t6 t7 ce k s next).trans (by unfold R92_0;unfold F92_0 G92_0;simp only [el_cond,el_ro,el_sum,el_fail,el_next,el_stop] <;> rfl)
theorem ok92_0 {ce:CallE}:LoopOK c92 ce [] 92 0 (sub [1,1,0,1,0,0] (body Tryz.f92)):=by
 intro m hm st k r h
 obtain rfl:l92_0=m:=Option.some.inj hm
 unfold l92_0 at h
 split at h
 ·rename_i t3 g0 t6 t7 t8
  obtain ⟨hg,h⟩:=bif_some h
  have q0:=hg
  obtain rfl:=cE q0
  refine ⟨((t7 - t8:Int).toNat+1),?_⟩
  rw [← h]
  exact loop_run (E92_0 t6 t7) (K92_0 t6 t7 k) (st92_0 t6 t7 ce k) _ (t3,t8)
 ·cases h
def q92 (a0:List AV):Bool:=(ro (runW (R92_0 a0 (a0.length:Int)) (((a0.length:Int) - 0:Int).toNat+1) (0,0)) false (fun p41=>true))
def v92_0 (a0:List AV):Int:=(ro (runW (R92_0 a0 (a0.length:Int)) (((a0.length:Int) - 0:Int).toNat+1) (0,0)) 0 (fun p41=>p41))
theorem e92 (a0:List AV):funA c92 0 92 [AV.sl [.int .i64] a0]=(ro (runW (R92_0 a0 (a0.length:Int)) (((a0.length:Int) - 0:Int).toNat+1) (0,0)) none (fun p41=>some (Ai p41))):=by kernel_rfl
def m92:TModel
 | [.sl g0 a0]=>bif ctsEq g0 ([.int .i64]) then some (q92 a0,AV.int .i64 (v92_0 a0)) else none
 | _=>none
theorem k92:Known Tryz.prog 92:=⟨Tryz.f92,Tryz.func92,by kernel_rfl,by kernel_rfl⟩
theorem meets92:Meets Tryz.prog 92 m92:=by
 refine mt (lvl:=0) (cf:=c92) rfl mixed k92 Tryz.func92 (by kernel_rfl) (loops_cons ok92_0 noLoop) allT_nil allM_nil noI fun xs r h=>?_
 unfold m92 at h
 split at h
 ·rename_i g0 a0
  obtain ⟨hg,h⟩:=bif_pair h
  have q0:=hg
  obtain rfl:=cE q0
  obtain ⟨h1,rfl⟩:=pair_inj h
  exact (e92 a0).trans ((brO (fun o:Option (Int)=>some (Ai (ro o 0 (fun p41=>p41)))) (fun p41=>(fun _=>rfl))) h1)
 ·cases h
def G153_0 {β:Type} (t0:List AV) (t3:Int) (t4:Int) (N:((Int × Int))→β) (K:(Int)→β) (d:β):β:=(bif decide (t4<(t0.length:Int)) then (bif (decide (0≤t4) && decide (t4<(t0.length:Int))) then N ((if fI (t0.getD t4.toNat .undef) 0<t3 then fI (t0.getD t4.toNat .undef) 0 else t3),IntKind.i64.wrap (t4+1))
 else d)
 else K t3)
def F153_0 (t0:List AV) (t3 t4:Int):Out ((Int × Int)) (Int):=G153_0 t0 t3 t4 .next .stop .fail
def R153_0 (t0:List AV):((Int × Int))→Out ((Int × Int)) (Int):=fun s:Int × Int=>F153_0 t0 s.1 s.2
def E153_0 (t0:List AV):((Int × Int))→St:=fun s:Int × Int=>⟨[(0,AV.sl [.int .i64] t0),(3,Ai s.1),(4,Ai s.2)],[]⟩
def K153_0 (t0:List AV) (k:Kont):(Int)→Option AV:=fun p:Int=>k (.exit 0) ⟨[(3,Ai p)],[]⟩
def l153_0:LModel:=fun _ _ st k=>match st with
 | ⟨[(0,.sl g0 t0),(3,.int .i64 t3),(4,.int .i64 t4)],[]⟩=>bif ctsEq g0 ([.int .i64]) then ro (runW (R153_0 t0) (((t0.length:Int) - t4:Int).toNat+1) (t3,t4)) none (K153_0 t0 k) else none
 | _=>none
noncomputable def c153:Cfg:=cfg Tryz.prog [(153,0,[0,3,4]),(153,999,[2]),(153,1000,[3]),(153,1001,[0,3,4])] [] [] [] [(153,0,l153_0)]
theorem s153_0 (t0:List AV) (ce:CallE) (k:Kont) (s:Int × Int) (next:St→Option AV):stepA (codeA c153 ce [] 153 0 (sub [1,1,1,0,1,0,0] (body Tryz.f153))) (normA [] [0,3,4]) next ((E153_0 t0) s) k=G153_0 t0 s.1 s.2 (fun s=>next ((E153_0 t0) s)) (K153_0 t0 k) none:=by kernel_rfl
theorem st153_0 (t0:List AV) (ce:CallE) (k:Kont) (s:(Int × Int)) (next:St→Option AV):stepA (codeA c153 ce [] 153 0 (sub [1,1,1,0,1,0,0] (body Tryz.f153))) (normA [] [0,3,4]) next ((E153_0 t0) s) k=(R153_0 t0 s).el none (fun s=>next ((E153_0 t0) s)) (K153_0 t0 k):=(s153_0 t0 ce k s next).trans (by unfold R153_0;unfold F153_0 G153_0;simp only [el_cond,el_ro,el_sum,el_fail,el_next,el_stop] <;> rfl)
theorem ok153_0 {ce:CallE}:LoopOK c153 ce [] 153 0 (sub [1,1,1,0,1,0,0] (body Tryz.f153)):=by
 intro m hm st k r h
 obtain rfl:l153_0=m:=Option.some.inj hm
 unfold l153_0 at h
 split at h
 ·rename_i g0 t0 t3 t4
  obtain ⟨hg,h⟩:=bif_some h
  have q0:=hg
  obtain rfl:=cE q0
  refine ⟨(((t0.length:Int) - t4:Int).toNat+1),?_⟩
  rw [← h]
  exact loop_run (E153_0 t0) (K153_0 t0 k) (st153_0 t0 ce k) _ (t3,t4)
 ·cases h
def q153 (a0:List AV):Bool:=(!(decide ((a0.length:Int)<1)) && ((decide (0≤0) && decide (0<(a0.length:Int))) && (ro (runW (R153_0 a0) (((a0.length:Int) - 1:Int).toNat+1) (fI (a0.getD (0:Int).toNat .undef) 0,1)) false (fun p42=>true))))
def v153_0 (a0:List AV):Int:=(ro (runW (R153_0 a0) (((a0.length:Int) - 1:Int).toNat+1) (fI (a0.getD (0:Int).toNat .undef) 0,1)) 0 (fun p42=>p42))
theorem e153 (a0:List AV):funA c153 0 153 [AV.sl [.int .i64] a0]=(bif decide ((a0.length:Int)<1) then none
 else (bif (decide (0≤0) && decide (0<(a0.length:Int))) then (ro (runW (R153_0 a0) (((a0.length:Int) - 1:Int).toNat+1) (fI (a0.getD (0:Int).toNat .undef) 0,1)) none (fun p42=>some (Ai p42)))
 else none)):=by kernel_rfl
def m153:TModel
 | [.sl g0 a0]=>bif ctsEq g0 ([.int .i64]) then some (q153 a0,AV.int .i64 (v153_0 a0)) else none
 | _=>none
theorem k153:Known Tryz.prog 153:=⟨Tryz.f153,Tryz.func153,by kernel_rfl,by kernel_rfl⟩
theorem meets153:Meets Tryz.prog 153 m153:=by
 refine mt (lvl:=0) (cf:=c153) rfl mixed k153 Tryz.func153 (by kernel_rfl) (loops_cons ok153_0 noLoop) allT_nil allM_nil noI fun xs r h=>?_
 unfold m153 at h
 split at h
 ·rename_i g0 a0
  obtain ⟨hg,h⟩:=bif_pair h
  have q0:=hg
  obtain rfl:=cE q0
  obtain ⟨h1,rfl⟩:=pair_inj h
  exact (e153 a0).trans ((brR (brL (brO (fun o:Option (Int)=>some (Ai (ro o 0 (fun p42=>p42)))) (fun p42=>(fun _=>rfl))))) h1)
 ·cases h
def G123_0 {β:Type} (t0:List AV) (t3:Int) (t4:Int) (N:((Int × Int))→β) (K:(Int)→β) (d:β):β:=(bif decide (t4<(t0.length:Int)) then (bif (decide (0≤t4) && decide (t4<(t0.length:Int))) then N ((if fI (t0.getD t4.toNat .undef) 0 > t3 then fI (t0.getD t4.toNat .undef) 0 else t3),IntKind.i64.wrap (t4+1))
 else d)
 else K t3)
def F123_0 (t0:List AV) (t3 t4:Int):Out ((Int × Int)) (Int):=G123_0 t0 t3 t4 .next .stop .fail
def R123_0 (t0:List AV):((Int × Int))→Out ((Int × Int)) (Int):=fun s:Int × Int=>F123_0 t0 s.1 s.2
def E123_0 (t0:List AV):((Int × Int))→St:=fun s:Int × Int=>⟨[(0,AV.sl [.int .i64] t0),(3,Ai s.1),(4,Ai s.2)],[]⟩
def K123_0 (t0:List AV) (k:Kont):(Int)→Option AV:=fun p:Int=>k (.exit 0) ⟨[(3,Ai p)],[]⟩
def l123_0:LModel:=fun _ _ st k=>match st with
 | ⟨[(0,.sl g0 t0),(3,.int .i64 t3),(4,.int .i64 t4)],[]⟩=>bif ctsEq g0 ([.int .i64]) then ro (runW (R123_0 t0) (((t0.length:Int) - t4:Int).toNat+1) (t3,t4)) none (K123_0 t0 k) else none
 | _=>none
noncomputable def c123:Cfg:=cfg Tryz.prog [(123,0,[0,3,4]),(123,999,[2]),(123,1000,[3]),(123,1001,[0,3,4])] [] [] [] [(123,0,l123_0)]
theorem s123_0 (t0:List AV) (ce:CallE) (k:Kont) (s:Int × Int) (next:St→Option AV):stepA (codeA c123 ce [] 123 0 (sub [1,1,1,0,1,0,0] (body Tryz.f123))) (normA [] [0,3,4]) next ((E123_0 t0) s) k=G123_0 t0 s.1 s.2 (fun s=>next ((E123_0 t0) s)) (K123_0 t0 k) none:=by kernel_rfl
theorem st123_0 (t0:List AV) (ce:CallE) (k:Kont) (s:(Int × Int)) (next:St→Option AV):stepA (codeA c123 ce [] 123 0 (sub [1,1,1,0,1,0,0] (body Tryz.f123))) (normA [] [0,3,4]) next ((E123_0 t0) s) k=(R123_0 t0 s).el none (fun s=>next ((E123_0 t0) s)) (K123_0 t0 k):=(s123_0 t0 ce k s next).trans (by unfold R123_0;unfold F123_0 G123_0;simp only [el_cond,el_ro,el_sum,el_fail,el_next,el_stop] <;> rfl)
theorem ok123_0 {ce:CallE}:LoopOK c123 ce [] 123 0 (sub [1,1,1,0,1,0,0] (body Tryz.f123)):=by
 intro m hm st k r h
 obtain rfl:l123_0=m:=Option.some.inj hm
 unfold l123_0 at h
 split at h
 ·rename_i g0 t0 t3 t4
  obtain ⟨hg,h⟩:=bif_some h
  have q0:=hg
  obtain rfl:=cE q0
  refine ⟨(((t0.length:Int) - t4:Int).toNat+1),?_⟩
  rw [← h]
  exact loop_run (E123_0 t0) (K123_0 t0 k) (st123_0 t0 ce k) _ (t3,t4)
 ·cases h
def q123 (a0:List AV):Bool:=(!(decide ((a0.length:Int)<1)) && ((decide (0≤0) && decide (0<(a0.length:Int))) && (ro (runW (R123_0 a0) (((a0.length:Int) - 1:Int).toNat+1) (fI (a0.getD (0:Int).toNat .undef) 0,1)) false (fun p43=>true))))
def v123_0 (a0:List AV):Int:=(ro (runW (R123_0 a0) (((a0.length:Int) - 1:Int).toNat+1) (fI (a0.getD (0:Int).toNat .undef) 0,1)) 0 (fun p43=>p43))
theorem e123 (a0:List AV):funA c123 0 123 [AV.sl [.int .i64] a0]=(bif decide ((a0.length:Int)<1) then none
 else (bif (decide (0≤0) && decide (0<(a0.length:Int))) then (ro (runW (R123_0 a0) (((a0.length:Int) - 1:Int).toNat+1) (fI (a0.getD (0:Int).toNat .undef) 0,1)) none (fun p43=>some (Ai p43)))
 else none)):=by kernel_rfl
def m123:TModel
 | [.sl g0 a0]=>bif ctsEq g0 ([.int .i64]) then some (q123 a0,AV.int .i64 (v123_0 a0)) else none
 | _=>none
theorem k123:Known Tryz.prog 123:=⟨Tryz.f123,Tryz.func123,by kernel_rfl,by kernel_rfl⟩
theorem meets123:Meets Tryz.prog 123 m123:=by
 refine mt (lvl:=0) (cf:=c123) rfl mixed k123 Tryz.func123 (by kernel_rfl) (loops_cons ok123_0 noLoop) allT_nil allM_nil noI fun xs r h=>?_
 unfold m123 at h
 split at h
 ·rename_i g0 a0
  obtain ⟨hg,h⟩:=bif_pair h
  have q0:=hg
  obtain rfl:=cE q0
  obtain ⟨h1,rfl⟩:=pair_inj h
  exact (e123 a0).trans ((brR (brL (brO (fun o:Option (Int)=>some (Ai (ro o 0 (fun p43=>p43)))) (fun p43=>(fun _=>rfl))))) h1)
 ·cases h
noncomputable def c83:Cfg:=cfg Tryz.prog [(83,999,[2])] [(92,m92),(95,m95),(123,m123),(153,m153)] [] [] []
def q83 (a0:List AV):Bool:=(bif decide ((a0.length:Int)=0) then true else (q95 a0 && (bif !(v95_0 a0) then true else (q92 a0 && (q153 a0 && q123 a0)))))
def v83_0 (a0:List AV):Int:=(bif decide ((a0.length:Int)=0) then 0 else (bif !(v95_0 a0) then 0 else (a0.length:Int)))
def v83_1 (a0:List AV):Int:=(bif decide ((a0.length:Int)=0) then 0 else (bif !(v95_0 a0) then 0 else (v92_0 a0)))
def v83_2 (a0:List AV):Int:=(bif decide ((a0.length:Int)=0) then 0 else (bif !(v95_0 a0) then 0 else (v153_0 a0)))
def v83_3 (a0:List AV):Int:=(bif decide ((a0.length:Int)=0) then 0 else (bif !(v95_0 a0) then 0 else (v123_0 a0)))
theorem e83 (a0:List AV):funA c83 0 83 [AV.sl [.int .i64] a0]=(bif decide ((a0.length:Int)=0) then some (AV.agg [Ai 0,Ai 0,Ai 0,Ai 0])
 else (bif q95 a0 then (bif !(v95_0 a0) then some (AV.agg [Ai 0,Ai 0,Ai 0,Ai 0])
 else (bif q92 a0 then (bif q153 a0 then (bif q123 a0 then some (AV.agg [Ai (a0.length:Int),Ai (v92_0 a0),Ai (v153_0 a0),Ai (v123_0 a0)])
 else none)
 else none)
 else none))
 else none)):=by kernel_rfl
def m83:TModel
 | [.sl g0 a0]=>bif ctsEq g0 ([.int .i64]) then some (q83 a0,AV.agg [AV.int .i64 (v83_0 a0),AV.int .i64 (v83_1 a0),AV.int .i64 (v83_2 a0),AV.int .i64 (v83_3 a0)]) else none
 | _=>none
theorem k83:Known Tryz.prog 83:=⟨Tryz.f83,Tryz.func83,by kernel_rfl,by kernel_rfl⟩
theorem meets83:Meets Tryz.prog 83 m83:=by
 refine mt (lvl:=0) (cf:=c83) rfl mixed k83 Tryz.func83 (by kernel_rfl) noLoop (allT_cons meets92 (allT_cons meets95 (allT_cons meets123 (allT_cons meets153 allT_nil)))) allM_nil noI fun xs r h=>?_
 unfold m83 at h
 split at h
 ·rename_i g0 a0
  obtain ⟨hg,h⟩:=bif_pair h
  have q0:=hg
  obtain rfl:=cE q0
  obtain ⟨h1,rfl⟩:=pair_inj h
  exact (e83 a0).trans ((br (fun b=>some (AV.agg [Ai (bif b then 0 else (bif !(v95_0 a0) then 0 else (a0.length:Int))),Ai (bif b then 0 else (bif !(v95_0 a0) then 0 else (v92_0 a0))),Ai (bif b then 0 else (bif !(v95_0 a0) then 0 else (v153_0 a0))),Ai (bif b then 0 else (bif !(v95_0 a0) then 0 else (v123_0 a0)))])) (fun _=>rfl) (brL (br (fun b=>some (AV.agg [Ai (bif b then 0 else (a0.length:Int)),Ai (bif b then 0 else (v92_0 a0)),Ai (bif b then 0 else (v153_0 a0)),Ai (bif b then 0 else (v123_0 a0))])) (fun _=>rfl) (brL (brL (brL1 (fun _=>rfl))))))) h1)
 ·cases h
noncomputable def c82:Cfg:=cfg Tryz.prog [(82,999,[2])] [(79,m79)] [] [] []
def q82 (xa xb xc xd:Int):Bool:=(bif decide (xa≤0) then true else (q79 xa && (decide ((v79_0 xa).size+(ByteArray.mk #[32,115,117,109,32]).size≤4611686018427387904) && (q79 xb && (decide (((v79_0 xa)++(ByteArray.mk #[32,115,117,109,32])).size+(v79_0 xb).size≤4611686018427387904) && (decide ((((v79_0 xa)++(ByteArray.mk #[32,115,117,109,32]))++(v79_0 xb)).size+(ByteArray.mk #[32,102,114,111,109,32]).size≤4611686018427387904) && (q79 xc && (decide (((((v79_0 xa)++(ByteArray.mk #[32,115,117,109,32]))++(v79_0 xb))++(ByteArray.mk #[32,102,114,111,109,32])).size+(v79_0 xc).size≤4611686018427387904) && (decide ((((((v79_0 xa)++(ByteArray.mk #[32,115,117,109,32]))++(v79_0 xb))++(ByteArray.mk #[32,102,114,111,109,32]))++(v79_0 xc)).size+(ByteArray.mk #[32,116,111,32]).size≤4611686018427387904) && (q79 xd && decide (((((((v79_0 xa)++(ByteArray.mk #[32,115,117,109,32]))++(v79_0 xb))++(ByteArray.mk #[32,102,114,111,109,32]))++(v79_0 xc))++(ByteArray.mk #[32,116,111,32])).size+(v79_0 xd).size≤4611686018427387904)))))))))))
def v82_0 (xa xb xc xd:Int):ByteArray:=(bif decide (xa≤0) then (ByteArray.mk #[110,111,110,101]) else ((((((v79_0 xa)++(ByteArray.mk #[32,115,117,109,32]))++(v79_0 xb))++(ByteArray.mk #[32,102,114,111,109,32]))++(v79_0 xc))++(ByteArray.mk #[32,116,111,32]))++(v79_0 xd))
theorem e82 (xa xb xc xd:Int):funA c82 0 82 [AV.agg [Ai xa,Ai xb,Ai xc,Ai xd]]=(bif decide (xa≤0) then some (AV.str (ByteArray.mk #[110,111,110,101]))
 else (bif q79 xa then (bif decide ((v79_0 xa).size+(ByteArray.mk #[32,115,117,109,32]).size≤4611686018427387904) then (bif q79 xb then (bif decide (((v79_0 xa)++(ByteArray.mk #[32,115,117,109,32])).size+(v79_0 xb).size≤4611686018427387904) then (bif decide ((((v79_0 xa)++(ByteArray.mk #[32,115,117,109,32]))++(v79_0 xb)).size+(ByteArray.mk #[32,102,114,111,109,32]).size≤4611686018427387904) then (bif q79 xc then (bif decide (((((v79_0 xa)++(ByteArray.mk #[32,115,117,109,32]))++(v79_0 xb))++(ByteArray.mk #[32,102,114,111,109,32])).size+(v79_0 xc).size≤4611686018427387904) then (bif decide ((((((v79_0 xa)++(ByteArray.mk #[32,115,117,109,32]))++(v79_0 xb))++(ByteArray.mk #[32,102,114,111,109,32]))++(v79_0 xc)).size+(ByteArray.mk #[32,116,111,32]).size≤4611686018427387904) then (bif q79 xd then (bif decide (((((((v79_0 xa)++(ByteArray.mk #[32,115,117,109,32]))++(v79_0 xb))++(ByteArray.mk #[32,102,114,111,109,32]))++(v79_0 xc))++(ByteArray.mk #[32,116,111,32])).size+(v79_0 xd).size≤4611686018427387904) then some (AV.str (((((((v79_0 xa)++(ByteArray.mk #[32,115,117,109,32]))++(v79_0 xb))++(ByteArray.mk #[32,102,114,111,109,32]))++(v79_0 xc))++(ByteArray.mk #[32,116,111,32]))++(v79_0 xd)))
 else none)
 else none)
 else none)
 else none)
 else none)
 else none)
 else none)
 else none)
 else none)
 else none)):=by kernel_rfl
def m82:TModel
 | [.agg [.int .i64 xa,.int .i64 xb,.int .i64 xc,.int .i64 xd]]=>some (q82 xa xb xc xd,AV.str (v82_0 xa xb xc xd))
 | _=>none
theorem k82:Known Tryz.prog 82:=⟨Tryz.f82,Tryz.func82,by kernel_rfl,by kernel_rfl⟩
theorem meets82:Meets Tryz.prog 82 m82:=by
 refine mt (lvl:=0) (cf:=c82) rfl mixed k82 Tryz.func82 (by kernel_rfl) noLoop (allT_cons meets79 allT_nil) allM_nil noI fun xs r h=>?_
 unfold m82 at h
 split at h
 ·rename_i xa xb xc xd
  obtain ⟨h1,rfl⟩:=pair_inj h
  exact (e82 xa xb xc xd).trans ((br (fun b=>some (AV.str (bif b then (ByteArray.mk #[110,111,110,101]) else ((((((v79_0 xa)++(ByteArray.mk #[32,115,117,109,32]))++(v79_0 xb))++(ByteArray.mk #[32,102,114,111,109,32]))++(v79_0 xc))++(ByteArray.mk #[32,116,111,32]))++(v79_0 xd)))) (fun _=>rfl) (brL (brL (brL (brL (brL (brL (brL (brL (brL (brL1 (fun _=>rfl)))))))))))) h1)
 ·cases h
def G155_0 {β:Type} (t2:Int) (h0_0:List AV) (h0_1:List AV) (h0_2:List AV) (t8:Int) (h1:List AV) (N:((Int × (List AV)))→β) (K:(((List AV)))→β) (d:β):β:=(bif decide (t8<t2) then (bif (decide (0≤t8) && decide (t8<(h0_0.length:Int))) then (bif (decide (0≤t8) && decide (t8<(h0_1.length:Int))) then (bif (decide ((h1.length+([AV.agg [AV.int .i64 (fI (h0_0.getD t8.toNat .undef) 0),AV.int .i64 (fI (h0_1.getD t8.toNat .undef) 0)]]).length)*16≤140737488355328) && decide ((h1.length+([AV.agg [AV.int .i64 (fI (h0_0.getD t8.toNat .undef) 0),AV.int .i64 (fI (h0_1.getD t8.toNat .undef) 0)]]).length)≤140737488355328)) then N (IntKind.i64.wrap (t8+1),h1++([AV.agg [AV.int .i64 (fI (h0_0.getD t8.toNat .undef) 0),AV.int .i64 (fI (h0_1.getD t8.toNat .undef) 0)]]))
 else d)
 else d)
 else d)
 else K h1)
def F155_0 (t2:Int) (h0_0 h0_1 h0_2:List AV) (t8:Int) (h1:List AV):Out ((Int × (List AV))) (((List AV))):=G155_0 t2 h0_0 h0_1 h0_2 t8 h1 .next .stop .fail
def R155_0 (t2:Int) (h0_0 h0_1 h0_2:List AV):((Int × (List AV)))→Out ((Int × (List AV))) (((List AV))):=fun s:Int × (List AV)=>F155_0 t2 h0_0 h0_1 h0_2 s.1 s.2
def E155_0 (t2:Int) (h0_0 h0_1 h0_2:List AV):((Int × (List AV)))→St:=fun s:Int × (List AV)=>⟨[(2,Ai t2),(3,AV.ptr [0,3] 0 0),(7,AV.own [0,7]),(8,Ai s.1)],[([0,3],⟨true,[],[AV.agg [AV.sl [.int .i64] h0_0,AV.sl [.int .i64] h0_1,AV.sl [.int .i64,.int .i64] h0_2]]⟩),([0,7],⟨false,[.int .i64,.int .i64],s.2⟩)]⟩
def K155_0 (t2:Int) (h0_0 h0_1 h0_2:List AV) (k:Kont):(((List AV)))→Option AV:=fun p:(List AV)=>k (.exit 0) ⟨[(7,AV.own [0,7])],[([0,3],⟨true,[],[AV.agg [AV.sl [.int .i64] h0_0,AV.sl [.int .i64] h0_1,AV.sl [.int .i64,.int .i64] h0_2]]⟩),([0,7],⟨false,[.int .i64,.int .i64],p⟩)]⟩
def l155_0:LModel:=fun _ _ st k=>match st with
 | ⟨[(2,.int .i64 t2),(3,.ptr g0 g1 g2),(7,.own g3),(8,.int .i64 t8)],[(g4,⟨true,[],[.agg [.sl g5 h0_0,.sl g6 h0_1,.sl g7 h0_2]]⟩),(g8,⟨false,g9,h1⟩)]⟩=>bif nmEq g0 ([0,3]) && Nat.beq g1 0 && Nat.beq g2 0 && nmEq g3 ([0,7]) && nmEq g4 ([0,3]) && ctsEq g5 ([.int .i64]) && ctsEq g6 ([.int .i64]) && ctsEq g7 ([.int .i64,.int .i64]) && nmEq g8 ([0,7]) && ctsEq g9 ([.int .i64,.int .i64]) then ro (runW (R155_0 t2 h0_0 h0_1 h0_2) ((t2 - t8:Int).toNat+1) (t8,h1)) none (K155_0 t2 h0_0 h0_1 h0_2 k) else none
 | _=>none
noncomputable def c155:Cfg:=cfg Tryz.prog [(155,0,[2,3,7,8]),(155,999,[6]),(155,1000,[7]),(155,1001,[2,3,7,8])] [] [] [] [(155,0,l155_0)]
theorem s155_0 (t2:Int) (h0_0 h0_1 h0_2:List AV) (ce:CallE) (k:Kont) (s:Int × (List AV)) (next:St→Option AV):stepA (codeA c155 ce [] 155 0 (sub [1,1,0,1,0,0] (body Tryz.f155))) (normA [] [2,3,7,8]) next ((E155_0 t2 h0_0 h0_1 h0_2) s) k=G155_0 t2 h0_0 h0_1 h0_2 s.1 s.2 (fun s=>next ((E155_0 t2 h0_0 h0_1 h0_2) s)) (K155_0 t2 h0_0 h0_1 h0_2 k) none:=by kernel_rfl
theorem st155_0 (t2:Int) (h0_0 h0_1 h0_2:List AV) (ce:CallE) (k:Kont) (s:(Int × (List AV))) (next:St→Option AV):stepA (codeA c155 ce [] 155 0 (sub [1,1,0,1,0,0] (body Tryz.f155))) (normA [] [2,3,7,8]) next ((E155_0 t2 h0_0 h0_1 h0_2) s) k=(R155_0 t2 h0_0 h0_1 h0_2 s).el none (fun s=>next ((E155_0 t2 h0_0 h0_1 h0_2) s)) (K155_0 t2 h0_0 h0_1 h0_2 k):=(s155_0 t2 h0_0 h0_1 h0_2 ce k s next).trans (by unfold R155_0;unfold F155_0 G155_0;simp only [el_cond,el_ro,el_sum,el_fail,el_next,el_stop] <;> rfl)
theorem ok155_0 {ce:CallE}:LoopOK c155 ce [] 155 0 (sub [1,1,0,1,0,0] (body Tryz.f155)):=by
 intro m hm st k r h
 obtain rfl:l155_0=m:=Option.some.inj hm
 unfold l155_0 at h
 split at h
 ·rename_i t2 g0 g1 g2 g3 t8 g4 g5 h0_0 g6 h0_1 g7 h0_2 g8 g9 h1
  obtain ⟨hg,h⟩:=bif_some h
  simp only [Bool.and_eq_true] at hg
  obtain ⟨⟨⟨⟨⟨⟨⟨⟨⟨q0,q1⟩,q2⟩,q3⟩,q4⟩,q5⟩,q6⟩,q7⟩,q8⟩,q9⟩:=hg
  obtain rfl:=nE q0
  obtain rfl:=bE q1
  obtain rfl:=bE q2
  obtain rfl:=nE q3
  obtain rfl:=nE q4
  obtain rfl:=cE q5
  obtain rfl:=cE q6
  obtain rfl:=cE q7
  obtain rfl:=nE q8
  obtain rfl:=cE q9
  refine ⟨((t2 - t8:Int).toNat+1),?_⟩
  rw [← h]
  exact loop_run (E155_0 t2 h0_0 h0_1 h0_2) (K155_0 t2 h0_0 h0_1 h0_2 k) (st155_0 t2 h0_0 h0_1 h0_2 ce k) _ (t8,h1)
 ·cases h
def q155 (xa xb xc:List AV) (a1 a2:Int):Bool:=(ro (runW (R155_0 a2 xa xb xc) ((a2 - a1:Int).toNat+1) (a1,([]:List AV))) false (fun p44=>true))
def v155_0 (xa xb xc:List AV) (a1 a2:Int):List AV:=(ro (runW (R155_0 a2 xa xb xc) ((a2 - a1:Int).toNat+1) (a1,([]:List AV))) [] (fun p44=>p44))
theorem e155 (xa xb xc:List AV) (a1 a2:Int):funA c155 0 155 [AV.agg [AV.sl [.int .i64] xa,AV.sl [.int .i64] xb,AV.sl [.int .i64,.int .i64] xc],Ai a1,Ai a2]=(ro (runW (R155_0 a2 xa xb xc) ((a2 - a1:Int).toNat+1) (a1,([]:List AV))) none (fun p44=>some (AV.fl [.int .i64,.int .i64] p44))):=by kernel_rfl
def m155:TModel
 | [.agg [.sl g0 xa,.sl g1 xb,.sl g2 xc],.int .i64 a1,.int .i64 a2]=>bif ctsEq g0 ([.int .i64]) && ctsEq g1 ([.int .i64]) && ctsEq g2 ([.int .i64,.int .i64]) then some (q155 xa xb xc a1 a2,AV.fl [.int .i64,.int .i64] (v155_0 xa xb xc a1 a2)) else none
 | _=>none
theorem k155:Known Tryz.prog 155:=⟨Tryz.f155,Tryz.func155,by kernel_rfl,by kernel_rfl⟩
theorem meets155:Meets Tryz.prog 155 m155:=by
 refine mt (lvl:=0) (cf:=c155) rfl mixed k155 Tryz.func155 (by kernel_rfl) (loops_cons ok155_0 noLoop) allT_nil allM_nil noI fun xs r h=>?_
 unfold m155 at h
 split at h
 ·rename_i g0 xa g1 xb g2 xc a1 a2
  obtain ⟨hg,h⟩:=bif_pair h
  simp only [Bool.and_eq_true] at hg
  obtain ⟨⟨q0,q1⟩,q2⟩:=hg
  obtain rfl:=cE q0
  obtain rfl:=cE q1
  obtain rfl:=cE q2
  obtain ⟨h1,rfl⟩:=pair_inj h
  exact (e155 xa xb xc a1 a2).trans ((brO (fun o:Option (((List AV)))=>some (AV.fl [.int .i64,.int .i64] (ro o [] (fun p44=>p44)))) (fun p44=>(fun _=>rfl))) h1)
 ·cases h
noncomputable def c210:Cfg:=cfg Tryz.prog [(210,999,[2])] [] [] [] []
def v210_0 (a0:Int):Bool := !decide (a0=a0)
theorem e210 (a0:Int):funA c210 0 210 [Ai a0]=some (AV.bool (!decide (a0=a0))):=by kernel_rfl
def m210:TModel
 | [.int .i64 a0]=>some (true,AV.bool (v210_0 a0))
 | _=>none
theorem k210:Known Tryz.prog 210:=⟨Tryz.f210,Tryz.func210,by kernel_rfl,by kernel_rfl⟩
theorem meets210:Meets Tryz.prog 210 m210:=by
 refine mt (lvl:=0) (cf:=c210) rfl mixed k210 Tryz.func210 (by kernel_rfl) noLoop allT_nil allM_nil noI fun xs r h=>?_
 unfold m210 at h
 split at h
 ·rename_i a0
  obtain ⟨h1,rfl⟩:=pair_inj h
  exact (e210 a0).trans (of_tt (fun _=>rfl))
 ·cases h
noncomputable def c188:Cfg:=cfg Tryz.prog [(188,999,[4])] [(210,m210)] [] [] []
def v188_0 (a0 a1:Int):Int:=(bif (v210_0 a0) then (bif (v210_0 a1) then 0 else (-1)) else (bif (v210_0 a1) then 1 else (bif decide (a0<a1) then (-1) else (bif decide (a0 > a1) then 1 else 0))))
theorem e188 (a0 a1:Int):funA c188 0 188 [Ai a0,Ai a1]=(bif (v210_0 a0) then (bif (v210_0 a1) then some (Ai 0)
 else some (Ai (-1)))
 else (bif (v210_0 a1) then some (Ai 1)
 else (bif decide (a0<a1) then some (Ai (-1))
 else (bif decide (a0 > a1) then some (Ai 1)
 else some (Ai 0))))):=by kernel_rfl
def m188:TModel
 | [.int .i64 a0,.int .i64 a1]=>some (true,AV.int .i64 (v188_0 a0 a1))
 | _=>none
theorem k188:Known Tryz.prog 188:=⟨Tryz.f188,Tryz.func188,by kernel_rfl,by kernel_rfl⟩
theorem meets188:Meets Tryz.prog 188 m188:=by
 refine mt (lvl:=0) (cf:=c188) rfl mixed k188 Tryz.func188 (by kernel_rfl) noLoop (allT_cons meets210 allT_nil) allM_nil noI fun xs r h=>?_
 unfold m188 at h
 split at h
 ·rename_i a0 a1
  obtain ⟨h1,rfl⟩:=pair_inj h
  exact (e188 a0 a1).trans (of_tt (brT (fun b=>some (Ai (bif b then (bif (v210_0 a1) then 0 else (-1)) else (bif (v210_0 a1) then 1 else (bif decide (a0<a1) then (-1) else (bif decide (a0 > a1) then 1 else 0)))))) (brT (fun b=>some (Ai (bif b then 0 else (-1)))) (fun _=>rfl) (fun _=>rfl)) (brT (fun b=>some (Ai (bif b then 1 else (bif decide (a0<a1) then (-1) else (bif decide (a0 > a1) then 1 else 0))))) (fun _=>rfl) (brT (fun b=>some (Ai (bif b then (-1) else (bif decide (a0 > a1) then 1 else 0)))) (fun _=>rfl) (brT (fun b=>some (Ai (bif b then 1 else 0))) (fun _=>rfl) (fun _=>rfl))))))
 ·cases h
def G187_0 {β:Type} (t3:Int) (t6:List AV) (t7:Int) (t8:Int) (N:(Int)→β) (K:(Unit ⊕ Int)→β) (d:β):β:=(bif decide (t8<t7) then (bif (decide (0≤t8) && decide (t8<(t6.length:Int))) then (bif !decide (fI (t6.getD t8.toNat .undef) 0=t3) then K (.inr (fI (t6.getD t8.toNat .undef) 0))
 else N (IntKind.i64.wrap (t8+1)))
 else d)
 else K (.inl ()))
def F187_0 (t3:Int) (t6:List AV) (t7 t8:Int):Out (Int) (Unit ⊕ Int):=G187_0 t3 t6 t7 t8 .next .stop .fail
def R187_0 (t3:Int) (t6:List AV) (t7:Int):(Int)→Out (Int) (Unit ⊕ Int):=fun s:Int=>F187_0 t3 t6 t7 s
def E187_0 (t3:Int) (t6:List AV) (t7:Int):(Int)→St:=fun s:Int=>⟨[(3,Ai t3),(6,AV.sl [.int .i64] t6),(7,Ai t7),(8,Ai s)],[]⟩
def K187_0 (t3:Int) (t6:List AV) (t7:Int) (k:Kont):(Unit ⊕ Int)→Option AV:=sumE (fun _:Unit=>k (.exit 0) ⟨[(3,Ai t3)],[]⟩) (fun p:Int=>k .ret ⟨[(2,Ai p)],[]⟩)
def l187_0:LModel:=fun _ _ st k=>match st with
 | ⟨[(3,.int .i64 t3),(6,.sl g0 t6),(7,.int .i64 t7),(8,.int .i64 t8)],[]⟩=>bif ctsEq g0 ([.int .i64]) then ro (runW (R187_0 t3 t6 t7) ((t7 - t8:Int).toNat+1) t8) none (K187_0 t3 t6 t7 k) else none
 | _=>none
noncomputable def c187:Cfg:=cfg Tryz.prog [(187,0,[3,6,7,8]),(187,999,[2]),(187,1000,[3]),(187,1001,[3,6,7,8])] [] [] [] [(187,0,l187_0)]
theorem s187_0 (t3:Int) (t6:List AV) (t7:Int) (ce:CallE) (k:Kont) (s:Int) (next:St→Option AV):stepA (codeA c187 ce [] 187 0 (sub [1,1,0,1,0,0] (body Tryz.f187))) (normA [] [3,6,7,8]) next ((E187_0 t3 t6 t7) s) k=G187_0 t3 t6 t7 s (fun s=>next ((E187_0 t3 t6 t7) s)) (K187_0 t3 t6 t7 k) none:=by kernel_rfl
theorem st187_0 (t3:Int) (t6:List AV) (t7:Int) (ce:CallE) (k:Kont) (s:Int) (next:St→Option AV):stepA (codeA c187 ce [] 187 0 (sub [1,1,0,1,0,0] (body Tryz.f187))) (normA [] [3,6,7,8]) next ((E187_0 t3 t6 t7) s) k=(R187_0 t3 t6 t7 s).el none (fun s=>next ((E187_0 t3 t6 t7) s)) (K187_0 t3 t6 t7 k):=(s187_0 t3 t6 t7 ce k s next).trans (by unfold R187_0;unfold F187_0 G187_0;simp only [el_cond,el_ro,el_sum,el_fail,el_next,el_stop] <;> rfl)
theorem ok187_0 {ce:CallE}:LoopOK c187 ce [] 187 0 (sub [1,1,0,1,0,0] (body Tryz.f187)):=by
 intro m hm st k r h
 obtain rfl:l187_0=m:=Option.some.inj hm
 unfold l187_0 at h
 split at h
 ·rename_i t3 g0 t6 t7 t8
  obtain ⟨hg,h⟩:=bif_some h
  have q0:=hg
  obtain rfl:=cE q0
  refine ⟨((t7 - t8:Int).toNat+1),?_⟩
  rw [← h]
  exact loop_run (E187_0 t3 t6 t7) (K187_0 t3 t6 t7 k) (st187_0 t3 t6 t7 ce k) _ t8
 ·cases h
def q187 (a0:List AV):Bool:=(ro (runW (R187_0 0 a0 (a0.length:Int)) (((a0.length:Int) - 0:Int).toNat+1) 0) false (sumE (fun _=>true) (fun p46=>true)))
def v187_0 (a0:List AV):Int:=(ro (runW (R187_0 0 a0 (a0.length:Int)) (((a0.length:Int) - 0:Int).toNat+1) 0) 0 (sumE (fun _=>0) (fun p46=>p46)))
theorem e187 (a0:List AV):funA c187 0 187 [AV.sl [.int .i64] a0]=(ro (runW (R187_0 0 a0 (a0.length:Int)) (((a0.length:Int) - 0:Int).toNat+1) 0) none (sumE (fun _=>some (Ai 0)) (fun p46=>some (Ai p46)))):=by kernel_rfl
def m187:TModel
 | [.sl g0 a0]=>bif ctsEq g0 ([.int .i64]) then some (q187 a0,AV.int .i64 (v187_0 a0)) else none
 | _=>none
theorem k187:Known Tryz.prog 187:=⟨Tryz.f187,Tryz.func187,by kernel_rfl,by kernel_rfl⟩
theorem meets187:Meets Tryz.prog 187 m187:=by
 refine mt (lvl:=0) (cf:=c187) rfl mixed k187 Tryz.func187 (by kernel_rfl) (loops_cons ok187_0 noLoop) allT_nil allM_nil noI fun xs r h=>?_
 unfold m187 at h
 split at h
 ·rename_i g0 a0
  obtain ⟨hg,h⟩:=bif_pair h
  have q0:=hg
  obtain rfl:=cE q0
  obtain ⟨h1,rfl⟩:=pair_inj h
  exact (e187 a0).trans ((brO (fun o:Option (Unit ⊕ Int)=>some (Ai (ro o 0 (sumE (fun _=>0) (fun p46=>p46))))) (brS (fun o:Unit ⊕ Int=>some (Ai ((sumE (fun _=>0) (fun p46=>p46)) o))) (fun _=>(fun _=>rfl)) (fun p46=>(fun _=>rfl)))) h1)
 ·cases h
noncomputable def c156:Cfg:=cfg Tryz.prog [(156,999,[4])] [(187,m187),(188,m188)] [] [] []
def q156 (xa xb ya yb:Int):Bool:=q187 ([AV.int .i64 (v188_0 xa ya),AV.int .i64 (v188_0 xb yb)])
def v156_0 (xa xb ya yb:Int):Int:=(v187_0 ([AV.int .i64 (v188_0 xa ya),AV.int .i64 (v188_0 xb yb)]))
theorem e156 (xa xb ya yb:Int):funA c156 0 156 [AV.agg [Ai xa,Ai xb],AV.agg [Ai ya,Ai yb]]=(bif q187 ([Ai (v188_0 xa ya),Ai (v188_0 xb yb)]) then some (Ai (v187_0 ([Ai (v188_0 xa ya),Ai (v188_0 xb yb)])))
 else none):=by kernel_rfl
def m156:TModel
 | [.agg [.int .i64 xa,.int .i64 xb],.agg [.int .i64 ya,.int .i64 yb]]=>some (q156 xa xb ya yb,AV.int .i64 (v156_0 xa xb ya yb))
 | _=>none
theorem k156:Known Tryz.prog 156:=⟨Tryz.f156,Tryz.func156,by kernel_rfl,by kernel_rfl⟩
theorem meets156:Meets Tryz.prog 156 m156:=by
 refine mt (lvl:=0) (cf:=c156) rfl mixed k156 Tryz.func156 (by kernel_rfl) noLoop (allT_cons meets187 (allT_cons meets188 allT_nil)) allM_nil noI fun xs r h=>?_
 unfold m156 at h
 split at h
 ·rename_i xa xb ya yb
  obtain ⟨h1,rfl⟩:=pair_inj h
  exact (e156 xa xb ya yb).trans ((brL1 (fun _=>rfl)) h1)
 ·cases h
def G154_0 {β:Type} (t0:List AV) (t5:Int) (N:(Int)→β) (K:(Unit ⊕ Unit)→β) (d:β):β:=(bif decide (t5 > 0) then (bif (decide (0≤t5) && decide (t5<(t0.length:Int))) then (bif (decide (0≤IntKind.i64.wrap (t5 - 1)) && decide (IntKind.i64.wrap (t5 - 1)<(t0.length:Int))) then (bif q156 (fI (t0.getD t5.toNat .undef) 0) (fI (t0.getD t5.toNat .undef) 1) (fI (t0.getD (IntKind.i64.wrap (t5 - 1)).toNat .undef) 0) (fI (t0.getD (IntKind.i64.wrap (t5 - 1)).toNat .undef) 1) then (bif decide ((v156_0 (fI (t0.getD t5.toNat .undef) 0) (fI (t0.getD t5.toNat .undef) 1) (fI (t0.getD (IntKind.i64.wrap (t5 - 1)).toNat .undef) 0) (fI (t0.getD (IntKind.i64.wrap (t5 - 1)).toNat .undef) 1))<0) then K (.inr ())
 else N (IntKind.i64.wrap (t5 - 1)))
 else d)
 else d)
 else d)
 else K (.inl ()))
def F154_0 (t0:List AV) (t5:Int):Out (Int) (Unit ⊕ Unit):=G154_0 t0 t5 .next .stop .fail
def R154_0 (t0:List AV):(Int)→Out (Int) (Unit ⊕ Unit):=fun s:Int=>F154_0 t0 s
def E154_0 (t0:List AV):(Int)→St:=fun s:Int=>⟨[(0,AV.sl [.int .i64,.int .i64] t0),(1,AV.fn 156 []),(5,Ai s)],[]⟩
def K154_0 (t0:List AV) (k:Kont):(Unit ⊕ Unit)→Option AV:=sumE (fun _:Unit=>k (.exit 0) ⟨[],[]⟩) (fun _:Unit=>k .ret ⟨[(4,AV.bool false)],[]⟩)
def l154_0:LModel:=fun _ _ st k=>match st with
 | ⟨[(0,.sl g0 t0),(1,.fn g1 []),(5,.int .i64 t5)],[]⟩=>bif ctsEq g0 ([.int .i64,.int .i64]) && Nat.beq g1 156 then ro (runW (R154_0 t0) ((t5 - 0:Int).toNat+1) t5) none (K154_0 t0 k) else none
 | _=>none
noncomputable def c154:Cfg:=cfg Tryz.prog [(154,0,[0,1,5]),(154,999,[4]),(154,1000,[]),(154,1001,[0,1,5])] [(156,m156)] [] [] [(154,0,l154_0)]
theorem s154_0 (t0:List AV) (ce:CallE) (k:Kont) (s:Int) (next:St→Option AV):stepA (codeA c154 ce [] 154 0 (sub [1,0,1,0,0] (body Tryz.f154))) (normA [] [0,1,5]) next ((E154_0 t0) s) k=G154_0 t0 s (fun s=>next ((E154_0 t0) s)) (K154_0 t0 k) none:=by kernel_rfl
theorem st154_0 (t0:List AV) (ce:CallE) (k:Kont) (s:Int) (next:St→Option AV):stepA (codeA c154 ce [] 154 0 (sub [1,0,1,0,0] (body Tryz.f154))) (normA [] [0,1,5]) next ((E154_0 t0) s) k=(R154_0 t0 s).el none (fun s=>next ((E154_0 t0) s)) (K154_0 t0 k):=(s154_0 t0 ce k s next).trans (by unfold R154_0;unfold F154_0 G154_0;simp only [el_cond,el_ro,el_sum,el_fail,el_next,el_stop] <;> rfl)
theorem ok154_0 {ce:CallE}:LoopOK c154 ce [] 154 0 (sub [1,0,1,0,0] (body Tryz.f154)):=by
 intro m hm st k r h
 obtain rfl:l154_0=m:=Option.some.inj hm
 unfold l154_0 at h
 split at h
 ·rename_i g0 t0 g1 t5
  obtain ⟨hg,h⟩:=bif_some h
  simp only [Bool.and_eq_true] at hg
  obtain ⟨q0,q1⟩:=hg
  obtain rfl:=cE q0
  obtain rfl:=bE q1
  refine ⟨((t5 - 0:Int).toNat+1),?_⟩
  rw [← h]
  exact loop_run (E154_0 t0) (K154_0 t0 k) (st154_0 t0 ce k) _ t5
 ·cases h
def q154 (a0:List AV):Bool:=(ro (runW (R154_0 a0) (((IntKind.i64.wrap ((a0.length:Int) - 1)) - 0:Int).toNat+1) (IntKind.i64.wrap ((a0.length:Int) - 1))) false (sumE (fun _=>true) (fun _=>true)))
def v154_0 (a0:List AV):Bool:=(ro (runW (R154_0 a0) (((IntKind.i64.wrap ((a0.length:Int) - 1)) - 0:Int).toNat+1) (IntKind.i64.wrap ((a0.length:Int) - 1))) false (sumE (fun _=>true) (fun _=>false)))
theorem e154 (a0:List AV):funA c154 0 154 [AV.sl [.int .i64,.int .i64] a0,AV.fn 156 []]=(ro (runW (R154_0 a0) (((IntKind.i64.wrap ((a0.length:Int) - 1)) - 0:Int).toNat+1) (IntKind.i64.wrap ((a0.length:Int) - 1))) none (sumE (fun _=>some (AV.bool true)) (fun _=>some (AV.bool false)))):=by kernel_rfl
def m154:TModel
 | [.sl g0 a0,.fn g1 []]=>bif ctsEq g0 ([.int .i64,.int .i64]) && Nat.beq g1 156 then some (q154 a0,AV.bool (v154_0 a0)) else none
 | _=>none
theorem k154:Known Tryz.prog 154:=⟨Tryz.f154,Tryz.func154,by kernel_rfl,by kernel_rfl⟩
theorem meets154:Meets Tryz.prog 154 m154:=by
 refine mt (lvl:=0) (cf:=c154) rfl mixed k154 Tryz.func154 (by kernel_rfl) (loops_cons ok154_0 noLoop) (allT_cons meets156 allT_nil) allM_nil noI fun xs r h=>?_
 unfold m154 at h
 split at h
 ·rename_i g0 a0 g1
  obtain ⟨hg,h⟩:=bif_pair h
  simp only [Bool.and_eq_true] at hg
  obtain ⟨q0,q1⟩:=hg
  obtain rfl:=cE q0
  obtain rfl:=bE q1
  obtain ⟨h1,rfl⟩:=pair_inj h
  exact (e154 a0).trans ((brO (fun o:Option (Unit ⊕ Unit)=>some (AV.bool (ro o false (sumE (fun _=>true) (fun _=>false))))) (brS (fun o:Unit ⊕ Unit=>some (AV.bool ((sumE (fun _=>true) (fun _=>false)) o))) (fun _=>(fun _=>rfl)) (fun _=>(fun _=>rfl)))) h1)
 ·cases h
noncomputable def c84:Cfg:=cfg Tryz.prog [(84,999,[6])] [(154,m154),(155,m155)] [] [] []
def q84 (xa xb xc:List AV) (a1 a2:Int):Bool:=(q155 xa xb xc a1 a2 && q154 (v155_0 xa xb xc a1 a2))
def v84_0 (xa xb xc:List AV) (a1 a2:Int):Bool:=(v154_0 (v155_0 xa xb xc a1 a2))
theorem e84 (xa xb xc:List AV) (a1 a2:Int):funA c84 0 84 [AV.agg [AV.sl [.int .i64] xa,AV.sl [.int .i64] xb,AV.sl [.int .i64,.int .i64] xc],Ai a1,Ai a2]=(bif q155 xa xb xc a1 a2 then (bif q154 (v155_0 xa xb xc a1 a2) then some (AV.bool (v154_0 (v155_0 xa xb xc a1 a2)))
 else none)
 else none):=by kernel_rfl
def m84:TModel
 | [.agg [.sl g0 xa,.sl g1 xb,.sl g2 xc],.int .i64 a1,.int .i64 a2]=>bif ctsEq g0 ([.int .i64]) && ctsEq g1 ([.int .i64]) && ctsEq g2 ([.int .i64,.int .i64]) then some (q84 xa xb xc a1 a2,AV.bool (v84_0 xa xb xc a1 a2)) else none
 | _=>none
theorem k84:Known Tryz.prog 84:=⟨Tryz.f84,Tryz.func84,by kernel_rfl,by kernel_rfl⟩
theorem meets84:Meets Tryz.prog 84 m84:=by
 refine mt (lvl:=0) (cf:=c84) rfl mixed k84 Tryz.func84 (by kernel_rfl) noLoop (allT_cons meets154 (allT_cons meets155 allT_nil)) allM_nil noI fun xs r h=>?_
 unfold m84 at h
 split at h
 ·rename_i g0 xa g1 xb g2 xc a1 a2
  obtain ⟨hg,h⟩:=bif_pair h
  simp only [Bool.and_eq_true] at hg
  obtain ⟨⟨q0,q1⟩,q2⟩:=hg
  obtain rfl:=cE q0
  obtain rfl:=cE q1
  obtain rfl:=cE q2
  obtain ⟨h1,rfl⟩:=pair_inj h
  exact (e84 xa xb xc a1 a2).trans ((brL (brL1 (fun _=>rfl))) h1)
 ·cases h
def G25_0 {β:Type} (t13:Int) (h0_0:List AV) (h0_1:List AV) (h0_2:List AV) (h2:List AV) (t14:Int) (h1:List AV) (N:((Int × (List AV)))→β) (K:(((List AV)))→β) (d:β):β:=by
 refine (?f0:ByteArray→ByteArray→Int→Int→Int→Int→β) (v79_0 (fI (h2.getD t14.toNat .undef) 0)) (v79_0 (fI (h2.getD t14.toNat .undef) 1)) (v83_0 ((h0_0.take (Int.toNat (fI (h2.getD t14.toNat .undef) 1))).drop (Int.toNat (fI (h2.getD t14.toNat .undef) 0)))) (v83_1 ((h0_0.take (Int.toNat (fI (h2.getD t14.toNat .undef) 1))).drop (Int.toNat (fI (h2.getD t14.toNat .undef) 0)))) (v83_2 ((h0_0.take (Int.toNat (fI (h2.getD t14.toNat .undef) 1))).drop (Int.toNat (fI (h2.getD t14.toNat .undef) 0)))) (v83_3 ((h0_0.take (Int.toNat (fI (h2.getD t14.toNat .undef) 1))).drop (Int.toNat (fI (h2.getD t14.toNat .undef) 0))));intro x1 x2 x3 x4 x5 x6
 refine (?f1:ByteArray→β) (v82_0 x3 x4 x5 x6);intro x7
 exact (bif decide (t14<t13) then (bif (decide (0≤t14) && decide (t14<(h2.length:Int))) then (bif q79 (fI (h2.getD t14.toNat .undef) 0) then (bif decide (x1.size+(ByteArray.mk #[46,46]).size≤4611686018427387904) then (bif q79 (fI (h2.getD t14.toNat .undef) 1) then (bif decide ((x1++(ByteArray.mk #[46,46])).size+x2.size≤4611686018427387904) then (bif decide (((x1++(ByteArray.mk #[46,46]))++x2).size+(ByteArray.mk #[32]).size≤4611686018427387904) then (bif (decide (0≤fI (h2.getD t14.toNat .undef) 0) && decide (fI (h2.getD t14.toNat .undef) 0≤fI (h2.getD t14.toNat .undef) 1) && decide (fI (h2.getD t14.toNat .undef) 1≤(h0_0.length:Int))) then (bif q83 ((h0_0.take (Int.toNat (fI (h2.getD t14.toNat .undef) 1))).drop (Int.toNat (fI (h2.getD t14.toNat .undef) 0))) then (bif q82 x3 x4 x5 x6 then (bif decide ((((x1++(ByteArray.mk #[46,46]))++x2)++(ByteArray.mk #[32])).size+x7.size≤4611686018427387904) then (bif q84 h0_0 h0_1 h0_2 (fI (h2.getD t14.toNat .undef) 0) (fI (h2.getD t14.toNat .undef) 1) then (bif (v84_0 h0_0 h0_1 h0_2 (fI (h2.getD t14.toNat .undef) 0) (fI (h2.getD t14.toNat .undef) 1)) then (bif decide (((((x1++(ByteArray.mk #[46,46]))++x2)++(ByteArray.mk #[32]))++x7).size+(ByteArray.mk #[32,115,111,114,116,101,100]).size≤4611686018427387904) then (bif (decide ((h1.length+([AV.str (((((x1++(ByteArray.mk #[46,46]))++x2)++(ByteArray.mk #[32]))++x7)++(ByteArray.mk #[32,115,111,114,116,101,100]))]).length)*16≤140737488355328) && decide ((h1.length+([AV.str (((((x1++(ByteArray.mk #[46,46]))++x2)++(ByteArray.mk #[32]))++x7)++(ByteArray.mk #[32,115,111,114,116,101,100]))]).length)≤140737488355328)) then N (IntKind.i64.wrap (t14+1),h1++([AV.str (((((x1++(ByteArray.mk #[46,46]))++x2)++(ByteArray.mk #[32]))++x7)++(ByteArray.mk #[32,115,111,114,116,101,100]))]))
 else d)
 else d)
 else (bif (decide ((h1.length+([AV.str ((((x1++(ByteArray.mk #[46,46]))++x2)++(ByteArray.mk #[32]))++x7)]).length)*16≤140737488355328) && decide ((h1.length+([AV.str ((((x1++(ByteArray.mk #[46,46]))++x2)++(ByteArray.mk #[32]))++x7)]).length)≤140737488355328)) then N (IntKind.i64.wrap (t14+1),h1++([AV.str ((((x1++(ByteArray.mk #[46,46]))++x2)++(ByteArray.mk #[32]))++x7)]))
 else d))
 else d)
 else d)
 else d)
 else d)
 else d)
 else d)
 else d)
 else d)
 else d)
 else d)
 else d)
 else K h1)
def F25_0 (t13:Int) (h0_0 h0_1 h0_2 h2:List AV) (t14:Int) (h1:List AV):Out ((Int × (List AV))) (((List AV))):=G25_0 t13 h0_0 h0_1 h0_2 h2 t14 h1 .next .stop .fail
def R25_0 (t13:Int) (h0_0 h0_1 h0_2 h2:List AV):((Int × (List AV)))→Out ((Int × (List AV))) (((List AV))):=fun s:Int × (List AV)=>F25_0 t13 h0_0 h0_1 h0_2 h2 s.1 s.2
def E25_0 (t13:Int) (h0_0 h0_1 h0_2 h2:List AV):((Int × (List AV)))→St:=fun s:Int × (List AV)=>⟨[(1,AV.ptr [0,1] 0 0),(3,AV.own [0,3]),(12,AV.own [0,12]),(13,Ai t13),(14,Ai s.1)],[([0,1],⟨true,[],[AV.agg [AV.sl [.int .i64] h0_0,AV.sl [.int .i64] h0_1,AV.sl [.int .i64,.int .i64] h0_2]]⟩),([0,3],⟨false,[.str],s.2⟩),([0,12],⟨false,[.int .i64,.int .i64],h2⟩)]⟩
def K25_0 (t13:Int) (h0_0 h0_1 h0_2 h2:List AV) (k:Kont):(((List AV)))→Option AV:=fun p:(List AV)=>k (.exit 0) ⟨[(3,AV.own [0,3])],[([0,1],⟨true,[],[AV.agg [AV.sl [.int .i64] h0_0,AV.sl [.int .i64] h0_1,AV.sl [.int .i64,.int .i64] h0_2]]⟩),([0,3],⟨false,[.str],p⟩),([0,12],⟨false,[.int .i64,.int .i64],h2⟩)]⟩
def l25_0:LModel:=fun _ _ st k=>match st with
 | ⟨[(1,.ptr g0 g1 g2),(3,.own g3),(12,.own g4),(13,.int .i64 t13),(14,.int .i64 t14)],[(g5,⟨true,[],[.agg [.sl g6 h0_0,.sl g7 h0_1,.sl g8 h0_2]]⟩),(g9,⟨false,g10,h1⟩),(g11,⟨false,g12,h2⟩)]⟩=>bif nmEq g0 ([0,1]) && Nat.beq g1 0 && Nat.beq g2 0 && nmEq g3 ([0,3]) && nmEq g4 ([0,12]) && nmEq g5 ([0,1]) && ctsEq g6 ([.int .i64]) && ctsEq g7 ([.int .i64]) && ctsEq g8 ([.int .i64,.int .i64]) && nmEq g9 ([0,3]) && ctsEq g10 ([.str]) && nmEq g11 ([0,12]) && ctsEq g12 ([.int .i64,.int .i64]) then ro (runW (R25_0 t13 h0_0 h0_1 h0_2 h2) ((t13 - t14:Int).toNat+1) (t14,h1)) none (K25_0 t13 h0_0 h0_1 h0_2 h2 k) else none
 | _=>none
noncomputable def c25:Cfg:=cfg Tryz.prog [(25,0,[1,3,12,13,14]),(25,999,[2]),(25,1000,[3]),(25,1001,[1,3,12,13,14])] [(39,m39),(79,m79),(81,m81),(82,m82),(83,m83),(84,m84)] [] [] [(25,0,l25_0)]
theorem s25_0 (t13:Int) (h0_0 h0_1 h0_2 h2:List AV) (ce:CallE) (k:Kont) (s:Int × (List AV)) (next:St→Option AV):stepA (codeA c25 ce [] 25 0 (sub [1,1,1,0,1,0,0] (body Tryz.f25))) (normA [] [1,3,12,13,14]) next ((E25_0 t13 h0_0 h0_1 h0_2 h2) s) k=G25_0 t13 h0_0 h0_1 h0_2 h2 s.1 s.2 (fun s=>next ((E25_0 t13 h0_0 h0_1 h0_2 h2) s)) (K25_0 t13 h0_0 h0_1 h0_2 h2 k) none:=by kernel_rfl
theorem st25_0 (t13:Int) (h0_0 h0_1 h0_2 h2:List AV) (ce:CallE) (k:Kont) (s:(Int × (List AV))) (next:St→Option AV):stepA (codeA c25 ce [] 25 0 (sub [1,1,1,0,1,0,0] (body Tryz.f25))) (normA [] [1,3,12,13,14]) next ((E25_0 t13 h0_0 h0_1 h0_2 h2) s) k=(R25_0 t13 h0_0 h0_1 h0_2 h2 s).el none (fun s=>next ((E25_0 t13 h0_0 h0_1 h0_2 h2) s)) (K25_0 t13 h0_0 h0_1 h0_2 h2 k):=(s25_0 t13 h0_0 h0_1 h0_2 h2 ce k s next).trans (by unfold R25_0;unfold F25_0 G25_0;simp only [el_cond,el_ro,el_sum,el_fail,el_next,el_stop] <;> rfl)
theorem ok25_0 {ce:CallE}:LoopOK c25 ce [] 25 0 (sub [1,1,1,0,1,0,0] (body Tryz.f25)):=by
 intro m hm st k r h
 obtain rfl:l25_0=m:=Option.some.inj hm
 unfold l25_0 at h
 split at h
 ·rename_i g0 g1 g2 g3 g4 t13 t14 g5 g6 h0_0 g7 h0_1 g8 h0_2 g9 g10 h1 g11 g12 h2
  obtain ⟨hg,h⟩:=bif_some h
  simp only [Bool.and_eq_true] at hg
  obtain ⟨⟨⟨⟨⟨⟨⟨⟨⟨⟨⟨⟨q0,q1⟩,q2⟩,q3⟩,q4⟩,q5⟩,q6⟩,q7⟩,q8⟩,q9⟩,q10⟩,q11⟩,q12⟩:=hg
  obtain rfl:=nE q0
  obtain rfl:=bE q1
  obtain rfl:=bE q2
  obtain rfl:=nE q3
  obtain rfl:=nE q4
  obtain rfl:=nE q5
  obtain rfl:=cE q6
  obtain rfl:=cE q7
  obtain rfl:=cE q8
  obtain rfl:=nE q9
  obtain rfl:=cE q10
  obtain rfl:=nE q11
  obtain rfl:=cE q12
  refine ⟨((t13 - t14:Int).toNat+1),?_⟩
  rw [← h]
  exact loop_run (E25_0 t13 h0_0 h0_1 h0_2 h2) (K25_0 t13 h0_0 h0_1 h0_2 h2 k) (st25_0 t13 h0_0 h0_1 h0_2 h2 ce k) _ (t14,h1)
 ·cases h
def q25 (xa xb xc:List AV):Bool:=(q39 xa xb xc && (bif !(v39_0 xa xb xc) then true else (q81 xa xb xc && (ro (runW (R25_0 ((v81_0 xa xb xc).length:Int) xa xb xc (v81_0 xa xb xc)) ((((v81_0 xa xb xc).length:Int) - 0:Int).toNat+1) (0,([]:List AV))) false (fun p49=>true)))))
def v25_0 (xa xb xc:List AV):List AV:=(bif !(v39_0 xa xb xc) then ([]:List AV) else (ro (runW (R25_0 ((v81_0 xa xb xc).length:Int) xa xb xc (v81_0 xa xb xc)) ((((v81_0 xa xb xc).length:Int) - 0:Int).toNat+1) (0,([]:List AV))) [] (fun p49=>p49)))
theorem e25 (xa xb xc:List AV):funA c25 0 25 [AV.agg [AV.sl [.int .i64] xa,AV.sl [.int .i64] xb,AV.sl [.int .i64,.int .i64] xc]]=(bif q39 xa xb xc then (bif !(v39_0 xa xb xc) then some (AV.fl [.str] ([]:List AV))
 else (bif q81 xa xb xc then (ro (runW (R25_0 ((v81_0 xa xb xc).length:Int) xa xb xc (v81_0 xa xb xc)) ((((v81_0 xa xb xc).length:Int) - 0:Int).toNat+1) (0,([]:List AV))) none (fun p49=>some (AV.fl [.str] p49)))
 else none))
 else none):=by kernel_rfl
def m25:TModel
 | [.agg [.sl g0 xa,.sl g1 xb,.sl g2 xc]]=>bif ctsEq g0 ([.int .i64]) && ctsEq g1 ([.int .i64]) && ctsEq g2 ([.int .i64,.int .i64]) then some (q25 xa xb xc,AV.fl [.str] (v25_0 xa xb xc)) else none
 | _=>none
theorem k25:Known Tryz.prog 25:=⟨Tryz.f25,Tryz.func25,by kernel_rfl,by kernel_rfl⟩
theorem meets25:Meets Tryz.prog 25 m25:=by
 refine mt (lvl:=0) (cf:=c25) rfl mixed k25 Tryz.func25 (by kernel_rfl) (loops_cons ok25_0 noLoop) (allT_cons meets39 (allT_cons meets79 (allT_cons meets81 (allT_cons meets82 (allT_cons meets83 (allT_cons meets84 allT_nil)))))) allM_nil noI fun xs r h=>?_
 unfold m25 at h
 split at h
 ·rename_i g0 xa g1 xb g2 xc
  obtain ⟨hg,h⟩:=bif_pair h
  simp only [Bool.and_eq_true] at hg
  obtain ⟨⟨q0,q1⟩,q2⟩:=hg
  obtain rfl:=cE q0
  obtain rfl:=cE q1
  obtain rfl:=cE q2
  obtain ⟨h1,rfl⟩:=pair_inj h
  exact (e25 xa xb xc).trans ((brL (br (fun b=>some (AV.fl [.str] (bif b then ([]:List AV) else (ro (runW (R25_0 ((v81_0 xa xb xc).length:Int) xa xb xc (v81_0 xa xb xc)) ((((v81_0 xa xb xc).length:Int) - 0:Int).toNat+1) (0,([]:List AV))) [] (fun p49=>p49))))) (fun _=>rfl) (brL (brO (fun o:Option (((List AV)))=>some (AV.fl [.str] (ro o [] (fun p49=>p49)))) (fun p49=>(fun _=>rfl)))))) h1)
 ·cases h
def G85_0 {β:Type} (h0_0:List AV) (h0_1:List AV) (h0_2:List AV) (t4:Int) (h1:List AV) (N:((Int × (List AV)))→β) (K:(((List AV)))→β) (d:β):β:=(bif decide (t4<(h0_2.length:Int)) then (bif (decide (0≤t4) && decide (t4<(h0_2.length:Int))) then (bif (decide ((h1.length+([AV.int .i64 (fI (h0_2.getD t4.toNat .undef) 1)]).length)*8≤140737488355328) && decide ((h1.length+([AV.int .i64 (fI (h0_2.getD t4.toNat .undef) 1)]).length)≤140737488355328)) then N (IntKind.i64.wrap (t4+1),h1++([AV.int .i64 (fI (h0_2.getD t4.toNat .undef) 1)]))
 else d)
 else d)
 else K h1)
def F85_0 (h0_0 h0_1 h0_2:List AV) (t4:Int) (h1:List AV):Out ((Int × (List AV))) (((List AV))):=G85_0 h0_0 h0_1 h0_2 t4 h1 .next .stop .fail
def R85_0 (h0_0 h0_1 h0_2:List AV):((Int × (List AV)))→Out ((Int × (List AV))) (((List AV))):=fun s:Int × (List AV)=>F85_0 h0_0 h0_1 h0_2 s.1 s.2
def E85_0 (h0_0 h0_1 h0_2:List AV):((Int × (List AV)))→St:=fun s:Int × (List AV)=>⟨[(1,AV.ptr [0,1] 0 0),(3,AV.own [0,3]),(4,Ai s.1)],[([0,1],⟨true,[],[AV.agg [AV.sl [.int .i64] h0_0,AV.sl [.int .i64] h0_1,AV.sl [.int .i64,.int .i64] h0_2]]⟩),([0,3],⟨false,[.int .i64],s.2⟩)]⟩
def K85_0 (h0_0 h0_1 h0_2:List AV) (k:Kont):(((List AV)))→Option AV:=fun p:(List AV)=>k (.exit 0) ⟨[(1,AV.ptr [0,1] 0 0),(3,AV.own [0,3])],[([0,1],⟨true,[],[AV.agg [AV.sl [.int .i64] h0_0,AV.sl [.int .i64] h0_1,AV.sl [.int .i64,.int .i64] h0_2]]⟩),([0,3],⟨false,[.int .i64],p⟩)]⟩
def l85_0:LModel:=fun _ _ st k=>match st with
 | ⟨[(1,.ptr g0 g1 g2),(3,.own g3),(4,.int .i64 t4)],[(g4,⟨true,[],[.agg [.sl g5 h0_0,.sl g6 h0_1,.sl g7 h0_2]]⟩),(g8,⟨false,g9,h1⟩)]⟩=>bif nmEq g0 ([0,1]) && Nat.beq g1 0 && Nat.beq g2 0 && nmEq g3 ([0,3]) && nmEq g4 ([0,1]) && ctsEq g5 ([.int .i64]) && ctsEq g6 ([.int .i64]) && ctsEq g7 ([.int .i64,.int .i64]) && nmEq g8 ([0,3]) && ctsEq g9 ([.int .i64]) then ro (runW (R85_0 h0_0 h0_1 h0_2) (((h0_2.length:Int) - t4:Int).toNat+1) (t4,h1)) none (K85_0 h0_0 h0_1 h0_2 k) else none
 | _=>none
noncomputable def c85:Cfg:=cfg Tryz.prog [(85,0,[1,3,4]),(85,999,[2]),(85,1000,[1,3]),(85,1001,[1,3,4])] [] [] [] [(85,0,l85_0)]
theorem s85_0 (h0_0 h0_1 h0_2:List AV) (ce:CallE) (k:Kont) (s:Int × (List AV)) (next:St→Option AV):stepA (codeA c85 ce [] 85 0 (sub [1,1,0,1,0,0] (body Tryz.f85))) (normA [] [1,3,4]) next ((E85_0 h0_0 h0_1 h0_2) s) k=G85_0 h0_0 h0_1 h0_2 s.1 s.2 (fun s=>next ((E85_0 h0_0 h0_1 h0_2) s)) (K85_0 h0_0 h0_1 h0_2 k) none:=by kernel_rfl
theorem st85_0 (h0_0 h0_1 h0_2:List AV) (ce:CallE) (k:Kont) (s:(Int × (List AV))) (next:St→Option AV):stepA (codeA c85 ce [] 85 0 (sub [1,1,0,1,0,0] (body Tryz.f85))) (normA [] [1,3,4]) next ((E85_0 h0_0 h0_1 h0_2) s) k=(R85_0 h0_0 h0_1 h0_2 s).el none (fun s=>next ((E85_0 h0_0 h0_1 h0_2) s)) (K85_0 h0_0 h0_1 h0_2 k):=(s85_0 h0_0 h0_1 h0_2 ce k s next).trans (by unfold R85_0;unfold F85_0 G85_0;simp only [el_cond,el_ro,el_sum,el_fail,el_next,el_stop] <;> rfl)
theorem ok85_0 {ce:CallE}:LoopOK c85 ce [] 85 0 (sub [1,1,0,1,0,0] (body Tryz.f85)):=by
 intro m hm st k r h
 obtain rfl:l85_0=m:=Option.some.inj hm
 unfold l85_0 at h
 split at h
 ·rename_i g0 g1 g2 g3 t4 g4 g5 h0_0 g6 h0_1 g7 h0_2 g8 g9 h1
  obtain ⟨hg,h⟩:=bif_some h
  simp only [Bool.and_eq_true] at hg
  obtain ⟨⟨⟨⟨⟨⟨⟨⟨⟨q0,q1⟩,q2⟩,q3⟩,q4⟩,q5⟩,q6⟩,q7⟩,q8⟩,q9⟩:=hg
  obtain rfl:=nE q0
  obtain rfl:=bE q1
  obtain rfl:=bE q2
  obtain rfl:=nE q3
  obtain rfl:=nE q4
  obtain rfl:=cE q5
  obtain rfl:=cE q6
  obtain rfl:=cE q7
  obtain rfl:=nE q8
  obtain rfl:=cE q9
  refine ⟨(((h0_2.length:Int) - t4:Int).toNat+1),?_⟩
  rw [← h]
  exact loop_run (E85_0 h0_0 h0_1 h0_2) (K85_0 h0_0 h0_1 h0_2 k) (st85_0 h0_0 h0_1 h0_2 ce k) _ (t4,h1)
 ·cases h
def q85 (xa xb xc:List AV):Bool:=(ro (runW (R85_0 xa xb xc) (((xc.length:Int) - 0:Int).toNat+1) (0,([]:List AV))) false (fun p50=>(decide ((p50.length+([AV.int .i64 (xa.length:Int)]).length)*8≤140737488355328) && decide ((p50.length+([AV.int .i64 (xa.length:Int)]).length)≤140737488355328))))
def v85_0 (xa xb xc:List AV):List AV:=(ro (runW (R85_0 xa xb xc) (((xc.length:Int) - 0:Int).toNat+1) (0,([]:List AV))) [] (fun p50=>p50++([AV.int .i64 (xa.length:Int)])))
theorem e85 (xa xb xc:List AV):funA c85 0 85 [AV.agg [AV.sl [.int .i64] xa,AV.sl [.int .i64] xb,AV.sl [.int .i64,.int .i64] xc]]=(ro (runW (R85_0 xa xb xc) (((xc.length:Int) - 0:Int).toNat+1) (0,([]:List AV))) none (fun p50=>(bif (decide ((p50.length+([Ai (xa.length:Int)]).length)*8≤140737488355328) && decide ((p50.length+([Ai (xa.length:Int)]).length)≤140737488355328)) then some (AV.fl [.int .i64] (p50++([Ai (xa.length:Int)])))
 else none))):=by kernel_rfl
def m85:TModel
 | [.agg [.sl g0 xa,.sl g1 xb,.sl g2 xc]]=>bif ctsEq g0 ([.int .i64]) && ctsEq g1 ([.int .i64]) && ctsEq g2 ([.int .i64,.int .i64]) then some (q85 xa xb xc,AV.fl [.int .i64] (v85_0 xa xb xc)) else none
 | _=>none
theorem k85:Known Tryz.prog 85:=⟨Tryz.f85,Tryz.func85,by kernel_rfl,by kernel_rfl⟩
theorem meets85:Meets Tryz.prog 85 m85:=by
 refine mt (lvl:=0) (cf:=c85) rfl mixed k85 Tryz.func85 (by kernel_rfl) (loops_cons ok85_0 noLoop) allT_nil allM_nil noI fun xs r h=>?_
 unfold m85 at h
 split at h
 ·rename_i g0 xa g1 xb g2 xc
  obtain ⟨hg,h⟩:=bif_pair h
  simp only [Bool.and_eq_true] at hg
  obtain ⟨⟨q0,q1⟩,q2⟩:=hg
  obtain rfl:=cE q0
  obtain rfl:=cE q1
  obtain rfl:=cE q2
  obtain ⟨h1,rfl⟩:=pair_inj h
  exact (e85 xa xb xc).trans ((brO (fun o:Option (((List AV)))=>some (AV.fl [.int .i64] (ro o [] (fun p50=>p50++([Ai (xa.length:Int)]))))) (fun p50=>(brL1 (fun _=>rfl)))) h1)
 ·cases h
def G86_0 {β:Type} (t4:Bool) (t0:Int) (t3:ByteArray) (N:((Int × ByteArray))→β) (K:(ByteArray)→β) (d:β):β:=(bif !decide (t0=0) then (bif !decide (10=0) then (bif decide (Int.tmod t0 10<0) then (bif decide ((bytesA ([AV.int .u8 (IntKind.u8.wrap (IntKind.i64.wrap (48+IntKind.i64.wrap (0 - (Int.tmod t0 10)))))])).size+t3.size≤4611686018427387904) then (bif !decide (10=0) then N (IntKind.i64.wrap (Int.tdiv t0 10),(bytesA ([AV.int .u8 (IntKind.u8.wrap (IntKind.i64.wrap (48+IntKind.i64.wrap (0 - (Int.tmod t0 10)))))]))++t3)
 else d)
 else d)
 else (bif decide ((bytesA ([AV.int .u8 (IntKind.u8.wrap (IntKind.i64.wrap (48+Int.tmod t0 10)))])).size+t3.size≤4611686018427387904) then (bif !decide (10=0) then N (IntKind.i64.wrap (Int.tdiv t0 10),(bytesA ([AV.int .u8 (IntKind.u8.wrap (IntKind.i64.wrap (48+Int.tmod t0 10)))]))++t3)
 else d)
 else d))
 else d)
 else K t3)
def F86_0 (t4:Bool) (t0:Int) (t3:ByteArray):Out ((Int × ByteArray)) (ByteArray):=G86_0 t4 t0 t3 .next .stop .fail
def R86_0 (t4:Bool):((Int × ByteArray))→Out ((Int × ByteArray)) (ByteArray):=fun s:Int × ByteArray=>F86_0 t4 s.1 s.2
def E86_0 (t4:Bool):((Int × ByteArray))→St:=fun s:Int × ByteArray=>⟨[(0,Ai s.1),(3,AV.str s.2),(4,AV.bool t4)],[]⟩
def K86_0 (t4:Bool) (k:Kont):(ByteArray)→Option AV:=fun p:ByteArray=>k (.exit 0) ⟨[(3,AV.str p),(4,AV.bool t4)],[]⟩
def l86_0:LModel:=fun _ _ st k=>match st with
 | ⟨[(0,.int .i64 t0),(3,.str t3),(4,.bool t4)],[]⟩=>ro (runW (R86_0 t4) (t0.natAbs+1) (t0,t3)) none (K86_0 t4 k)
 | _=>none
noncomputable def c86:Cfg:=cfg Tryz.prog [(86,0,[0,3,4]),(86,999,[2]),(86,1000,[3,4]),(86,1001,[0,3,4])] [] [] [] [(86,0,l86_0)]
theorem s86_0 (t4:Bool) (ce:CallE) (k:Kont) (s:Int × ByteArray) (next:St→Option AV):stepA (codeA c86 ce [] 86 0 (sub [1,1,1,1,0,0,0] (body Tryz.f86))) (normA [] [0,3,4]) next ((E86_0 t4) s) k=G86_0 t4 s.1 s.2 (fun s=>next ((E86_0 t4) s)) (K86_0 t4 k) none:=by kernel_rfl
theorem st86_0 (t4:Bool) (ce:CallE) (k:Kont) (s:(Int × ByteArray)) (next:St→Option AV):stepA (codeA c86 ce [] 86 0 (sub [1,1,1,1,0,0,0] (body Tryz.f86))) (normA [] [0,3,4]) next ((E86_0 t4) s) k=(R86_0 t4 s).el none (fun s=>next ((E86_0 t4) s)) (K86_0 t4 k):=(s86_0 t4 ce k s next).trans (by unfold R86_0;unfold F86_0 G86_0;simp only [el_cond,el_ro,el_sum,el_fail,el_next,el_stop] <;> rfl)
theorem ok86_0 {ce:CallE}:LoopOK c86 ce [] 86 0 (sub [1,1,1,1,0,0,0] (body Tryz.f86)):=by
 intro m hm st k r h
 obtain rfl:l86_0=m:=Option.some.inj hm
 unfold l86_0 at h
 split at h
 ·rename_i t0 t3 t4
  refine ⟨(t0.natAbs+1),?_⟩
  rw [← h]
  exact loop_run (E86_0 t4) (K86_0 t4 k) (st86_0 t4 ce k) _ (t0,t3)
 ·cases h
def q86 (a0:Int):Bool:=(bif decide (a0=0) then true else (ro (runW (R86_0 (decide (a0<0))) (a0.natAbs+1) (a0,ByteArray.empty)) false (fun p51=>(bif decide (a0<0) then decide ((ByteArray.mk #[45]).size+p51.size≤4611686018427387904) else true))))
def v86_0 (a0:Int):ByteArray:=(bif decide (a0=0) then (ByteArray.mk #[48]) else (ro (runW (R86_0 (decide (a0<0))) (a0.natAbs+1) (a0,ByteArray.empty)) ByteArray.empty (fun p51=>(bif decide (a0<0) then (ByteArray.mk #[45])++p51 else p51))))
theorem e86 (a0:Int):funA c86 0 86 [Ai a0]=(bif decide (a0=0) then some (AV.str (ByteArray.mk #[48]))
 else (ro (runW (R86_0 (decide (a0<0))) (a0.natAbs+1) (a0,ByteArray.empty)) none (fun p51=>(bif decide (a0<0) then (bif decide ((ByteArray.mk #[45]).size+p51.size≤4611686018427387904) then some (AV.str ((ByteArray.mk #[45])++p51))
 else none)
 else some (AV.str p51))))):=by kernel_rfl
def m86:TModel
 | [.int .i64 a0]=>some (q86 a0,AV.str (v86_0 a0))
 | _=>none
theorem k86:Known Tryz.prog 86:=⟨Tryz.f86,Tryz.func86,by kernel_rfl,by kernel_rfl⟩
theorem meets86:Meets Tryz.prog 86 m86:=by
 refine mt (lvl:=0) (cf:=c86) rfl mixed k86 Tryz.func86 (by kernel_rfl) (loops_cons ok86_0 noLoop) allT_nil allM_nil noI fun xs r h=>?_
 unfold m86 at h
 split at h
 ·rename_i a0
  obtain ⟨h1,rfl⟩:=pair_inj h
  exact (e86 a0).trans ((br (fun b=>some (AV.str (bif b then (ByteArray.mk #[48]) else (ro (runW (R86_0 (decide (a0<0))) (a0.natAbs+1) (a0,ByteArray.empty)) ByteArray.empty (fun p51=>(bif decide (a0<0) then (ByteArray.mk #[45])++p51 else p51)))))) (fun _=>rfl) (brO (fun o:Option (ByteArray)=>some (AV.str (ro o ByteArray.empty (fun p51=>(bif decide (a0<0) then (ByteArray.mk #[45])++p51 else p51))))) (fun p51=>(br (fun b=>some (AV.str (bif b then (ByteArray.mk #[45])++p51 else p51))) (brL1 (fun _=>rfl)) (fun _=>rfl))))) h1)
 ·cases h
def G88_0 {β:Type} (t0:List AV) (h0_0:Int) (h0_1:Int) (h0_2:Int) (h0_3:Int) (t4:Int) (h1_0:Int) (h1_1:Int) (h1_2:Int) (h1_3:Int) (N:((Int × Int × Int × Int × Int))→β) (K:((Int × Int × Int × Int))→β) (d:β):β:=(bif decide (t4<(t0.length:Int)) then (bif (decide (0≤t4) && decide (t4<(t0.length:Int))) then (bif decide (h1_0=0) then N (IntKind.i64.wrap (t4+1),IntKind.i64.wrap (h1_0+1),IntKind.i64.wrap (h1_1+fI (t0.getD t4.toNat .undef) 0),(if fI (t0.getD t4.toNat .undef) 0<fI (t0.getD t4.toNat .undef) 0 then fI (t0.getD t4.toNat .undef) 0 else fI (t0.getD t4.toNat .undef) 0),(if fI (t0.getD t4.toNat .undef) 0 > fI (t0.getD t4.toNat .undef) 0 then fI (t0.getD t4.toNat .undef) 0 else fI (t0.getD t4.toNat .undef) 0))
 else N (IntKind.i64.wrap (t4+1),IntKind.i64.wrap (h1_0+1),IntKind.i64.wrap (h1_1+fI (t0.getD t4.toNat .undef) 0),(if fI (t0.getD t4.toNat .undef) 0<h1_2 then fI (t0.getD t4.toNat .undef) 0 else h1_2),(if fI (t0.getD t4.toNat .undef) 0 > h1_3 then fI (t0.getD t4.toNat .undef) 0 else h1_3)))
 else d)
 else K (h1_0,h1_1,h1_2,h1_3))
def F88_0 (t0:List AV) (h0_0 h0_1 h0_2 h0_3 t4 h1_0 h1_1 h1_2 h1_3:Int):Out ((Int × Int × Int × Int × Int)) ((Int × Int × Int × Int)):=G88_0 t0 h0_0 h0_1 h0_2 h0_3 t4 h1_0 h1_1 h1_2 h1_3 .next .stop .fail
def R88_0 (t0:List AV) (h0_0 h0_1 h0_2 h0_3:Int):((Int × Int × Int × Int × Int))→Out ((Int × Int × Int × Int × Int)) ((Int × Int × Int × Int)):=fun s:Int × Int × Int × Int × Int=>F88_0 t0 h0_0 h0_1 h0_2 h0_3 s.1 s.2.1 s.2.2.1 s.2.2.2.1 s.2.2.2.2
def E88_0 (t0:List AV) (h0_0 h0_1 h0_2 h0_3:Int):((Int × Int × Int × Int × Int))→St:=fun s:Int × Int × Int × Int × Int=>⟨[(0,AV.sl [.int .i64] t0),(2,AV.ptr [0,2] 0 0),(3,AV.ptr [0,3] 0 0),(4,Ai s.1)],[([0,2],⟨true,[],[AV.agg [Ai h0_0,Ai h0_1,Ai h0_2,Ai h0_3]]⟩),([0,3],⟨true,[],[AV.agg [Ai s.2.1,Ai s.2.2.1,Ai s.2.2.2.1,Ai s.2.2.2.2]]⟩)]⟩
def K88_0 (t0:List AV) (h0_0 h0_1 h0_2 h0_3:Int) (k:Kont):((Int × Int × Int × Int))→Option AV:=fun p:Int × Int × Int × Int=>k (.exit 0) ⟨[(2,AV.ptr [0,2] 0 0),(3,AV.ptr [0,3] 0 0)],[([0,2],⟨true,[],[AV.agg [Ai h0_0,Ai h0_1,Ai h0_2,Ai h0_3]]⟩),([0,3],⟨true,[],[AV.agg [Ai p.1,Ai p.2.1,Ai p.2.2.1,Ai p.2.2.2]]⟩)]⟩
def l88_0:LModel:=fun _ _ st k=>match st with
 | ⟨[(0,.sl g0 t0),(2,.ptr g1 g2 g3),(3,.ptr g4 g5 g6),(4,.int .i64 t4)],[(g7,⟨true,[],[.agg [.int .i64 h0_0,.int .i64 h0_1,.int .i64 h0_2,.int .i64 h0_3]]⟩),(g8,⟨true,[],[.agg [.int .i64 h1_0,.int .i64 h1_1,.int .i64 h1_2,.int .i64 h1_3]]⟩)]⟩=>bif ctsEq g0 ([.int .i64]) && nmEq g1 ([0,2]) && Nat.beq g2 0 && Nat.beq g3 0 && nmEq g4 ([0,3]) && Nat.beq g5 0 && Nat.beq g6 0 && nmEq g7 ([0,2]) && nmEq g8 ([0,3]) then ro (runW (R88_0 t0 h0_0 h0_1 h0_2 h0_3) (((t0.length:Int) - t4:Int).toNat+1) (t4,h1_0,h1_1,h1_2,h1_3)) none (K88_0 t0 h0_0 h0_1 h0_2 h0_3 k) else none
 | _=>none
noncomputable def c88:Cfg:=cfg Tryz.prog [(88,0,[0,2,3,4]),(88,999,[2]),(88,1000,[2,3]),(88,1001,[0,2,3,4])] [(100,m100)] [] [] [(88,0,l88_0)]
theorem s88_0 (t0:List AV) (h0_0 h0_1 h0_2 h0_3:Int) (ce:CallE) (k:Kont) (s:Int × Int × Int × Int × Int) (next:St→Option AV):stepA (codeA c88 ce [] 88 0 (sub [1,1,1,0,1,0,0] (body Tryz.f88))) (normA [] [0,2,3,4]) next ((E88_0 t0 h0_0 h0_1 h0_2 h0_3) s) k=G88_0 t0 h0_0 h0_1 h0_2 h0_3 s.1 s.2.1 s.2.2.1 s.2.2.2.1 s.2.2.2.2 (fun s=>next ((E88_0 t0 h0_0 h0_1 h0_2 h0_3) s)) (K88_0 t0 h0_0 h0_1 h0_2 h0_3 k) none:=by kernel_rfl
theorem st88_0 (t0:List AV) (h0_0 h0_1 h0_2 h0_3:Int) (ce:CallE) (k:Kont) (s:(Int × Int × Int × Int × Int)) (next:St→Option AV):stepA (codeA c88 ce [] 88 0 (sub [1,1,1,0,1,0,0] (body Tryz.f88))) (normA [] [0,2,3,4]) next ((E88_0 t0 h0_0 h0_1 h0_2 h0_3) s) k=(R88_0 t0 h0_0 h0_1 h0_2 h0_3 s).el none (fun s=>next ((E88_0 t0 h0_0 h0_1 h0_2 h0_3) s)) (K88_0 t0 h0_0 h0_1 h0_2 h0_3 k):=(s88_0 t0 h0_0 h0_1 h0_2 h0_3 ce k s next).trans (by unfold R88_0;unfold F88_0 G88_0;simp only [el_cond,el_ro,el_sum,el_fail,el_next,el_stop] <;> rfl)
theorem ok88_0 {ce:CallE}:LoopOK c88 ce [] 88 0 (sub [1,1,1,0,1,0,0] (body Tryz.f88)):=by
 intro m hm st k r h
 obtain rfl:l88_0=m:=Option.some.inj hm
 unfold l88_0 at h
 split at h
 ·rename_i g0 t0 g1 g2 g3 g4 g5 g6 t4 g7 h0_0 h0_1 h0_2 h0_3 g8 h1_0 h1_1 h1_2 h1_3
  obtain ⟨hg,h⟩:=bif_some h
  simp only [Bool.and_eq_true] at hg
  obtain ⟨⟨⟨⟨⟨⟨⟨⟨q0,q1⟩,q2⟩,q3⟩,q4⟩,q5⟩,q6⟩,q7⟩,q8⟩:=hg
  obtain rfl:=cE q0
  obtain rfl:=nE q1
  obtain rfl:=bE q2
  obtain rfl:=bE q3
  obtain rfl:=nE q4
  obtain rfl:=bE q5
  obtain rfl:=bE q6
  obtain rfl:=nE q7
  obtain rfl:=nE q8
  refine ⟨(((t0.length:Int) - t4:Int).toNat+1),?_⟩
  rw [← h]
  exact loop_run (E88_0 t0 h0_0 h0_1 h0_2 h0_3) (K88_0 t0 h0_0 h0_1 h0_2 h0_3 k) (st88_0 t0 h0_0 h0_1 h0_2 h0_3 ce k) _ (t4,h1_0,h1_1,h1_2,h1_3)
 ·cases h
def q88 (a0:List AV):Bool:=(q100 a0 && (bif !(v100_0 a0) then true else (ro (runW (R88_0 a0 0 0 0 0) (((a0.length:Int) - 0:Int).toNat+1) (0,0,0,0,0)) false (fun p52=>true))))
def v88_0 (a0:List AV):Int:=(bif !(v100_0 a0) then 0 else (ro (runW (R88_0 a0 0 0 0 0) (((a0.length:Int) - 0:Int).toNat+1) (0,0,0,0,0)) 0 (fun p52=>p52.1)))
def v88_1 (a0:List AV):Int:=(bif !(v100_0 a0) then 0 else (ro (runW (R88_0 a0 0 0 0 0) (((a0.length:Int) - 0:Int).toNat+1) (0,0,0,0,0)) 0 (fun p52=>p52.2.1)))
def v88_2 (a0:List AV):Int:=(bif !(v100_0 a0) then 0 else (ro (runW (R88_0 a0 0 0 0 0) (((a0.length:Int) - 0:Int).toNat+1) (0,0,0,0,0)) 0 (fun p52=>p52.2.2.1)))
def v88_3 (a0:List AV):Int:=(bif !(v100_0 a0) then 0 else (ro (runW (R88_0 a0 0 0 0 0) (((a0.length:Int) - 0:Int).toNat+1) (0,0,0,0,0)) 0 (fun p52=>p52.2.2.2)))
theorem e88 (a0:List AV):funA c88 0 88 [AV.sl [.int .i64] a0]=(bif q100 a0 then (bif !(v100_0 a0) then some (AV.agg [Ai 0,Ai 0,Ai 0,Ai 0])
 else (ro (runW (R88_0 a0 0 0 0 0) (((a0.length:Int) - 0:Int).toNat+1) (0,0,0,0,0)) none (fun p52=>some (AV.agg [Ai p52.1,Ai p52.2.1,Ai p52.2.2.1,Ai p52.2.2.2]))))
 else none):=by kernel_rfl
def m88:TModel
 | [.sl g0 a0]=>bif ctsEq g0 ([.int .i64]) then some (q88 a0,AV.agg [AV.int .i64 (v88_0 a0),AV.int .i64 (v88_1 a0),AV.int .i64 (v88_2 a0),AV.int .i64 (v88_3 a0)]) else none
 | _=>none
theorem k88:Known Tryz.prog 88:=⟨Tryz.f88,Tryz.func88,by kernel_rfl,by kernel_rfl⟩
theorem meets88:Meets Tryz.prog 88 m88:=by
 refine mt (lvl:=0) (cf:=c88) rfl mixed k88 Tryz.func88 (by kernel_rfl) (loops_cons ok88_0 noLoop) (allT_cons meets100 allT_nil) allM_nil noI fun xs r h=>?_
 unfold m88 at h
 split at h
 ·rename_i g0 a0
  obtain ⟨hg,h⟩:=bif_pair h
  have q0:=hg
  obtain rfl:=cE q0
  obtain ⟨h1,rfl⟩:=pair_inj h
  exact (e88 a0).trans ((brL (br (fun b=>some (AV.agg [Ai (bif b then 0 else (ro (runW (R88_0 a0 0 0 0 0) (((a0.length:Int) - 0:Int).toNat+1) (0,0,0,0,0)) 0 (fun p52=>p52.1))),Ai (bif b then 0 else (ro (runW (R88_0 a0 0 0 0 0) (((a0.length:Int) - 0:Int).toNat+1) (0,0,0,0,0)) 0 (fun p52=>p52.2.1))),Ai (bif b then 0 else (ro (runW (R88_0 a0 0 0 0 0) (((a0.length:Int) - 0:Int).toNat+1) (0,0,0,0,0)) 0 (fun p52=>p52.2.2.1))),Ai (bif b then 0 else (ro (runW (R88_0 a0 0 0 0 0) (((a0.length:Int) - 0:Int).toNat+1) (0,0,0,0,0)) 0 (fun p52=>p52.2.2.2)))])) (fun _=>rfl) (brO (fun o:Option ((Int × Int × Int × Int))=>some (AV.agg [Ai (ro o 0 (fun p52=>p52.1)),Ai (ro o 0 (fun p52=>p52.2.1)),Ai (ro o 0 (fun p52=>p52.2.2.1)),Ai (ro o 0 (fun p52=>p52.2.2.2))])) (fun p52=>(fun _=>rfl))))) h1)
 ·cases h
noncomputable def c87:Cfg:=cfg Tryz.prog [(87,999,[2])] [(86,m86)] [] [] []
def q87 (xa xb xc xd:Int):Bool:=(bif decide (xa≤0) then true else (q86 xa && (decide ((v86_0 xa).size+(ByteArray.mk #[32,115,117,109,32]).size≤4611686018427387904) && (q86 xb && (decide (((v86_0 xa)++(ByteArray.mk #[32,115,117,109,32])).size+(v86_0 xb).size≤4611686018427387904) && (decide ((((v86_0 xa)++(ByteArray.mk #[32,115,117,109,32]))++(v86_0 xb)).size+(ByteArray.mk #[32,102,114,111,109,32]).size≤4611686018427387904) && (q86 xc && (decide (((((v86_0 xa)++(ByteArray.mk #[32,115,117,109,32]))++(v86_0 xb))++(ByteArray.mk #[32,102,114,111,109,32])).size+(v86_0 xc).size≤4611686018427387904) && (decide ((((((v86_0 xa)++(ByteArray.mk #[32,115,117,109,32]))++(v86_0 xb))++(ByteArray.mk #[32,102,114,111,109,32]))++(v86_0 xc)).size+(ByteArray.mk #[32,116,111,32]).size≤4611686018427387904) && (q86 xd && decide (((((((v86_0 xa)++(ByteArray.mk #[32,115,117,109,32]))++(v86_0 xb))++(ByteArray.mk #[32,102,114,111,109,32]))++(v86_0 xc))++(ByteArray.mk #[32,116,111,32])).size+(v86_0 xd).size≤4611686018427387904)))))))))))
def v87_0 (xa xb xc xd:Int):ByteArray:=(bif decide (xa≤0) then (ByteArray.mk #[110,111,110,101]) else ((((((v86_0 xa)++(ByteArray.mk #[32,115,117,109,32]))++(v86_0 xb))++(ByteArray.mk #[32,102,114,111,109,32]))++(v86_0 xc))++(ByteArray.mk #[32,116,111,32]))++(v86_0 xd))
theorem e87 (xa xb xc xd:Int):funA c87 0 87 [AV.agg [Ai xa,Ai xb,Ai xc,Ai xd]]=(bif decide (xa≤0) then some (AV.str (ByteArray.mk #[110,111,110,101]))
 else (bif q86 xa then (bif decide ((v86_0 xa).size+(ByteArray.mk #[32,115,117,109,32]).size≤4611686018427387904) then (bif q86 xb then (bif decide (((v86_0 xa)++(ByteArray.mk #[32,115,117,109,32])).size+(v86_0 xb).size≤4611686018427387904) then (bif decide ((((v86_0 xa)++(ByteArray.mk #[32,115,117,109,32]))++(v86_0 xb)).size+(ByteArray.mk #[32,102,114,111,109,32]).size≤4611686018427387904) then (bif q86 xc then (bif decide (((((v86_0 xa)++(ByteArray.mk #[32,115,117,109,32]))++(v86_0 xb))++(ByteArray.mk #[32,102,114,111,109,32])).size+(v86_0 xc).size≤4611686018427387904) then (bif decide ((((((v86_0 xa)++(ByteArray.mk #[32,115,117,109,32]))++(v86_0 xb))++(ByteArray.mk #[32,102,114,111,109,32]))++(v86_0 xc)).size+(ByteArray.mk #[32,116,111,32]).size≤4611686018427387904) then (bif q86 xd then (bif decide (((((((v86_0 xa)++(ByteArray.mk #[32,115,117,109,32]))++(v86_0 xb))++(ByteArray.mk #[32,102,114,111,109,32]))++(v86_0 xc))++(ByteArray.mk #[32,116,111,32])).size+(v86_0 xd).size≤4611686018427387904) then some (AV.str (((((((v86_0 xa)++(ByteArray.mk #[32,115,117,109,32]))++(v86_0 xb))++(ByteArray.mk #[32,102,114,111,109,32]))++(v86_0 xc))++(ByteArray.mk #[32,116,111,32]))++(v86_0 xd)))
 else none)
 else none)
 else none)
 else none)
 else none)
 else none)
 else none)
 else none)
 else none)
 else none)):=by kernel_rfl
def m87:TModel
 | [.agg [.int .i64 xa,.int .i64 xb,.int .i64 xc,.int .i64 xd]]=>some (q87 xa xb xc xd,AV.str (v87_0 xa xb xc xd))
 | _=>none
theorem k87:Known Tryz.prog 87:=⟨Tryz.f87,Tryz.func87,by kernel_rfl,by kernel_rfl⟩
theorem meets87:Meets Tryz.prog 87 m87:=by
 refine mt (lvl:=0) (cf:=c87) rfl mixed k87 Tryz.func87 (by kernel_rfl) noLoop (allT_cons meets86 allT_nil) allM_nil noI fun xs r h=>?_
 unfold m87 at h
 split at h
 ·rename_i xa xb xc xd
  obtain ⟨h1,rfl⟩:=pair_inj h
  exact (e87 xa xb xc xd).trans ((br (fun b=>some (AV.str (bif b then (ByteArray.mk #[110,111,110,101]) else ((((((v86_0 xa)++(ByteArray.mk #[32,115,117,109,32]))++(v86_0 xb))++(ByteArray.mk #[32,102,114,111,109,32]))++(v86_0 xc))++(ByteArray.mk #[32,116,111,32]))++(v86_0 xd)))) (fun _=>rfl) (brL (brL (brL (brL (brL (brL (brL (brL (brL (brL1 (fun _=>rfl)))))))))))) h1)
 ·cases h
def G89_0 {β:Type} (t2:Int) (h0_0:List AV) (h0_1:List AV) (h0_2:List AV) (t7:Int) (N:(Int)→β) (K:(Unit ⊕ Unit)→β) (d:β):β:=(bif decide (t7<t2) then (bif (decide (0≤IntKind.i64.wrap (t7 - 1)) && decide (IntKind.i64.wrap (t7 - 1)<(h0_0.length:Int))) then (bif (decide (0≤t7) && decide (t7<(h0_0.length:Int))) then (bif decide (fI (h0_0.getD (IntKind.i64.wrap (t7 - 1)).toNat .undef) 0 > fI (h0_0.getD t7.toNat .undef) 0) then K (.inr ())
 else (bif (decide (0≤IntKind.i64.wrap (t7 - 1)) && decide (IntKind.i64.wrap (t7 - 1)<(h0_0.length:Int))) then (bif (decide (0≤t7) && decide (t7<(h0_0.length:Int))) then (bif decide (fI (h0_0.getD (IntKind.i64.wrap (t7 - 1)).toNat .undef) 0=fI (h0_0.getD t7.toNat .undef) 0) then (bif (decide (0≤IntKind.i64.wrap (t7 - 1)) && decide (IntKind.i64.wrap (t7 - 1)<(h0_1.length:Int))) then (bif (decide (0≤t7) && decide (t7<(h0_1.length:Int))) then (bif decide (fI (h0_1.getD (IntKind.i64.wrap (t7 - 1)).toNat .undef) 0 > fI (h0_1.getD t7.toNat .undef) 0) then K (.inr ())
 else N (IntKind.i64.wrap (t7+1)))
 else d)
 else d)
 else N (IntKind.i64.wrap (t7+1)))
 else d)
 else d))
 else d)
 else d)
 else K (.inl ()))
def F89_0 (t2:Int) (h0_0 h0_1 h0_2:List AV) (t7:Int):Out (Int) (Unit ⊕ Unit):=G89_0 t2 h0_0 h0_1 h0_2 t7 .next .stop .fail
def R89_0 (t2:Int) (h0_0 h0_1 h0_2:List AV):(Int)→Out (Int) (Unit ⊕ Unit):=fun s:Int=>F89_0 t2 h0_0 h0_1 h0_2 s
def E89_0 (t2:Int) (h0_0 h0_1 h0_2:List AV):(Int)→St:=fun s:Int=>⟨[(2,Ai t2),(3,AV.ptr [0,3] 0 0),(7,Ai s)],[([0,3],⟨true,[],[AV.agg [AV.sl [.int .i64] h0_0,AV.sl [.int .i64] h0_1,AV.sl [.int .i64,.int .i64] h0_2]]⟩)]⟩
def K89_0 (t2:Int) (h0_0 h0_1 h0_2:List AV) (k:Kont):(Unit ⊕ Unit)→Option AV:=sumE (fun _:Unit=>k (.exit 0) ⟨[],[([0,3],⟨true,[],[AV.agg [AV.sl [.int .i64] h0_0,AV.sl [.int .i64] h0_1,AV.sl [.int .i64,.int .i64] h0_2]]⟩)]⟩) (fun _:Unit=>k .ret ⟨[(6,AV.bool false)],[([0,3],⟨true,[],[AV.agg [AV.sl [.int .i64] h0_0,AV.sl [.int .i64] h0_1,AV.sl [.int .i64,.int .i64] h0_2]]⟩)]⟩)
def l89_0:LModel:=fun _ _ st k=>match st with
 | ⟨[(2,.int .i64 t2),(3,.ptr g0 g1 g2),(7,.int .i64 t7)],[(g3,⟨true,[],[.agg [.sl g4 h0_0,.sl g5 h0_1,.sl g6 h0_2]]⟩)]⟩=>bif nmEq g0 ([0,3]) && Nat.beq g1 0 && Nat.beq g2 0 && nmEq g3 ([0,3]) && ctsEq g4 ([.int .i64]) && ctsEq g5 ([.int .i64]) && ctsEq g6 ([.int .i64,.int .i64]) then ro (runW (R89_0 t2 h0_0 h0_1 h0_2) ((t2 - t7:Int).toNat+1) t7) none (K89_0 t2 h0_0 h0_1 h0_2 k) else none
 | _=>none
noncomputable def c89:Cfg:=cfg Tryz.prog [(89,0,[2,3,7]),(89,999,[6]),(89,1000,[]),(89,1001,[2,3,7])] [] [] [] [(89,0,l89_0)]
theorem s89_0 (t2:Int) (h0_0 h0_1 h0_2:List AV) (ce:CallE) (k:Kont) (s:Int) (next:St→Option AV):stepA (codeA c89 ce [] 89 0 (sub [1,0,1,0,0] (body Tryz.f89))) (normA [] [2,3,7]) next ((E89_0 t2 h0_0 h0_1 h0_2) s) k=G89_0 t2 h0_0 h0_1 h0_2 s (fun s=>next ((E89_0 t2 h0_0 h0_1 h0_2) s)) (K89_0 t2 h0_0 h0_1 h0_2 k) none:=by kernel_rfl
theorem st89_0 (t2:Int) (h0_0 h0_1 h0_2:List AV) (ce:CallE) (k:Kont) (s:Int) (next:St→Option AV):stepA (codeA c89 ce [] 89 0 (sub [1,0,1,0,0] (body Tryz.f89))) (normA [] [2,3,7]) next ((E89_0 t2 h0_0 h0_1 h0_2) s) k=(R89_0 t2 h0_0 h0_1 h0_2 s).el none (fun s=>next ((E89_0 t2 h0_0 h0_1 h0_2) s)) (K89_0 t2 h0_0 h0_1 h0_2 k):=(s89_0 t2 h0_0 h0_1 h0_2 ce k s next).trans (by unfold R89_0;unfold F89_0 G89_0;simp only [el_cond,el_ro,el_sum,el_fail,el_next,el_stop] <;> rfl)
theorem ok89_0 {ce:CallE}:LoopOK c89 ce [] 89 0 (sub [1,0,1,0,0] (body Tryz.f89)):=by
 intro m hm st k r h
 obtain rfl:l89_0=m:=Option.some.inj hm
 unfold l89_0 at h
 split at h
 ·rename_i t2 g0 g1 g2 t7 g3 g4 h0_0 g5 h0_1 g6 h0_2
  obtain ⟨hg,h⟩:=bif_some h
  simp only [Bool.and_eq_true] at hg
  obtain ⟨⟨⟨⟨⟨⟨q0,q1⟩,q2⟩,q3⟩,q4⟩,q5⟩,q6⟩:=hg
  obtain rfl:=nE q0
  obtain rfl:=bE q1
  obtain rfl:=bE q2
  obtain rfl:=nE q3
  obtain rfl:=cE q4
  obtain rfl:=cE q5
  obtain rfl:=cE q6
  refine ⟨((t2 - t7:Int).toNat+1),?_⟩
  rw [← h]
  exact loop_run (E89_0 t2 h0_0 h0_1 h0_2) (K89_0 t2 h0_0 h0_1 h0_2 k) (st89_0 t2 h0_0 h0_1 h0_2 ce k) _ t7
 ·cases h
def q89 (xa xb xc:List AV) (a1 a2:Int):Bool:=(ro (runW (R89_0 a2 xa xb xc) ((a2 - (IntKind.i64.wrap (a1+1)):Int).toNat+1) (IntKind.i64.wrap (a1+1))) false (sumE (fun _=>true) (fun _=>true)))
def v89_0 (xa xb xc:List AV) (a1 a2:Int):Bool:=(ro (runW (R89_0 a2 xa xb xc) ((a2 - (IntKind.i64.wrap (a1+1)):Int).toNat+1) (IntKind.i64.wrap (a1+1))) false (sumE (fun _=>true) (fun _=>false)))
theorem e89 (xa xb xc:List AV) (a1 a2:Int):funA c89 0 89 [AV.agg [AV.sl [.int .i64] xa,AV.sl [.int .i64] xb,AV.sl [.int .i64,.int .i64] xc],Ai a1,Ai a2]=(ro (runW (R89_0 a2 xa xb xc) ((a2 - (IntKind.i64.wrap (a1+1)):Int).toNat+1) (IntKind.i64.wrap (a1+1))) none (sumE (fun _=>some (AV.bool true)) (fun _=>some (AV.bool false)))):=by kernel_rfl
def m89:TModel
 | [.agg [.sl g0 xa,.sl g1 xb,.sl g2 xc],.int .i64 a1,.int .i64 a2]=>bif ctsEq g0 ([.int .i64]) && ctsEq g1 ([.int .i64]) && ctsEq g2 ([.int .i64,.int .i64]) then some (q89 xa xb xc a1 a2,AV.bool (v89_0 xa xb xc a1 a2)) else none
 | _=>none
theorem k89:Known Tryz.prog 89:=⟨Tryz.f89,Tryz.func89,by kernel_rfl,by kernel_rfl⟩
theorem meets89:Meets Tryz.prog 89 m89:=by
 refine mt (lvl:=0) (cf:=c89) rfl mixed k89 Tryz.func89 (by kernel_rfl) (loops_cons ok89_0 noLoop) allT_nil allM_nil noI fun xs r h=>?_
 unfold m89 at h
 split at h
 ·rename_i g0 xa g1 xb g2 xc a1 a2
  obtain ⟨hg,h⟩:=bif_pair h
  simp only [Bool.and_eq_true] at hg
  obtain ⟨⟨q0,q1⟩,q2⟩:=hg
  obtain rfl:=cE q0
  obtain rfl:=cE q1
  obtain rfl:=cE q2
  obtain ⟨h1,rfl⟩:=pair_inj h
  exact (e89 xa xb xc a1 a2).trans ((brO (fun o:Option (Unit ⊕ Unit)=>some (AV.bool (ro o false (sumE (fun _=>true) (fun _=>false))))) (brS (fun o:Unit ⊕ Unit=>some (AV.bool ((sumE (fun _=>true) (fun _=>false)) o))) (fun _=>(fun _=>rfl)) (fun _=>(fun _=>rfl)))) h1)
 ·cases h
def G26_0 {β:Type} (h0_0:List AV) (h0_1:List AV) (h0_2:List AV) (h2:List AV) (t4:Int) (t6:Int) (h1:List AV) (N:((Int × Int × (List AV)))→β) (K:(((List AV)))→β) (d:β):β:=by
 refine (?f0:ByteArray→Int→Int→Int→Int→β) (v86_0 (fI (h2.getD t6.toNat .undef) 0)) (v88_0 ((h0_0.take (Int.toNat (fI (h2.getD t6.toNat .undef) 0))).drop (Int.toNat t4))) (v88_1 ((h0_0.take (Int.toNat (fI (h2.getD t6.toNat .undef) 0))).drop (Int.toNat t4))) (v88_2 ((h0_0.take (Int.toNat (fI (h2.getD t6.toNat .undef) 0))).drop (Int.toNat t4))) (v88_3 ((h0_0.take (Int.toNat (fI (h2.getD t6.toNat .undef) 0))).drop (Int.toNat t4)));intro x1 x2 x3 x4 x5
 refine (?f1:ByteArray→β) (v87_0 x2 x3 x4 x5);intro x6
 exact (bif decide (t6<(h2.length:Int)) then (bif q71 h0_0 h0_1 h0_2 then (bif (v71_0 h0_0 h0_1 h0_2) then (bif (decide (0≤t6) && decide (t6<(h2.length:Int))) then (bif decide (fI (h2.getD t6.toNat .undef) 0 > t4) then (bif q86 t4 then (bif decide ((v86_0 t4).size+(ByteArray.mk #[46,46]).size≤4611686018427387904) then (bif (decide (0≤t6) && decide (t6<(h2.length:Int))) then (bif q86 (fI (h2.getD t6.toNat .undef) 0) then (bif decide (((v86_0 t4)++(ByteArray.mk #[46,46])).size+x1.size≤4611686018427387904) then (bif decide ((((v86_0 t4)++(ByteArray.mk #[46,46]))++x1).size+(ByteArray.mk #[32]).size≤4611686018427387904) then (bif (decide (0≤t6) && decide (t6<(h2.length:Int))) then (bif (decide (0≤t4) && decide (t4≤fI (h2.getD t6.toNat .undef) 0) && decide (fI (h2.getD t6.toNat .undef) 0≤(h0_0.length:Int))) then (bif q88 ((h0_0.take (Int.toNat (fI (h2.getD t6.toNat .undef) 0))).drop (Int.toNat t4)) then (bif q87 x2 x3 x4 x5 then (bif decide (((((v86_0 t4)++(ByteArray.mk #[46,46]))++x1)++(ByteArray.mk #[32])).size+x6.size≤4611686018427387904) then (bif (decide (0≤t6) && decide (t6<(h2.length:Int))) then (bif q89 h0_0 h0_1 h0_2 t4 (fI (h2.getD t6.toNat .undef) 0) then (bif (v89_0 h0_0 h0_1 h0_2 t4 (fI (h2.getD t6.toNat .undef) 0)) then (bif decide ((((((v86_0 t4)++(ByteArray.mk #[46,46]))++x1)++(ByteArray.mk #[32]))++x6).size+(ByteArray.mk #[32,115,111,114,116,101,100]).size≤4611686018427387904) then (bif (decide ((h1.length+([AV.str ((((((v86_0 t4)++(ByteArray.mk #[46,46]))++x1)++(ByteArray.mk #[32]))++x6)++(ByteArray.mk #[32,115,111,114,116,101,100]))]).length)*16≤140737488355328) && decide ((h1.length+([AV.str ((((((v86_0 t4)++(ByteArray.mk #[46,46]))++x1)++(ByteArray.mk #[32]))++x6)++(ByteArray.mk #[32,115,111,114,116,101,100]))]).length)≤140737488355328)) then (bif (decide (0≤t6) && decide (t6<(h2.length:Int))) then N (fI (h2.getD t6.toNat .undef) 0,IntKind.i64.wrap (t6+1),h1++([AV.str ((((((v86_0 t4)++(ByteArray.mk #[46,46]))++x1)++(ByteArray.mk #[32]))++x6)++(ByteArray.mk #[32,115,111,114,116,101,100]))]))
 else d)
 else d)
 else d)
 else (bif (decide ((h1.length+([AV.str (((((v86_0 t4)++(ByteArray.mk #[46,46]))++x1)++(ByteArray.mk #[32]))++x6)]).length)*16≤140737488355328) && decide ((h1.length+([AV.str (((((v86_0 t4)++(ByteArray.mk #[46,46]))++x1)++(ByteArray.mk #[32]))++x6)]).length)≤140737488355328)) then (bif (decide (0≤t6) && decide (t6<(h2.length:Int))) then N (fI (h2.getD t6.toNat .undef) 0,IntKind.i64.wrap (t6+1),h1++([AV.str (((((v86_0 t4)++(ByteArray.mk #[46,46]))++x1)++(ByteArray.mk #[32]))++x6)]))
 else d)
 else d))
 else d)
 else d)
 else d)
 else d)
 else d)
 else d)
 else d)
 else d)
 else d)
 else d)
 else d)
 else d)
 else d)
 else (bif (decide (0≤t6) && decide (t6<(h2.length:Int))) then N (fI (h2.getD t6.toNat .undef) 0,IntKind.i64.wrap (t6+1),h1)
 else d))
 else d)
 else K h1)
 else d)
 else K h1)
def F26_0 (h0_0 h0_1 h0_2 h2:List AV) (t4 t6:Int) (h1:List AV):Out ((Int × Int × (List AV))) (((List AV))):=G26_0 h0_0 h0_1 h0_2 h2 t4 t6 h1 .next .stop .fail
def R26_0 (h0_0 h0_1 h0_2 h2:List AV):((Int × Int × (List AV)))→Out ((Int × Int × (List AV))) (((List AV))):=fun s:Int × Int × (List AV)=>F26_0 h0_0 h0_1 h0_2 h2 s.1 s.2.1 s.2.2
def E26_0 (h0_0 h0_1 h0_2 h2:List AV):((Int × Int × (List AV)))→St:=fun s:Int × Int × (List AV)=>⟨[(1,AV.ptr [0,1] 0 0),(3,AV.own [0,3]),(4,Ai s.1),(5,AV.own [0,5]),(6,Ai s.2.1)],[([0,1],⟨true,[],[AV.agg [AV.sl [.int .i64] h0_0,AV.sl [.int .i64] h0_1,AV.sl [.int .i64,.int .i64] h0_2]]⟩),([0,3],⟨false,[.str],s.2.2⟩),([0,5],⟨false,[.int .i64],h2⟩)]⟩
def K26_0 (h0_0 h0_1 h0_2 h2:List AV) (k:Kont):(((List AV)))→Option AV:=fun p:(List AV)=>k (.exit 0) ⟨[(3,AV.own [0,3])],[([0,1],⟨true,[],[AV.agg [AV.sl [.int .i64] h0_0,AV.sl [.int .i64] h0_1,AV.sl [.int .i64,.int .i64] h0_2]]⟩),([0,3],⟨false,[.str],p⟩),([0,5],⟨false,[.int .i64],h2⟩)]⟩
def l26_0:LModel:=fun _ _ st k=>match st with
 | ⟨[(1,.ptr g0 g1 g2),(3,.own g3),(4,.int .i64 t4),(5,.own g4),(6,.int .i64 t6)],[(g5,⟨true,[],[.agg [.sl g6 h0_0,.sl g7 h0_1,.sl g8 h0_2]]⟩),(g9,⟨false,g10,h1⟩),(g11,⟨false,g12,h2⟩)]⟩=>bif nmEq g0 ([0,1]) && Nat.beq g1 0 && Nat.beq g2 0 && nmEq g3 ([0,3]) && nmEq g4 ([0,5]) && nmEq g5 ([0,1]) && ctsEq g6 ([.int .i64]) && ctsEq g7 ([.int .i64]) && ctsEq g8 ([.int .i64,.int .i64]) && nmEq g9 ([0,3]) && ctsEq g10 ([.str]) && nmEq g11 ([0,5]) && ctsEq g12 ([.int .i64]) then ro (runW (R26_0 h0_0 h0_1 h0_2 h2) (((h2.length:Int) - t6:Int).toNat+1) (t4,t6,h1)) none (K26_0 h0_0 h0_1 h0_2 h2 k) else none
 | _=>none
noncomputable def c26:Cfg:=cfg Tryz.prog [(26,0,[1,3,4,5,6]),(26,999,[2]),(26,1000,[3]),(26,1001,[1,3,4,5,6])] [(71,m71),(85,m85),(86,m86),(87,m87),(88,m88),(89,m89)] [] [] [(26,0,l26_0)]
theorem s26_0 (h0_0 h0_1 h0_2 h2:List AV) (ce:CallE) (k:Kont) (s:Int × Int × (List AV)) (next:St→Option AV):stepA (codeA c26 ce [] 26 0 (sub [1,1,1,1,0,1,0,0] (body Tryz.f26))) (normA [] [1,3,4,5,6]) next ((E26_0 h0_0 h0_1 h0_2 h2) s) k=G26_0 h0_0 h0_1 h0_2 h2 s.1 s.2.1 s.2.2 (fun s=>next ((E26_0 h0_0 h0_1 h0_2 h2) s)) (K26_0 h0_0 h0_1 h0_2 h2 k) none:=by kernel_rfl
theorem st26_0 (h0_0 h0_1 h0_2 h2:List AV) (ce:CallE) (k:Kont) (s:(Int × Int × (List AV))) (next:St→Option AV):stepA (codeA c26 ce [] 26 0 (sub [1,1,1,1,0,1,0,0] (body Tryz.f26))) (normA [] [1,3,4,5,6]) next ((E26_0 h0_0 h0_1 h0_2 h2) s) k=(R26_0 h0_0 h0_1 h0_2 h2 s).el none (fun s=>next ((E26_0 h0_0 h0_1 h0_2 h2) s)) (K26_0 h0_0 h0_1 h0_2 h2 k):=(s26_0 h0_0 h0_1 h0_2 h2 ce k s next).trans (by unfold R26_0;unfold F26_0 G26_0;simp only [el_cond,el_ro,el_sum,el_fail,el_next,el_stop] <;> rfl)
theorem ok26_0 {ce:CallE}:LoopOK c26 ce [] 26 0 (sub [1,1,1,1,0,1,0,0] (body Tryz.f26)):=by
 intro m hm st k r h
 obtain rfl:l26_0=m:=Option.some.inj hm
 unfold l26_0 at h
 split at h
 ·rename_i g0 g1 g2 g3 t4 g4 t6 g5 g6 h0_0 g7 h0_1 g8 h0_2 g9 g10 h1 g11 g12 h2
  obtain ⟨hg,h⟩:=bif_some h
  simp only [Bool.and_eq_true] at hg
  obtain ⟨⟨⟨⟨⟨⟨⟨⟨⟨⟨⟨⟨q0,q1⟩,q2⟩,q3⟩,q4⟩,q5⟩,q6⟩,q7⟩,q8⟩,q9⟩,q10⟩,q11⟩,q12⟩:=hg
  obtain rfl:=nE q0
  obtain rfl:=bE q1
  obtain rfl:=bE q2
  obtain rfl:=nE q3
  obtain rfl:=nE q4
  obtain rfl:=nE q5
  obtain rfl:=cE q6
  obtain rfl:=cE q7
  obtain rfl:=cE q8
  obtain rfl:=nE q9
  obtain rfl:=cE q10
  obtain rfl:=nE q11
  obtain rfl:=cE q12
  refine ⟨(((h2.length:Int) - t6:Int).toNat+1),?_⟩
  rw [← h]
  exact loop_run (E26_0 h0_0 h0_1 h0_2 h2) (K26_0 h0_0 h0_1 h0_2 h2 k) (st26_0 h0_0 h0_1 h0_2 h2 ce k) _ (t4,t6,h1)
 ·cases h
def q26 (xa xb xc:List AV):Bool:=(q85 xa xb xc && (ro (runW (R26_0 xa xb xc (v85_0 xa xb xc)) ((((v85_0 xa xb xc).length:Int) - 0:Int).toNat+1) (0,0,([]:List AV))) false (fun p55=>true)))
def v26_0 (xa xb xc:List AV):List AV:=(ro (runW (R26_0 xa xb xc (v85_0 xa xb xc)) ((((v85_0 xa xb xc).length:Int) - 0:Int).toNat+1) (0,0,([]:List AV))) [] (fun p55=>p55))
theorem e26 (xa xb xc:List AV):funA c26 0 26 [AV.agg [AV.sl [.int .i64] xa,AV.sl [.int .i64] xb,AV.sl [.int .i64,.int .i64] xc]]=(bif q85 xa xb xc then (ro (runW (R26_0 xa xb xc (v85_0 xa xb xc)) ((((v85_0 xa xb xc).length:Int) - 0:Int).toNat+1) (0,0,([]:List AV))) none (fun p55=>some (AV.fl [.str] p55)))
 else none):=by kernel_rfl
def m26:TModel
 | [.agg [.sl g0 xa,.sl g1 xb,.sl g2 xc]]=>bif ctsEq g0 ([.int .i64]) && ctsEq g1 ([.int .i64]) && ctsEq g2 ([.int .i64,.int .i64]) then some (q26 xa xb xc,AV.fl [.str] (v26_0 xa xb xc)) else none
 | _=>none
theorem k26:Known Tryz.prog 26:=⟨Tryz.f26,Tryz.func26,by kernel_rfl,by kernel_rfl⟩
theorem meets26:Meets Tryz.prog 26 m26:=by
 refine mt (lvl:=0) (cf:=c26) rfl mixed k26 Tryz.func26 (by kernel_rfl) (loops_cons ok26_0 noLoop) (allT_cons meets71 (allT_cons meets85 (allT_cons meets86 (allT_cons meets87 (allT_cons meets88 (allT_cons meets89 allT_nil)))))) allM_nil noI fun xs r h=>?_
 unfold m26 at h
 split at h
 ·rename_i g0 xa g1 xb g2 xc
  obtain ⟨hg,h⟩:=bif_pair h
  simp only [Bool.and_eq_true] at hg
  obtain ⟨⟨q0,q1⟩,q2⟩:=hg
  obtain rfl:=cE q0
  obtain rfl:=cE q1
  obtain rfl:=cE q2
  obtain ⟨h1,rfl⟩:=pair_inj h
  exact (e26 xa xb xc).trans ((brL (brO (fun o:Option (((List AV)))=>some (AV.fl [.str] (ro o [] (fun p55=>p55)))) (fun p55=>(fun _=>rfl)))) h1)
 ·cases h
def q90 (a0:List AV) (a1:ByteArray):Bool:=decide (a0.length≤140737488355328) && decide ((joinB a0 a1).size≤140737488355328)
def v90_0 (a0:List AV) (a1:ByteArray):ByteArray:=joinB a0 a1
def m90:TModel:=joinM
theorem k90:Known Tryz.prog 90:=⟨Tryz.f90,Tryz.func90,by kernel_rfl,by kernel_rfl⟩
theorem meets90:Meets Tryz.prog 90 m90:=join_meets ⟨k90,fun a c sep w=>Any.strings_Join_none lays156 extra156 a c sep w,fun bk o c xs sep w h1 h2 h3 h4 h5=>Any.strings_Join lays156 extra156 bk o c xs sep w h1 h2 h3 h4 h5⟩
def G27_0 {β:Type} (t11:List AV) (t12:Int) (t13:Int) (h0:List AV) (N:((Int × (List AV)))→β) (K:(((List AV)))→β) (d:β):β:=by
 refine (?f0:ByteArray→ByteArray→β) (v79_0 (fI (t11.getD t13.toNat .undef) 0)) (v79_0 (fI (t11.getD t13.toNat .undef) 1));intro x1 x2
 exact (bif decide (t13<t12) then (bif (decide (0≤t13) && decide (t13<(t11.length:Int))) then (bif q79 (fI (t11.getD t13.toNat .undef) 0) then (bif decide (x1.size+(ByteArray.mk #[64]).size≤4611686018427387904) then (bif q79 (fI (t11.getD t13.toNat .undef) 1) then (bif decide ((x1++(ByteArray.mk #[64])).size+x2.size≤4611686018427387904) then (bif (decide ((h0.length+([AV.str ((x1++(ByteArray.mk #[64]))++x2)]).length)*16≤140737488355328) && decide ((h0.length+([AV.str ((x1++(ByteArray.mk #[64]))++x2)]).length)≤140737488355328)) then N (IntKind.i64.wrap (t13+1),h0++([AV.str ((x1++(ByteArray.mk #[64]))++x2)]))
 else d)
 else d)
 else d)
 else d)
 else d)
 else d)
 else K h0)
def F27_0 (t11:List AV) (t12 t13:Int) (h0:List AV):Out ((Int × (List AV))) (((List AV))):=G27_0 t11 t12 t13 h0 .next .stop .fail
def R27_0 (t11:List AV) (t12:Int):((Int × (List AV)))→Out ((Int × (List AV))) (((List AV))):=fun s:Int × (List AV)=>F27_0 t11 t12 s.1 s.2
def E27_0 (t11:List AV) (t12:Int):((Int × (List AV)))→St:=fun s:Int × (List AV)=>⟨[(3,AV.own [0,3]),(11,AV.sl [.int .i64,.int .i64] t11),(12,Ai t12),(13,Ai s.1)],[([0,3],⟨false,[.str],s.2⟩)]⟩
def K27_0 (t11:List AV) (t12:Int) (k:Kont):(((List AV)))→Option AV:=fun p:(List AV)=>k (.exit 0) ⟨[(3,AV.own [0,3])],[([0,3],⟨false,[.str],p⟩)]⟩
def l27_0:LModel:=fun _ _ st k=>match st with
 | ⟨[(3,.own g0),(11,.sl g1 t11),(12,.int .i64 t12),(13,.int .i64 t13)],[(g2,⟨false,g3,h0⟩)]⟩=>bif nmEq g0 ([0,3]) && ctsEq g1 ([.int .i64,.int .i64]) && nmEq g2 ([0,3]) && ctsEq g3 ([.str]) then ro (runW (R27_0 t11 t12) ((t12 - t13:Int).toNat+1) (t13,h0)) none (K27_0 t11 t12 k) else none
 | _=>none
noncomputable def c27:Cfg:=cfg Tryz.prog [(27,0,[3,11,12,13]),(27,999,[2]),(27,1000,[3]),(27,1001,[3,11,12,13])] [(39,m39),(79,m79),(90,m90)] [] [] [(27,0,l27_0)]
theorem s27_0 (t11:List AV) (t12:Int) (ce:CallE) (k:Kont) (s:Int × (List AV)) (next:St→Option AV):stepA (codeA c27 ce [] 27 0 (sub [1,1,1,0,1,0,0] (body Tryz.f27))) (normA [] [3,11,12,13]) next ((E27_0 t11 t12) s) k=G27_0 t11 t12 s.1 s.2 (fun s=>next ((E27_0 t11 t12) s)) (K27_0 t11 t12 k) none:=by kernel_rfl
theorem st27_0 (t11:List AV) (t12:Int) (ce:CallE) (k:Kont) (s:(Int × (List AV))) (next:St→Option AV):stepA (codeA c27 ce [] 27 0 (sub [1,1,1,0,1,0,0] (body Tryz.f27))) (normA [] [3,11,12,13]) next ((E27_0 t11 t12) s) k=(R27_0 t11 t12 s).el none (fun s=>next ((E27_0 t11 t12) s)) (K27_0 t11 t12 k):=(s27_0 t11 t12 ce k s next).trans (by unfold R27_0;unfold F27_0 G27_0;simp only [el_cond,el_ro,el_sum,el_fail,el_next,el_stop] <;> rfl)
theorem ok27_0 {ce:CallE}:LoopOK c27 ce [] 27 0 (sub [1,1,1,0,1,0,0] (body Tryz.f27)):=by
 intro m hm st k r h
 obtain rfl:l27_0=m:=Option.some.inj hm
 unfold l27_0 at h
 split at h
 ·rename_i g0 g1 t11 t12 t13 g2 g3 h0
  obtain ⟨hg,h⟩:=bif_some h
  simp only [Bool.and_eq_true] at hg
  obtain ⟨⟨⟨q0,q1⟩,q2⟩,q3⟩:=hg
  obtain rfl:=nE q0
  obtain rfl:=cE q1
  obtain rfl:=nE q2
  obtain rfl:=cE q3
  refine ⟨((t12 - t13:Int).toNat+1),?_⟩
  rw [← h]
  exact loop_run (E27_0 t11 t12) (K27_0 t11 t12 k) (st27_0 t11 t12 ce k) _ (t13,h0)
 ·cases h
def q27 (xa xb xc:List AV):Bool:=(q39 xa xb xc && (bif !(v39_0 xa xb xc) then true else (ro (runW (R27_0 xc (xc.length:Int)) (((xc.length:Int) - 0:Int).toNat+1) (0,([]:List AV))) false (fun p56=>(bif decide ((p56.length:Int)=0) then true else q90 p56 (ByteArray.mk #[32]))))))
def v27_0 (xa xb xc:List AV):ByteArray:=(bif !(v39_0 xa xb xc) then ByteArray.empty else (ro (runW (R27_0 xc (xc.length:Int)) (((xc.length:Int) - 0:Int).toNat+1) (0,([]:List AV))) ByteArray.empty (fun p56=>(bif decide ((p56.length:Int)=0) then (ByteArray.mk #[110,111,110,101]) else (v90_0 p56 (ByteArray.mk #[32]))))))
theorem e27 (xa xb xc:List AV):funA c27 0 27 [AV.agg [AV.sl [.int .i64] xa,AV.sl [.int .i64] xb,AV.sl [.int .i64,.int .i64] xc]]=(bif q39 xa xb xc then (bif !(v39_0 xa xb xc) then some (AV.str ByteArray.empty)
 else (ro (runW (R27_0 xc (xc.length:Int)) (((xc.length:Int) - 0:Int).toNat+1) (0,([]:List AV))) none (fun p56=>(bif decide ((p56.length:Int)=0) then some (AV.str (ByteArray.mk #[110,111,110,101]))
 else (bif q90 p56 (ByteArray.mk #[32]) then some (AV.str (v90_0 p56 (ByteArray.mk #[32])))
 else none)))))
 else none):=by kernel_rfl
def m27:TModel
 | [.agg [.sl g0 xa,.sl g1 xb,.sl g2 xc]]=>bif ctsEq g0 ([.int .i64]) && ctsEq g1 ([.int .i64]) && ctsEq g2 ([.int .i64,.int .i64]) then some (q27 xa xb xc,AV.str (v27_0 xa xb xc)) else none
 | _=>none
theorem k27:Known Tryz.prog 27:=⟨Tryz.f27,Tryz.func27,by kernel_rfl,by kernel_rfl⟩
theorem meets27:Meets Tryz.prog 27 m27:=by
 refine mt (lvl:=0) (cf:=c27) rfl mixed k27 Tryz.func27 (by kernel_rfl) (loops_cons ok27_0 noLoop) (allT_cons meets39 (allT_cons meets79 (allT_cons meets90 allT_nil))) allM_nil noI fun xs r h=>?_
 unfold m27 at h
 split at h
 ·rename_i g0 xa g1 xb g2 xc
  obtain ⟨hg,h⟩:=bif_pair h
  simp only [Bool.and_eq_true] at hg
  obtain ⟨⟨q0,q1⟩,q2⟩:=hg
  obtain rfl:=cE q0
  obtain rfl:=cE q1
  obtain rfl:=cE q2
  obtain ⟨h1,rfl⟩:=pair_inj h
  exact (e27 xa xb xc).trans ((brL (br (fun b=>some (AV.str (bif b then ByteArray.empty else (ro (runW (R27_0 xc (xc.length:Int)) (((xc.length:Int) - 0:Int).toNat+1) (0,([]:List AV))) ByteArray.empty (fun p56=>(bif decide ((p56.length:Int)=0) then (ByteArray.mk #[110,111,110,101]) else (v90_0 p56 (ByteArray.mk #[32])))))))) (fun _=>rfl) (brO (fun o:Option (((List AV)))=>some (AV.str (ro o ByteArray.empty (fun p56=>(bif decide ((p56.length:Int)=0) then (ByteArray.mk #[110,111,110,101]) else (v90_0 p56 (ByteArray.mk #[32]))))))) (fun p56=>(br (fun b=>some (AV.str (bif b then (ByteArray.mk #[110,111,110,101]) else (v90_0 p56 (ByteArray.mk #[32]))))) (fun _=>rfl) (brL1 (fun _=>rfl))))))) h1)
 ·cases h
def G28_0 {β:Type} (h0_0:List AV) (h0_1:List AV) (h0_2:List AV) (t3:ByteArray) (t4:Int) (N:((ByteArray × Int))→β) (K:(ByteArray)→β) (d:β):β:=by
 refine (?f0:ByteArray→ByteArray→β) (v86_0 (fI (h0_2.getD t4.toNat .undef) 0)) (v86_0 (fI (h0_2.getD t4.toNat .undef) 1));intro x1 x2
 exact (bif decide (t4<(h0_2.length:Int)) then (bif decide (t4 > 0) then (bif decide (t3.size+(ByteArray.mk #[32]).size≤4611686018427387904) then (bif (decide (0≤t4) && decide (t4<(h0_2.length:Int))) then (bif q86 (fI (h0_2.getD t4.toNat .undef) 0) then (bif decide ((t3++(ByteArray.mk #[32])).size+x1.size≤4611686018427387904) then (bif decide (((t3++(ByteArray.mk #[32]))++x1).size+(ByteArray.mk #[64]).size≤4611686018427387904) then (bif (decide (0≤t4) && decide (t4<(h0_2.length:Int))) then (bif q86 (fI (h0_2.getD t4.toNat .undef) 1) then (bif decide ((((t3++(ByteArray.mk #[32]))++x1)++(ByteArray.mk #[64])).size+x2.size≤4611686018427387904) then N ((((t3++(ByteArray.mk #[32]))++x1)++(ByteArray.mk #[64]))++x2,IntKind.i64.wrap (t4+1))
 else d)
 else d)
 else d)
 else d)
 else d)
 else d)
 else d)
 else d)
 else (bif (decide (0≤t4) && decide (t4<(h0_2.length:Int))) then (bif q86 (fI (h0_2.getD t4.toNat .undef) 0) then (bif decide (t3.size+x1.size≤4611686018427387904) then (bif decide ((t3++x1).size+(ByteArray.mk #[64]).size≤4611686018427387904) then (bif (decide (0≤t4) && decide (t4<(h0_2.length:Int))) then (bif q86 (fI (h0_2.getD t4.toNat .undef) 1) then (bif decide (((t3++x1)++(ByteArray.mk #[64])).size+x2.size≤4611686018427387904) then N (((t3++x1)++(ByteArray.mk #[64]))++x2,IntKind.i64.wrap (t4+1))
 else d)
 else d)
 else d)
 else d)
 else d)
 else d)
 else d))
 else K t3)
def F28_0 (h0_0 h0_1 h0_2:List AV) (t3:ByteArray) (t4:Int):Out ((ByteArray × Int)) (ByteArray):=G28_0 h0_0 h0_1 h0_2 t3 t4 .next .stop .fail
def R28_0 (h0_0 h0_1 h0_2:List AV):((ByteArray × Int))→Out ((ByteArray × Int)) (ByteArray):=fun s:ByteArray × Int=>F28_0 h0_0 h0_1 h0_2 s.1 s.2
def E28_0 (h0_0 h0_1 h0_2:List AV):((ByteArray × Int))→St:=fun s:ByteArray × Int=>⟨[(1,AV.ptr [0,1] 0 0),(3,AV.str s.1),(4,Ai s.2)],[([0,1],⟨true,[],[AV.agg [AV.sl [.int .i64] h0_0,AV.sl [.int .i64] h0_1,AV.sl [.int .i64,.int .i64] h0_2]]⟩)]⟩
def K28_0 (h0_0 h0_1 h0_2:List AV) (k:Kont):(ByteArray)→Option AV:=fun p:ByteArray=>k (.exit 0) ⟨[(3,AV.str p)],[([0,1],⟨true,[],[AV.agg [AV.sl [.int .i64] h0_0,AV.sl [.int .i64] h0_1,AV.sl [.int .i64,.int .i64] h0_2]]⟩)]⟩
def l28_0:LModel:=fun _ _ st k=>match st with
 | ⟨[(1,.ptr g0 g1 g2),(3,.str t3),(4,.int .i64 t4)],[(g3,⟨true,[],[.agg [.sl g4 h0_0,.sl g5 h0_1,.sl g6 h0_2]]⟩)]⟩=>bif nmEq g0 ([0,1]) && Nat.beq g1 0 && Nat.beq g2 0 && nmEq g3 ([0,1]) && ctsEq g4 ([.int .i64]) && ctsEq g5 ([.int .i64]) && ctsEq g6 ([.int .i64,.int .i64]) then ro (runW (R28_0 h0_0 h0_1 h0_2) (((h0_2.length:Int) - t4:Int).toNat+1) (t3,t4)) none (K28_0 h0_0 h0_1 h0_2 k) else none
 | _=>none
noncomputable def c28:Cfg:=cfg Tryz.prog [(28,0,[1,3,4]),(28,999,[2]),(28,1000,[3]),(28,1001,[1,3,4])] [(71,m71),(86,m86)] [] [] [(28,0,l28_0)]
theorem s28_0 (h0_0 h0_1 h0_2:List AV) (ce:CallE) (k:Kont) (s:ByteArray × Int) (next:St→Option AV):stepA (codeA c28 ce [] 28 0 (sub [1,1,1,1,0,1,0,0] (body Tryz.f28))) (normA [] [1,3,4]) next ((E28_0 h0_0 h0_1 h0_2) s) k=G28_0 h0_0 h0_1 h0_2 s.1 s.2 (fun s=>next ((E28_0 h0_0 h0_1 h0_2) s)) (K28_0 h0_0 h0_1 h0_2 k) none:=by kernel_rfl
theorem st28_0 (h0_0 h0_1 h0_2:List AV) (ce:CallE) (k:Kont) (s:(ByteArray × Int)) (next:St→Option AV):stepA (codeA c28 ce [] 28 0 (sub [1,1,1,1,0,1,0,0] (body Tryz.f28))) (normA [] [1,3,4]) next ((E28_0 h0_0 h0_1 h0_2) s) k=(R28_0 h0_0 h0_1 h0_2 s).el none (fun s=>next ((E28_0 h0_0 h0_1 h0_2) s)) (K28_0 h0_0 h0_1 h0_2 k):=(s28_0 h0_0 h0_1 h0_2 ce k s next).trans (by unfold R28_0;unfold F28_0 G28_0;simp only [el_cond,el_ro,el_sum,el_fail,el_next,el_stop] <;> rfl)
theorem ok28_0 {ce:CallE}:LoopOK c28 ce [] 28 0 (sub [1,1,1,1,0,1,0,0] (body Tryz.f28)):=by
 intro m hm st k r h
 obtain rfl:l28_0=m:=Option.some.inj hm
 unfold l28_0 at h
 split at h
 ·rename_i g0 g1 g2 t3 t4 g3 g4 h0_0 g5 h0_1 g6 h0_2
  obtain ⟨hg,h⟩:=bif_some h
  simp only [Bool.and_eq_true] at hg
  obtain ⟨⟨⟨⟨⟨⟨q0,q1⟩,q2⟩,q3⟩,q4⟩,q5⟩,q6⟩:=hg
  obtain rfl:=nE q0
  obtain rfl:=bE q1
  obtain rfl:=bE q2
  obtain rfl:=nE q3
  obtain rfl:=cE q4
  obtain rfl:=cE q5
  obtain rfl:=cE q6
  refine ⟨(((h0_2.length:Int) - t4:Int).toNat+1),?_⟩
  rw [← h]
  exact loop_run (E28_0 h0_0 h0_1 h0_2) (K28_0 h0_0 h0_1 h0_2 k) (st28_0 h0_0 h0_1 h0_2 ce k) _ (t3,t4)
 ·cases h
def q28 (xa xb xc:List AV):Bool:=(q71 xa xb xc && (bif !(v71_0 xa xb xc) then true else (bif decide ((xc.length:Int)=0) then true else (ro (runW (R28_0 xa xb xc) (((xc.length:Int) - 0:Int).toNat+1) (ByteArray.empty,0)) false (fun p57=>true)))))
def v28_0 (xa xb xc:List AV):ByteArray:=(bif !(v71_0 xa xb xc) then ByteArray.empty else (bif decide ((xc.length:Int)=0) then (ByteArray.mk #[110,111,110,101]) else (ro (runW (R28_0 xa xb xc) (((xc.length:Int) - 0:Int).toNat+1) (ByteArray.empty,0)) ByteArray.empty (fun p57=>p57))))
theorem e28 (xa xb xc:List AV):funA c28 0 28 [AV.agg [AV.sl [.int .i64] xa,AV.sl [.int .i64] xb,AV.sl [.int .i64,.int .i64] xc]]=(bif q71 xa xb xc then (bif !(v71_0 xa xb xc) then some (AV.str ByteArray.empty)
 else (bif decide ((xc.length:Int)=0) then some (AV.str (ByteArray.mk #[110,111,110,101]))
 else (ro (runW (R28_0 xa xb xc) (((xc.length:Int) - 0:Int).toNat+1) (ByteArray.empty,0)) none (fun p57=>some (AV.str p57)))))
 else none):=by kernel_rfl
def m28:TModel
 | [.agg [.sl g0 xa,.sl g1 xb,.sl g2 xc]]=>bif ctsEq g0 ([.int .i64]) && ctsEq g1 ([.int .i64]) && ctsEq g2 ([.int .i64,.int .i64]) then some (q28 xa xb xc,AV.str (v28_0 xa xb xc)) else none
 | _=>none
theorem k28:Known Tryz.prog 28:=⟨Tryz.f28,Tryz.func28,by kernel_rfl,by kernel_rfl⟩
theorem meets28:Meets Tryz.prog 28 m28:=by
 refine mt (lvl:=0) (cf:=c28) rfl mixed k28 Tryz.func28 (by kernel_rfl) (loops_cons ok28_0 noLoop) (allT_cons meets71 (allT_cons meets86 allT_nil)) allM_nil noI fun xs r h=>?_
 unfold m28 at h
 split at h
 ·rename_i g0 xa g1 xb g2 xc
  obtain ⟨hg,h⟩:=bif_pair h
  simp only [Bool.and_eq_true] at hg
  obtain ⟨⟨q0,q1⟩,q2⟩:=hg
  obtain rfl:=cE q0
  obtain rfl:=cE q1
  obtain rfl:=cE q2
  obtain ⟨h1,rfl⟩:=pair_inj h
  exact (e28 xa xb xc).trans ((brL (br (fun b=>some (AV.str (bif b then ByteArray.empty else (bif decide ((xc.length:Int)=0) then (ByteArray.mk #[110,111,110,101]) else (ro (runW (R28_0 xa xb xc) (((xc.length:Int) - 0:Int).toNat+1) (ByteArray.empty,0)) ByteArray.empty (fun p57=>p57)))))) (fun _=>rfl) (br (fun b=>some (AV.str (bif b then (ByteArray.mk #[110,111,110,101]) else (ro (runW (R28_0 xa xb xc) (((xc.length:Int) - 0:Int).toNat+1) (ByteArray.empty,0)) ByteArray.empty (fun p57=>p57))))) (fun _=>rfl) (brO (fun o:Option (ByteArray)=>some (AV.str (ro o ByteArray.empty (fun p57=>p57)))) (fun p57=>(fun _=>rfl)))))) h1)
 ·cases h
def G29i61_0 {β:Type} (t0:List AV) (t3:Int) (t4:Int) (N:((Int × Int))→β) (K:(Int)→β) (d:β):β:=(bif decide (t4<(t0.length:Int)) then (bif decide (t4<4000) then (bif (decide (0≤t4) && decide (t4<(t0.length:Int))) then N (IntKind.i64.wrap ((BitVec.ofInt 64 (IntKind.i64.wrap (IntKind.i64.wrap (IntKind.i64.wrap (t3*131)+IntKind.i64.wrap (fI (t0.getD t4.toNat .undef) 0))+7)) &&& BitVec.ofInt 64 1073741823).toNat:Int),IntKind.i64.wrap (t4+1))
 else d)
 else K t3)
 else K t3)
def F29i61_0 (t0:List AV) (t3 t4:Int):Out ((Int × Int)) (Int):=G29i61_0 t0 t3 t4 .next .stop .fail
def R29i61_0 (t0:List AV):((Int × Int))→Out ((Int × Int)) (Int):=fun s:Int × Int=>F29i61_0 t0 s.1 s.2
def E29i61_0 (t0:List AV):((Int × Int))→St:=fun s:Int × Int=>⟨[(0,AV.sl [.int .u8] t0),(3,Ai s.1),(4,Ai s.2)],[]⟩
def K29i61_0 (t0:List AV) (k:Kont):(Int)→Option AV:=fun p:Int=>k (.exit 0) ⟨[(0,AV.sl [.int .u8] t0),(3,Ai p)],[]⟩
def l29i61_0:LModel:=fun _ π st k=>match st with
 | ⟨[(0,.sl g1 t0),(3,.int .i64 t3),(4,.int .i64 t4)],[]⟩=>bif nmEq π ([4]) && ctsEq g1 ([.int .u8]) then ro (runW (R29i61_0 t0) (((t0.length:Int) - t4:Int).toNat+1) (t3,t4)) none (K29i61_0 t0 k) else none
 | _=>none
noncomputable def c29:Cfg:=cfg Tryz.prog [(29,999,[2]),(61,0,[0,3,4]),(61,999,[2]),(61,1000,[0,3]),(61,1001,[0,3,4])] [] [(91,.g m91)] [61] [(61,0,l29i61_0)]
theorem s29i61_0 (t0:List AV) (ce:CallE) (k:Kont) (s:Int × Int) (next:St→Option AV):stepA (codeA c29 ce [4] 61 0 (sub [1,1,0,1,0,0] (body Tryz.f61))) (normA [4] [0,3,4]) next ((E29i61_0 t0) s) k=G29i61_0 t0 s.1 s.2 (fun s=>next ((E29i61_0 t0) s)) (K29i61_0 t0 k) none:=by kernel_rfl
theorem st29i61_0 (t0:List AV) (ce:CallE) (k:Kont) (s:(Int × Int)) (next:St→Option AV):stepA (codeA c29 ce [4] 61 0 (sub [1,1,0,1,0,0] (body Tryz.f61))) (normA [4] [0,3,4]) next ((E29i61_0 t0) s) k=(R29i61_0 t0 s).el none (fun s=>next ((E29i61_0 t0) s)) (K29i61_0 t0 k):=(s29i61_0 t0 ce k s next).trans (by unfold R29i61_0;unfold F29i61_0 G29i61_0;simp only [el_cond,el_ro,el_sum,el_fail,el_next,el_stop] <;> rfl)
theorem ok29i61_0 {ce:CallE} {π:Nm}:LoopOK c29 ce π 61 0 (sub [1,1,0,1,0,0] (body Tryz.f61)):=by
 intro m hm st k r h
 obtain rfl:l29i61_0=m:=Option.some.inj hm
 unfold l29i61_0 at h
 split at h
 ·rename_i g1 t0 t3 t4
  obtain ⟨hg,h⟩:=bif_some h
  simp only [Bool.and_eq_true] at hg
  obtain ⟨q0,q1⟩:=hg
  obtain rfl:=nE q0
  obtain rfl:=cE q1
  refine ⟨(((t0.length:Int) - t4:Int).toNat+1),?_⟩
  rw [← h]
  exact loop_run (E29i61_0 t0) (K29i61_0 t0 k) (st29i61_0 t0 ce k) _ (t3,t4)
 ·cases h
def T29 {β:Type} (k:((List AV))→β) (n:β) (a0:List AV):β:=(ro (runW (R29i61_0 a0) (((a0.length:Int) - 0:Int).toNat+1) (IntKind.i64.wrap (10101+(a0.length:Int)),0)) n (fun p59=>(bif q91 6 a0 0 p59 then k (v91_0 6 a0 0 p59)
 else n)))
abbrev W29 (a0:List AV):Option ((List AV)):=T29 some none a0
theorem n29 {β:Type} (k:((List AV))→β) (n:β) (a0:List AV):T29 k n a0=oe k n (W29 a0):=by
 unfold W29 T29
 simp only [oe_cond,oe_ro,oe_sum,oe_some,oe_none]
def q29 (a0:List AV):Bool:=(W29 a0).isSome
def v29_0 (a0:List AV):List AV:=oe (fun t=>t) [] (W29 a0)
theorem e29 (a0:List AV):funA c29 1 29 [AV.sl [.int .u8] a0]=T29 (fun t=>some (AV.fl [.int .i64] t)) none a0:=by kernel_rfl
theorem r29 (a0:List AV) (h:q29 a0=true):funA c29 1 29 [AV.sl [.int .u8] a0]=some (AV.fl [.int .i64] (v29_0 a0)):=by
 refine ((e29 a0).trans (n29 _ _ a0)).trans ?_
 unfold q29 at h
 unfold v29_0
 generalize W29 a0=o at *
 cases o with
 | none=>cases h
 | some t=>rfl
def m29:TModel
 | [.sl g0 a0]=>bif ctsEq g0 ([.int .u8]) then some (q29 a0,AV.fl [.int .i64] (v29_0 a0)) else none
 | _=>none
theorem k29:Known Tryz.prog 29:=⟨Tryz.f29,Tryz.func29,by kernel_rfl,by kernel_rfl⟩
theorem i29_61:InlK Tryz.prog [(29,999,[2]),(61,0,[0,3,4]),(61,999,[2]),(61,1000,[0,3]),(61,1001,[0,3,4])] [] [(91,.g m91)] [61] [(61,0,l29i61_0)] 61:=⟨⟨Tryz.f61,Tryz.func61,by kernel_rfl,by kernel_rfl⟩,Tryz.f61,[(0,sub [1,1,0,1,0,0] (body Tryz.f61))],Tryz.func61,by kernel_rfl,fun ce π=>(loops_cons (ok29i61_0 (ce:=ce) (π:=π)) noLoop)⟩
theorem meets29:Meets Tryz.prog 29 m29:=by
 refine mt (lvl:=1) (cf:=c29) rfl mixed k29 Tryz.func29 (by kernel_rfl) noLoop allT_nil (allG_cons meets91 allM_nil) (allI_cons i29_61 noI) fun xs r h=>?_
 unfold m29 at h
 split at h
 ·rename_i g0 a0
  obtain ⟨hg,h⟩:=bif_pair h
  have q0:=hg
  obtain rfl:=cE q0
  obtain ⟨h1,rfl⟩:=pair_inj h
  exact r29 a0 h1
 ·cases h
def G180_0 {β:Type} (t6:Int) (h1:List AV) (h2_0:List AV) (h2_1:Int) (h2_2:Int) (h3:List AV) (h4:List AV) (h5:List AV) (N:((Int × (List AV) × (List AV) × Int × Int × (List AV) × (List AV) × (List AV)))→β) (K:(((List AV) × (List AV) × Int × Int × (List AV) × (List AV) × (List AV)))→β) (d:β):β:=(bif decide (t6 > 0) then (bif q109 h2_0 h2_1 h2_2 h3 h4 h5 then (bif (decide ((h1.length+([AV.int .i64 (v109_0 h2_0 h2_1 h2_2 h3 h4 h5)]).length)*8≤140737488355328) && decide ((h1.length+([AV.int .i64 (v109_0 h2_0 h2_1 h2_2 h3 h4 h5)]).length)≤140737488355328)) then N (IntKind.i64.wrap (t6 - 1),h1++([AV.int .i64 (v109_0 h2_0 h2_1 h2_2 h3 h4 h5)]),(v109_1 h2_0 h2_1 h2_2 h3 h4 h5),(v109_2 h2_0 h2_1 h2_2 h3 h4 h5),(v109_3 h2_0 h2_1 h2_2 h3 h4 h5),(v109_4 h2_0 h2_1 h2_2 h3 h4 h5),(v109_5 h2_0 h2_1 h2_2 h3 h4 h5),(v109_6 h2_0 h2_1 h2_2 h3 h4 h5))
 else d)
 else d)
 else K (h1,h2_0,h2_1,h2_2,h3,h4,h5))
def F180_0 (t6:Int) (h1 h2_0:List AV) (h2_1 h2_2:Int) (h3 h4 h5:List AV):Out ((Int × (List AV) × (List AV) × Int × Int × (List AV) × (List AV) × (List AV))) (((List AV) × (List AV) × Int × Int × (List AV) × (List AV) × (List AV))):=G180_0 t6 h1 h2_0 h2_1 h2_2 h3 h4 h5 .next .stop .fail
def R180_0:((Int × (List AV) × (List AV) × Int × Int × (List AV) × (List AV) × (List AV)))→Out ((Int × (List AV) × (List AV) × Int × Int × (List AV) × (List AV) × (List AV))) (((List AV) × (List AV) × Int × Int × (List AV) × (List AV) × (List AV))):=fun s:Int × (List AV) × (List AV) × Int × Int × (List AV) × (List AV) × (List AV)=>F180_0 s.1 s.2.1 s.2.2.1 s.2.2.2.1 s.2.2.2.2.1 s.2.2.2.2.2.1 s.2.2.2.2.2.2.1 s.2.2.2.2.2.2.2
def E180_0:((Int × (List AV) × (List AV) × Int × Int × (List AV) × (List AV) × (List AV)))→St:=fun s:Int × (List AV) × (List AV) × Int × Int × (List AV) × (List AV) × (List AV)=>⟨[(0,AV.ptr [1] 0 0),(3,AV.ptr [0,3,0] 0 0),(5,AV.own [0,5,0]),(6,Ai s.1)],[([0,3,0],⟨true,[],[AV.agg [AV.own [2],AV.own [3],AV.own [4]]]⟩),([0,5,0],⟨false,[.int .i64],s.2.1⟩),([1],⟨true,[],[AV.agg [AV.sl [.int .u8] s.2.2.1,Ai s.2.2.2.1,Ai s.2.2.2.2.1]]⟩),([2],⟨false,[.int .i64],s.2.2.2.2.2.1⟩),([3],⟨false,[.int .i64],s.2.2.2.2.2.2.1⟩),([4],⟨false,[.int .i64,.int .i64],s.2.2.2.2.2.2.2⟩)]⟩
def K180_0 (k:Kont):(((List AV) × (List AV) × Int × Int × (List AV) × (List AV) × (List AV)))→Option AV:=fun p:(List AV) × (List AV) × Int × Int × (List AV) × (List AV) × (List AV)=>k (.exit 0) ⟨[(5,AV.own [0,5,0])],[([0,3,0],⟨true,[],[AV.agg [AV.own [2],AV.own [3],AV.own [4]]]⟩),([0,5,0],⟨false,[.int .i64],p.1⟩),([1],⟨true,[],[AV.agg [AV.sl [.int .u8] p.2.1,Ai p.2.2.1,Ai p.2.2.2.1]]⟩),([2],⟨false,[.int .i64],p.2.2.2.2.1⟩),([3],⟨false,[.int .i64],p.2.2.2.2.2.1⟩),([4],⟨false,[.int .i64,.int .i64],p.2.2.2.2.2.2⟩)]⟩
def l180_0:LModel:=fun _ _ st k=>match st with
 | ⟨[(0,.ptr g0 g1 g2),(3,.ptr g3 g4 g5),(5,.own g6),(6,.int .i64 t6)],[(g7,⟨true,[],[.agg [.own g8,.own g9,.own g10]]⟩),(g11,⟨false,g12,h1⟩),(g13,⟨true,[],[.agg [.sl g14 h2_0,.int .i64 h2_1,.int .i64 h2_2]]⟩),(g15,⟨false,g16,h3⟩),(g17,⟨false,g18,h4⟩),(g19,⟨false,g20,h5⟩)]⟩=>bif nmEq g0 ([1]) && Nat.beq g1 0 && Nat.beq g2 0 && nmEq g3 ([0,3,0]) && Nat.beq g4 0 && Nat.beq g5 0 && nmEq g6 ([0,5,0]) && nmEq g7 ([0,3,0]) && nmEq g8 ([2]) && nmEq g9 ([3]) && nmEq g10 ([4]) && nmEq g11 ([0,5,0]) && ctsEq g12 ([.int .i64]) && nmEq g13 ([1]) && ctsEq g14 ([.int .u8]) && nmEq g15 ([2]) && ctsEq g16 ([.int .i64]) && nmEq g17 ([3]) && ctsEq g18 ([.int .i64]) && nmEq g19 ([4]) && ctsEq g20 ([.int .i64,.int .i64]) then ro (runW (R180_0) ((t6 - 0:Int).toNat+1) (t6,h1,h2_0,h2_1,h2_2,h3,h4,h5)) none (K180_0 k) else none
 | _=>none
noncomputable def c180:Cfg:=cfg Tryz.prog [(180,0,[0,3,5,6]),(180,999,[4]),(180,1000,[5]),(180,1001,[0,3,5,6])] [] [(109,.g m109),(131,.g m131)] [] [(180,0,l180_0)]
theorem s180_0 (ce:CallE) (k:Kont) (s:Int × (List AV) × (List AV) × Int × Int × (List AV) × (List AV) × (List AV)) (next:St→Option AV):stepA (codeA c180 ce [0] 180 0 (sub [1,1,0,1,0,0] (body Tryz.f180))) (normA [0] [0,3,5,6]) next (E180_0 s) k=G180_0 s.1 s.2.1 s.2.2.1 s.2.2.2.1 s.2.2.2.2.1 s.2.2.2.2.2.1 s.2.2.2.2.2.2.1 s.2.2.2.2.2.2.2 (fun s=>next (E180_0 s)) (K180_0 k) none:=by kernel_rfl
theorem st180_0 (ce:CallE) (k:Kont) (s:(Int × (List AV) × (List AV) × Int × Int × (List AV) × (List AV) × (List AV))) (next:St→Option AV):stepA (codeA c180 ce [0] 180 0 (sub [1,1,0,1,0,0] (body Tryz.f180))) (normA [0] [0,3,5,6]) next (E180_0 s) k=(R180_0 s).el none (fun s=>next (E180_0 s)) (K180_0 k):=(s180_0 ce k s next).trans (by unfold R180_0;unfold F180_0 G180_0;simp only [el_cond,el_ro,el_sum,el_fail,el_next,el_stop] <;> rfl)
theorem ok180_0 {ce:CallE}:LoopOK c180 ce [0] 180 0 (sub [1,1,0,1,0,0] (body Tryz.f180)):=by
 intro m hm st k r h
 obtain rfl:l180_0=m:=Option.some.inj hm
 unfold l180_0 at h
 split at h
 ·rename_i g0 g1 g2 g3 g4 g5 g6 t6 g7 g8 g9 g10 g11 g12 h1 g13 g14 h2_0 h2_1 h2_2 g15 g16 h3 g17 g18 h4 g19 g20 h5
  obtain ⟨hg,h⟩:=bif_some h
  simp only [Bool.and_eq_true] at hg
  obtain ⟨⟨⟨⟨⟨⟨⟨⟨⟨⟨⟨⟨⟨⟨⟨⟨⟨⟨⟨⟨q0,q1⟩,q2⟩,q3⟩,q4⟩,q5⟩,q6⟩,q7⟩,q8⟩,q9⟩,q10⟩,q11⟩,q12⟩,q13⟩,q14⟩,q15⟩,q16⟩,q17⟩,q18⟩,q19⟩,q20⟩:=hg
  obtain rfl:=nE q0
  obtain rfl:=bE q1
  obtain rfl:=bE q2
  obtain rfl:=nE q3
  obtain rfl:=bE q4
  obtain rfl:=bE q5
  obtain rfl:=nE q6
  obtain rfl:=nE q7
  obtain rfl:=nE q8
  obtain rfl:=nE q9
  obtain rfl:=nE q10
  obtain rfl:=nE q11
  obtain rfl:=cE q12
  obtain rfl:=nE q13
  obtain rfl:=cE q14
  obtain rfl:=nE q15
  obtain rfl:=cE q16
  obtain rfl:=nE q17
  obtain rfl:=cE q18
  obtain rfl:=nE q19
  obtain rfl:=cE q20
  refine ⟨((t6 - 0:Int).toNat+1),?_⟩
  rw [← h]
  exact loop_run E180_0 (K180_0 k) (st180_0 ce k) _ (t6,h1,h2_0,h2_1,h2_2,h3,h4,h5)
 ·cases h
def T180 {β:Type} (k:((List AV) × (List AV) × Int × Int × (List AV) × (List AV) × (List AV))→β) (n:β) (ua:List AV) (ub:Int) (uc:Int) (b1:List AV) (b2:List AV) (b3:List AV):β:=(bif q131 5 ua ub uc then (ro (runW (R180_0) (((v131_0 5 ua ub uc) - 0:Int).toNat+1) ((v131_0 5 ua ub uc),([]:List AV),(v131_1 5 ua ub uc),(v131_2 5 ua ub uc),(v131_3 5 ua ub uc),b1,b2,b3)) n (fun p61=>k (p61.1,p61.2.1,p61.2.2.1,p61.2.2.2.1,p61.2.2.2.2.1,p61.2.2.2.2.2.1,p61.2.2.2.2.2.2)))
 else n)
abbrev W180 (ua:List AV) (ub:Int) (uc:Int) (b1:List AV) (b2:List AV) (b3:List AV):Option ((List AV) × (List AV) × Int × Int × (List AV) × (List AV) × (List AV)):=T180 some none ua ub uc b1 b2 b3
theorem n180 {β:Type} (k:((List AV) × (List AV) × Int × Int × (List AV) × (List AV) × (List AV))→β) (n:β) (ua:List AV) (ub:Int) (uc:Int) (b1:List AV) (b2:List AV) (b3:List AV):T180 k n ua ub uc b1 b2 b3=oe k n (W180 ua ub uc b1 b2 b3):=by
 unfold W180 T180
 simp only [oe_cond,oe_ro,oe_sum,oe_some,oe_none]
def q180 (ua:List AV) (ub uc:Int) (b1 b2 b3:List AV):Bool:=(W180 ua ub uc b1 b2 b3).isSome
def v180_0 (ua:List AV) (ub uc:Int) (b1 b2 b3:List AV):List AV:=oe (fun t=>t.1) [] (W180 ua ub uc b1 b2 b3)
def v180_1 (ua:List AV) (ub uc:Int) (b1 b2 b3:List AV):List AV:=oe (fun t=>t.2.1) [] (W180 ua ub uc b1 b2 b3)
def v180_2 (ua:List AV) (ub uc:Int) (b1 b2 b3:List AV):Int:=oe (fun t=>t.2.2.1) 0 (W180 ua ub uc b1 b2 b3)
def v180_3 (ua:List AV) (ub uc:Int) (b1 b2 b3:List AV):Int:=oe (fun t=>t.2.2.2.1) 0 (W180 ua ub uc b1 b2 b3)
def v180_4 (ua:List AV) (ub uc:Int) (b1 b2 b3:List AV):List AV:=oe (fun t=>t.2.2.2.2.1) [] (W180 ua ub uc b1 b2 b3)
def v180_5 (ua:List AV) (ub uc:Int) (b1 b2 b3:List AV):List AV:=oe (fun t=>t.2.2.2.2.2.1) [] (W180 ua ub uc b1 b2 b3)
def v180_6 (ua:List AV) (ub uc:Int) (b1 b2 b3:List AV):List AV:=oe (fun t=>t.2.2.2.2.2.2) [] (W180 ua ub uc b1 b2 b3)
theorem e180 (ua:List AV) (ub uc:Int) (b1 b2 b3:List AV) (K:List AV→List (Option Blk)→Option AV):inlA c180 1 180 [AV.ptr [1] 0 0,AV.agg [AV.own [2],AV.own [3],AV.own [4]]] [0] (canH 1 [⟨true,[],[AV.agg [AV.sl [.int .u8] ua,Ai ub,Ai uc]]⟩,⟨false,[.int .i64],b1⟩,⟨false,[.int .i64],b2⟩,⟨false,[.int .i64,.int .i64],b3⟩]) (keepG Tryz.prog 4 [24] [] K)=T180 (fun t=>K [AV.fl [.int .i64] t.1] [some ⟨true,[],[AV.agg [AV.sl [.int .u8] t.2.1,Ai t.2.2.1,Ai t.2.2.2.1]]⟩,some ⟨false,[.int .i64],t.2.2.2.2.1⟩,some ⟨false,[.int .i64],t.2.2.2.2.2.1⟩,some ⟨false,[.int .i64,.int .i64],t.2.2.2.2.2.2⟩]) none ua ub uc b1 b2 b3:=by kernel_rfl
theorem r180 (ua:List AV) (ub uc:Int) (b1 b2 b3:List AV) (K:List AV→List (Option Blk)→Option AV) (h:q180 ua ub uc b1 b2 b3=true):inlA c180 1 180 [AV.ptr [1] 0 0,AV.agg [AV.own [2],AV.own [3],AV.own [4]]] [0] (canH 1 [⟨true,[],[AV.agg [AV.sl [.int .u8] ua,AV.int .i64 ub,AV.int .i64 uc]]⟩,⟨false,[.int .i64],b1⟩,⟨false,[.int .i64],b2⟩,⟨false,[.int .i64,.int .i64],b3⟩]) (keepG Tryz.prog 4 [24] [] K)=K [AV.fl [.int .i64] (v180_0 ua ub uc b1 b2 b3)] [some ⟨true,[],[AV.agg [AV.sl [.int .u8] (v180_1 ua ub uc b1 b2 b3),AV.int .i64 (v180_2 ua ub uc b1 b2 b3),AV.int .i64 (v180_3 ua ub uc b1 b2 b3)]]⟩,some ⟨false,[.int .i64],(v180_4 ua ub uc b1 b2 b3)⟩,some ⟨false,[.int .i64],(v180_5 ua ub uc b1 b2 b3)⟩,some ⟨false,[.int .i64,.int .i64],(v180_6 ua ub uc b1 b2 b3)⟩]:=by
 refine ((e180 ua ub uc b1 b2 b3 K).trans (n180 _ _ ua ub uc b1 b2 b3)).trans ?_
 unfold q180 at h
 unfold v180_0 v180_1 v180_2 v180_3 v180_4 v180_5 v180_6
 generalize W180 ua ub uc b1 b2 b3=o at *
 cases o with
 | none=>cases h
 | some t=>rfl
def m180:GModel
 | [.ptr g0 g1 g2,.agg [.own g3,.own g4,.own g5]],[⟨true,[],[.agg [.sl g6 ua,.int .i64 ub,.int .i64 uc]]⟩,⟨false,g7,b1⟩,⟨false,g8,b2⟩,⟨false,g9,b3⟩]=>bif nmEq g0 ([1]) && Nat.beq g1 0 && Nat.beq g2 0 && nmEq g3 ([2]) && nmEq g4 ([3]) && nmEq g5 ([4]) && ctsEq g6 ([.int .u8]) && ctsEq g7 ([.int .i64]) && ctsEq g8 ([.int .i64]) && ctsEq g9 ([.int .i64,.int .i64]) then some (q180 ua ub uc b1 b2 b3,[AV.fl [.int .i64] (v180_0 ua ub uc b1 b2 b3)],[some ⟨true,[],[AV.agg [AV.sl [.int .u8] (v180_1 ua ub uc b1 b2 b3),AV.int .i64 (v180_2 ua ub uc b1 b2 b3),AV.int .i64 (v180_3 ua ub uc b1 b2 b3)]]⟩,some ⟨false,[.int .i64],(v180_4 ua ub uc b1 b2 b3)⟩,some ⟨false,[.int .i64],(v180_5 ua ub uc b1 b2 b3)⟩,some ⟨false,[.int .i64,.int .i64],(v180_6 ua ub uc b1 b2 b3)⟩]) else none
 | _,_=>none
theorem k180:Known Tryz.prog 180:=⟨Tryz.f180,Tryz.func180,by kernel_rfl,by kernel_rfl⟩
theorem meets180:MeetsG Tryz.prog 180 m180:=by
 refine mg (rt:=[24]) (gs:=[]) (lvl:=0) (cf:=c180) rfl mixed k180 Tryz.func180 (by kernel_rfl) (loops_cons ok180_0 noLoop) allT_nil (allG_cons meets109 (allG_cons meets131 allM_nil)) noI fun xs bs r bs' h K=>?_
 unfold m180 at h
 split at h
 ·rename_i g0 g1 g2 g3 g4 g5 g6 ua ub uc g7 b1 g8 b2 g9 b3
  obtain ⟨hg,h⟩:=bif_pair h
  simp only [Bool.and_eq_true] at hg
  obtain ⟨⟨⟨⟨⟨⟨⟨⟨⟨q0,q1⟩,q2⟩,q3⟩,q4⟩,q5⟩,q6⟩,q7⟩,q8⟩,q9⟩:=hg
  obtain rfl:=nE q0
  obtain rfl:=bE q1
  obtain rfl:=bE q2
  obtain rfl:=nE q3
  obtain rfl:=nE q4
  obtain rfl:=nE q5
  obtain rfl:=cE q6
  obtain rfl:=cE q7
  obtain rfl:=cE q8
  obtain rfl:=cE q9
  obtain ⟨h1,rfl,rfl⟩:=trip_inj h
  exact r180 ua ub uc b1 b2 b3 K h1
 ·cases h
def G147_0 {β:Type} (t0:List AV) (t3:Int) (N:(Int)→β) (K:(Unit ⊕ Unit)→β) (d:β):β:=(bif decide (t3<(t0.length:Int)) then (bif (decide (0≤t3) && decide (t3<(t0.length:Int))) then (bif !(v72_0 (fI (t0.getD t3.toNat .undef) 0) (-1000) 1000) then K (.inr ())
 else N (IntKind.i64.wrap (t3+1)))
 else d)
 else K (.inl ()))
def F147_0 (t0:List AV) (t3:Int):Out (Int) (Unit ⊕ Unit):=G147_0 t0 t3 .next .stop .fail
def R147_0 (t0:List AV):(Int)→Out (Int) (Unit ⊕ Unit):=fun s:Int=>F147_0 t0 s
def E147_0 (t0:List AV):(Int)→St:=fun s:Int=>⟨[(0,AV.sl [.int .i64] t0),(3,Ai s)],[]⟩
def K147_0 (t0:List AV) (k:Kont):(Unit ⊕ Unit)→Option AV:=sumE (fun _:Unit=>k (.exit 0) ⟨[(0,AV.sl [.int .i64] t0)],[]⟩) (fun _:Unit=>k .ret ⟨[(2,AV.bool false)],[]⟩)
def l147_0:LModel:=fun _ _ st k=>match st with
 | ⟨[(0,.sl g0 t0),(3,.int .i64 t3)],[]⟩=>bif ctsEq g0 ([.int .i64]) then ro (runW (R147_0 t0) (((t0.length:Int) - t3:Int).toNat+1) t3) none (K147_0 t0 k) else none
 | _=>none
noncomputable def c147:Cfg:=cfg Tryz.prog [(147,0,[0,3]),(147,999,[2]),(147,1000,[0]),(147,1001,[0,3])] [(72,m72)] [] [] [(147,0,l147_0)]
theorem s147_0 (t0:List AV) (ce:CallE) (k:Kont) (s:Int) (next:St→Option AV):stepA (codeA c147 ce [] 147 0 (sub [1,0,1,0,0] (body Tryz.f147))) (normA [] [0,3]) next ((E147_0 t0) s) k=G147_0 t0 s (fun s=>next ((E147_0 t0) s)) (K147_0 t0 k) none:=by kernel_rfl
theorem st147_0 (t0:List AV) (ce:CallE) (k:Kont) (s:Int) (next:St→Option AV):stepA (codeA c147 ce [] 147 0 (sub [1,0,1,0,0] (body Tryz.f147))) (normA [] [0,3]) next ((E147_0 t0) s) k=(R147_0 t0 s).el none (fun s=>next ((E147_0 t0) s)) (K147_0 t0 k):=(s147_0 t0 ce k s next).trans (by unfold R147_0;unfold F147_0 G147_0;simp only [el_cond,el_ro,el_sum,el_fail,el_next,el_stop] <;> rfl)
theorem ok147_0 {ce:CallE}:LoopOK c147 ce [] 147 0 (sub [1,0,1,0,0] (body Tryz.f147)):=by
 intro m hm st k r h
 obtain rfl:l147_0=m:=Option.some.inj hm
 unfold l147_0 at h
 split at h
 ·rename_i g0 t0 t3
  obtain ⟨hg,h⟩:=bif_some h
  have q0:=hg
  obtain rfl:=cE q0
  refine ⟨(((t0.length:Int) - t3:Int).toNat+1),?_⟩
  rw [← h]
  exact loop_run (E147_0 t0) (K147_0 t0 k) (st147_0 t0 ce k) _ t3
 ·cases h
def q147 (a0:List AV):Bool:=(ro (runW (R147_0 a0) (((a0.length:Int) - 0:Int).toNat+1) 0) false (sumE (fun _=>true) (fun _=>true)))
def v147_0 (a0:List AV):Bool:=(ro (runW (R147_0 a0) (((a0.length:Int) - 0:Int).toNat+1) 0) false (sumE (fun _=>decide ((a0.length:Int)≤60)) (fun _=>false)))
theorem e147 (a0:List AV):funA c147 0 147 [AV.sl [.int .i64] a0]=(ro (runW (R147_0 a0) (((a0.length:Int) - 0:Int).toNat+1) 0) none (sumE (fun _=>some (AV.bool (decide ((a0.length:Int)≤60)))) (fun _=>some (AV.bool false)))):=by kernel_rfl
def m147:TModel
 | [.sl g0 a0]=>bif ctsEq g0 ([.int .i64]) then some (q147 a0,AV.bool (v147_0 a0)) else none
 | _=>none
theorem k147:Known Tryz.prog 147:=⟨Tryz.f147,Tryz.func147,by kernel_rfl,by kernel_rfl⟩
theorem meets147:Meets Tryz.prog 147 m147:=by
 refine mt (lvl:=0) (cf:=c147) rfl mixed k147 Tryz.func147 (by kernel_rfl) (loops_cons ok147_0 noLoop) (allT_cons meets72 allT_nil) allM_nil noI fun xs r h=>?_
 unfold m147 at h
 split at h
 ·rename_i g0 a0
  obtain ⟨hg,h⟩:=bif_pair h
  have q0:=hg
  obtain rfl:=cE q0
  obtain ⟨h1,rfl⟩:=pair_inj h
  exact (e147 a0).trans ((brO (fun o:Option (Unit ⊕ Unit)=>some (AV.bool (ro o false (sumE (fun _=>decide ((a0.length:Int)≤60)) (fun _=>false))))) (brS (fun o:Unit ⊕ Unit=>some (AV.bool ((sumE (fun _=>decide ((a0.length:Int)≤60)) (fun _=>false)) o))) (fun _=>(fun _=>rfl)) (fun _=>(fun _=>rfl)))) h1)
 ·cases h
def G73_0 {β:Type} (t5:Int) (t7:Int) (h0_0:List AV) (h0_1:List AV) (h0_2:List AV) (h0_3:List AV) (h0_4:Int) (h1_0:List AV) (h1_1:Int) (h1_2:Bool) (h1_3:Int) (h1_4:Int) (h1_5:Int) (h1_6:Int) (h1_7:Int) (h1_8:Int) (t10:Int) (N:(Int)→β) (K:(Unit ⊕ Unit)→β) (d:β):β:=(bif decide (t10<t7) then (bif decide (t10<h1_5) then (bif (decide (0≤t10) && decide (t10<(h0_0.length:Int))) then (bif decide (fI (h0_0.getD t10.toNat .undef) 0 ≥ t5) then K (.inr ())
 else (bif decide (t10 > h1_6) then (bif (decide (0≤t10) && decide (t10<(h0_0.length:Int))) then (bif decide (fI (h0_0.getD t10.toNat .undef) 0<t5) then K (.inr ())
 else N (IntKind.i64.wrap (t10+1)))
 else d)
 else N (IntKind.i64.wrap (t10+1))))
 else d)
 else (bif decide (t10 > h1_6) then (bif (decide (0≤t10) && decide (t10<(h0_0.length:Int))) then (bif decide (fI (h0_0.getD t10.toNat .undef) 0<t5) then K (.inr ())
 else N (IntKind.i64.wrap (t10+1)))
 else d)
 else N (IntKind.i64.wrap (t10+1))))
 else K (.inl ()))
def F73_0 (t5 t7:Int) (h0_0 h0_1 h0_2 h0_3:List AV) (h0_4:Int) (h1_0:List AV) (h1_1:Int) (h1_2:Bool) (h1_3 h1_4 h1_5 h1_6 h1_7 h1_8 t10:Int):Out (Int) (Unit ⊕ Unit):=G73_0 t5 t7 h0_0 h0_1 h0_2 h0_3 h0_4 h1_0 h1_1 h1_2 h1_3 h1_4 h1_5 h1_6 h1_7 h1_8 t10 .next .stop .fail
def R73_0 (t5 t7:Int) (h0_0 h0_1 h0_2 h0_3:List AV) (h0_4:Int) (h1_0:List AV) (h1_1:Int) (h1_2:Bool) (h1_3 h1_4 h1_5 h1_6 h1_7 h1_8:Int):(Int)→Out (Int) (Unit ⊕ Unit):=fun s:Int=>F73_0 t5 t7 h0_0 h0_1 h0_2 h0_3 h0_4 h1_0 h1_1 h1_2 h1_3 h1_4 h1_5 h1_6 h1_7 h1_8 s
def E73_0 (t5 t7:Int) (h0_0 h0_1 h0_2 h0_3:List AV) (h0_4:Int) (h1_0:List AV) (h1_1:Int) (h1_2:Bool) (h1_3 h1_4 h1_5 h1_6 h1_7 h1_8:Int):(Int)→St:=fun s:Int=>⟨[(2,AV.ptr [0,2] 0 0),(3,AV.ptr [0,3] 0 0),(5,Ai t5),(7,Ai t7),(10,Ai s)],[([0,2],⟨true,[],[AV.agg [AV.sl [.int .i64] h0_0,AV.sl [.int .i64] h0_1,AV.sl [.int .i64,.int .i64] h0_2,AV.sl [.sl [.int .i64],.int .i64,.bool,.int .i64,.int .i64,.int .i64,.int .i64,.int .i64,.int .i64] h0_3,Ai h0_4]]⟩),([0,3],⟨true,[],[AV.agg [AV.sl [.int .i64] h1_0,Ai h1_1,AV.bool h1_2,Ai h1_3,Ai h1_4,Ai h1_5,Ai h1_6,Ai h1_7,Ai h1_8]]⟩)]⟩
def K73_0 (t5 t7:Int) (h0_0 h0_1 h0_2 h0_3:List AV) (h0_4:Int) (h1_0:List AV) (h1_1:Int) (h1_2:Bool) (h1_3 h1_4 h1_5 h1_6 h1_7 h1_8:Int) (k:Kont):(Unit ⊕ Unit)→Option AV:=sumE (fun _:Unit=>k (.exit 0) ⟨[],[([0,2],⟨true,[],[AV.agg [AV.sl [.int .i64] h0_0,AV.sl [.int .i64] h0_1,AV.sl [.int .i64,.int .i64] h0_2,AV.sl [.sl [.int .i64],.int .i64,.bool,.int .i64,.int .i64,.int .i64,.int .i64,.int .i64,.int .i64] h0_3,Ai h0_4]]⟩),([0,3],⟨true,[],[AV.agg [AV.sl [.int .i64] h1_0,Ai h1_1,AV.bool h1_2,Ai h1_3,Ai h1_4,Ai h1_5,Ai h1_6,Ai h1_7,Ai h1_8]]⟩)]⟩) (fun _:Unit=>k .ret ⟨[(4,AV.bool false)],[([0,2],⟨true,[],[AV.agg [AV.sl [.int .i64] h0_0,AV.sl [.int .i64] h0_1,AV.sl [.int .i64,.int .i64] h0_2,AV.sl [.sl [.int .i64],.int .i64,.bool,.int .i64,.int .i64,.int .i64,.int .i64,.int .i64,.int .i64] h0_3,Ai h0_4]]⟩),([0,3],⟨true,[],[AV.agg [AV.sl [.int .i64] h1_0,Ai h1_1,AV.bool h1_2,Ai h1_3,Ai h1_4,Ai h1_5,Ai h1_6,Ai h1_7,Ai h1_8]]⟩)]⟩)
def l73_0:LModel:=fun _ _ st k=>match st with
 | ⟨[(2,.ptr g0 g1 g2),(3,.ptr g3 g4 g5),(5,.int .i64 t5),(7,.int .i64 t7),(10,.int .i64 t10)],[(g6,⟨true,[],[.agg [.sl g7 h0_0,.sl g8 h0_1,.sl g9 h0_2,.sl g10 h0_3,.int .i64 h0_4]]⟩),(g11,⟨true,[],[.agg [.sl g12 h1_0,.int .i64 h1_1,.bool h1_2,.int .i64 h1_3,.int .i64 h1_4,.int .i64 h1_5,.int .i64 h1_6,.int .i64 h1_7,.int .i64 h1_8]]⟩)]⟩=>bif nmEq g0 ([0,2]) && Nat.beq g1 0 && Nat.beq g2 0 && nmEq g3 ([0,3]) && Nat.beq g4 0 && Nat.beq g5 0 && nmEq g6 ([0,2]) && ctsEq g7 ([.int .i64]) && ctsEq g8 ([.int .i64]) && ctsEq g9 ([.int .i64,.int .i64]) && ctsEq g10 ([.sl [.int .i64],.int .i64,.bool,.int .i64,.int .i64,.int .i64,.int .i64,.int .i64,.int .i64]) && nmEq g11 ([0,3]) && ctsEq g12 ([.int .i64]) then ro (runW (R73_0 t5 t7 h0_0 h0_1 h0_2 h0_3 h0_4 h1_0 h1_1 h1_2 h1_3 h1_4 h1_5 h1_6 h1_7 h1_8) ((t7 - t10:Int).toNat+1) t10) none (K73_0 t5 t7 h0_0 h0_1 h0_2 h0_3 h0_4 h1_0 h1_1 h1_2 h1_3 h1_4 h1_5 h1_6 h1_7 h1_8 k) else none
 | _=>none
noncomputable def c73:Cfg:=cfg Tryz.prog [(73,0,[2,3,5,7,10]),(73,999,[4]),(73,1000,[]),(73,1001,[2,3,5,7,10])] [(21,m21),(72,m72),(101,m101),(147,m147)] [] [] [(73,0,l73_0)]
theorem s73_0 (t5 t7:Int) (h0_0 h0_1 h0_2 h0_3:List AV) (h0_4:Int) (h1_0:List AV) (h1_1:Int) (h1_2:Bool) (h1_3 h1_4 h1_5 h1_6 h1_7 h1_8:Int) (ce:CallE) (k:Kont) (s:Int) (next:St→Option AV):stepA (codeA c73 ce [] 73 0 (sub [1,1,1,1,1,1,1,1,0,1,0,0] (body Tryz.f73))) (normA [] [2,3,5,7,10]) next ((E73_0 t5 t7 h0_0 h0_1 h0_2 h0_3 h0_4 h1_0 h1_1 h1_2 h1_3 h1_4 h1_5 h1_6 h1_7 h1_8) s) k=G73_0 t5 t7 h0_0 h0_1 h0_2 h0_3 h0_4 h1_0 h1_1 h1_2 h1_3 h1_4 h1_5 h1_6 h1_7 h1_8 s (fun s=>next ((E73_0 t5 t7 h0_0 h0_1 h0_2 h0_3 h0_4 h1_0 h1_1 h1_2 h1_3 h1_4 h1_5 h1_6 h1_7 h1_8) s)) (K73_0 t5 t7 h0_0 h0_1 h0_2 h0_3 h0_4 h1_0 h1_1 h1_2 h1_3 h1_4 h1_5 h1_6 h1_7 h1_8 k) none:=by kernel_rfl
theorem st73_0 (t5 t7:Int) (h0_0 h0_1 h0_2 h0_3:List AV) (h0_4:Int) (h1_0:List AV) (h1_1:Int) (h1_2:Bool) (h1_3 h1_4 h1_5 h1_6 h1_7 h1_8:Int) (ce:CallE) (k:Kont) (s:Int) (next:St→Option AV):stepA (codeA c73 ce [] 73 0 (sub [1,1,1,1,1,1,1,1,0,1,0,0] (body Tryz.f73))) (normA [] [2,3,5,7,10]) next ((E73_0 t5 t7 h0_0 h0_1 h0_2 h0_3 h0_4 h1_0 h1_1 h1_2 h1_3 h1_4 h1_5 h1_6 h1_7 h1_8) s) k=(R73_0 t5 t7 h0_0 h0_1 h0_2 h0_3 h0_4 h1_0 h1_1 h1_2 h1_3 h1_4 h1_5 h1_6 h1_7 h1_8 s).el none (fun s=>next ((E73_0 t5 t7 h0_0 h0_1 h0_2 h0_3 h0_4 h1_0 h1_1 h1_2 h1_3 h1_4 h1_5 h1_6 h1_7 h1_8) s)) (K73_0 t5 t7 h0_0 h0_1 h0_2 h0_3 h0_4 h1_0 h1_1 h1_2 h1_3 h1_4 h1_5 h1_6 h1_7 h1_8 k):=(s73_0 t5 t7 h0_0 h0_1 h0_2 h0_3 h0_4 h1_0 h1_1 h1_2 h1_3 h1_4 h1_5 h1_6 h1_7 h1_8 ce k s next).trans (by unfold R73_0;unfold F73_0 G73_0;simp only [el_cond,el_ro,el_sum,el_fail,el_next,el_stop] <;> rfl)
theorem ok73_0 {ce:CallE}:LoopOK c73 ce [] 73 0 (sub [1,1,1,1,1,1,1,1,0,1,0,0] (body Tryz.f73)):=by
 intro m hm st k r h
 obtain rfl:l73_0=m:=Option.some.inj hm
 unfold l73_0 at h
 split at h
 ·rename_i g0 g1 g2 g3 g4 g5 t5 t7 t10 g6 g7 h0_0 g8 h0_1 g9 h0_2 g10 h0_3 h0_4 g11 g12 h1_0 h1_1 h1_2 h1_3 h1_4 h1_5 h1_6 h1_7 h1_8
  obtain ⟨hg,h⟩:=bif_some h
  simp only [Bool.and_eq_true] at hg
  obtain ⟨⟨⟨⟨⟨⟨⟨⟨⟨⟨⟨⟨q0,q1⟩,q2⟩,q3⟩,q4⟩,q5⟩,q6⟩,q7⟩,q8⟩,q9⟩,q10⟩,q11⟩,q12⟩:=hg
  obtain rfl:=nE q0
  obtain rfl:=bE q1
  obtain rfl:=bE q2
  obtain rfl:=nE q3
  obtain rfl:=bE q4
  obtain rfl:=bE q5
  obtain rfl:=nE q6
  obtain rfl:=cE q7
  obtain rfl:=cE q8
  obtain rfl:=cE q9
  obtain rfl:=cE q10
  obtain rfl:=nE q11
  obtain rfl:=cE q12
  refine ⟨((t7 - t10:Int).toNat+1),?_⟩
  rw [← h]
  exact loop_run (E73_0 t5 t7 h0_0 h0_1 h0_2 h0_3 h0_4 h1_0 h1_1 h1_2 h1_3 h1_4 h1_5 h1_6 h1_7 h1_8) (K73_0 t5 t7 h0_0 h0_1 h0_2 h0_3 h0_4 h1_0 h1_1 h1_2 h1_3 h1_4 h1_5 h1_6 h1_7 h1_8 k) (st73_0 t5 t7 h0_0 h0_1 h0_2 h0_3 h0_4 h1_0 h1_1 h1_2 h1_3 h1_4 h1_5 h1_6 h1_7 h1_8 ce k) _ t10
 ·cases h
def q73 (xa xb xc xd:List AV) (xe:Int) (ya:List AV) (yb:Int) (yc:Bool) (yd ye yf yg yh yi:Int):Bool:=(q147 ya && (bif !(v147_0 ya) then true else (bif decide ((ya.length:Int) > 6) then true else (bif !(v72_0 yb 0 (ya.length:Int)) then true else (bif !(v72_0 yh 0 100000) then true else (bif !(v72_0 yi 0 100000) then true else (bif !yc then true else (bif decide (yb=(ya.length:Int)) then true else ((decide (0≤yb) && decide (yb<(ya.length:Int))) && (q101 xa xb xc (fI (ya.getD yb.toNat .undef) 0) && (q21 xa xb xc (fI (ya.getD yb.toNat .undef) 0) && (bif (v21_1 xa xb xc (fI (ya.getD yb.toNat .undef) 0)) then true else (bif !decide ((v101_0 xa xb xc (fI (ya.getD yb.toNat .undef) 0))=yd) then true else (bif !decide ((v101_1 xa xb xc (fI (ya.getD yb.toNat .undef) 0))=ye) then true else (bif !(v72_0 yf (v101_0 xa xb xc (fI (ya.getD yb.toNat .undef) 0)) (IntKind.i64.wrap (yg+1))) then true else (bif decide (yg ≥ (v101_1 xa xb xc (fI (ya.getD yb.toNat .undef) 0))) then true else (ro (runW (R73_0 (fI (ya.getD yb.toNat .undef) 0) (v101_1 xa xb xc (fI (ya.getD yb.toNat .undef) 0)) xa xb xc xd xe ya yb yc yd ye yf yg yh yi) (((v101_1 xa xb xc (fI (ya.getD yb.toNat .undef) 0)) - (v101_0 xa xb xc (fI (ya.getD yb.toNat .undef) 0)):Int).toNat+1) (v101_0 xa xb xc (fI (ya.getD yb.toNat .undef) 0))) false (sumE (fun _=>true) (fun _=>true)))))))))))))))))))
def v73_0 (xa xb xc xd:List AV) (xe:Int) (ya:List AV) (yb:Int) (yc:Bool) (yd ye yf yg yh yi:Int):Bool:=(bif !(v147_0 ya) then false else (bif decide ((ya.length:Int) > 6) then false else (bif !(v72_0 yb 0 (ya.length:Int)) then false else (bif !(v72_0 yh 0 100000) then false else (bif !(v72_0 yi 0 100000) then false else (bif !yc then (bif decide (yd=0) then (bif decide (ye=0) then (bif decide (yf=0) then decide (yg=0) else false) else false) else false) else (bif decide (yb=(ya.length:Int)) then false else (bif (v21_1 xa xb xc (fI (ya.getD yb.toNat .undef) 0)) then false else (bif !decide ((v101_0 xa xb xc (fI (ya.getD yb.toNat .undef) 0))=yd) then false else (bif !decide ((v101_1 xa xb xc (fI (ya.getD yb.toNat .undef) 0))=ye) then false else (bif !(v72_0 yf (v101_0 xa xb xc (fI (ya.getD yb.toNat .undef) 0)) (IntKind.i64.wrap (yg+1))) then false else (bif decide (yg ≥ (v101_1 xa xb xc (fI (ya.getD yb.toNat .undef) 0))) then false else (ro (runW (R73_0 (fI (ya.getD yb.toNat .undef) 0) (v101_1 xa xb xc (fI (ya.getD yb.toNat .undef) 0)) xa xb xc xd xe ya yb yc yd ye yf yg yh yi) (((v101_1 xa xb xc (fI (ya.getD yb.toNat .undef) 0)) - (v101_0 xa xb xc (fI (ya.getD yb.toNat .undef) 0)):Int).toNat+1) (v101_0 xa xb xc (fI (ya.getD yb.toNat .undef) 0))) false (sumE (fun _=>true) (fun _=>false)))))))))))))))
theorem e73 (xa xb xc xd:List AV) (xe:Int) (ya:List AV) (yb:Int) (yc:Bool) (yd ye yf yg yh yi:Int):funA c73 0 73 [AV.agg [AV.sl [.int .i64] xa,AV.sl [.int .i64] xb,AV.sl [.int .i64,.int .i64] xc,AV.sl [.sl [.int .i64],.int .i64,.bool,.int .i64,.int .i64,.int .i64,.int .i64,.int .i64,.int .i64] xd,Ai xe],AV.agg [AV.sl [.int .i64] ya,Ai yb,AV.bool yc,Ai yd,Ai ye,Ai yf,Ai yg,Ai yh,Ai yi]]=((fun (x1:Int) (x2:Int)=>(bif q147 ya then (bif !(v147_0 ya) then some (AV.bool false)
 else (bif decide ((ya.length:Int) > 6) then some (AV.bool false)
 else (bif !(v72_0 yb 0 (ya.length:Int)) then some (AV.bool false)
 else (bif !(v72_0 yh 0 100000) then some (AV.bool false)
 else (bif !(v72_0 yi 0 100000) then some (AV.bool false)
 else (bif !yc then (bif decide (yd=0) then (bif decide (ye=0) then (bif decide (yf=0) then some (AV.bool (decide (yg=0)))
 else some (AV.bool false))
 else some (AV.bool false))
 else some (AV.bool false))
 else (bif decide (yb=(ya.length:Int)) then some (AV.bool false)
 else (bif (decide (0≤yb) && decide (yb<(ya.length:Int))) then (bif q101 xa xb xc (fI (ya.getD yb.toNat .undef) 0) then (bif q21 xa xb xc (fI (ya.getD yb.toNat .undef) 0) then (bif (v21_1 xa xb xc (fI (ya.getD yb.toNat .undef) 0)) then some (AV.bool false)
 else (bif !decide (x1=yd) then some (AV.bool false)
 else (bif !decide (x2=ye) then some (AV.bool false)
 else (bif !(v72_0 yf x1 (IntKind.i64.wrap (yg+1))) then some (AV.bool false)
 else (bif decide (yg ≥ x2) then some (AV.bool false)
 else (ro (runW (R73_0 (fI (ya.getD yb.toNat .undef) 0) x2 xa xb xc xd xe ya yb yc yd ye yf yg yh yi) ((x2 - x1:Int).toNat+1) x1) none (sumE (fun _=>some (AV.bool true)) (fun _=>some (AV.bool false)))))))))
 else none)
 else none)
 else none))))))))
 else none)) (v101_0 xa xb xc (fI (ya.getD yb.toNat .undef) 0)) (v101_1 xa xb xc (fI (ya.getD yb.toNat .undef) 0))):=by kernel_rfl
theorem r73 (xa xb xc xd:List AV) (xe:Int) (ya:List AV) (yb:Int) (yc:Bool) (yd ye yf yg yh yi:Int) (h:q73 xa xb xc xd xe ya yb yc yd ye yf yg yh yi=true):funA c73 0 73 [AV.agg [AV.sl [.int .i64] xa,AV.sl [.int .i64] xb,AV.sl [.int .i64,.int .i64] xc,AV.sl [.sl [.int .i64],.int .i64,.bool,.int .i64,.int .i64,.int .i64,.int .i64,.int .i64,.int .i64] xd,AV.int .i64 xe],AV.agg [AV.sl [.int .i64] ya,AV.int .i64 yb,AV.bool yc,AV.int .i64 yd,AV.int .i64 ye,AV.int .i64 yf,AV.int .i64 yg,AV.int .i64 yh,AV.int .i64 yi]]=some (AV.bool (v73_0 xa xb xc xd xe ya yb yc yd ye yf yg yh yi)):=by
 refine (e73 xa xb xc xd xe ya yb yc yd ye yf yg yh yi).trans ?_
 unfold q73 at h
 unfold v73_0
 refine ifG (fun hc=>?_) (fun hc=>?_) <;> first|rw [hc] at h ⊢|rw [hc] at h|rw [hc]|skip
 ·refine ifG (fun hc=>?_) (fun hc=>?_) <;> first|rw [hc] at h ⊢|rw [hc] at h|rw [hc]|skip
  ·rfl
  ·refine ifG (fun hc=>?_) (fun hc=>?_) <;> first|rw [hc] at h ⊢|rw [hc] at h|rw [hc]|skip
   ·rfl
   ·refine ifG (fun hc=>?_) (fun hc=>?_) <;> first|rw [hc] at h ⊢|rw [hc] at h|rw [hc]|skip
    ·rfl
    ·refine ifG (fun hc=>?_) (fun hc=>?_) <;> first|rw [hc] at h ⊢|rw [hc] at h|rw [hc]|skip
     ·rfl
     ·refine ifG (fun hc=>?_) (fun hc=>?_) <;> first|rw [hc] at h ⊢|rw [hc] at h|rw [hc]|skip
      ·rfl
      ·refine ifG (fun hc=>?_) (fun hc=>?_) <;> first|rw [hc] at h ⊢|rw [hc] at h|rw [hc]|skip
       ·refine ifG (fun hc=>?_) (fun hc=>?_) <;> first|rw [hc] at h ⊢|rw [hc] at h|rw [hc]|skip
        ·refine ifG (fun hc=>?_) (fun hc=>?_) <;> first|rw [hc] at h ⊢|rw [hc] at h|rw [hc]|skip
         ·refine ifG (fun hc=>?_) (fun hc=>?_) <;> first|rw [hc] at h ⊢|rw [hc] at h|rw [hc]|skip
          ·rfl
          ·rfl
         ·rfl
        ·rfl
       ·refine ifG (fun hc=>?_) (fun hc=>?_) <;> first|rw [hc] at h ⊢|rw [hc] at h|rw [hc]|skip
        ·rfl
        ·refine ifG (fun hc=>?_) (fun hc=>?_) <;> first|rw [hc] at h ⊢|rw [hc] at h|rw [hc]|skip
         ·refine ifG (fun hc=>?_) (fun hc=>?_) <;> first|rw [hc] at h ⊢|rw [hc] at h|rw [hc]|skip
          ·refine ifG (fun hc=>?_) (fun hc=>?_) <;> first|rw [hc] at h ⊢|rw [hc] at h|rw [hc]|skip
           ·refine ifG (fun hc=>?_) (fun hc=>?_) <;> first|rw [hc] at h ⊢|rw [hc] at h|rw [hc]|skip
            ·rfl
            ·refine ifG (fun hc=>?_) (fun hc=>?_) <;> first|rw [hc] at h ⊢|rw [hc] at h|rw [hc]|skip
             ·rfl
             ·refine ifG (fun hc=>?_) (fun hc=>?_) <;> first|rw [hc] at h ⊢|rw [hc] at h|rw [hc]|skip
              ·rfl
              ·refine ifG (fun hc=>?_) (fun hc=>?_) <;> first|rw [hc] at h ⊢|rw [hc] at h|rw [hc]|skip
               ·rfl
               ·refine ifG (fun hc=>?_) (fun hc=>?_) <;> first|rw [hc] at h ⊢|rw [hc] at h|rw [hc]|skip
                ·rfl
                ·refine roG (fun hc=>?_) (fun r hc=>?_) <;> first|rw [hc] at h ⊢|rw [hc] at h|rw [hc]|skip
                 ·exact Bool.noConfusion h
                 ·try simp only [ro] at h ⊢
                  cases r with
                  | inl _ =>
                   try simp only [sumE] at h ⊢
                   rfl
                  | inr _ =>
                   try simp only [sumE] at h ⊢
                   rfl
           ·first|exact Bool.noConfusion h|exact Bool.noConfusion hc
          ·first|exact Bool.noConfusion h|exact Bool.noConfusion hc
         ·first|exact Bool.noConfusion h|exact Bool.noConfusion hc
 ·first|exact Bool.noConfusion h|exact Bool.noConfusion hc
def m73:TModel
 | [.agg [.sl g0 xa,.sl g1 xb,.sl g2 xc,.sl g3 xd,.int .i64 xe],.agg [.sl g4 ya,.int .i64 yb,.bool yc,.int .i64 yd,.int .i64 ye,.int .i64 yf,.int .i64 yg,.int .i64 yh,.int .i64 yi]]=>bif ctsEq g0 ([.int .i64]) && ctsEq g1 ([.int .i64]) && ctsEq g2 ([.int .i64,.int .i64]) && ctsEq g3 ([.sl [.int .i64],.int .i64,.bool,.int .i64,.int .i64,.int .i64,.int .i64,.int .i64,.int .i64]) && ctsEq g4 ([.int .i64]) then some (q73 xa xb xc xd xe ya yb yc yd ye yf yg yh yi,AV.bool (v73_0 xa xb xc xd xe ya yb yc yd ye yf yg yh yi)) else none
 | _=>none
theorem k73:Known Tryz.prog 73:=⟨Tryz.f73,Tryz.func73,by kernel_rfl,by kernel_rfl⟩
theorem meets73:Meets Tryz.prog 73 m73:=by
 refine mt (lvl:=0) (cf:=c73) rfl mixed k73 Tryz.func73 (by kernel_rfl) (loops_cons ok73_0 noLoop) (allT_cons meets21 (allT_cons meets72 (allT_cons meets101 (allT_cons meets147 allT_nil)))) allM_nil noI fun xs r h=>?_
 unfold m73 at h
 split at h
 ·rename_i g0 xa g1 xb g2 xc g3 xd xe g4 ya yb yc yd ye yf yg yh yi
  obtain ⟨hg,h⟩:=bif_pair h
  simp only [Bool.and_eq_true] at hg
  obtain ⟨⟨⟨⟨q0,q1⟩,q2⟩,q3⟩,q4⟩:=hg
  obtain rfl:=cE q0
  obtain rfl:=cE q1
  obtain rfl:=cE q2
  obtain rfl:=cE q3
  obtain rfl:=cE q4
  obtain ⟨h1,rfl⟩:=pair_inj h
  exact r73 xa xb xc xd xe ya yb yc yd ye yf yg yh yi h1
 ·cases h
noncomputable def c74:Cfg:=cfg Tryz.prog [(74,999,[6])] [] [] [] []
def v74_0 (xa:List AV) (xb:Int) (xc:Bool) (xd xe xf xg xh xi a1 a2:Int):Bool:=(bif xc then (bif decide (xd<a2) then (bif decide (a1<xe) then true else (bif decide (xd=a1) then decide (xe=a2) else false)) else (bif decide (xd=a1) then decide (xe=a2) else false)) else false)
theorem e74 (xa:List AV) (xb:Int) (xc:Bool) (xd xe xf xg xh xi a1 a2:Int):funA c74 0 74 [AV.agg [AV.sl [.int .i64] xa,Ai xb,AV.bool xc,Ai xd,Ai xe,Ai xf,Ai xg,Ai xh,Ai xi],Ai a1,Ai a2]=(bif xc then (bif decide (xd<a2) then (bif decide (a1<xe) then some (AV.bool true)
 else (bif decide (xd=a1) then some (AV.bool (decide (xe=a2)))
 else some (AV.bool false)))
 else (bif decide (xd=a1) then some (AV.bool (decide (xe=a2)))
 else some (AV.bool false)))
 else some (AV.bool false)):=by kernel_rfl
def m74:TModel
 | [.agg [.sl g0 xa,.int .i64 xb,.bool xc,.int .i64 xd,.int .i64 xe,.int .i64 xf,.int .i64 xg,.int .i64 xh,.int .i64 xi],.int .i64 a1,.int .i64 a2]=>bif ctsEq g0 ([.int .i64]) then some (true,AV.bool (v74_0 xa xb xc xd xe xf xg xh xi a1 a2)) else none
 | _=>none
theorem k74:Known Tryz.prog 74:=⟨Tryz.f74,Tryz.func74,by kernel_rfl,by kernel_rfl⟩
theorem meets74:Meets Tryz.prog 74 m74:=by
 refine mt (lvl:=0) (cf:=c74) rfl mixed k74 Tryz.func74 (by kernel_rfl) noLoop allT_nil allM_nil noI fun xs r h=>?_
 unfold m74 at h
 split at h
 ·rename_i g0 xa xb xc xd xe xf xg xh xi a1 a2
  obtain ⟨hg,h⟩:=bif_pair h
  have q0:=hg
  obtain rfl:=cE q0
  obtain ⟨h1,rfl⟩:=pair_inj h
  exact (e74 xa xb xc xd xe xf xg xh xi a1 a2).trans (of_tt (brT (fun b=>some (AV.bool (bif b then (bif decide (xd<a2) then (bif decide (a1<xe) then true else (bif decide (xd=a1) then decide (xe=a2) else false)) else (bif decide (xd=a1) then decide (xe=a2) else false)) else false))) (brT (fun b=>some (AV.bool (bif b then (bif decide (a1<xe) then true else (bif decide (xd=a1) then decide (xe=a2) else false)) else (bif decide (xd=a1) then decide (xe=a2) else false)))) (brT (fun b=>some (AV.bool (bif b then true else (bif decide (xd=a1) then decide (xe=a2) else false)))) (fun _=>rfl) (brT (fun b=>some (AV.bool (bif b then decide (xe=a2) else false))) (fun _=>rfl) (fun _=>rfl))) (brT (fun b=>some (AV.bool (bif b then decide (xe=a2) else false))) (fun _=>rfl) (fun _=>rfl))) (fun _=>rfl)))
 ·cases h
def G13_2 {β:Type} (t3:Int) (h0_0:List AV) (h0_1:List AV) (h0_2:List AV) (h0_3:List AV) (h0_4:Int) (h1_0:List AV) (h1_1:Int) (h1_2:Bool) (h1_3:Int) (h1_4:Int) (h1_5:Int) (h1_6:Int) (h1_7:Int) (h1_8:Int) (t5:Int) (N:(Int)→β) (K:(Unit ⊕ Unit)→β) (d:β):β:=(bif decide (t5<t3) then (bif h1_2 then (bif (decide (0≤t5) && decide (t5<(h0_3.length:Int))) then (bif (v74_0 (fL (h0_3.getD t5.toNat .undef) 0) (fI (h0_3.getD t5.toNat .undef) 1) (fB (h0_3.getD t5.toNat .undef) 2) (fI (h0_3.getD t5.toNat .undef) 3) (fI (h0_3.getD t5.toNat .undef) 4) (fI (h0_3.getD t5.toNat .undef) 5) (fI (h0_3.getD t5.toNat .undef) 6) (fI (h0_3.getD t5.toNat .undef) 7) (fI (h0_3.getD t5.toNat .undef) 8) h1_3 h1_4) then K (.inr ())
 else N (IntKind.i64.wrap (t5+1)))
 else d)
 else K (.inl ()))
 else K (.inl ()))
def F13_2 (t3:Int) (h0_0 h0_1 h0_2 h0_3:List AV) (h0_4:Int) (h1_0:List AV) (h1_1:Int) (h1_2:Bool) (h1_3 h1_4 h1_5 h1_6 h1_7 h1_8 t5:Int):Out (Int) (Unit ⊕ Unit):=G13_2 t3 h0_0 h0_1 h0_2 h0_3 h0_4 h1_0 h1_1 h1_2 h1_3 h1_4 h1_5 h1_6 h1_7 h1_8 t5 .next .stop .fail
def R13_2 (t3:Int) (h0_0 h0_1 h0_2 h0_3:List AV) (h0_4:Int) (h1_0:List AV) (h1_1:Int) (h1_2:Bool) (h1_3 h1_4 h1_5 h1_6 h1_7 h1_8:Int):(Int)→Out (Int) (Unit ⊕ Unit):=fun s:Int=>F13_2 t3 h0_0 h0_1 h0_2 h0_3 h0_4 h1_0 h1_1 h1_2 h1_3 h1_4 h1_5 h1_6 h1_7 h1_8 s
def E13_2 (t3:Int) (h0_0 h0_1 h0_2 h0_3:List AV) (h0_4:Int) (h1_0:List AV) (h1_1:Int) (h1_2:Bool) (h1_3 h1_4 h1_5 h1_6 h1_7 h1_8:Int):(Int)→St:=fun s:Int=>⟨[(1,AV.ptr [0,1] 0 0),(3,Ai t3),(4,AV.ptr [0,4] 0 0),(5,Ai s)],[([0,1],⟨true,[],[AV.agg [AV.sl [.int .i64] h0_0,AV.sl [.int .i64] h0_1,AV.sl [.int .i64,.int .i64] h0_2,AV.sl [.sl [.int .i64],.int .i64,.bool,.int .i64,.int .i64,.int .i64,.int .i64,.int .i64,.int .i64] h0_3,Ai h0_4]]⟩),([0,4],⟨true,[],[AV.agg [AV.sl [.int .i64] h1_0,Ai h1_1,AV.bool h1_2,Ai h1_3,Ai h1_4,Ai h1_5,Ai h1_6,Ai h1_7,Ai h1_8]]⟩)]⟩
def K13_2 (t3:Int) (h0_0 h0_1 h0_2 h0_3:List AV) (h0_4:Int) (h1_0:List AV) (h1_1:Int) (h1_2:Bool) (h1_3 h1_4 h1_5 h1_6 h1_7 h1_8:Int) (k:Kont):(Unit ⊕ Unit)→Option AV:=sumE (fun _:Unit=>k (.exit 2) ⟨[(1,AV.ptr [0,1] 0 0),(3,Ai t3)],[([0,1],⟨true,[],[AV.agg [AV.sl [.int .i64] h0_0,AV.sl [.int .i64] h0_1,AV.sl [.int .i64,.int .i64] h0_2,AV.sl [.sl [.int .i64],.int .i64,.bool,.int .i64,.int .i64,.int .i64,.int .i64,.int .i64,.int .i64] h0_3,Ai h0_4]]⟩),([0,4],⟨true,[],[AV.agg [AV.sl [.int .i64] h1_0,Ai h1_1,AV.bool h1_2,Ai h1_3,Ai h1_4,Ai h1_5,Ai h1_6,Ai h1_7,Ai h1_8]]⟩)]⟩) (fun _:Unit=>k .ret ⟨[(2,AV.bool false)],[([0,1],⟨true,[],[AV.agg [AV.sl [.int .i64] h0_0,AV.sl [.int .i64] h0_1,AV.sl [.int .i64,.int .i64] h0_2,AV.sl [.sl [.int .i64],.int .i64,.bool,.int .i64,.int .i64,.int .i64,.int .i64,.int .i64,.int .i64] h0_3,Ai h0_4]]⟩),([0,4],⟨true,[],[AV.agg [AV.sl [.int .i64] h1_0,Ai h1_1,AV.bool h1_2,Ai h1_3,Ai h1_4,Ai h1_5,Ai h1_6,Ai h1_7,Ai h1_8]]⟩)]⟩)
def l13_2:LModel:=fun _ _ st k=>match st with
 | ⟨[(1,.ptr g0 g1 g2),(3,.int .i64 t3),(4,.ptr g3 g4 g5),(5,.int .i64 t5)],[(g6,⟨true,[],[.agg [.sl g7 h0_0,.sl g8 h0_1,.sl g9 h0_2,.sl g10 h0_3,.int .i64 h0_4]]⟩),(g11,⟨true,[],[.agg [.sl g12 h1_0,.int .i64 h1_1,.bool h1_2,.int .i64 h1_3,.int .i64 h1_4,.int .i64 h1_5,.int .i64 h1_6,.int .i64 h1_7,.int .i64 h1_8]]⟩)]⟩=>bif nmEq g0 ([0,1]) && Nat.beq g1 0 && Nat.beq g2 0 && nmEq g3 ([0,4]) && Nat.beq g4 0 && Nat.beq g5 0 && nmEq g6 ([0,1]) && ctsEq g7 ([.int .i64]) && ctsEq g8 ([.int .i64]) && ctsEq g9 ([.int .i64,.int .i64]) && ctsEq g10 ([.sl [.int .i64],.int .i64,.bool,.int .i64,.int .i64,.int .i64,.int .i64,.int .i64,.int .i64]) && nmEq g11 ([0,4]) && ctsEq g12 ([.int .i64]) then ro (runW (R13_2 t3 h0_0 h0_1 h0_2 h0_3 h0_4 h1_0 h1_1 h1_2 h1_3 h1_4 h1_5 h1_6 h1_7 h1_8) ((t3 - t5:Int).toNat+1) t5) none (K13_2 t3 h0_0 h0_1 h0_2 h0_3 h0_4 h1_0 h1_1 h1_2 h1_3 h1_4 h1_5 h1_6 h1_7 h1_8 k) else none
 | _=>none
def G13_0 {β:Type} (h0_0:List AV) (h0_1:List AV) (h0_2:List AV) (h0_3:List AV) (h0_4:Int) (t3:Int) (N:(Int)→β) (K:(Unit ⊕ ((List AV) × Int × Bool × Int × Int × Int × Int × Int × Int) ⊕ ((List AV) × Int × Bool × Int × Int × Int × Int × Int × Int))→β) (d:β):β:=(bif decide (t3<(h0_3.length:Int)) then (bif (decide (0≤t3) && decide (t3<(h0_3.length:Int))) then (bif q73 h0_0 h0_1 h0_2 h0_3 h0_4 (fL (h0_3.getD t3.toNat .undef) 0) (fI (h0_3.getD t3.toNat .undef) 1) (fB (h0_3.getD t3.toNat .undef) 2) (fI (h0_3.getD t3.toNat .undef) 3) (fI (h0_3.getD t3.toNat .undef) 4) (fI (h0_3.getD t3.toNat .undef) 5) (fI (h0_3.getD t3.toNat .undef) 6) (fI (h0_3.getD t3.toNat .undef) 7) (fI (h0_3.getD t3.toNat .undef) 8) then (bif !(v73_0 h0_0 h0_1 h0_2 h0_3 h0_4 (fL (h0_3.getD t3.toNat .undef) 0) (fI (h0_3.getD t3.toNat .undef) 1) (fB (h0_3.getD t3.toNat .undef) 2) (fI (h0_3.getD t3.toNat .undef) 3) (fI (h0_3.getD t3.toNat .undef) 4) (fI (h0_3.getD t3.toNat .undef) 5) (fI (h0_3.getD t3.toNat .undef) 6) (fI (h0_3.getD t3.toNat .undef) 7) (fI (h0_3.getD t3.toNat .undef) 8)) then K (.inr (.inl (fL (h0_3.getD t3.toNat .undef) 0,fI (h0_3.getD t3.toNat .undef) 1,fB (h0_3.getD t3.toNat .undef) 2,fI (h0_3.getD t3.toNat .undef) 3,fI (h0_3.getD t3.toNat .undef) 4,fI (h0_3.getD t3.toNat .undef) 5,fI (h0_3.getD t3.toNat .undef) 6,fI (h0_3.getD t3.toNat .undef) 7,fI (h0_3.getD t3.toNat .undef) 8)))
 else (ro (runW (R13_2 t3 h0_0 h0_1 h0_2 h0_3 h0_4 (fL (h0_3.getD t3.toNat .undef) 0) (fI (h0_3.getD t3.toNat .undef) 1) (fB (h0_3.getD t3.toNat .undef) 2) (fI (h0_3.getD t3.toNat .undef) 3) (fI (h0_3.getD t3.toNat .undef) 4) (fI (h0_3.getD t3.toNat .undef) 5) (fI (h0_3.getD t3.toNat .undef) 6) (fI (h0_3.getD t3.toNat .undef) 7) (fI (h0_3.getD t3.toNat .undef) 8)) ((t3 - 0:Int).toNat+1) 0) d (sumE (fun _=>N (IntKind.i64.wrap (t3+1))) (fun _=>K (.inr (.inr (fL (h0_3.getD t3.toNat .undef) 0,fI (h0_3.getD t3.toNat .undef) 1,fB (h0_3.getD t3.toNat .undef) 2,fI (h0_3.getD t3.toNat .undef) 3,fI (h0_3.getD t3.toNat .undef) 4,fI (h0_3.getD t3.toNat .undef) 5,fI (h0_3.getD t3.toNat .undef) 6,fI (h0_3.getD t3.toNat .undef) 7,fI (h0_3.getD t3.toNat .undef) 8)))))))
 else d)
 else d)
 else K (.inl ()))
def F13_0 (h0_0 h0_1 h0_2 h0_3:List AV) (h0_4 t3:Int):Out (Int) (Unit ⊕ ((List AV) × Int × Bool × Int × Int × Int × Int × Int × Int) ⊕ ((List AV) × Int × Bool × Int × Int × Int × Int × Int × Int)):=G13_0 h0_0 h0_1 h0_2 h0_3 h0_4 t3 .next .stop .fail
def R13_0 (h0_0 h0_1 h0_2 h0_3:List AV) (h0_4:Int):(Int)→Out (Int) (Unit ⊕ ((List AV) × Int × Bool × Int × Int × Int × Int × Int × Int) ⊕ ((List AV) × Int × Bool × Int × Int × Int × Int × Int × Int)):=fun s:Int=>F13_0 h0_0 h0_1 h0_2 h0_3 h0_4 s
def E13_0 (h0_0 h0_1 h0_2 h0_3:List AV) (h0_4:Int):(Int)→St:=fun s:Int=>⟨[(1,AV.ptr [0,1] 0 0),(3,Ai s)],[([0,1],⟨true,[],[AV.agg [AV.sl [.int .i64] h0_0,AV.sl [.int .i64] h0_1,AV.sl [.int .i64,.int .i64] h0_2,AV.sl [.sl [.int .i64],.int .i64,.bool,.int .i64,.int .i64,.int .i64,.int .i64,.int .i64,.int .i64] h0_3,Ai h0_4]]⟩)]⟩
def K13_0 (h0_0 h0_1 h0_2 h0_3:List AV) (h0_4:Int) (k:Kont):(Unit ⊕ ((List AV) × Int × Bool × Int × Int × Int × Int × Int × Int) ⊕ ((List AV) × Int × Bool × Int × Int × Int × Int × Int × Int))→Option AV:=sumE (fun _:Unit=>k (.exit 0) ⟨[],[([0,1],⟨true,[],[AV.agg [AV.sl [.int .i64] h0_0,AV.sl [.int .i64] h0_1,AV.sl [.int .i64,.int .i64] h0_2,AV.sl [.sl [.int .i64],.int .i64,.bool,.int .i64,.int .i64,.int .i64,.int .i64,.int .i64,.int .i64] h0_3,Ai h0_4]]⟩)]⟩) (sumE (fun p:(List AV) × Int × Bool × Int × Int × Int × Int × Int × Int=>k .ret ⟨[(2,AV.bool false)],[([0,1],⟨true,[],[AV.agg [AV.sl [.int .i64] h0_0,AV.sl [.int .i64] h0_1,AV.sl [.int .i64,.int .i64] h0_2,AV.sl [.sl [.int .i64],.int .i64,.bool,.int .i64,.int .i64,.int .i64,.int .i64,.int .i64,.int .i64] h0_3,Ai h0_4]]⟩),([1,4],⟨true,[],[AV.agg [AV.sl [.int .i64] p.1,Ai p.2.1,AV.bool p.2.2.1,Ai p.2.2.2.1,Ai p.2.2.2.2.1,Ai p.2.2.2.2.2.1,Ai p.2.2.2.2.2.2.1,Ai p.2.2.2.2.2.2.2.1,Ai p.2.2.2.2.2.2.2.2]]⟩)]⟩) (fun p:(List AV) × Int × Bool × Int × Int × Int × Int × Int × Int=>k .ret ⟨[(2,AV.bool false)],[([0,1],⟨true,[],[AV.agg [AV.sl [.int .i64] h0_0,AV.sl [.int .i64] h0_1,AV.sl [.int .i64,.int .i64] h0_2,AV.sl [.sl [.int .i64],.int .i64,.bool,.int .i64,.int .i64,.int .i64,.int .i64,.int .i64,.int .i64] h0_3,Ai h0_4]]⟩),([0,4],⟨true,[],[AV.agg [AV.sl [.int .i64] p.1,Ai p.2.1,AV.bool p.2.2.1,Ai p.2.2.2.1,Ai p.2.2.2.2.1,Ai p.2.2.2.2.2.1,Ai p.2.2.2.2.2.2.1,Ai p.2.2.2.2.2.2.2.1,Ai p.2.2.2.2.2.2.2.2]]⟩)]⟩))
def l13_0:LModel:=fun _ _ st k=>match st with
 | ⟨[(1,.ptr g0 g1 g2),(3,.int .i64 t3)],[(g3,⟨true,[],[.agg [.sl g4 h0_0,.sl g5 h0_1,.sl g6 h0_2,.sl g7 h0_3,.int .i64 h0_4]]⟩)]⟩=>bif nmEq g0 ([0,1]) && Nat.beq g1 0 && Nat.beq g2 0 && nmEq g3 ([0,1]) && ctsEq g4 ([.int .i64]) && ctsEq g5 ([.int .i64]) && ctsEq g6 ([.int .i64,.int .i64]) && ctsEq g7 ([.sl [.int .i64],.int .i64,.bool,.int .i64,.int .i64,.int .i64,.int .i64,.int .i64,.int .i64]) then ro (runW (R13_0 h0_0 h0_1 h0_2 h0_3 h0_4) (((h0_3.length:Int) - t3:Int).toNat+1) t3) none (K13_0 h0_0 h0_1 h0_2 h0_3 h0_4 k) else none
 | _=>none
noncomputable def c13:Cfg:=cfg Tryz.prog [(13,0,[1,3]),(13,2,[1,3,4,5]),(13,999,[2]),(13,1000,[]),(13,1001,[1,3]),(13,1002,[1,3]),(13,1003,[1,3,4,5])] [(71,m71),(72,m72),(73,m73),(74,m74)] [] [] [(13,0,l13_0),(13,2,l13_2)]
theorem s13_2 (t3:Int) (h0_0 h0_1 h0_2 h0_3:List AV) (h0_4:Int) (h1_0:List AV) (h1_1:Int) (h1_2:Bool) (h1_3 h1_4 h1_5 h1_6 h1_7 h1_8:Int) (ce:CallE) (k:Kont) (s:Int) (next:St→Option AV):stepA (codeA c13 ce [] 13 2 (sub [1,1,0,1,0,0,1,0,0,1,1,1,0,0] (body Tryz.f13))) (normA [] [1,3,4,5]) next ((E13_2 t3 h0_0 h0_1 h0_2 h0_3 h0_4 h1_0 h1_1 h1_2 h1_3 h1_4 h1_5 h1_6 h1_7 h1_8) s) k=G13_2 t3 h0_0 h0_1 h0_2 h0_3 h0_4 h1_0 h1_1 h1_2 h1_3 h1_4 h1_5 h1_6 h1_7 h1_8 s (fun s=>next ((E13_2 t3 h0_0 h0_1 h0_2 h0_3 h0_4 h1_0 h1_1 h1_2 h1_3 h1_4 h1_5 h1_6 h1_7 h1_8) s)) (K13_2 t3 h0_0 h0_1 h0_2 h0_3 h0_4 h1_0 h1_1 h1_2 h1_3 h1_4 h1_5 h1_6 h1_7 h1_8 k) none:=by kernel_rfl
theorem st13_2 (t3:Int) (h0_0 h0_1 h0_2 h0_3:List AV) (h0_4:Int) (h1_0:List AV) (h1_1:Int) (h1_2:Bool) (h1_3 h1_4 h1_5 h1_6 h1_7 h1_8:Int) (ce:CallE) (k:Kont) (s:Int) (next:St→Option AV):stepA (codeA c13 ce [] 13 2 (sub [1,1,0,1,0,0,1,0,0,1,1,1,0,0] (body Tryz.f13))) (normA [] [1,3,4,5]) next ((E13_2 t3 h0_0 h0_1 h0_2 h0_3 h0_4 h1_0 h1_1 h1_2 h1_3 h1_4 h1_5 h1_6 h1_7 h1_8) s) k=(R13_2 t3 h0_0 h0_1 h0_2 h0_3 h0_4 h1_0 h1_1 h1_2 h1_3 h1_4 h1_5 h1_6 h1_7 h1_8 s).el none (fun s=>next ((E13_2 t3 h0_0 h0_1 h0_2 h0_3 h0_4 h1_0 h1_1 h1_2 h1_3 h1_4 h1_5 h1_6 h1_7 h1_8) s)) (K13_2 t3 h0_0 h0_1 h0_2 h0_3 h0_4 h1_0 h1_1 h1_2 h1_3 h1_4 h1_5 h1_6 h1_7 h1_8 k):=(s13_2 t3 h0_0 h0_1 h0_2 h0_3 h0_4 h1_0 h1_1 h1_2 h1_3 h1_4 h1_5 h1_6 h1_7 h1_8 ce k s next).trans (by unfold R13_2;unfold F13_2 G13_2;simp only [el_cond,el_ro,el_sum,el_fail,el_next,el_stop] <;> rfl)
theorem ok13_2 {ce:CallE}:LoopOK c13 ce [] 13 2 (sub [1,1,0,1,0,0,1,0,0,1,1,1,0,0] (body Tryz.f13)):=by
 intro m hm st k r h
 obtain rfl:l13_2=m:=Option.some.inj hm
 unfold l13_2 at h
 split at h
 ·rename_i g0 g1 g2 t3 g3 g4 g5 t5 g6 g7 h0_0 g8 h0_1 g9 h0_2 g10 h0_3 h0_4 g11 g12 h1_0 h1_1 h1_2 h1_3 h1_4 h1_5 h1_6 h1_7 h1_8
  obtain ⟨hg,h⟩:=bif_some h
  simp only [Bool.and_eq_true] at hg
  obtain ⟨⟨⟨⟨⟨⟨⟨⟨⟨⟨⟨⟨q0,q1⟩,q2⟩,q3⟩,q4⟩,q5⟩,q6⟩,q7⟩,q8⟩,q9⟩,q10⟩,q11⟩,q12⟩:=hg
  obtain rfl:=nE q0
  obtain rfl:=bE q1
  obtain rfl:=bE q2
  obtain rfl:=nE q3
  obtain rfl:=bE q4
  obtain rfl:=bE q5
  obtain rfl:=nE q6
  obtain rfl:=cE q7
  obtain rfl:=cE q8
  obtain rfl:=cE q9
  obtain rfl:=cE q10
  obtain rfl:=nE q11
  obtain rfl:=cE q12
  refine ⟨((t3 - t5:Int).toNat+1),?_⟩
  rw [← h]
  exact loop_run (E13_2 t3 h0_0 h0_1 h0_2 h0_3 h0_4 h1_0 h1_1 h1_2 h1_3 h1_4 h1_5 h1_6 h1_7 h1_8) (K13_2 t3 h0_0 h0_1 h0_2 h0_3 h0_4 h1_0 h1_1 h1_2 h1_3 h1_4 h1_5 h1_6 h1_7 h1_8 k) (st13_2 t3 h0_0 h0_1 h0_2 h0_3 h0_4 h1_0 h1_1 h1_2 h1_3 h1_4 h1_5 h1_6 h1_7 h1_8 ce k) _ t5
 ·cases h
theorem s13_0 (h0_0 h0_1 h0_2 h0_3:List AV) (h0_4:Int) (ce:CallE) (k:Kont) (s:Int) (next:St→Option AV):stepA (codeA c13 ce [] 13 0 (sub [1,1,0,1,0,0] (body Tryz.f13))) (normA [] [1,3]) next ((E13_0 h0_0 h0_1 h0_2 h0_3 h0_4) s) k=G13_0 h0_0 h0_1 h0_2 h0_3 h0_4 s (fun s=>next ((E13_0 h0_0 h0_1 h0_2 h0_3 h0_4) s)) (K13_0 h0_0 h0_1 h0_2 h0_3 h0_4 k) none:=by kernel_rfl
theorem st13_0 (h0_0 h0_1 h0_2 h0_3:List AV) (h0_4:Int) (ce:CallE) (k:Kont) (s:Int) (next:St→Option AV):stepA (codeA c13 ce [] 13 0 (sub [1,1,0,1,0,0] (body Tryz.f13))) (normA [] [1,3]) next ((E13_0 h0_0 h0_1 h0_2 h0_3 h0_4) s) k=(R13_0 h0_0 h0_1 h0_2 h0_3 h0_4 s).el none (fun s=>next ((E13_0 h0_0 h0_1 h0_2 h0_3 h0_4) s)) (K13_0 h0_0 h0_1 h0_2 h0_3 h0_4 k):=(s13_0 h0_0 h0_1 h0_2 h0_3 h0_4 ce k s next).trans (by unfold R13_0;unfold F13_0 G13_0;simp only [el_cond,el_ro,el_sum,el_fail,el_next,el_stop] <;> rfl)
theorem ok13_0 {ce:CallE}:LoopOK c13 ce [] 13 0 (sub [1,1,0,1,0,0] (body Tryz.f13)):=by
 intro m hm st k r h
 obtain rfl:l13_0=m:=Option.some.inj hm
 unfold l13_0 at h
 split at h
 ·rename_i g0 g1 g2 t3 g3 g4 h0_0 g5 h0_1 g6 h0_2 g7 h0_3 h0_4
  obtain ⟨hg,h⟩:=bif_some h
  simp only [Bool.and_eq_true] at hg
  obtain ⟨⟨⟨⟨⟨⟨⟨q0,q1⟩,q2⟩,q3⟩,q4⟩,q5⟩,q6⟩,q7⟩:=hg
  obtain rfl:=nE q0
  obtain rfl:=bE q1
  obtain rfl:=bE q2
  obtain rfl:=nE q3
  obtain rfl:=cE q4
  obtain rfl:=cE q5
  obtain rfl:=cE q6
  obtain rfl:=cE q7
  refine ⟨(((h0_3.length:Int) - t3:Int).toNat+1),?_⟩
  rw [← h]
  exact loop_run (E13_0 h0_0 h0_1 h0_2 h0_3 h0_4) (K13_0 h0_0 h0_1 h0_2 h0_3 h0_4 k) (st13_0 h0_0 h0_1 h0_2 h0_3 h0_4 ce k) _ t3
 ·cases h
def q13 (xa xb xc xd:List AV) (xe:Int):Bool:=(q71 xa xb xc && (bif !(v71_0 xa xb xc) then true else (bif !(v72_0 (xd.length:Int) 1 3) then true else (bif !(v72_0 xe 0 100000) then true else (ro (runW (R13_0 xa xb xc xd xe) (((xd.length:Int) - 0:Int).toNat+1) 0) false (sumE (fun _=>true) (sumE (fun p71=>true) (fun p72=>true))))))))
def v13_0 (xa xb xc xd:List AV) (xe:Int):Bool:=(bif !(v71_0 xa xb xc) then false else (bif !(v72_0 (xd.length:Int) 1 3) then false else (bif !(v72_0 xe 0 100000) then false else (ro (runW (R13_0 xa xb xc xd xe) (((xd.length:Int) - 0:Int).toNat+1) 0) false (sumE (fun _=>true) (sumE (fun p71=>false) (fun p72=>false)))))))
theorem e13 (xa xb xc xd:List AV) (xe:Int):funA c13 0 13 [AV.agg [AV.sl [.int .i64] xa,AV.sl [.int .i64] xb,AV.sl [.int .i64,.int .i64] xc,AV.sl [.sl [.int .i64],.int .i64,.bool,.int .i64,.int .i64,.int .i64,.int .i64,.int .i64,.int .i64] xd,Ai xe]]=(bif q71 xa xb xc then (bif !(v71_0 xa xb xc) then some (AV.bool false)
 else (bif !(v72_0 (xd.length:Int) 1 3) then some (AV.bool false)
 else (bif !(v72_0 xe 0 100000) then some (AV.bool false)
 else (ro (runW (R13_0 xa xb xc xd xe) (((xd.length:Int) - 0:Int).toNat+1) 0) none (sumE (fun _=>some (AV.bool true)) (sumE (fun p71=>some (AV.bool false)) (fun p72=>some (AV.bool false))))))))
 else none):=by kernel_rfl
theorem r13 (xa xb xc xd:List AV) (xe:Int) (h:q13 xa xb xc xd xe=true):funA c13 0 13 [AV.agg [AV.sl [.int .i64] xa,AV.sl [.int .i64] xb,AV.sl [.int .i64,.int .i64] xc,AV.sl [.sl [.int .i64],.int .i64,.bool,.int .i64,.int .i64,.int .i64,.int .i64,.int .i64,.int .i64] xd,AV.int .i64 xe]]=some (AV.bool (v13_0 xa xb xc xd xe)):=by
 refine (e13 xa xb xc xd xe).trans ?_
 unfold q13 at h
 unfold v13_0
 refine ifG (fun hc=>?_) (fun hc=>?_) <;> first|rw [hc] at h ⊢|rw [hc] at h|rw [hc]|skip
 ·refine ifG (fun hc=>?_) (fun hc=>?_) <;> first|rw [hc] at h ⊢|rw [hc] at h|rw [hc]|skip
  ·rfl
  ·refine ifG (fun hc=>?_) (fun hc=>?_) <;> first|rw [hc] at h ⊢|rw [hc] at h|rw [hc]|skip
   ·rfl
   ·refine ifG (fun hc=>?_) (fun hc=>?_) <;> first|rw [hc] at h ⊢|rw [hc] at h|rw [hc]|skip
    ·rfl
    ·refine roG (fun hc=>?_) (fun r hc=>?_) <;> first|rw [hc] at h ⊢|rw [hc] at h|rw [hc]|skip
     ·exact Bool.noConfusion h
     ·try simp only [ro] at h ⊢
      cases r with
      | inl _ =>
       try simp only [sumE] at h ⊢
       rfl
      | inr r =>
       try simp only [sumE] at h ⊢
       cases r with
       | inl p71 =>
        try simp only [sumE] at h ⊢
        rfl
       | inr p72 =>
        try simp only [sumE] at h ⊢
        rfl
 ·first|exact Bool.noConfusion h|exact Bool.noConfusion hc
def m13:TModel
 | [.agg [.sl g0 xa,.sl g1 xb,.sl g2 xc,.sl g3 xd,.int .i64 xe]]=>bif ctsEq g0 ([.int .i64]) && ctsEq g1 ([.int .i64]) && ctsEq g2 ([.int .i64,.int .i64]) && ctsEq g3 ([.sl [.int .i64],.int .i64,.bool,.int .i64,.int .i64,.int .i64,.int .i64,.int .i64,.int .i64]) then some (q13 xa xb xc xd xe,AV.bool (v13_0 xa xb xc xd xe)) else none
 | _=>none
theorem k13:Known Tryz.prog 13:=⟨Tryz.f13,Tryz.func13,by kernel_rfl,by kernel_rfl⟩
theorem meets13:Meets Tryz.prog 13 m13:=by
 refine mt (lvl:=0) (cf:=c13) rfl mixed k13 Tryz.func13 (by kernel_rfl) (loops_cons ok13_0 (loops_cons ok13_2 noLoop)) (allT_cons meets71 (allT_cons meets72 (allT_cons meets73 (allT_cons meets74 allT_nil)))) allM_nil noI fun xs r h=>?_
 unfold m13 at h
 split at h
 ·rename_i g0 xa g1 xb g2 xc g3 xd xe
  obtain ⟨hg,h⟩:=bif_pair h
  simp only [Bool.and_eq_true] at hg
  obtain ⟨⟨⟨q0,q1⟩,q2⟩,q3⟩:=hg
  obtain rfl:=cE q0
  obtain rfl:=cE q1
  obtain rfl:=cE q2
  obtain rfl:=cE q3
  obtain ⟨h1,rfl⟩:=pair_inj h
  exact r13 xa xb xc xd xe h1
 ·cases h
end
end Go.Proofs.YtealoedecngaoaaGreatDoor
