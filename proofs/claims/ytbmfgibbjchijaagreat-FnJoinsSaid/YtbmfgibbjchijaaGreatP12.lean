import Derived.Test.YtbmfgibbjchijaaGreatP7
import Derived.Test.YtbmfgibbjchijaaGreatP10
import Derived.Test.YtbmfgibbjchijaaGreatP11
import Derived.Test.YtbmfgibbjchijaaGreatProg
import Derived.KernelRfl
namespace Go.Proofs.YtbmfgibbjchijaaGreat
open Go Go.Proofs.VE
set_option linter.unusedVariables false
set_option linter.unusedSimpArgs false
set_option maxRecDepth 100000
set_option maxHeartbeats 4000000
noncomputable section
def G61_4 {β:Type} (t50:List AV) (t51:Int) (t52:Int) (t103:List AV) (t104:Int) (h0_0:List AV) (h0_1:List AV) (h0_2:List AV) (h1_0:Int) (h1_1:Int) (t105:Int) (N:(Int)→β) (K:(Unit ⊕ Unit)→β) (d:β):β:=(bif decide (t105<t104) then (bif (decide (0≤t105) && decide (t105<(t103.length:Int))) then (bif !(decide (fI (t103.getD t105.toNat .undef) 0<h1_0) == decide (t105<h1_1)) then K (.inr ())
 else N (IntKind.i64.wrap (t105+1)))
 else d)
 else K (.inl ()))
def F61_4 (t50:List AV) (t51 t52:Int) (t103:List AV) (t104:Int) (h0_0 h0_1 h0_2:List AV) (h1_0 h1_1 t105:Int):Out (Int) (Unit ⊕ Unit):=G61_4 t50 t51 t52 t103 t104 h0_0 h0_1 h0_2 h1_0 h1_1 t105 .next .stop .fail
def R61_4 (t50:List AV) (t51 t52:Int) (t103:List AV) (t104:Int) (h0_0 h0_1 h0_2:List AV) (h1_0 h1_1:Int):(Int)→Out (Int) (Unit ⊕ Unit):=fun s:Int=>F61_4 t50 t51 t52 t103 t104 h0_0 h0_1 h0_2 h1_0 h1_1 s
def E61_4 (t50:List AV) (t51 t52:Int) (t103:List AV) (t104:Int) (h0_0 h0_1 h0_2:List AV) (h1_0 h1_1:Int):(Int)→St:=fun s:Int=>⟨[(1,AV.ptr [0,1] 0 0),(6,AV.ptr [0,6] 0 0),(50,AV.sl [.int .i64,.int .i64] t50),(51,Ai t51),(52,Ai t52),(103,AV.sl [.int .i64] t103),(104,Ai t104),(105,Ai s)],[([0,1],⟨true,[],[AV.agg [AV.sl [.int .i64] h0_0,AV.sl [.int .i64] h0_1,AV.sl [.int .i64,.int .i64] h0_2]]⟩),([0,6],⟨true,[],[AV.agg [Ai h1_0,Ai h1_1]]⟩)]⟩
def K61_4 (t50:List AV) (t51 t52:Int) (t103:List AV) (t104:Int) (h0_0 h0_1 h0_2:List AV) (h1_0 h1_1:Int) (k:Kont):(Unit ⊕ Unit)→Option AV:=sumE (fun _:Unit=>k (.exit 4) ⟨[(1,AV.ptr [0,1] 0 0),(50,AV.sl [.int .i64,.int .i64] t50),(51,Ai t51),(52,Ai t52)],[([0,1],⟨true,[],[AV.agg [AV.sl [.int .i64] h0_0,AV.sl [.int .i64] h0_1,AV.sl [.int .i64,.int .i64] h0_2]]⟩),([0,6],⟨true,[],[AV.agg [Ai h1_0,Ai h1_1]]⟩)]⟩) (fun _:Unit=>k .ret ⟨[(2,AV.bool false)],[([0,1],⟨true,[],[AV.agg [AV.sl [.int .i64] h0_0,AV.sl [.int .i64] h0_1,AV.sl [.int .i64,.int .i64] h0_2]]⟩),([0,6],⟨true,[],[AV.agg [Ai h1_0,Ai h1_1]]⟩)]⟩)
def l61_4:LModel:=fun _ _ st k=>match st with
 | ⟨[(1,.ptr g0 g1 g2),(6,.ptr g3 g4 g5),(50,.sl g6 t50),(51,.int .i64 t51),(52,.int .i64 t52),(103,.sl g7 t103),(104,.int .i64 t104),(105,.int .i64 t105)],[(g8,⟨true,[],[.agg [.sl g9 h0_0,.sl g10 h0_1,.sl g11 h0_2]]⟩),(g12,⟨true,[],[.agg [.int .i64 h1_0,.int .i64 h1_1]]⟩)]⟩=>bif nmEq g0 ([0,1]) && Nat.beq g1 0 && Nat.beq g2 0 && nmEq g3 ([0,6]) && Nat.beq g4 0 && Nat.beq g5 0 && ctsEq g6 ([.int .i64,.int .i64]) && ctsEq g7 ([.int .i64]) && nmEq g8 ([0,1]) && ctsEq g9 ([.int .i64]) && ctsEq g10 ([.int .i64]) && ctsEq g11 ([.int .i64,.int .i64]) && nmEq g12 ([0,6]) then ro (runW (R61_4 t50 t51 t52 t103 t104 h0_0 h0_1 h0_2 h1_0 h1_1) ((t104 - t105:Int).toNat+1) t105) none (K61_4 t50 t51 t52 t103 t104 h0_0 h0_1 h0_2 h1_0 h1_1 k) else none
 | _=>none
def G61_2 {β:Type} (t50:List AV) (t51:Int) (h0_0:List AV) (h0_1:List AV) (h0_2:List AV) (t52:Int) (N:(Int)→β) (K:(Unit ⊕ (Int × Int) ⊕ (Int × Int))→β) (d:β):β:=(bif decide (t52<t51) then (bif (decide (0≤t52) && decide (t52<(t50.length:Int))) then (bif !(v107_0 (fI (t50.getD t52.toNat .undef) 0)) then K (.inr (.inl (fI (t50.getD t52.toNat .undef) 0,fI (t50.getD t52.toNat .undef) 1)))
 else (bif decide (fI (t50.getD t52.toNat .undef) 1<0) then K (.inr (.inl (fI (t50.getD t52.toNat .undef) 0,fI (t50.getD t52.toNat .undef) 1)))
 else (bif decide (fI (t50.getD t52.toNat .undef) 1 > (h0_0.length:Int)) then K (.inr (.inl (fI (t50.getD t52.toNat .undef) 0,fI (t50.getD t52.toNat .undef) 1)))
 else (bif decide (t52 > 0) then (bif (decide (0≤IntKind.i64.wrap (t52 - 1)) && decide (IntKind.i64.wrap (t52 - 1)<(h0_2.length:Int))) then (bif decide (fI (t50.getD t52.toNat .undef) 0≤fI (h0_2.getD (IntKind.i64.wrap (t52 - 1)).toNat .undef) 0) then K (.inr (.inl (fI (t50.getD t52.toNat .undef) 0,fI (t50.getD t52.toNat .undef) 1)))
 else (bif (decide (0≤IntKind.i64.wrap (t52 - 1)) && decide (IntKind.i64.wrap (t52 - 1)<(h0_2.length:Int))) then (bif decide (fI (t50.getD t52.toNat .undef) 1<fI (h0_2.getD (IntKind.i64.wrap (t52 - 1)).toNat .undef) 1) then K (.inr (.inl (fI (t50.getD t52.toNat .undef) 0,fI (t50.getD t52.toNat .undef) 1)))
 else (ro (runW (R61_4 t50 t51 t52 h0_0 (h0_0.length:Int) h0_0 h0_1 h0_2 (fI (t50.getD t52.toNat .undef) 0) (fI (t50.getD t52.toNat .undef) 1)) (((h0_0.length:Int) - 0:Int).toNat+1) 0) d (sumE (fun _=>N (IntKind.i64.wrap (t52+1))) (fun _=>K (.inr (.inr (fI (t50.getD t52.toNat .undef) 0,fI (t50.getD t52.toNat .undef) 1)))))))
 else d))
 else d)
 else (ro (runW (R61_4 t50 t51 t52 h0_0 (h0_0.length:Int) h0_0 h0_1 h0_2 (fI (t50.getD t52.toNat .undef) 0) (fI (t50.getD t52.toNat .undef) 1)) (((h0_0.length:Int) - 0:Int).toNat+1) 0) d (sumE (fun _=>N (IntKind.i64.wrap (t52+1))) (fun _=>K (.inr (.inr (fI (t50.getD t52.toNat .undef) 0,fI (t50.getD t52.toNat .undef) 1))))))))))
 else d)
 else K (.inl ()))
def F61_2 (t50:List AV) (t51:Int) (h0_0 h0_1 h0_2:List AV) (t52:Int):Out (Int) (Unit ⊕ (Int × Int) ⊕ (Int × Int)):=G61_2 t50 t51 h0_0 h0_1 h0_2 t52 .next .stop .fail
def R61_2 (t50:List AV) (t51:Int) (h0_0 h0_1 h0_2:List AV):(Int)→Out (Int) (Unit ⊕ (Int × Int) ⊕ (Int × Int)):=fun s:Int=>F61_2 t50 t51 h0_0 h0_1 h0_2 s
def E61_2 (t50:List AV) (t51:Int) (h0_0 h0_1 h0_2:List AV):(Int)→St:=fun s:Int=>⟨[(1,AV.ptr [0,1] 0 0),(50,AV.sl [.int .i64,.int .i64] t50),(51,Ai t51),(52,Ai s)],[([0,1],⟨true,[],[AV.agg [AV.sl [.int .i64] h0_0,AV.sl [.int .i64] h0_1,AV.sl [.int .i64,.int .i64] h0_2]]⟩)]⟩
def K61_2 (t50:List AV) (t51:Int) (h0_0 h0_1 h0_2:List AV) (k:Kont):(Unit ⊕ (Int × Int) ⊕ (Int × Int))→Option AV:=sumE (fun _:Unit=>k (.exit 2) ⟨[],[([0,1],⟨true,[],[AV.agg [AV.sl [.int .i64] h0_0,AV.sl [.int .i64] h0_1,AV.sl [.int .i64,.int .i64] h0_2]]⟩)]⟩) (sumE (fun p:Int × Int=>k .ret ⟨[(2,AV.bool false)],[([0,1],⟨true,[],[AV.agg [AV.sl [.int .i64] h0_0,AV.sl [.int .i64] h0_1,AV.sl [.int .i64,.int .i64] h0_2]]⟩),([1,6],⟨true,[],[AV.agg [Ai p.1,Ai p.2]]⟩)]⟩) (fun p:Int × Int=>k .ret ⟨[(2,AV.bool false)],[([0,1],⟨true,[],[AV.agg [AV.sl [.int .i64] h0_0,AV.sl [.int .i64] h0_1,AV.sl [.int .i64,.int .i64] h0_2]]⟩),([0,6],⟨true,[],[AV.agg [Ai p.1,Ai p.2]]⟩)]⟩))
def l61_2:LModel:=fun _ _ st k=>match st with
 | ⟨[(1,.ptr g0 g1 g2),(50,.sl g3 t50),(51,.int .i64 t51),(52,.int .i64 t52)],[(g4,⟨true,[],[.agg [.sl g5 h0_0,.sl g6 h0_1,.sl g7 h0_2]]⟩)]⟩=>bif nmEq g0 ([0,1]) && Nat.beq g1 0 && Nat.beq g2 0 && ctsEq g3 ([.int .i64,.int .i64]) && nmEq g4 ([0,1]) && ctsEq g5 ([.int .i64]) && ctsEq g6 ([.int .i64]) && ctsEq g7 ([.int .i64,.int .i64]) then ro (runW (R61_2 t50 t51 h0_0 h0_1 h0_2) ((t51 - t52:Int).toNat+1) t52) none (K61_2 t50 t51 h0_0 h0_1 h0_2 k) else none
 | _=>none
def G61_0 {β:Type} (t35:List AV) (t36:Int) (h0_0:List AV) (h0_1:List AV) (h0_2:List AV) (t37:Int) (N:(Int)→β) (K:(Unit ⊕ Unit)→β) (d:β):β:=(bif decide (t37<t36) then (bif (decide (0≤t37) && decide (t37<(t35.length:Int))) then (bif (decide (0≤0) && decide (0≤t37) && decide (t37≤(h0_1.length:Int))) then (bif q48 ((h0_1.take (Int.toNat t37)).drop (Int.toNat 0)) (fI (t35.getD t37.toNat .undef) 0) then (bif (v48_0 ((h0_1.take (Int.toNat t37)).drop (Int.toNat 0)) (fI (t35.getD t37.toNat .undef) 0)) then K (.inr ())
 else N (IntKind.i64.wrap (t37+1)))
 else d)
 else d)
 else d)
 else K (.inl ()))
def F61_0 (t35:List AV) (t36:Int) (h0_0 h0_1 h0_2:List AV) (t37:Int):Out (Int) (Unit ⊕ Unit):=G61_0 t35 t36 h0_0 h0_1 h0_2 t37 .next .stop .fail
def R61_0 (t35:List AV) (t36:Int) (h0_0 h0_1 h0_2:List AV):(Int)→Out (Int) (Unit ⊕ Unit):=fun s:Int=>F61_0 t35 t36 h0_0 h0_1 h0_2 s
def E61_0 (t35:List AV) (t36:Int) (h0_0 h0_1 h0_2:List AV):(Int)→St:=fun s:Int=>⟨[(1,AV.ptr [0,1] 0 0),(35,AV.sl [.int .i64] t35),(36,Ai t36),(37,Ai s)],[([0,1],⟨true,[],[AV.agg [AV.sl [.int .i64] h0_0,AV.sl [.int .i64] h0_1,AV.sl [.int .i64,.int .i64] h0_2]]⟩)]⟩
def K61_0 (t35:List AV) (t36:Int) (h0_0 h0_1 h0_2:List AV) (k:Kont):(Unit ⊕ Unit)→Option AV:=sumE (fun _:Unit=>k (.exit 0) ⟨[(1,AV.ptr [0,1] 0 0)],[([0,1],⟨true,[],[AV.agg [AV.sl [.int .i64] h0_0,AV.sl [.int .i64] h0_1,AV.sl [.int .i64,.int .i64] h0_2]]⟩)]⟩) (fun _:Unit=>k .ret ⟨[(2,AV.bool false)],[([0,1],⟨true,[],[AV.agg [AV.sl [.int .i64] h0_0,AV.sl [.int .i64] h0_1,AV.sl [.int .i64,.int .i64] h0_2]]⟩)]⟩)
def l61_0:LModel:=fun _ _ st k=>match st with
 | ⟨[(1,.ptr g0 g1 g2),(35,.sl g3 t35),(36,.int .i64 t36),(37,.int .i64 t37)],[(g4,⟨true,[],[.agg [.sl g5 h0_0,.sl g6 h0_1,.sl g7 h0_2]]⟩)]⟩=>bif nmEq g0 ([0,1]) && Nat.beq g1 0 && Nat.beq g2 0 && ctsEq g3 ([.int .i64]) && nmEq g4 ([0,1]) && ctsEq g5 ([.int .i64]) && ctsEq g6 ([.int .i64]) && ctsEq g7 ([.int .i64,.int .i64]) then ro (runW (R61_0 t35 t36 h0_0 h0_1 h0_2) ((t36 - t37:Int).toNat+1) t37) none (K61_0 t35 t36 h0_0 h0_1 h0_2 k) else none
 | _=>none
noncomputable def c61:Cfg:=cfg Tryz.prog [(61,0,[1,35,36,37]),(61,2,[1,50,51,52]),(61,4,[1,6,50,51,52,103,104,105]),(61,999,[2]),(61,1000,[1]),(61,1001,[1,35,36,37]),(61,1002,[]),(61,1003,[1,50,51,52]),(61,1004,[1,50,51,52]),(61,1005,[1,6,50,51,52,103,104,105])] [(48,m48),(79,m79),(106,m106),(107,m107)] [] [] [(61,0,l61_0),(61,2,l61_2),(61,4,l61_4)]
theorem s61_4 (t50:List AV) (t51 t52:Int) (t103:List AV) (t104:Int) (h0_0 h0_1 h0_2:List AV) (h1_0 h1_1:Int) (ce:CallE) (k:Kont) (s:Int) (next:St→Option AV):stepA (codeA c61 ce [] 61 4 (sub [1,1,1,0,1,0,0,1,1,0,0,1,1,1,0,0] (body Tryz.f61))) (normA [] [1,6,50,51,52,103,104,105]) next ((E61_4 t50 t51 t52 t103 t104 h0_0 h0_1 h0_2 h1_0 h1_1) s) k=G61_4 t50 t51 t52 t103 t104 h0_0 h0_1 h0_2 h1_0 h1_1 s (fun s=>next ((E61_4 t50 t51 t52 t103 t104 h0_0 h0_1 h0_2 h1_0 h1_1) s)) (K61_4 t50 t51 t52 t103 t104 h0_0 h0_1 h0_2 h1_0 h1_1 k) none:=by kernel_rfl
theorem st61_4 (t50:List AV) (t51 t52:Int) (t103:List AV) (t104:Int) (h0_0 h0_1 h0_2:List AV) (h1_0 h1_1:Int) (ce:CallE) (k:Kont) (s:Int) (next:St→Option AV):stepA (codeA c61 ce [] 61 4 (sub [1,1,1,0,1,0,0,1,1,0,0,1,1,1,0,0] (body Tryz.f61))) (normA [] [1,6,50,51,52,103,104,105]) next ((E61_4 t50 t51 t52 t103 t104 h0_0 h0_1 h0_2 h1_0 h1_1) s) k=(R61_4 t50 t51 t52 t103 t104 h0_0 h0_1 h0_2 h1_0 h1_1 s).el none (fun s=>next ((E61_4 t50 t51 t52 t103 t104 h0_0 h0_1 h0_2 h1_0 h1_1) s)) (K61_4 t50 t51 t52 t103 t104 h0_0 h0_1 h0_2 h1_0 h1_1 k):=(s61_4 t50 t51 t52 t103 t104 h0_0 h0_1 h0_2 h1_0 h1_1 ce k s next).trans (by unfold R61_4;unfold F61_4 G61_4;simp only [el_cond,el_ro,el_sum,el_fail,el_next,el_stop] <;> rfl)
theorem ok61_4 {ce:CallE}:LoopOK c61 ce [] 61 4 (sub [1,1,1,0,1,0,0,1,1,0,0,1,1,1,0,0] (body Tryz.f61)):=by
 intro m hm st k r h
 obtain rfl:l61_4=m:=Option.some.inj hm
 unfold l61_4 at h
 split at h
 ·rename_i g0 g1 g2 g3 g4 g5 g6 t50 t51 t52 g7 t103 t104 t105 g8 g9 h0_0 g10 h0_1 g11 h0_2 g12 h1_0 h1_1
  obtain ⟨hg,h⟩:=bif_some h
  simp only [Bool.and_eq_true] at hg
  obtain ⟨⟨⟨⟨⟨⟨⟨⟨⟨⟨⟨⟨q0,q1⟩,q2⟩,q3⟩,q4⟩,q5⟩,q6⟩,q7⟩,q8⟩,q9⟩,q10⟩,q11⟩,q12⟩:=hg
  obtain rfl:=nE q0
  obtain rfl:=bE q1
  obtain rfl:=bE q2
  obtain rfl:=nE q3
  obtain rfl:=bE q4
  obtain rfl:=bE q5
  obtain rfl:=cE q6
  obtain rfl:=cE q7
  obtain rfl:=nE q8
  obtain rfl:=cE q9
  obtain rfl:=cE q10
  obtain rfl:=cE q11
  obtain rfl:=nE q12
  refine ⟨((t104 - t105:Int).toNat+1),?_⟩
  rw [← h]
  exact loop_run (E61_4 t50 t51 t52 t103 t104 h0_0 h0_1 h0_2 h1_0 h1_1) (K61_4 t50 t51 t52 t103 t104 h0_0 h0_1 h0_2 h1_0 h1_1 k) (st61_4 t50 t51 t52 t103 t104 h0_0 h0_1 h0_2 h1_0 h1_1 ce k) _ t105
 ·cases h
theorem s61_2 (t50:List AV) (t51:Int) (h0_0 h0_1 h0_2:List AV) (ce:CallE) (k:Kont) (s:Int) (next:St→Option AV):stepA (codeA c61 ce [] 61 2 (sub [1,1,1,0,1,0,0] (body Tryz.f61))) (normA [] [1,50,51,52]) next ((E61_2 t50 t51 h0_0 h0_1 h0_2) s) k=G61_2 t50 t51 h0_0 h0_1 h0_2 s (fun s=>next ((E61_2 t50 t51 h0_0 h0_1 h0_2) s)) (K61_2 t50 t51 h0_0 h0_1 h0_2 k) none:=by kernel_rfl
theorem st61_2 (t50:List AV) (t51:Int) (h0_0 h0_1 h0_2:List AV) (ce:CallE) (k:Kont) (s:Int) (next:St→Option AV):stepA (codeA c61 ce [] 61 2 (sub [1,1,1,0,1,0,0] (body Tryz.f61))) (normA [] [1,50,51,52]) next ((E61_2 t50 t51 h0_0 h0_1 h0_2) s) k=(R61_2 t50 t51 h0_0 h0_1 h0_2 s).el none (fun s=>next ((E61_2 t50 t51 h0_0 h0_1 h0_2) s)) (K61_2 t50 t51 h0_0 h0_1 h0_2 k):=(s61_2 t50 t51 h0_0 h0_1 h0_2 ce k s next).trans (by unfold R61_2;unfold F61_2 G61_2;simp only [el_cond,el_ro,el_sum,el_fail,el_next,el_stop] <;> rfl)
theorem ok61_2 {ce:CallE}:LoopOK c61 ce [] 61 2 (sub [1,1,1,0,1,0,0] (body Tryz.f61)):=by
 intro m hm st k r h
 obtain rfl:l61_2=m:=Option.some.inj hm
 unfold l61_2 at h
 split at h
 ·rename_i g0 g1 g2 g3 t50 t51 t52 g4 g5 h0_0 g6 h0_1 g7 h0_2
  obtain ⟨hg,h⟩:=bif_some h
  simp only [Bool.and_eq_true] at hg
  obtain ⟨⟨⟨⟨⟨⟨⟨q0,q1⟩,q2⟩,q3⟩,q4⟩,q5⟩,q6⟩,q7⟩:=hg
  obtain rfl:=nE q0
  obtain rfl:=bE q1
  obtain rfl:=bE q2
  obtain rfl:=cE q3
  obtain rfl:=nE q4
  obtain rfl:=cE q5
  obtain rfl:=cE q6
  obtain rfl:=cE q7
  refine ⟨((t51 - t52:Int).toNat+1),?_⟩
  rw [← h]
  exact loop_run (E61_2 t50 t51 h0_0 h0_1 h0_2) (K61_2 t50 t51 h0_0 h0_1 h0_2 k) (st61_2 t50 t51 h0_0 h0_1 h0_2 ce k) _ t52
 ·cases h
theorem s61_0 (t35:List AV) (t36:Int) (h0_0 h0_1 h0_2:List AV) (ce:CallE) (k:Kont) (s:Int) (next:St→Option AV):stepA (codeA c61 ce [] 61 0 (sub [1,1,0,1,0,0] (body Tryz.f61))) (normA [] [1,35,36,37]) next ((E61_0 t35 t36 h0_0 h0_1 h0_2) s) k=G61_0 t35 t36 h0_0 h0_1 h0_2 s (fun s=>next ((E61_0 t35 t36 h0_0 h0_1 h0_2) s)) (K61_0 t35 t36 h0_0 h0_1 h0_2 k) none:=by kernel_rfl
theorem st61_0 (t35:List AV) (t36:Int) (h0_0 h0_1 h0_2:List AV) (ce:CallE) (k:Kont) (s:Int) (next:St→Option AV):stepA (codeA c61 ce [] 61 0 (sub [1,1,0,1,0,0] (body Tryz.f61))) (normA [] [1,35,36,37]) next ((E61_0 t35 t36 h0_0 h0_1 h0_2) s) k=(R61_0 t35 t36 h0_0 h0_1 h0_2 s).el none (fun s=>next ((E61_0 t35 t36 h0_0 h0_1 h0_2) s)) (K61_0 t35 t36 h0_0 h0_1 h0_2 k):=(s61_0 t35 t36 h0_0 h0_1 h0_2 ce k s next).trans (by unfold R61_0;unfold F61_0 G61_0;simp only [el_cond,el_ro,el_sum,el_fail,el_next,el_stop] <;> rfl)
theorem ok61_0 {ce:CallE}:LoopOK c61 ce [] 61 0 (sub [1,1,0,1,0,0] (body Tryz.f61)):=by
 intro m hm st k r h
 obtain rfl:l61_0=m:=Option.some.inj hm
 unfold l61_0 at h
 split at h
 ·rename_i g0 g1 g2 g3 t35 t36 t37 g4 g5 h0_0 g6 h0_1 g7 h0_2
  obtain ⟨hg,h⟩:=bif_some h
  simp only [Bool.and_eq_true] at hg
  obtain ⟨⟨⟨⟨⟨⟨⟨q0,q1⟩,q2⟩,q3⟩,q4⟩,q5⟩,q6⟩,q7⟩:=hg
  obtain rfl:=nE q0
  obtain rfl:=bE q1
  obtain rfl:=bE q2
  obtain rfl:=cE q3
  obtain rfl:=nE q4
  obtain rfl:=cE q5
  obtain rfl:=cE q6
  obtain rfl:=cE q7
  refine ⟨((t36 - t37:Int).toNat+1),?_⟩
  rw [← h]
  exact loop_run (E61_0 t35 t36 h0_0 h0_1 h0_2) (K61_0 t35 t36 h0_0 h0_1 h0_2 k) (st61_0 t35 t36 h0_0 h0_1 h0_2 ce k) _ t37
 ·cases h
def q61 (xa xb xc:List AV):Bool:=(q79 xa && (bif !(v79_0 xa) then true else (bif !decide ((xb.length:Int)=(xa.length:Int)) then true else (q106 xb 0 999 && (bif !(v106_0 xb 0 999) then true else (bif decide ((xc.length:Int) > 2001) then true else (ro (runW (R61_0 xb (xb.length:Int) xa xb xc) (((xb.length:Int) - 0:Int).toNat+1) 0) false (sumE (fun _=>(ro (runW (R61_2 xc (xc.length:Int) xa xb xc) (((xc.length:Int) - 0:Int).toNat+1) 0) false (sumE (fun _=>true) (sumE (fun p37=>true) (fun p38=>true))))) (fun _=>true)))))))))
def v61_0 (xa xb xc:List AV):Bool:=(bif !(v79_0 xa) then false else (bif !decide ((xb.length:Int)=(xa.length:Int)) then false else (bif !(v106_0 xb 0 999) then false else (bif decide ((xc.length:Int) > 2001) then false else (ro (runW (R61_0 xb (xb.length:Int) xa xb xc) (((xb.length:Int) - 0:Int).toNat+1) 0) false (sumE (fun _=>(ro (runW (R61_2 xc (xc.length:Int) xa xb xc) (((xc.length:Int) - 0:Int).toNat+1) 0) false (sumE (fun _=>true) (sumE (fun p37=>false) (fun p38=>false))))) (fun _=>false)))))))
theorem e61 (xa xb xc:List AV):funA c61 0 61 [AV.agg [AV.sl [.int .i64] xa,AV.sl [.int .i64] xb,AV.sl [.int .i64,.int .i64] xc]]=(bif q79 xa then (bif !(v79_0 xa) then some (AV.bool false)
 else (bif !decide ((xb.length:Int)=(xa.length:Int)) then some (AV.bool false)
 else (bif q106 xb 0 999 then (bif !(v106_0 xb 0 999) then some (AV.bool false)
 else (bif decide ((xc.length:Int) > 2001) then some (AV.bool false)
 else (ro (runW (R61_0 xb (xb.length:Int) xa xb xc) (((xb.length:Int) - 0:Int).toNat+1) 0) none (sumE (fun _=>(ro (runW (R61_2 xc (xc.length:Int) xa xb xc) (((xc.length:Int) - 0:Int).toNat+1) 0) none (sumE (fun _=>some (AV.bool true)) (sumE (fun p37=>some (AV.bool false)) (fun p38=>some (AV.bool false)))))) (fun _=>some (AV.bool false))))))
 else none)))
 else none):=by kernel_rfl
theorem r61 (xa xb xc:List AV) (h:q61 xa xb xc=true):funA c61 0 61 [AV.agg [AV.sl [.int .i64] xa,AV.sl [.int .i64] xb,AV.sl [.int .i64,.int .i64] xc]]=some (AV.bool (v61_0 xa xb xc)):=by
 refine (e61 xa xb xc).trans ?_
 unfold q61 at h
 unfold v61_0
 refine ifG (fun hc=>?_) (fun hc=>?_) <;> first|rw [hc] at h ⊢|rw [hc] at h|rw [hc]|skip
 ·refine ifG (fun hc=>?_) (fun hc=>?_) <;> first|rw [hc] at h ⊢|rw [hc] at h|rw [hc]|skip
  ·rfl
  ·refine ifG (fun hc=>?_) (fun hc=>?_) <;> first|rw [hc] at h ⊢|rw [hc] at h|rw [hc]|skip
   ·rfl
   ·refine ifG (fun hc=>?_) (fun hc=>?_) <;> first|rw [hc] at h ⊢|rw [hc] at h|rw [hc]|skip
    ·refine ifG (fun hc=>?_) (fun hc=>?_) <;> first|rw [hc] at h ⊢|rw [hc] at h|rw [hc]|skip
     ·rfl
     ·refine ifG (fun hc=>?_) (fun hc=>?_) <;> first|rw [hc] at h ⊢|rw [hc] at h|rw [hc]|skip
      ·rfl
      ·refine roG (fun hc=>?_) (fun r hc=>?_) <;> first|rw [hc] at h ⊢|rw [hc] at h|rw [hc]|skip
       ·exact Bool.noConfusion h
       ·try simp only [ro] at h ⊢
        cases r with
        | inl _ =>
         try simp only [sumE] at h ⊢
         refine roG (fun hc=>?_) (fun r hc=>?_) <;> first|rw [hc] at h ⊢|rw [hc] at h|rw [hc]|skip
         ·exact Bool.noConfusion h
         ·try simp only [ro] at h ⊢
          cases r with
          | inl _ =>
           try simp only [sumE] at h ⊢
           rfl
          | inr r =>
           try simp only [sumE] at h ⊢
           cases r with
           | inl p37 =>
            try simp only [sumE] at h ⊢
            rfl
           | inr p38 =>
            try simp only [sumE] at h ⊢
            rfl
        | inr _ =>
         try simp only [sumE] at h ⊢
         rfl
    ·first|exact Bool.noConfusion h|exact Bool.noConfusion hc
 ·first|exact Bool.noConfusion h|exact Bool.noConfusion hc
def m61:TModel
 | [.agg [.sl g0 xa,.sl g1 xb,.sl g2 xc]]=>bif ctsEq g0 ([.int .i64]) && ctsEq g1 ([.int .i64]) && ctsEq g2 ([.int .i64,.int .i64]) then some (q61 xa xb xc,AV.bool (v61_0 xa xb xc)) else none
 | _=>none
theorem k61:Known Tryz.prog 61:=⟨Tryz.f61,Tryz.func61,by kernel_rfl,by kernel_rfl⟩
theorem meets61:Meets Tryz.prog 61 m61:=by
 refine mt (lvl:=0) (cf:=c61) rfl mixed k61 Tryz.func61 (by kernel_rfl) (loops_cons ok61_0 (loops_cons ok61_2 (loops_cons ok61_4 noLoop))) (allT_cons meets48 (allT_cons meets79 (allT_cons meets106 (allT_cons meets107 allT_nil)))) allM_nil noI fun xs r h=>?_
 unfold m61 at h
 split at h
 ·rename_i g0 xa g1 xb g2 xc
  obtain ⟨hg,h⟩:=bif_pair h
  simp only [Bool.and_eq_true] at hg
  obtain ⟨⟨q0,q1⟩,q2⟩:=hg
  obtain rfl:=cE q0
  obtain rfl:=cE q1
  obtain rfl:=cE q2
  obtain ⟨h1,rfl⟩:=pair_inj h
  exact r61 xa xb xc h1
 ·cases h
noncomputable def c45:Cfg:=cfg Tryz.prog [(45,999,[2])] [] [] [] []
def v45_0 (xa xb:Int):Bool:=(bif decide ((-1000)≤xa) then (bif decide (xa≤xb) then decide (xb≤1000) else false) else false)
theorem e45 (xa xb:Int):funA c45 0 45 [AV.agg [Ai xa,Ai xb]]=(bif decide ((-1000)≤xa) then (bif decide (xa≤xb) then some (AV.bool (decide (xb≤1000)))
 else some (AV.bool false))
 else some (AV.bool false)):=by kernel_rfl
def m45:TModel
 | [.agg [.int .i64 xa,.int .i64 xb]]=>some (true,AV.bool (v45_0 xa xb))
 | _=>none
theorem k45:Known Tryz.prog 45:=⟨Tryz.f45,Tryz.func45,by kernel_rfl,by kernel_rfl⟩
theorem meets45:Meets Tryz.prog 45 m45:=by
 refine mt (lvl:=0) (cf:=c45) rfl mixed k45 Tryz.func45 (by kernel_rfl) noLoop allT_nil allM_nil noI fun xs r h=>?_
 unfold m45 at h
 split at h
 ·rename_i xa xb
  obtain ⟨h1,rfl⟩:=pair_inj h
  exact (e45 xa xb).trans (of_tt (brT (fun b=>some (AV.bool (bif b then (bif decide (xa≤xb) then decide (xb≤1000) else false) else false))) (brT (fun b=>some (AV.bool (bif b then decide (xb≤1000) else false))) (fun _=>rfl) (fun _=>rfl)) (fun _=>rfl)))
 ·cases h
noncomputable def c108:Cfg:=cfg Tryz.prog [(108,999,[2])] [] [] [] []
def q108 (a0:List AV):Bool:=decide (a0.length*8≤140737488355328) && decide (a0.length≤140737488355328)
def v108_0 (a0:List AV):List AV:=a0
theorem e108 (a0:List AV):funA c108 0 108 [AV.sl [.int .i64] a0]=(bif decide (0<a0.length) then (bif (decide ((([]:List AV).length+a0.length)*8≤140737488355328) && decide ((([]:List AV).length+a0.length)≤140737488355328)) then some (AV.fl [.int .i64] (([]:List AV)++a0))
 else none)
 else none):=by kernel_rfl
theorem e108n (b:Bool):funA c108 0 108 [AV.sle b [.int .i64]]=some (AV.fl [.int .i64] []):=by cases b <;> kernel_rfl
def m108:TModel
 | [.sl g0 a0]=>bif ctsEq g0 [.int .i64] then some (q108 a0,AV.fl [.int .i64] (v108_0 a0)) else none
 | _=>none
theorem k108:Known Tryz.prog 108:=⟨Tryz.f108,Tryz.func108,by kernel_rfl,by kernel_rfl⟩
theorem meets108:Meets Tryz.prog 108 m108:=by
 refine meet_nil (f:=Tryz.f108) (l:=[]) (hs:=[(108,999,[2])]) (ts:=[]) (ws:=[]) (is:=[]) (ls:=[]) (lvl:=0) (tys:=[.int .i64]) mixed k108 Tryz.func108 (by kernel_rfl) noLoop allT_nil allM_nil noI (fun xs r h=>?_) (fun b r h=>?_) (fun ys r h0 h=>?_)
 ·unfold m108 at h
  split at h
  ·rename_i g0 a0
   obtain ⟨hg,h⟩:=bif_pair h
   obtain rfl:=ctsEq_eq _ _ hg
   exact ⟨a0,rfl⟩
  ·cases h
 ·obtain ⟨hg,h⟩:=bif_pair (g:=ctsEq [.int .i64] [.int .i64]) h
  obtain ⟨_,rfl⟩:=pair_inj h
  exact e108n b
 ·obtain ⟨hg,h⟩:=bif_pair (g:=ctsEq [.int .i64] [.int .i64]) h
  obtain ⟨hq,rfl⟩:=pair_inj h
  refine (e108 ys).trans ?_
  unfold q108 at hq
  have e:([]:List AV).length+ys.length=ys.length:=by simp
  rw [e,hq,decide_eq_true h0]
  rfl
noncomputable def c109:Cfg:=cfg Tryz.prog [(109,999,[2])] [] [] [] []
def q109 (a0:List AV):Bool:=decide (a0.length*16≤140737488355328) && decide (a0.length≤140737488355328)
def v109_0 (a0:List AV):List AV:=a0
theorem e109 (a0:List AV):funA c109 0 109 [AV.sl [.int .i64,.int .i64] a0]=(bif decide (0<a0.length) then (bif (decide ((([]:List AV).length+a0.length)*16≤140737488355328) && decide ((([]:List AV).length+a0.length)≤140737488355328)) then some (AV.fl [.int .i64,.int .i64] (([]:List AV)++a0))
 else none)
 else none):=by kernel_rfl
theorem e109n (b:Bool):funA c109 0 109 [AV.sle b [.int .i64,.int .i64]]=some (AV.fl [.int .i64,.int .i64] []):=by cases b <;> kernel_rfl
def m109:TModel
 | [.sl g0 a0]=>bif ctsEq g0 [.int .i64,.int .i64] then some (q109 a0,AV.fl [.int .i64,.int .i64] (v109_0 a0)) else none
 | _=>none
theorem k109:Known Tryz.prog 109:=⟨Tryz.f109,Tryz.func109,by kernel_rfl,by kernel_rfl⟩
theorem meets109:Meets Tryz.prog 109 m109:=by
 refine meet_nil (f:=Tryz.f109) (l:=[]) (hs:=[(109,999,[2])]) (ts:=[]) (ws:=[]) (is:=[]) (ls:=[]) (lvl:=0) (tys:=[.int .i64,.int .i64]) mixed k109 Tryz.func109 (by kernel_rfl) noLoop allT_nil allM_nil noI (fun xs r h=>?_) (fun b r h=>?_) (fun ys r h0 h=>?_)
 ·unfold m109 at h
  split at h
  ·rename_i g0 a0
   obtain ⟨hg,h⟩:=bif_pair h
   obtain rfl:=ctsEq_eq _ _ hg
   exact ⟨a0,rfl⟩
  ·cases h
 ·obtain ⟨hg,h⟩:=bif_pair (g:=ctsEq [.int .i64,.int .i64] [.int .i64,.int .i64]) h
  obtain ⟨_,rfl⟩:=pair_inj h
  exact e109n b
 ·obtain ⟨hg,h⟩:=bif_pair (g:=ctsEq [.int .i64,.int .i64] [.int .i64,.int .i64]) h
  obtain ⟨hq,rfl⟩:=pair_inj h
  refine (e109 ys).trans ?_
  unfold q109 at hq
  have e:([]:List AV).length+ys.length=ys.length:=by simp
  rw [e,hq,decide_eq_true h0]
  rfl
noncomputable def c64:Cfg:=cfg Tryz.prog [(64,999,[2])] [(108,m108),(109,m109)] [] [] []
def q64 (xa xb xc:List AV):Bool:=(q108 xa && (q108 xb && q109 xc))
def v64_0 (xa xb xc:List AV):List AV:=(v108_0 xa)
def v64_1 (xa xb xc:List AV):List AV:=(v108_0 xb)
def v64_2 (xa xb xc:List AV):List AV:=(v109_0 xc)
theorem e64 (xa xb xc:List AV):funA c64 0 64 [AV.agg [AV.sl [.int .i64] xa,AV.sl [.int .i64] xb,AV.sl [.int .i64,.int .i64] xc]]=(bif q108 xa then (bif q108 xb then (bif q109 xc then some (AV.agg [AV.fl [.int .i64] (v108_0 xa),AV.fl [.int .i64] (v108_0 xb),AV.fl [.int .i64,.int .i64] (v109_0 xc)])
 else none)
 else none)
 else none):=by kernel_rfl
def m64:TModel
 | [.agg [.sl g0 xa,.sl g1 xb,.sl g2 xc]]=>bif ctsEq g0 ([.int .i64]) && ctsEq g1 ([.int .i64]) && ctsEq g2 ([.int .i64,.int .i64]) then some (q64 xa xb xc,AV.agg [AV.fl [.int .i64] (v64_0 xa xb xc),AV.fl [.int .i64] (v64_1 xa xb xc),AV.fl [.int .i64,.int .i64] (v64_2 xa xb xc)]) else none
 | _=>none
theorem k64:Known Tryz.prog 64:=⟨Tryz.f64,Tryz.func64,by kernel_rfl,by kernel_rfl⟩
theorem meets64:Meets Tryz.prog 64 m64:=by
 refine mt (lvl:=0) (cf:=c64) rfl mixed k64 Tryz.func64 (by kernel_rfl) noLoop (allT_cons meets108 (allT_cons meets109 allT_nil)) allM_nil noI fun xs r h=>?_
 unfold m64 at h
 split at h
 ·rename_i g0 xa g1 xb g2 xc
  obtain ⟨hg,h⟩:=bif_pair h
  simp only [Bool.and_eq_true] at hg
  obtain ⟨⟨q0,q1⟩,q2⟩:=hg
  obtain rfl:=cE q0
  obtain rfl:=cE q1
  obtain rfl:=cE q2
  obtain ⟨h1,rfl⟩:=pair_inj h
  exact (e64 xa xb xc).trans ((brL (brL (brL1 (fun _=>rfl)))) h1)
 ·cases h
def G111_0 {β:Type} (t1:Int) (t9:List AV) (t10:Int) (t11:Int) (N:(Int)→β) (K:(Unit ⊕ (Int × Int × Int))→β) (d:β):β:=(bif decide (t11<t10) then (bif (decide (0≤t11) && decide (t11<(t9.length:Int))) then (bif decide (fI (t9.getD t11.toNat .undef) 0=t1) then K (.inr (fI (t9.getD t11.toNat .undef) 1,fI (t9.getD t11.toNat .undef) 0,fI (t9.getD t11.toNat .undef) 1))
 else N (IntKind.i64.wrap (t11+1)))
 else d)
 else K (.inl ()))
def F111_0 (t1:Int) (t9:List AV) (t10 t11:Int):Out (Int) (Unit ⊕ (Int × Int × Int)):=G111_0 t1 t9 t10 t11 .next .stop .fail
def R111_0 (t1:Int) (t9:List AV) (t10:Int):(Int)→Out (Int) (Unit ⊕ (Int × Int × Int)):=fun s:Int=>F111_0 t1 t9 t10 s
def E111_0 (t1:Int) (t9:List AV) (t10:Int):(Int)→St:=fun s:Int=>⟨[(1,Ai t1),(9,AV.sl [.int .i64,.int .i64] t9),(10,Ai t10),(11,Ai s)],[]⟩
def K111_0 (t1:Int) (t9:List AV) (t10:Int) (k:Kont):(Unit ⊕ (Int × Int × Int))→Option AV:=sumE (fun _:Unit=>k (.exit 0) ⟨[],[]⟩) (fun p:Int × Int × Int=>k .ret ⟨[(4,Ai p.1),(5,AV.bool true)],[([1,7],⟨true,[],[AV.agg [Ai p.2.1,Ai p.2.2]]⟩)]⟩)
def l111_0:LModel:=fun _ _ st k=>match st with
 | ⟨[(1,.int .i64 t1),(9,.sl g0 t9),(10,.int .i64 t10),(11,.int .i64 t11)],[]⟩=>bif ctsEq g0 ([.int .i64,.int .i64]) then ro (runW (R111_0 t1 t9 t10) ((t10 - t11:Int).toNat+1) t11) none (K111_0 t1 t9 t10 k) else none
 | _=>none
noncomputable def c111:Cfg:=cfg Tryz.prog [(111,0,[1,9,10,11]),(111,999,[4,5]),(111,1000,[]),(111,1001,[1,9,10,11])] [] [] [] [(111,0,l111_0)]
theorem s111_0 (t1:Int) (t9:List AV) (t10:Int) (ce:CallE) (k:Kont) (s:Int) (next:St→Option AV):stepA (codeA c111 ce [] 111 0 (sub [1,0,1,0,0] (body Tryz.f111))) (normA [] [1,9,10,11]) next ((E111_0 t1 t9 t10) s) k=G111_0 t1 t9 t10 s (fun s=>next ((E111_0 t1 t9 t10) s)) (K111_0 t1 t9 t10 k) none:=by kernel_rfl
theorem st111_0 (t1:Int) (t9:List AV) (t10:Int) (ce:CallE) (k:Kont) (s:Int) (next:St→Option AV):stepA (codeA c111 ce [] 111 0 (sub [1,0,1,0,0] (body Tryz.f111))) (normA [] [1,9,10,11]) next ((E111_0 t1 t9 t10) s) k=(R111_0 t1 t9 t10 s).el none (fun s=>next ((E111_0 t1 t9 t10) s)) (K111_0 t1 t9 t10 k):=(s111_0 t1 t9 t10 ce k s next).trans (by unfold R111_0;unfold F111_0 G111_0;simp only [el_cond,el_ro,el_sum,el_fail,el_next,el_stop] <;> rfl)
theorem ok111_0 {ce:CallE}:LoopOK c111 ce [] 111 0 (sub [1,0,1,0,0] (body Tryz.f111)):=by
 intro m hm st k r h
 obtain rfl:l111_0=m:=Option.some.inj hm
 unfold l111_0 at h
 split at h
 ·rename_i t1 g0 t9 t10 t11
  obtain ⟨hg,h⟩:=bif_some h
  have q0:=hg
  obtain rfl:=cE q0
  refine ⟨((t10 - t11:Int).toNat+1),?_⟩
  rw [← h]
  exact loop_run (E111_0 t1 t9 t10) (K111_0 t1 t9 t10 k) (st111_0 t1 t9 t10 ce k) _ t11
 ·cases h
def q111 (xa xb xc:List AV) (a1:Int):Bool:=(ro (runW (R111_0 a1 xc (xc.length:Int)) (((xc.length:Int) - 0:Int).toNat+1) 0) false (sumE (fun _=>true) (fun p41=>true)))
def v111_0 (xa xb xc:List AV) (a1:Int):Int:=(ro (runW (R111_0 a1 xc (xc.length:Int)) (((xc.length:Int) - 0:Int).toNat+1) 0) 0 (sumE (fun _=>0) (fun p41=>p41.1)))
def v111_1 (xa xb xc:List AV) (a1:Int):Bool:=(ro (runW (R111_0 a1 xc (xc.length:Int)) (((xc.length:Int) - 0:Int).toNat+1) 0) false (sumE (fun _=>false) (fun p41=>true)))
theorem e111 (xa xb xc:List AV) (a1:Int):funA c111 0 111 [AV.agg [AV.sl [.int .i64] xa,AV.sl [.int .i64] xb,AV.sl [.int .i64,.int .i64] xc],Ai a1]=(ro (runW (R111_0 a1 xc (xc.length:Int)) (((xc.length:Int) - 0:Int).toNat+1) 0) none (sumE (fun _=>some (AV.tup [Ai 0,AV.bool false])) (fun p41=>some (AV.tup [Ai p41.1,AV.bool true])))):=by kernel_rfl
def m111:TModel
 | [.agg [.sl g0 xa,.sl g1 xb,.sl g2 xc],.int .i64 a1]=>bif ctsEq g0 ([.int .i64]) && ctsEq g1 ([.int .i64]) && ctsEq g2 ([.int .i64,.int .i64]) then some (q111 xa xb xc a1,AV.tup [AV.int .i64 (v111_0 xa xb xc a1),AV.bool (v111_1 xa xb xc a1)]) else none
 | _=>none
theorem k111:Known Tryz.prog 111:=⟨Tryz.f111,Tryz.func111,by kernel_rfl,by kernel_rfl⟩
theorem meets111:Meets Tryz.prog 111 m111:=by
 refine mt (lvl:=0) (cf:=c111) rfl mixed k111 Tryz.func111 (by kernel_rfl) (loops_cons ok111_0 noLoop) allT_nil allM_nil noI fun xs r h=>?_
 unfold m111 at h
 split at h
 ·rename_i g0 xa g1 xb g2 xc a1
  obtain ⟨hg,h⟩:=bif_pair h
  simp only [Bool.and_eq_true] at hg
  obtain ⟨⟨q0,q1⟩,q2⟩:=hg
  obtain rfl:=cE q0
  obtain rfl:=cE q1
  obtain rfl:=cE q2
  obtain ⟨h1,rfl⟩:=pair_inj h
  exact (e111 xa xb xc a1).trans ((brO (fun o:Option (Unit ⊕ (Int × Int × Int))=>some (AV.tup [Ai (ro o 0 (sumE (fun _=>0) (fun p41=>p41.1))),AV.bool (ro o false (sumE (fun _=>false) (fun p41=>true)))])) (brS (fun o:Unit ⊕ (Int × Int × Int)=>some (AV.tup [Ai ((sumE (fun _=>0) (fun p41=>p41.1)) o),AV.bool ((sumE (fun _=>false) (fun p41=>true)) o)])) (fun _=>(fun _=>rfl)) (fun p41=>(fun _=>rfl)))) h1)
 ·cases h
noncomputable def c142:Cfg:=cfg Tryz.prog [(142,999,[4])] [(111,m111)] [] [] []
def q142 (xa xb xc:List AV) (a1:Int):Bool:=q111 xa xb xc a1
def v142_0 (xa xb xc:List AV) (a1:Int):Bool:=(v111_1 xa xb xc a1)
theorem e142 (xa xb xc:List AV) (a1:Int):funA c142 0 142 [AV.agg [AV.sl [.int .i64] xa,AV.sl [.int .i64] xb,AV.sl [.int .i64,.int .i64] xc],Ai a1]=(bif q111 xa xb xc a1 then some (AV.bool (v111_1 xa xb xc a1))
 else none):=by kernel_rfl
def m142:TModel
 | [.agg [.sl g0 xa,.sl g1 xb,.sl g2 xc],.int .i64 a1]=>bif ctsEq g0 ([.int .i64]) && ctsEq g1 ([.int .i64]) && ctsEq g2 ([.int .i64,.int .i64]) then some (q142 xa xb xc a1,AV.bool (v142_0 xa xb xc a1)) else none
 | _=>none
theorem k142:Known Tryz.prog 142:=⟨Tryz.f142,Tryz.func142,by kernel_rfl,by kernel_rfl⟩
theorem meets142:Meets Tryz.prog 142 m142:=by
 refine mt (lvl:=0) (cf:=c142) rfl mixed k142 Tryz.func142 (by kernel_rfl) noLoop (allT_cons meets111 allT_nil) allM_nil noI fun xs r h=>?_
 unfold m142 at h
 split at h
 ·rename_i g0 xa g1 xb g2 xc a1
  obtain ⟨hg,h⟩:=bif_pair h
  simp only [Bool.and_eq_true] at hg
  obtain ⟨⟨q0,q1⟩,q2⟩:=hg
  obtain rfl:=cE q0
  obtain rfl:=cE q1
  obtain rfl:=cE q2
  obtain ⟨h1,rfl⟩:=pair_inj h
  exact (e142 xa xb xc a1).trans ((brL1 (fun _=>rfl)) h1)
 ·cases h
def G143_0 {β:Type} (t1:Int) (t7:Int) (t14:List AV) (t15:Int) (t6:Int) (t16:Int) (N:((Int × Int))→β) (K:(Int ⊕ (Int × Int × Int × Int))→β) (d:β):β:=(bif decide (t16<t15) then (bif (decide (0≤t16) && decide (t16<(t14.length:Int))) then (bif decide (fI (t14.getD t16.toNat .undef) 0≤t1) then (bif decide (fI (t14.getD t16.toNat .undef) 0 ≥ t1) then K (.inr (fI (t14.getD t16.toNat .undef) 1,fI (t14.getD t16.toNat .undef) 1,fI (t14.getD t16.toNat .undef) 0,fI (t14.getD t16.toNat .undef) 1))
 else N (fI (t14.getD t16.toNat .undef) 1,IntKind.i64.wrap (t16+1)))
 else (bif decide (fI (t14.getD t16.toNat .undef) 0 ≥ t1) then K (.inr (t6,fI (t14.getD t16.toNat .undef) 1,fI (t14.getD t16.toNat .undef) 0,fI (t14.getD t16.toNat .undef) 1))
 else N (t6,IntKind.i64.wrap (t16+1))))
 else d)
 else K (.inl t6))
def F143_0 (t1 t7:Int) (t14:List AV) (t15 t6 t16:Int):Out ((Int × Int)) (Int ⊕ (Int × Int × Int × Int)):=G143_0 t1 t7 t14 t15 t6 t16 .next .stop .fail
def R143_0 (t1 t7:Int) (t14:List AV) (t15:Int):((Int × Int))→Out ((Int × Int)) (Int ⊕ (Int × Int × Int × Int)):=fun s:Int × Int=>F143_0 t1 t7 t14 t15 s.1 s.2
def E143_0 (t1 t7:Int) (t14:List AV) (t15:Int):((Int × Int))→St:=fun s:Int × Int=>⟨[(1,Ai t1),(6,Ai s.1),(7,Ai t7),(14,AV.sl [.int .i64,.int .i64] t14),(15,Ai t15),(16,Ai s.2)],[]⟩
def K143_0 (t1 t7:Int) (t14:List AV) (t15:Int) (k:Kont):(Int ⊕ (Int × Int × Int × Int))→Option AV:=sumE (fun p:Int=>k (.exit 0) ⟨[(6,Ai p),(7,Ai t7)],[]⟩) (fun p:Int × Int × Int × Int=>k .ret ⟨[(4,Ai p.1),(5,Ai p.2.1)],[([1,9],⟨true,[],[AV.agg [Ai p.2.2.1,Ai p.2.2.2]]⟩)]⟩)
def l143_0:LModel:=fun _ _ st k=>match st with
 | ⟨[(1,.int .i64 t1),(6,.int .i64 t6),(7,.int .i64 t7),(14,.sl g0 t14),(15,.int .i64 t15),(16,.int .i64 t16)],[]⟩=>bif ctsEq g0 ([.int .i64,.int .i64]) then ro (runW (R143_0 t1 t7 t14 t15) ((t15 - t16:Int).toNat+1) (t6,t16)) none (K143_0 t1 t7 t14 t15 k) else none
 | _=>none
noncomputable def c143:Cfg:=cfg Tryz.prog [(143,0,[1,6,7,14,15,16]),(143,999,[4,5]),(143,1000,[6,7]),(143,1001,[1,6,7,14,15,16])] [] [] [] [(143,0,l143_0)]
theorem s143_0 (t1 t7:Int) (t14:List AV) (t15:Int) (ce:CallE) (k:Kont) (s:Int × Int) (next:St→Option AV):stepA (codeA c143 ce [] 143 0 (sub [1,1,0,1,0,0] (body Tryz.f143))) (normA [] [1,6,7,14,15,16]) next ((E143_0 t1 t7 t14 t15) s) k=G143_0 t1 t7 t14 t15 s.1 s.2 (fun s=>next ((E143_0 t1 t7 t14 t15) s)) (K143_0 t1 t7 t14 t15 k) none:=by kernel_rfl
theorem st143_0 (t1 t7:Int) (t14:List AV) (t15:Int) (ce:CallE) (k:Kont) (s:(Int × Int)) (next:St→Option AV):stepA (codeA c143 ce [] 143 0 (sub [1,1,0,1,0,0] (body Tryz.f143))) (normA [] [1,6,7,14,15,16]) next ((E143_0 t1 t7 t14 t15) s) k=(R143_0 t1 t7 t14 t15 s).el none (fun s=>next ((E143_0 t1 t7 t14 t15) s)) (K143_0 t1 t7 t14 t15 k):=(s143_0 t1 t7 t14 t15 ce k s next).trans (by unfold R143_0;unfold F143_0 G143_0;simp only [el_cond,el_ro,el_sum,el_fail,el_next,el_stop] <;> rfl)
theorem ok143_0 {ce:CallE}:LoopOK c143 ce [] 143 0 (sub [1,1,0,1,0,0] (body Tryz.f143)):=by
 intro m hm st k r h
 obtain rfl:l143_0=m:=Option.some.inj hm
 unfold l143_0 at h
 split at h
 ·rename_i t1 t6 t7 g0 t14 t15 t16
  obtain ⟨hg,h⟩:=bif_some h
  have q0:=hg
  obtain rfl:=cE q0
  refine ⟨((t15 - t16:Int).toNat+1),?_⟩
  rw [← h]
  exact loop_run (E143_0 t1 t7 t14 t15) (K143_0 t1 t7 t14 t15 k) (st143_0 t1 t7 t14 t15 ce k) _ (t6,t16)
 ·cases h
def q143 (xa xb xc:List AV) (a1:Int):Bool:=(ro (runW (R143_0 a1 (xa.length:Int) xc (xc.length:Int)) (((xc.length:Int) - 0:Int).toNat+1) (0,0)) false (sumE (fun p42=>true) (fun p43=>true)))
def v143_0 (xa xb xc:List AV) (a1:Int):Int:=(ro (runW (R143_0 a1 (xa.length:Int) xc (xc.length:Int)) (((xc.length:Int) - 0:Int).toNat+1) (0,0)) 0 (sumE (fun p42=>p42) (fun p43=>p43.1)))
def v143_1 (xa xb xc:List AV) (a1:Int):Int:=(ro (runW (R143_0 a1 (xa.length:Int) xc (xc.length:Int)) (((xc.length:Int) - 0:Int).toNat+1) (0,0)) 0 (sumE (fun p42=>(xa.length:Int)) (fun p43=>p43.2.1)))
theorem e143 (xa xb xc:List AV) (a1:Int):funA c143 0 143 [AV.agg [AV.sl [.int .i64] xa,AV.sl [.int .i64] xb,AV.sl [.int .i64,.int .i64] xc],Ai a1]=(ro (runW (R143_0 a1 (xa.length:Int) xc (xc.length:Int)) (((xc.length:Int) - 0:Int).toNat+1) (0,0)) none (sumE (fun p42=>some (AV.tup [Ai p42,Ai (xa.length:Int)])) (fun p43=>some (AV.tup [Ai p43.1,Ai p43.2.1])))):=by kernel_rfl
def m143:TModel
 | [.agg [.sl g0 xa,.sl g1 xb,.sl g2 xc],.int .i64 a1]=>bif ctsEq g0 ([.int .i64]) && ctsEq g1 ([.int .i64]) && ctsEq g2 ([.int .i64,.int .i64]) then some (q143 xa xb xc a1,AV.tup [AV.int .i64 (v143_0 xa xb xc a1),AV.int .i64 (v143_1 xa xb xc a1)]) else none
 | _=>none
theorem k143:Known Tryz.prog 143:=⟨Tryz.f143,Tryz.func143,by kernel_rfl,by kernel_rfl⟩
theorem meets143:Meets Tryz.prog 143 m143:=by
 refine mt (lvl:=0) (cf:=c143) rfl mixed k143 Tryz.func143 (by kernel_rfl) (loops_cons ok143_0 noLoop) allT_nil allM_nil noI fun xs r h=>?_
 unfold m143 at h
 split at h
 ·rename_i g0 xa g1 xb g2 xc a1
  obtain ⟨hg,h⟩:=bif_pair h
  simp only [Bool.and_eq_true] at hg
  obtain ⟨⟨q0,q1⟩,q2⟩:=hg
  obtain rfl:=cE q0
  obtain rfl:=cE q1
  obtain rfl:=cE q2
  obtain ⟨h1,rfl⟩:=pair_inj h
  exact (e143 xa xb xc a1).trans ((brO (fun o:Option (Int ⊕ (Int × Int × Int × Int))=>some (AV.tup [Ai (ro o 0 (sumE (fun p42=>p42) (fun p43=>p43.1))),Ai (ro o 0 (sumE (fun p42=>(xa.length:Int)) (fun p43=>p43.2.1)))])) (brS (fun o:Int ⊕ (Int × Int × Int × Int)=>some (AV.tup [Ai ((sumE (fun p42=>p42) (fun p43=>p43.1)) o),Ai ((sumE (fun p42=>(xa.length:Int)) (fun p43=>p43.2.1)) o)])) (fun p42=>(fun _=>rfl)) (fun p43=>(fun _=>rfl)))) h1)
 ·cases h
noncomputable def c163:Cfg:=cfg Tryz.prog [(163,999,[8,9,10]),(163,1000,[1,2])] [] [] [] []
def q163 (a0:List AV) (a1 a2 a3:Int):Bool:=((decide (0≤a1) && decide (a1<(a0.length:Int))) && (bif decide (fI (a0.getD a1.toNat .undef) 0<a3) then true else (decide (0≤a2) && decide (a2<(a0.length:Int)))))
def v163_0 (a0:List AV) (a1 a2 a3:Int):Int:=(bif decide (fI (a0.getD a1.toNat .undef) 0<a3) then IntKind.i64.wrap (a1+1) else (bif decide (fI (a0.getD a2.toNat .undef) 0 ≥ a3) then a1 else IntKind.i64.wrap (a1+1)))
def v163_1 (a0:List AV) (a1 a2 a3:Int):Int:=(bif decide (fI (a0.getD a1.toNat .undef) 0<a3) then a2 else IntKind.i64.wrap (a2 - 1))
def v163_2 (a0:List AV) (a1 a2 a3:Int):Bool:=(bif decide (fI (a0.getD a1.toNat .undef) 0<a3) then false else (bif decide (fI (a0.getD a2.toNat .undef) 0 ≥ a3) then false else true))
theorem e163 (a0:List AV) (a1 a2 a3:Int):funA c163 0 163 [AV.sl [.int .i64] a0,Ai a1,Ai a2,Ai a3]=(bif (decide (0≤a1) && decide (a1<(a0.length:Int))) then (bif decide (fI (a0.getD a1.toNat .undef) 0<a3) then some (AV.tup [Ai (IntKind.i64.wrap (a1+1)),Ai a2,AV.bool false])
 else (bif (decide (0≤a2) && decide (a2<(a0.length:Int))) then (bif decide (fI (a0.getD a2.toNat .undef) 0 ≥ a3) then some (AV.tup [Ai a1,Ai (IntKind.i64.wrap (a2 - 1)),AV.bool false])
 else some (AV.tup [Ai (IntKind.i64.wrap (a1+1)),Ai (IntKind.i64.wrap (a2 - 1)),AV.bool true]))
 else none))
 else none):=by kernel_rfl
def m163:TModel
 | [.sl g0 a0,.int .i64 a1,.int .i64 a2,.int .i64 a3]=>bif ctsEq g0 ([.int .i64]) then some (q163 a0 a1 a2 a3,AV.tup [AV.int .i64 (v163_0 a0 a1 a2 a3),AV.int .i64 (v163_1 a0 a1 a2 a3),AV.bool (v163_2 a0 a1 a2 a3)]) else none
 | _=>none
theorem k163:Known Tryz.prog 163:=⟨Tryz.f163,Tryz.func163,by kernel_rfl,by kernel_rfl⟩
theorem meets163:Meets Tryz.prog 163 m163:=by
 refine mt (lvl:=0) (cf:=c163) rfl mixed k163 Tryz.func163 (by kernel_rfl) noLoop allT_nil allM_nil noI fun xs r h=>?_
 unfold m163 at h
 split at h
 ·rename_i g0 a0 a1 a2 a3
  obtain ⟨hg,h⟩:=bif_pair h
  have q0:=hg
  obtain rfl:=cE q0
  obtain ⟨h1,rfl⟩:=pair_inj h
  exact (e163 a0 a1 a2 a3).trans ((brL (br (fun b=>some (AV.tup [Ai (bif b then IntKind.i64.wrap (a1+1) else (bif decide (fI (a0.getD a2.toNat .undef) 0 ≥ a3) then a1 else IntKind.i64.wrap (a1+1))),Ai (bif b then a2 else IntKind.i64.wrap (a2 - 1)),AV.bool (bif b then false else (bif decide (fI (a0.getD a2.toNat .undef) 0 ≥ a3) then false else true))])) (fun _=>rfl) (brL1 (brT (fun b=>some (AV.tup [Ai (bif b then a1 else IntKind.i64.wrap (a1+1)),Ai (IntKind.i64.wrap (a2 - 1)),AV.bool (bif b then false else true)])) (fun _=>rfl) (fun _=>rfl))))) h1)
 ·cases h
def G144_0 {β:Type} (t3:Int) (t12:Int) (t13:Int) (h0:List AV) (h1:List AV) (N:((Int × Int × (List AV) × (List AV)))→β) (K:((Int × (List AV) × (List AV)))→β) (d:β):β:=(bif decide (t12≤t13) then (bif q163 h0 t12 t13 t3 then (bif (v163_2 h0 t12 t13 t3) then (bif (decide (0≤t13) && decide (t13<(h0.length:Int))) then (bif (decide (0≤t12) && decide (t12<(h0.length:Int))) then (bif (decide (0≤t12) && decide (t12<(h0.length:Int))) then (bif (decide (0≤t13) && decide (t13<((h0.set t12.toNat (AV.agg [AV.int .i64 (fI (h0.getD t13.toNat .undef) 0)])).length:Int))) then (bif (decide ((h1.length+([AV.agg [AV.int .i64 t12,AV.int .i64 t13]]).length)*16≤140737488355328) && decide ((h1.length+([AV.agg [AV.int .i64 t12,AV.int .i64 t13]]).length)≤140737488355328)) then N ((v163_0 h0 t12 t13 t3),(v163_1 h0 t12 t13 t3),(h0.set t12.toNat (AV.agg [AV.int .i64 (fI (h0.getD t13.toNat .undef) 0)])).set t13.toNat (AV.agg [AV.int .i64 (fI (h0.getD t12.toNat .undef) 0)]),h1++([AV.agg [AV.int .i64 t12,AV.int .i64 t13]]))
 else d)
 else d)
 else d)
 else d)
 else d)
 else N ((v163_0 h0 t12 t13 t3),(v163_1 h0 t12 t13 t3),h0,h1))
 else d)
 else K (t12,h0,h1))
def F144_0 (t3 t12 t13:Int) (h0 h1:List AV):Out ((Int × Int × (List AV) × (List AV))) ((Int × (List AV) × (List AV))):=G144_0 t3 t12 t13 h0 h1 .next .stop .fail
def R144_0 (t3:Int):((Int × Int × (List AV) × (List AV)))→Out ((Int × Int × (List AV) × (List AV))) ((Int × (List AV) × (List AV))):=fun s:Int × Int × (List AV) × (List AV)=>F144_0 t3 s.1 s.2.1 s.2.2.1 s.2.2.2
def E144_0 (t3:Int):((Int × Int × (List AV) × (List AV)))→St:=fun s:Int × Int × (List AV) × (List AV)=>⟨[(3,Ai t3),(10,AV.own [0,10]),(11,AV.own [0,11]),(12,Ai s.1),(13,Ai s.2.1)],[([0,10],⟨false,[.int .i64],s.2.2.1⟩),([0,11],⟨false,[.int .i64,.int .i64],s.2.2.2⟩)]⟩
def K144_0 (t3:Int) (k:Kont):((Int × (List AV) × (List AV)))→Option AV:=fun p:Int × (List AV) × (List AV)=>k (.exit 0) ⟨[(11,AV.own [0,11]),(12,Ai p.1)],[([0,10],⟨false,[.int .i64],p.2.1⟩),([0,11],⟨false,[.int .i64,.int .i64],p.2.2⟩)]⟩
def l144_0:LModel:=fun _ _ st k=>match st with
 | ⟨[(3,.int .i64 t3),(10,.own g0),(11,.own g1),(12,.int .i64 t12),(13,.int .i64 t13)],[(g2,⟨false,g3,h0⟩),(g4,⟨false,g5,h1⟩)]⟩=>bif nmEq g0 ([0,10]) && nmEq g1 ([0,11]) && nmEq g2 ([0,10]) && ctsEq g3 ([.int .i64]) && nmEq g4 ([0,11]) && ctsEq g5 ([.int .i64,.int .i64]) then ro (runW (R144_0 t3) ((t13 - t12+1:Int).toNat+1) (t12,t13,h0,h1)) none (K144_0 t3 k) else none
 | _=>none
noncomputable def c144:Cfg:=cfg Tryz.prog [(144,0,[3,10,11,12,13]),(144,999,[8,9]),(144,1000,[11,12]),(144,1001,[3,10,11,12,13])] [(108,m108),(163,m163)] [] [] [(144,0,l144_0)]
theorem s144_0 (t3:Int) (ce:CallE) (k:Kont) (s:Int × Int × (List AV) × (List AV)) (next:St→Option AV):stepA (codeA c144 ce [] 144 0 (sub [1,1,1,1,0,0,0] (body Tryz.f144))) (normA [] [3,10,11,12,13]) next ((E144_0 t3) s) k=G144_0 t3 s.1 s.2.1 s.2.2.1 s.2.2.2 (fun s=>next ((E144_0 t3) s)) (K144_0 t3 k) none:=by kernel_rfl
theorem st144_0 (t3:Int) (ce:CallE) (k:Kont) (s:(Int × Int × (List AV) × (List AV))) (next:St→Option AV):stepA (codeA c144 ce [] 144 0 (sub [1,1,1,1,0,0,0] (body Tryz.f144))) (normA [] [3,10,11,12,13]) next ((E144_0 t3) s) k=(R144_0 t3 s).el none (fun s=>next ((E144_0 t3) s)) (K144_0 t3 k):=(s144_0 t3 ce k s next).trans (by unfold R144_0;unfold F144_0 G144_0;simp only [el_cond,el_ro,el_sum,el_fail,el_next,el_stop] <;> rfl)
theorem ok144_0 {ce:CallE}:LoopOK c144 ce [] 144 0 (sub [1,1,1,1,0,0,0] (body Tryz.f144)):=by
 intro m hm st k r h
 obtain rfl:l144_0=m:=Option.some.inj hm
 unfold l144_0 at h
 split at h
 ·rename_i t3 g0 g1 t12 t13 g2 g3 h0 g4 g5 h1
  obtain ⟨hg,h⟩:=bif_some h
  simp only [Bool.and_eq_true] at hg
  obtain ⟨⟨⟨⟨⟨q0,q1⟩,q2⟩,q3⟩,q4⟩,q5⟩:=hg
  obtain rfl:=nE q0
  obtain rfl:=nE q1
  obtain rfl:=nE q2
  obtain rfl:=cE q3
  obtain rfl:=nE q4
  obtain rfl:=cE q5
  refine ⟨((t13 - t12+1:Int).toNat+1),?_⟩
  rw [← h]
  exact loop_run (E144_0 t3) (K144_0 t3 k) (st144_0 t3 ce k) _ (t12,t13,h0,h1)
 ·cases h
def q144 (a0:List AV) (a1 a2 a3:Int):Bool:=(bif decide (a1<0) then true else (bif decide (a1 > a2) then true else (bif decide (a2 > (a0.length:Int)) then true else (q108 a0 && (ro (runW (R144_0 a3) (((IntKind.i64.wrap (a2 - 1)) - a1+1:Int).toNat+1) (a1,IntKind.i64.wrap (a2 - 1),(v108_0 a0),([]:List AV))) false (fun p44=>true))))))
def v144_0 (a0:List AV) (a1 a2 a3:Int):List AV:=(bif decide (a1<0) then ([]:List AV) else (bif decide (a1 > a2) then ([]:List AV) else (bif decide (a2 > (a0.length:Int)) then ([]:List AV) else (ro (runW (R144_0 a3) (((IntKind.i64.wrap (a2 - 1)) - a1+1:Int).toNat+1) (a1,IntKind.i64.wrap (a2 - 1),(v108_0 a0),([]:List AV))) [] (fun p44=>p44.2.2)))))
def v144_1 (a0:List AV) (a1 a2 a3:Int):Int:=(bif decide (a1<0) then 0 else (bif decide (a1 > a2) then 0 else (bif decide (a2 > (a0.length:Int)) then 0 else (ro (runW (R144_0 a3) (((IntKind.i64.wrap (a2 - 1)) - a1+1:Int).toNat+1) (a1,IntKind.i64.wrap (a2 - 1),(v108_0 a0),([]:List AV))) 0 (fun p44=>p44.1)))))
theorem e144 (a0:List AV) (a1 a2 a3:Int):funA c144 0 144 [AV.sl [.int .i64] a0,Ai a1,Ai a2,Ai a3]=(bif decide (a1<0) then some (AV.tup [AV.fl [.int .i64,.int .i64] ([]:List AV),Ai 0])
 else (bif decide (a1 > a2) then some (AV.tup [AV.fl [.int .i64,.int .i64] ([]:List AV),Ai 0])
 else (bif decide (a2 > (a0.length:Int)) then some (AV.tup [AV.fl [.int .i64,.int .i64] ([]:List AV),Ai 0])
 else (bif q108 a0 then (ro (runW (R144_0 a3) (((IntKind.i64.wrap (a2 - 1)) - a1+1:Int).toNat+1) (a1,IntKind.i64.wrap (a2 - 1),(v108_0 a0),([]:List AV))) none (fun p44=>some (AV.tup [AV.fl [.int .i64,.int .i64] p44.2.2,Ai p44.1])))
 else none)))):=by kernel_rfl
theorem r144 (a0:List AV) (a1 a2 a3:Int) (h:q144 a0 a1 a2 a3=true):funA c144 0 144 [AV.sl [.int .i64] a0,AV.int .i64 a1,AV.int .i64 a2,AV.int .i64 a3]=some (AV.tup [AV.fl [.int .i64,.int .i64] (v144_0 a0 a1 a2 a3),AV.int .i64 (v144_1 a0 a1 a2 a3)]):=by
 refine (e144 a0 a1 a2 a3).trans ?_
 unfold q144 at h
 unfold v144_0 v144_1
 refine ifG (fun hc=>?_) (fun hc=>?_) <;> first|rw [hc] at h ⊢|rw [hc] at h|rw [hc]|skip
 ·rfl
 ·refine ifG (fun hc=>?_) (fun hc=>?_) <;> first|rw [hc] at h ⊢|rw [hc] at h|rw [hc]|skip
  ·rfl
  ·refine ifG (fun hc=>?_) (fun hc=>?_) <;> first|rw [hc] at h ⊢|rw [hc] at h|rw [hc]|skip
   ·rfl
   ·refine ifG (fun hc=>?_) (fun hc=>?_) <;> first|rw [hc] at h ⊢|rw [hc] at h|rw [hc]|skip
    ·refine roG (fun hc=>?_) (fun r hc=>?_) <;> first|rw [hc] at h ⊢|rw [hc] at h|rw [hc]|skip
     ·exact Bool.noConfusion h
     ·try simp only [ro] at h ⊢
      rfl
    ·first|exact Bool.noConfusion h|exact Bool.noConfusion hc
def m144:TModel
 | [.sl g0 a0,.int .i64 a1,.int .i64 a2,.int .i64 a3]=>bif ctsEq g0 ([.int .i64]) then some (q144 a0 a1 a2 a3,AV.tup [AV.fl [.int .i64,.int .i64] (v144_0 a0 a1 a2 a3),AV.int .i64 (v144_1 a0 a1 a2 a3)]) else none
 | _=>none
theorem k144:Known Tryz.prog 144:=⟨Tryz.f144,Tryz.func144,by kernel_rfl,by kernel_rfl⟩
theorem meets144:Meets Tryz.prog 144 m144:=by
 refine mt (lvl:=0) (cf:=c144) rfl mixed k144 Tryz.func144 (by kernel_rfl) (loops_cons ok144_0 noLoop) (allT_cons meets108 (allT_cons meets163 allT_nil)) allM_nil noI fun xs r h=>?_
 unfold m144 at h
 split at h
 ·rename_i g0 a0 a1 a2 a3
  obtain ⟨hg,h⟩:=bif_pair h
  have q0:=hg
  obtain rfl:=cE q0
  obtain ⟨h1,rfl⟩:=pair_inj h
  exact r144 a0 a1 a2 a3 h1
 ·cases h
def G145_0 {β:Type} (t7:Int) (t21:List AV) (t22:Int) (h2_0:List AV) (h2_1:List AV) (h2_2:List AV) (h3:List AV) (t23:Int) (h0:List AV) (h1:List AV) (N:((Int × (List AV) × (List AV)))→β) (K:(((List AV) × (List AV)) ⊕ ((List AV) × (List AV) × (List AV) × (List AV) × Int × Int × (List AV)))→β) (d:β):β:=by
 refine (?f0:(List AV)→(List AV)→(List AV)→β) (v64_0 h2_0 h2_1 h2_2) (v64_1 h2_0 h2_1 h2_2) (v64_2 h2_0 h2_1 h2_2);intro x1 x2 x3
 exact (bif decide (t23<t22) then (bif (decide (0≤t23) && decide (t23<(t21.length:Int))) then (bif decide (fI (t21.getD t23.toNat .undef) 0<0) then (bif q64 h2_0 h2_1 h2_2 then K (.inr (h0,h1,x1,x2,fI (t21.getD t23.toNat .undef) 0,fI (t21.getD t23.toNat .undef) 1,x3))
 else d)
 else (bif decide (fI (t21.getD t23.toNat .undef) 0 ≥ t7) then (bif q64 h2_0 h2_1 h2_2 then K (.inr (h0,h1,x1,x2,fI (t21.getD t23.toNat .undef) 0,fI (t21.getD t23.toNat .undef) 1,x3))
 else d)
 else (bif decide (fI (t21.getD t23.toNat .undef) 1<0) then (bif q64 h2_0 h2_1 h2_2 then K (.inr (h0,h1,x1,x2,fI (t21.getD t23.toNat .undef) 0,fI (t21.getD t23.toNat .undef) 1,x3))
 else d)
 else (bif decide (fI (t21.getD t23.toNat .undef) 1 ≥ t7) then (bif q64 h2_0 h2_1 h2_2 then K (.inr (h0,h1,x1,x2,fI (t21.getD t23.toNat .undef) 0,fI (t21.getD t23.toNat .undef) 1,x3))
 else d)
 else (bif (decide (0≤fI (t21.getD t23.toNat .undef) 1) && decide (fI (t21.getD t23.toNat .undef) 1<(h0.length:Int))) then (bif (decide (0≤fI (t21.getD t23.toNat .undef) 0) && decide (fI (t21.getD t23.toNat .undef) 0<(h0.length:Int))) then (bif (decide (0≤fI (t21.getD t23.toNat .undef) 0) && decide (fI (t21.getD t23.toNat .undef) 0<(h0.length:Int))) then (bif (decide (0≤fI (t21.getD t23.toNat .undef) 1) && decide (fI (t21.getD t23.toNat .undef) 1<((h0.set (fI (t21.getD t23.toNat .undef) 0).toNat (AV.agg [AV.int .i64 (fI (h0.getD (fI (t21.getD t23.toNat .undef) 1).toNat .undef) 0)])).length:Int))) then (bif (decide (0≤fI (t21.getD t23.toNat .undef) 1) && decide (fI (t21.getD t23.toNat .undef) 1<(h1.length:Int))) then (bif (decide (0≤fI (t21.getD t23.toNat .undef) 0) && decide (fI (t21.getD t23.toNat .undef) 0<(h1.length:Int))) then (bif (decide (0≤fI (t21.getD t23.toNat .undef) 0) && decide (fI (t21.getD t23.toNat .undef) 0<(h1.length:Int))) then (bif (decide (0≤fI (t21.getD t23.toNat .undef) 1) && decide (fI (t21.getD t23.toNat .undef) 1<((h1.set (fI (t21.getD t23.toNat .undef) 0).toNat (AV.agg [AV.int .i64 (fI (h1.getD (fI (t21.getD t23.toNat .undef) 1).toNat .undef) 0)])).length:Int))) then N (IntKind.i64.wrap (t23+1),(h0.set (fI (t21.getD t23.toNat .undef) 0).toNat (AV.agg [AV.int .i64 (fI (h0.getD (fI (t21.getD t23.toNat .undef) 1).toNat .undef) 0)])).set (fI (t21.getD t23.toNat .undef) 1).toNat (AV.agg [AV.int .i64 (fI (h0.getD (fI (t21.getD t23.toNat .undef) 0).toNat .undef) 0)]),(h1.set (fI (t21.getD t23.toNat .undef) 0).toNat (AV.agg [AV.int .i64 (fI (h1.getD (fI (t21.getD t23.toNat .undef) 1).toNat .undef) 0)])).set (fI (t21.getD t23.toNat .undef) 1).toNat (AV.agg [AV.int .i64 (fI (h1.getD (fI (t21.getD t23.toNat .undef) 0).toNat .undef) 0)]))
 else d)
 else d)
 else d)
 else d)
 else d)
 else d)
 else d)
 else d)))))
 else d)
 else K (.inl (h0,h1)))
def F145_0 (t7:Int) (t21:List AV) (t22:Int) (h2_0 h2_1 h2_2 h3:List AV) (t23:Int) (h0 h1:List AV):Out ((Int × (List AV) × (List AV))) (((List AV) × (List AV)) ⊕ ((List AV) × (List AV) × (List AV) × (List AV) × Int × Int × (List AV))):=G145_0 t7 t21 t22 h2_0 h2_1 h2_2 h3 t23 h0 h1 .next .stop .fail
def R145_0 (t7:Int) (t21:List AV) (t22:Int) (h2_0 h2_1 h2_2 h3:List AV):((Int × (List AV) × (List AV)))→Out ((Int × (List AV) × (List AV))) (((List AV) × (List AV)) ⊕ ((List AV) × (List AV) × (List AV) × (List AV) × Int × Int × (List AV))):=fun s:Int × (List AV) × (List AV)=>F145_0 t7 t21 t22 h2_0 h2_1 h2_2 h3 s.1 s.2.1 s.2.2
def E145_0 (t7:Int) (t21:List AV) (t22:Int) (h2_0 h2_1 h2_2 h3:List AV):((Int × (List AV) × (List AV)))→St:=fun s:Int × (List AV) × (List AV)=>⟨[(2,AV.ptr [0,2] 0 0),(4,AV.ptr [0,4] 0 0),(6,AV.ptr [0,6] 0 0),(7,Ai t7),(21,AV.sl [.int .i64,.int .i64] t21),(22,Ai t22),(23,Ai s.1)],[([0,0,6],⟨false,[.int .i64],s.2.1⟩),([0,1,6],⟨false,[.int .i64],s.2.2⟩),([0,2],⟨true,[],[AV.agg [AV.sl [.int .i64] h2_0,AV.sl [.int .i64] h2_1,AV.sl [.int .i64,.int .i64] h2_2]]⟩),([0,2,6],⟨false,[.int .i64,.int .i64],h3⟩),([0,4],⟨true,[],[AV.agg [AV.snil,AV.snil,AV.snil]]⟩),([0,6],⟨true,[],[AV.agg [AV.own [0,0,6],AV.own [0,1,6],AV.own [0,2,6]]]⟩)]⟩
def K145_0 (t7:Int) (t21:List AV) (t22:Int) (h2_0 h2_1 h2_2 h3:List AV) (k:Kont):(((List AV) × (List AV)) ⊕ ((List AV) × (List AV) × (List AV) × (List AV) × Int × Int × (List AV)))→Option AV:=sumE (fun p:(List AV) × (List AV)=>k (.exit 0) ⟨[(4,AV.ptr [0,4] 0 0),(6,AV.ptr [0,6] 0 0)],[([0,0,6],⟨false,[.int .i64],p.1⟩),([0,1,6],⟨false,[.int .i64],p.2⟩),([0,2],⟨true,[],[AV.agg [AV.sl [.int .i64] h2_0,AV.sl [.int .i64] h2_1,AV.sl [.int .i64,.int .i64] h2_2]]⟩),([0,2,6],⟨false,[.int .i64,.int .i64],h3⟩),([0,4],⟨true,[],[AV.agg [AV.snil,AV.snil,AV.snil]]⟩),([0,6],⟨true,[],[AV.agg [AV.own [0,0,6],AV.own [0,1,6],AV.own [0,2,6]]]⟩)]⟩) (fun p:(List AV) × (List AV) × (List AV) × (List AV) × Int × Int × (List AV)=>k .ret ⟨[(4,AV.ptr [0,4] 0 0),(5,AV.bool false)],[([0,0,6],⟨false,[.int .i64],p.1⟩),([0,1,6],⟨false,[.int .i64],p.2.1⟩),([0,1,48],⟨false,[.int .i64],p.2.2.1⟩),([0,2],⟨true,[],[AV.agg [AV.sl [.int .i64] h2_0,AV.sl [.int .i64] h2_1,AV.sl [.int .i64,.int .i64] h2_2]]⟩),([0,2,6],⟨false,[.int .i64,.int .i64],h3⟩),([0,4],⟨true,[],[AV.agg [AV.own [0,1,48],AV.own [1,1,48],AV.own [2,1,48]]]⟩),([0,6],⟨true,[],[AV.agg [AV.own [0,0,6],AV.own [0,1,6],AV.own [0,2,6]]]⟩),([1,1,48],⟨false,[.int .i64],p.2.2.2.1⟩),([1,9],⟨true,[],[AV.agg [Ai p.2.2.2.2.1,Ai p.2.2.2.2.2.1]]⟩),([2,1,48],⟨false,[.int .i64,.int .i64],p.2.2.2.2.2.2⟩)]⟩)
def l145_0:LModel:=fun _ _ st k=>match st with
 | ⟨[(2,.ptr g0 g1 g2),(4,.ptr g3 g4 g5),(6,.ptr g6 g7 g8),(7,.int .i64 t7),(21,.sl g9 t21),(22,.int .i64 t22),(23,.int .i64 t23)],[(g10,⟨false,g11,h0⟩),(g12,⟨false,g13,h1⟩),(g14,⟨true,[],[.agg [.sl g15 h2_0,.sl g16 h2_1,.sl g17 h2_2]]⟩),(g18,⟨false,g19,h3⟩),(g20,⟨true,[],[.agg [.snil,.snil,.snil]]⟩),(g21,⟨true,[],[.agg [.own g22,.own g23,.own g24]]⟩)]⟩=>bif nmEq g0 ([0,2]) && Nat.beq g1 0 && Nat.beq g2 0 && nmEq g3 ([0,4]) && Nat.beq g4 0 && Nat.beq g5 0 && nmEq g6 ([0,6]) && Nat.beq g7 0 && Nat.beq g8 0 && ctsEq g9 ([.int .i64,.int .i64]) && nmEq g10 ([0,0,6]) && ctsEq g11 ([.int .i64]) && nmEq g12 ([0,1,6]) && ctsEq g13 ([.int .i64]) && nmEq g14 ([0,2]) && ctsEq g15 ([.int .i64]) && ctsEq g16 ([.int .i64]) && ctsEq g17 ([.int .i64,.int .i64]) && nmEq g18 ([0,2,6]) && ctsEq g19 ([.int .i64,.int .i64]) && nmEq g20 ([0,4]) && nmEq g21 ([0,6]) && nmEq g22 ([0,0,6]) && nmEq g23 ([0,1,6]) && nmEq g24 ([0,2,6]) then ro (runW (R145_0 t7 t21 t22 h2_0 h2_1 h2_2 h3) ((t22 - t23:Int).toNat+1) (t23,h0,h1)) none (K145_0 t7 t21 t22 h2_0 h2_1 h2_2 h3 k) else none
 | _=>none
noncomputable def c145:Cfg:=cfg Tryz.prog [(145,0,[2,4,6,7,21,22,23]),(145,999,[4,5]),(145,1000,[4,6]),(145,1001,[2,4,6,7,21,22,23])] [(64,m64)] [] [] [(145,0,l145_0)]
theorem s145_0 (t7:Int) (t21:List AV) (t22:Int) (h2_0 h2_1 h2_2 h3:List AV) (ce:CallE) (k:Kont) (s:Int × (List AV) × (List AV)) (next:St→Option AV):stepA (codeA c145 ce [] 145 0 (sub [1,1,1,0,1,0,0] (body Tryz.f145))) (normA [] [2,4,6,7,21,22,23]) next ((E145_0 t7 t21 t22 h2_0 h2_1 h2_2 h3) s) k=G145_0 t7 t21 t22 h2_0 h2_1 h2_2 h3 s.1 s.2.1 s.2.2 (fun s=>next ((E145_0 t7 t21 t22 h2_0 h2_1 h2_2 h3) s)) (K145_0 t7 t21 t22 h2_0 h2_1 h2_2 h3 k) none:=by kernel_rfl
theorem st145_0 (t7:Int) (t21:List AV) (t22:Int) (h2_0 h2_1 h2_2 h3:List AV) (ce:CallE) (k:Kont) (s:(Int × (List AV) × (List AV))) (next:St→Option AV):stepA (codeA c145 ce [] 145 0 (sub [1,1,1,0,1,0,0] (body Tryz.f145))) (normA [] [2,4,6,7,21,22,23]) next ((E145_0 t7 t21 t22 h2_0 h2_1 h2_2 h3) s) k=(R145_0 t7 t21 t22 h2_0 h2_1 h2_2 h3 s).el none (fun s=>next ((E145_0 t7 t21 t22 h2_0 h2_1 h2_2 h3) s)) (K145_0 t7 t21 t22 h2_0 h2_1 h2_2 h3 k):=(s145_0 t7 t21 t22 h2_0 h2_1 h2_2 h3 ce k s next).trans (by unfold R145_0;unfold F145_0 G145_0;simp only [el_cond,el_ro,el_sum,el_fail,el_next,el_stop] <;> rfl)
theorem ok145_0 {ce:CallE}:LoopOK c145 ce [] 145 0 (sub [1,1,1,0,1,0,0] (body Tryz.f145)):=by
 intro m hm st k r h
 obtain rfl:l145_0=m:=Option.some.inj hm
 unfold l145_0 at h
 split at h
 ·rename_i g0 g1 g2 g3 g4 g5 g6 g7 g8 t7 g9 t21 t22 t23 g10 g11 h0 g12 g13 h1 g14 g15 h2_0 g16 h2_1 g17 h2_2 g18 g19 h3 g20 g21 g22 g23 g24
  obtain ⟨hg,h⟩:=bif_some h
  simp only [Bool.and_eq_true] at hg
  obtain ⟨⟨⟨⟨⟨⟨⟨⟨⟨⟨⟨⟨⟨⟨⟨⟨⟨⟨⟨⟨⟨⟨⟨⟨q0,q1⟩,q2⟩,q3⟩,q4⟩,q5⟩,q6⟩,q7⟩,q8⟩,q9⟩,q10⟩,q11⟩,q12⟩,q13⟩,q14⟩,q15⟩,q16⟩,q17⟩,q18⟩,q19⟩,q20⟩,q21⟩,q22⟩,q23⟩,q24⟩:=hg
  obtain rfl:=nE q0
  obtain rfl:=bE q1
  obtain rfl:=bE q2
  obtain rfl:=nE q3
  obtain rfl:=bE q4
  obtain rfl:=bE q5
  obtain rfl:=nE q6
  obtain rfl:=bE q7
  obtain rfl:=bE q8
  obtain rfl:=cE q9
  obtain rfl:=nE q10
  obtain rfl:=cE q11
  obtain rfl:=nE q12
  obtain rfl:=cE q13
  obtain rfl:=nE q14
  obtain rfl:=cE q15
  obtain rfl:=cE q16
  obtain rfl:=cE q17
  obtain rfl:=nE q18
  obtain rfl:=cE q19
  obtain rfl:=nE q20
  obtain rfl:=nE q21
  obtain rfl:=nE q22
  obtain rfl:=nE q23
  obtain rfl:=nE q24
  refine ⟨((t22 - t23:Int).toNat+1),?_⟩
  rw [← h]
  exact loop_run (E145_0 t7 t21 t22 h2_0 h2_1 h2_2 h3) (K145_0 t7 t21 t22 h2_0 h2_1 h2_2 h3 k) (st145_0 t7 t21 t22 h2_0 h2_1 h2_2 h3 ce k) _ (t23,h0,h1)
 ·cases h
def q145 (xa xb xc a1:List AV):Bool:=(q64 xa xb xc && (bif !decide ((xb.length:Int)=(xa.length:Int)) then true else (ro (runW (R145_0 (xa.length:Int) a1 (a1.length:Int) xa xb xc (v64_2 xa xb xc)) (((a1.length:Int) - 0:Int).toNat+1) (0,(v64_0 xa xb xc),(v64_1 xa xb xc))) false (sumE (fun p45=>true) (fun p46=>true)))))
def v145_0 (xa xb xc a1:List AV):List AV:=(bif !decide ((xb.length:Int)=(xa.length:Int)) then (v64_0 xa xb xc) else (ro (runW (R145_0 (xa.length:Int) a1 (a1.length:Int) xa xb xc (v64_2 xa xb xc)) (((a1.length:Int) - 0:Int).toNat+1) (0,(v64_0 xa xb xc),(v64_1 xa xb xc))) [] (sumE (fun p45=>p45.1) (fun p46=>p46.2.2.1))))
def v145_1 (xa xb xc a1:List AV):List AV:=(bif !decide ((xb.length:Int)=(xa.length:Int)) then (v64_1 xa xb xc) else (ro (runW (R145_0 (xa.length:Int) a1 (a1.length:Int) xa xb xc (v64_2 xa xb xc)) (((a1.length:Int) - 0:Int).toNat+1) (0,(v64_0 xa xb xc),(v64_1 xa xb xc))) [] (sumE (fun p45=>p45.2) (fun p46=>p46.2.2.2.1))))
def v145_2 (xa xb xc a1:List AV):List AV:=(bif !decide ((xb.length:Int)=(xa.length:Int)) then (v64_2 xa xb xc) else (ro (runW (R145_0 (xa.length:Int) a1 (a1.length:Int) xa xb xc (v64_2 xa xb xc)) (((a1.length:Int) - 0:Int).toNat+1) (0,(v64_0 xa xb xc),(v64_1 xa xb xc))) [] (sumE (fun p45=>(v64_2 xa xb xc)) (fun p46=>p46.2.2.2.2.2.2))))
def v145_3 (xa xb xc a1:List AV):Bool:=(bif !decide ((xb.length:Int)=(xa.length:Int)) then false else (ro (runW (R145_0 (xa.length:Int) a1 (a1.length:Int) xa xb xc (v64_2 xa xb xc)) (((a1.length:Int) - 0:Int).toNat+1) (0,(v64_0 xa xb xc),(v64_1 xa xb xc))) false (sumE (fun p45=>true) (fun p46=>false))))
theorem e145 (xa xb xc a1:List AV):funA c145 0 145 [AV.agg [AV.sl [.int .i64] xa,AV.sl [.int .i64] xb,AV.sl [.int .i64,.int .i64] xc],AV.sl [.int .i64,.int .i64] a1]=(bif q64 xa xb xc then (bif !decide ((xb.length:Int)=(xa.length:Int)) then some (AV.tup [AV.agg [AV.fl [.int .i64] (v64_0 xa xb xc),AV.fl [.int .i64] (v64_1 xa xb xc),AV.fl [.int .i64,.int .i64] (v64_2 xa xb xc)],AV.bool false])
 else (ro (runW (R145_0 (xa.length:Int) a1 (a1.length:Int) xa xb xc (v64_2 xa xb xc)) (((a1.length:Int) - 0:Int).toNat+1) (0,(v64_0 xa xb xc),(v64_1 xa xb xc))) none (sumE (fun p45=>some (AV.tup [AV.agg [AV.fl [.int .i64] p45.1,AV.fl [.int .i64] p45.2,AV.fl [.int .i64,.int .i64] (v64_2 xa xb xc)],AV.bool true])) (fun p46=>some (AV.tup [AV.agg [AV.fl [.int .i64] p46.2.2.1,AV.fl [.int .i64] p46.2.2.2.1,AV.fl [.int .i64,.int .i64] p46.2.2.2.2.2.2],AV.bool false])))))
 else none):=by kernel_rfl
theorem r145 (xa xb xc a1:List AV) (h:q145 xa xb xc a1=true):funA c145 0 145 [AV.agg [AV.sl [.int .i64] xa,AV.sl [.int .i64] xb,AV.sl [.int .i64,.int .i64] xc],AV.sl [.int .i64,.int .i64] a1]=some (AV.tup [AV.agg [AV.fl [.int .i64] (v145_0 xa xb xc a1),AV.fl [.int .i64] (v145_1 xa xb xc a1),AV.fl [.int .i64,.int .i64] (v145_2 xa xb xc a1)],AV.bool (v145_3 xa xb xc a1)]):=by
 refine (e145 xa xb xc a1).trans ?_
 unfold q145 at h
 unfold v145_0 v145_1 v145_2 v145_3
 refine ifG (fun hc=>?_) (fun hc=>?_) <;> first|rw [hc] at h ⊢|rw [hc] at h|rw [hc]|skip
 ·refine ifG (fun hc=>?_) (fun hc=>?_) <;> first|rw [hc] at h ⊢|rw [hc] at h|rw [hc]|skip
  ·rfl
  ·refine roG (fun hc=>?_) (fun r hc=>?_) <;> first|rw [hc] at h ⊢|rw [hc] at h|rw [hc]|skip
   ·exact Bool.noConfusion h
   ·try simp only [ro] at h ⊢
    cases r with
    | inl p45 =>
     try simp only [sumE] at h ⊢
     rfl
    | inr p46 =>
     try simp only [sumE] at h ⊢
     rfl
 ·first|exact Bool.noConfusion h|exact Bool.noConfusion hc
def m145:TModel
 | [.agg [.sl g0 xa,.sl g1 xb,.sl g2 xc],.sl g3 a1]=>bif ctsEq g0 ([.int .i64]) && ctsEq g1 ([.int .i64]) && ctsEq g2 ([.int .i64,.int .i64]) && ctsEq g3 ([.int .i64,.int .i64]) then some (q145 xa xb xc a1,AV.tup [AV.agg [AV.fl [.int .i64] (v145_0 xa xb xc a1),AV.fl [.int .i64] (v145_1 xa xb xc a1),AV.fl [.int .i64,.int .i64] (v145_2 xa xb xc a1)],AV.bool (v145_3 xa xb xc a1)]) else none
 | _=>none
theorem k145:Known Tryz.prog 145:=⟨Tryz.f145,Tryz.func145,by kernel_rfl,by kernel_rfl⟩
theorem meets145:Meets Tryz.prog 145 m145:=by
 refine mt (lvl:=0) (cf:=c145) rfl mixed k145 Tryz.func145 (by kernel_rfl) (loops_cons ok145_0 noLoop) (allT_cons meets64 allT_nil) allM_nil noI fun xs r h=>?_
 unfold m145 at h
 split at h
 ·rename_i g0 xa g1 xb g2 xc g3 a1
  obtain ⟨hg,h⟩:=bif_pair h
  simp only [Bool.and_eq_true] at hg
  obtain ⟨⟨⟨q0,q1⟩,q2⟩,q3⟩:=hg
  obtain rfl:=cE q0
  obtain rfl:=cE q1
  obtain rfl:=cE q2
  obtain rfl:=cE q3
  obtain ⟨h1,rfl⟩:=pair_inj h
  exact r145 xa xb xc a1 h1
 ·cases h
noncomputable def c165:Cfg:=cfg Tryz.prog [(165,999,[3])] [] [] [] []
def v165_0 (xa xb:Int) (a1:AV):Bool:=decide (xa > fI a1 0)
theorem e165 (xa xb:Int) (a1:AV):funA c165 0 165 [AV.agg [Ai xa,Ai xb],AV.rptr [.int .i64,.int .i64] a1 0]=some (AV.bool (decide (xa > fI a1 0))):=by kernel_rfl
def m165:TModel
 | [.agg [.int .i64 xa,.int .i64 xb],.rptr g0 a1 g1]=>bif ctsEq g0 ([.int .i64,.int .i64]) && Nat.beq g1 0 then some (true,AV.bool (v165_0 xa xb a1)) else none
 | _=>none
theorem k165:Known Tryz.prog 165:=⟨Tryz.f165,Tryz.func165,by kernel_rfl,by kernel_rfl⟩
theorem meets165:Meets Tryz.prog 165 m165:=by
 refine mt (lvl:=0) (cf:=c165) rfl mixed k165 Tryz.func165 (by kernel_rfl) noLoop allT_nil allM_nil noI fun xs r h=>?_
 unfold m165 at h
 split at h
 ·rename_i xa xb g0 a1 g1
  obtain ⟨hg,h⟩:=bif_pair h
  simp only [Bool.and_eq_true] at hg
  obtain ⟨q0,q1⟩:=hg
  obtain rfl:=cE q0
  obtain rfl:=bE q1
  obtain ⟨h1,rfl⟩:=pair_inj h
  exact (e165 xa xb a1).trans (of_tt (fun _=>rfl))
 ·cases h
def G164_0 {β:Type} (t0:List AV) (t1:AV) (t7:Int) (t8:Int) (N:(Int)→β) (K:(Unit ⊕ Int)→β) (d:β):β:=(bif decide (t8<t7) then (bif (decide (0≤t8) && decide (t8<(t0.length:Int))) then (bif (v165_0 (fI (t0.getD t8.toNat .undef) 0) (fI (t0.getD t8.toNat .undef) 1) t1) then K (.inr t8)
 else N (IntKind.i64.wrap (t8+1)))
 else d)
 else K (.inl ()))
def F164_0 (t0:List AV) (t1:AV) (t7 t8:Int):Out (Int) (Unit ⊕ Int):=G164_0 t0 t1 t7 t8 .next .stop .fail
def R164_0 (t0:List AV) (t1:AV) (t7:Int):(Int)→Out (Int) (Unit ⊕ Int):=fun s:Int=>F164_0 t0 t1 t7 s
def E164_0 (t0:List AV) (t1:AV) (t7:Int):(Int)→St:=fun s:Int=>⟨[(0,AV.sl [.int .i64,.int .i64] t0),(1,AV.fn 165 [AV.rptr [.int .i64,.int .i64] t1 0]),(7,Ai t7),(8,Ai s)],[]⟩
def K164_0 (t0:List AV) (t1:AV) (t7:Int) (k:Kont):(Unit ⊕ Int)→Option AV:=sumE (fun _:Unit=>k (.exit 0) ⟨[],[]⟩) (fun p:Int=>k .ret ⟨[(4,Ai p)],[]⟩)
def l164_0:LModel:=fun _ _ st k=>match st with
 | ⟨[(0,.sl g0 t0),(1,.fn g1 [.rptr g2 t1 g3]),(7,.int .i64 t7),(8,.int .i64 t8)],[]⟩=>bif ctsEq g0 ([.int .i64,.int .i64]) && Nat.beq g1 165 && ctsEq g2 ([.int .i64,.int .i64]) && Nat.beq g3 0 then ro (runW (R164_0 t0 t1 t7) ((t7 - t8:Int).toNat+1) t8) none (K164_0 t0 t1 t7 k) else none
 | _=>none
noncomputable def c164:Cfg:=cfg Tryz.prog [(164,0,[0,1,7,8]),(164,999,[4]),(164,1000,[]),(164,1001,[0,1,7,8])] [(165,m165)] [] [] [(164,0,l164_0)]
theorem s164_0 (t0:List AV) (t1:AV) (t7:Int) (ce:CallE) (k:Kont) (s:Int) (next:St→Option AV):stepA (codeA c164 ce [] 164 0 (sub [1,0,1,0,0] (body Tryz.f164))) (normA [] [0,1,7,8]) next ((E164_0 t0 t1 t7) s) k=G164_0 t0 t1 t7 s (fun s=>next ((E164_0 t0 t1 t7) s)) (K164_0 t0 t1 t7 k) none:=by kernel_rfl
theorem st164_0 (t0:List AV) (t1:AV) (t7:Int) (ce:CallE) (k:Kont) (s:Int) (next:St→Option AV):stepA (codeA c164 ce [] 164 0 (sub [1,0,1,0,0] (body Tryz.f164))) (normA [] [0,1,7,8]) next ((E164_0 t0 t1 t7) s) k=(R164_0 t0 t1 t7 s).el none (fun s=>next ((E164_0 t0 t1 t7) s)) (K164_0 t0 t1 t7 k):=(s164_0 t0 t1 t7 ce k s next).trans (by unfold R164_0;unfold F164_0 G164_0;simp only [el_cond,el_ro,el_sum,el_fail,el_next,el_stop] <;> rfl)
theorem ok164_0 {ce:CallE}:LoopOK c164 ce [] 164 0 (sub [1,0,1,0,0] (body Tryz.f164)):=by
 intro m hm st k r h
 obtain rfl:l164_0=m:=Option.some.inj hm
 unfold l164_0 at h
 split at h
 ·rename_i g0 t0 g1 g2 t1 g3 t7 t8
  obtain ⟨hg,h⟩:=bif_some h
  simp only [Bool.and_eq_true] at hg
  obtain ⟨⟨⟨q0,q1⟩,q2⟩,q3⟩:=hg
  obtain rfl:=cE q0
  obtain rfl:=bE q1
  obtain rfl:=cE q2
  obtain rfl:=bE q3
  refine ⟨((t7 - t8:Int).toNat+1),?_⟩
  rw [← h]
  exact loop_run (E164_0 t0 t1 t7) (K164_0 t0 t1 t7 k) (st164_0 t0 t1 t7 ce k) _ t8
 ·cases h
def q164 (a0:List AV) (a1:AV):Bool:=(ro (runW (R164_0 a0 a1 (a0.length:Int)) (((a0.length:Int) - 0:Int).toNat+1) 0) false (sumE (fun _=>true) (fun p48=>true)))
def v164_0 (a0:List AV) (a1:AV):Int:=(ro (runW (R164_0 a0 a1 (a0.length:Int)) (((a0.length:Int) - 0:Int).toNat+1) 0) 0 (sumE (fun _=>(-1)) (fun p48=>p48)))
theorem e164 (a0:List AV) (a1:AV):funA c164 0 164 [AV.sl [.int .i64,.int .i64] a0,AV.fn 165 [AV.rptr [.int .i64,.int .i64] a1 0]]=(ro (runW (R164_0 a0 a1 (a0.length:Int)) (((a0.length:Int) - 0:Int).toNat+1) 0) none (sumE (fun _=>some (Ai (-1))) (fun p48=>some (Ai p48)))):=by kernel_rfl
def m164:TModel
 | [.sl g0 a0,.fn g1 [.rptr g2 a1 g3]]=>bif ctsEq g0 ([.int .i64,.int .i64]) && Nat.beq g1 165 && ctsEq g2 ([.int .i64,.int .i64]) && Nat.beq g3 0 then some (q164 a0 a1,AV.int .i64 (v164_0 a0 a1)) else none
 | _=>none
theorem k164:Known Tryz.prog 164:=⟨Tryz.f164,Tryz.func164,by kernel_rfl,by kernel_rfl⟩
theorem meets164:Meets Tryz.prog 164 m164:=by
 refine mt (lvl:=0) (cf:=c164) rfl mixed k164 Tryz.func164 (by kernel_rfl) (loops_cons ok164_0 noLoop) (allT_cons meets165 allT_nil) allM_nil noI fun xs r h=>?_
 unfold m164 at h
 split at h
 ·rename_i g0 a0 g1 g2 a1 g3
  obtain ⟨hg,h⟩:=bif_pair h
  simp only [Bool.and_eq_true] at hg
  obtain ⟨⟨⟨q0,q1⟩,q2⟩,q3⟩:=hg
  obtain rfl:=cE q0
  obtain rfl:=bE q1
  obtain rfl:=cE q2
  obtain rfl:=bE q3
  obtain ⟨h1,rfl⟩:=pair_inj h
  exact (e164 a0 a1).trans ((brO (fun o:Option (Unit ⊕ Int)=>some (Ai (ro o 0 (sumE (fun _=>(-1)) (fun p48=>p48))))) (brS (fun o:Unit ⊕ Int=>some (Ai ((sumE (fun _=>(-1)) (fun p48=>p48)) o))) (fun _=>(fun _=>rfl)) (fun p48=>(fun _=>rfl)))) h1)
 ·cases h
noncomputable def c146:Cfg:=cfg Tryz.prog [(146,999,[4]),(166,999,[6])] [(64,m64),(164,m164)] [] [166] [] [(166,insA Tryz.prog 26)]
def q146 (xa xb xc:List AV) (ya yb:Int):Bool:=(q64 xa xb xc && (q164 (v64_2 xa xb xc) (AV.agg [AV.int .i64 ya,AV.int .i64 yb]) && (bif decide ((v164_0 (v64_2 xa xb xc) (AV.agg [AV.int .i64 ya,AV.int .i64 yb]))<0) then (decide (0≤((v64_2 xa xb xc).length:Int)) && decide (((v64_2 xa xb xc).length:Int)≤((v64_2 xa xb xc).length:Int)) && decide (((v64_2 xa xb xc).length+1)*16≤140737488355328)) else (decide (0≤(v164_0 (v64_2 xa xb xc) (AV.agg [AV.int .i64 ya,AV.int .i64 yb]))) && decide ((v164_0 (v64_2 xa xb xc) (AV.agg [AV.int .i64 ya,AV.int .i64 yb]))≤((v64_2 xa xb xc).length:Int)) && decide (((v64_2 xa xb xc).length+1)*16≤140737488355328)))))
def v146_0 (xa xb xc:List AV) (ya yb:Int):List AV:=(v64_0 xa xb xc)
def v146_1 (xa xb xc:List AV) (ya yb:Int):List AV:=(v64_1 xa xb xc)
def v146_2 (xa xb xc:List AV) (ya yb:Int):List AV:=(bif decide ((v164_0 (v64_2 xa xb xc) (AV.agg [AV.int .i64 ya,AV.int .i64 yb]))<0) then (v64_2 xa xb xc).take (Int.toNat ((v64_2 xa xb xc).length:Int))++([AV.agg [AV.int .i64 ya,AV.int .i64 yb]])++(v64_2 xa xb xc).drop (Int.toNat ((v64_2 xa xb xc).length:Int)) else (v64_2 xa xb xc).take (Int.toNat (v164_0 (v64_2 xa xb xc) (AV.agg [AV.int .i64 ya,AV.int .i64 yb])))++([AV.agg [AV.int .i64 ya,AV.int .i64 yb]])++(v64_2 xa xb xc).drop (Int.toNat (v164_0 (v64_2 xa xb xc) (AV.agg [AV.int .i64 ya,AV.int .i64 yb]))))
theorem e146 (xa xb xc:List AV) (ya yb:Int):funA c146 1 146 [AV.agg [AV.sl [.int .i64] xa,AV.sl [.int .i64] xb,AV.sl [.int .i64,.int .i64] xc],AV.agg [Ai ya,Ai yb]]=((fun (x1:List AV) (x2:List AV) (x3:List AV)=>((fun (x4:Int)=>(bif q64 xa xb xc then (bif q164 x3 (AV.agg [Ai ya,Ai yb]) then (bif decide (x4<0) then (bif (decide (0≤(x3.length:Int)) && decide ((x3.length:Int)≤(x3.length:Int)) && decide ((x3.length+1)*16≤140737488355328)) then some (AV.agg [AV.fl [.int .i64] x1,AV.fl [.int .i64] x2,AV.fl [.int .i64,.int .i64] (x3.take (Int.toNat (x3.length:Int))++([AV.agg [Ai ya,Ai yb]])++x3.drop (Int.toNat (x3.length:Int)))])
 else none)
 else (bif (decide (0≤x4) && decide (x4≤(x3.length:Int)) && decide ((x3.length+1)*16≤140737488355328)) then some (AV.agg [AV.fl [.int .i64] x1,AV.fl [.int .i64] x2,AV.fl [.int .i64,.int .i64] (x3.take (Int.toNat x4)++([AV.agg [Ai ya,Ai yb]])++x3.drop (Int.toNat x4))])
 else none))
 else none)
 else none)) (v164_0 x3 (AV.agg [Ai ya,Ai yb])))) (v64_0 xa xb xc) (v64_1 xa xb xc) (v64_2 xa xb xc)):=by kernel_rfl
def m146:TModel
 | [.agg [.sl g0 xa,.sl g1 xb,.sl g2 xc],.agg [.int .i64 ya,.int .i64 yb]]=>bif ctsEq g0 ([.int .i64]) && ctsEq g1 ([.int .i64]) && ctsEq g2 ([.int .i64,.int .i64]) then some (q146 xa xb xc ya yb,AV.agg [AV.fl [.int .i64] (v146_0 xa xb xc ya yb),AV.fl [.int .i64] (v146_1 xa xb xc ya yb),AV.fl [.int .i64,.int .i64] (v146_2 xa xb xc ya yb)]) else none
 | _=>none
theorem k146:Known Tryz.prog 146:=⟨Tryz.f146,Tryz.func146,by kernel_rfl,by kernel_rfl⟩
theorem i146_166:InlK Tryz.prog [(146,999,[4]),(166,999,[6])] [(64,m64),(164,m164)] [] [166] [] 166 [(166,insA Tryz.prog 26)]:=⟨⟨Tryz.f166,Tryz.func166,by kernel_rfl,by kernel_rfl⟩,Tryz.f166,[],Tryz.func166,by kernel_rfl,fun ce π=>noLoop⟩
theorem meets146:Meets Tryz.prog 146 m146:=by
 refine mt (hS:=(allS_cons ins166 allS_nil)) (lvl:=1) (cf:=c146) rfl mixed k146 Tryz.func146 (by kernel_rfl) noLoop (allT_cons meets64 (allT_cons meets164 allT_nil)) allM_nil (allI_cons i146_166 noI) fun xs r h=>?_
 unfold m146 at h
 split at h
 ·rename_i g0 xa g1 xb g2 xc ya yb
  obtain ⟨hg,h⟩:=bif_pair h
  simp only [Bool.and_eq_true] at hg
  obtain ⟨⟨q0,q1⟩,q2⟩:=hg
  obtain rfl:=cE q0
  obtain rfl:=cE q1
  obtain rfl:=cE q2
  obtain ⟨h1,rfl⟩:=pair_inj h
  exact (e146 xa xb xc ya yb).trans ((brL (brL (br (fun b=>some (AV.agg [AV.fl [.int .i64] (v64_0 xa xb xc),AV.fl [.int .i64] (v64_1 xa xb xc),AV.fl [.int .i64,.int .i64] (bif b then (v64_2 xa xb xc).take (Int.toNat ((v64_2 xa xb xc).length:Int))++([AV.agg [Ai ya,Ai yb]])++(v64_2 xa xb xc).drop (Int.toNat ((v64_2 xa xb xc).length:Int)) else (v64_2 xa xb xc).take (Int.toNat (v164_0 (v64_2 xa xb xc) (AV.agg [Ai ya,Ai yb])))++([AV.agg [Ai ya,Ai yb]])++(v64_2 xa xb xc).drop (Int.toNat (v164_0 (v64_2 xa xb xc) (AV.agg [Ai ya,Ai yb]))))])) (brL1 (fun _=>rfl)) (brL1 (fun _=>rfl))))) h1)
 ·cases h
noncomputable def c110:Cfg:=cfg Tryz.prog [(110,999,[4,5])] [(64,m64),(142,m142),(143,m143),(144,m144),(145,m145),(146,m146)] [] [] []
def q110 (xa xb xc:List AV) (a1:Int):Bool:=(q142 xa xb xc a1 && (bif (v142_0 xa xb xc a1) then q64 xa xb xc else (q143 xa xb xc a1 && (q144 xa (v143_0 xa xb xc a1) (v143_1 xa xb xc a1) a1 && (q145 xa xb xc (v144_0 xa (v143_0 xa xb xc a1) (v143_1 xa xb xc a1) a1) && q146 (v145_0 xa xb xc (v144_0 xa (v143_0 xa xb xc a1) (v143_1 xa xb xc a1) a1)) (v145_1 xa xb xc (v144_0 xa (v143_0 xa xb xc a1) (v143_1 xa xb xc a1) a1)) (v145_2 xa xb xc (v144_0 xa (v143_0 xa xb xc a1) (v143_1 xa xb xc a1) a1)) a1 (v144_1 xa (v143_0 xa xb xc a1) (v143_1 xa xb xc a1) a1))))))
def v110_0 (xa xb xc:List AV) (a1:Int):List AV:=(bif (v142_0 xa xb xc a1) then (v64_0 xa xb xc) else (v146_0 (v145_0 xa xb xc (v144_0 xa (v143_0 xa xb xc a1) (v143_1 xa xb xc a1) a1)) (v145_1 xa xb xc (v144_0 xa (v143_0 xa xb xc a1) (v143_1 xa xb xc a1) a1)) (v145_2 xa xb xc (v144_0 xa (v143_0 xa xb xc a1) (v143_1 xa xb xc a1) a1)) a1 (v144_1 xa (v143_0 xa xb xc a1) (v143_1 xa xb xc a1) a1)))
def v110_1 (xa xb xc:List AV) (a1:Int):List AV:=(bif (v142_0 xa xb xc a1) then (v64_1 xa xb xc) else (v146_1 (v145_0 xa xb xc (v144_0 xa (v143_0 xa xb xc a1) (v143_1 xa xb xc a1) a1)) (v145_1 xa xb xc (v144_0 xa (v143_0 xa xb xc a1) (v143_1 xa xb xc a1) a1)) (v145_2 xa xb xc (v144_0 xa (v143_0 xa xb xc a1) (v143_1 xa xb xc a1) a1)) a1 (v144_1 xa (v143_0 xa xb xc a1) (v143_1 xa xb xc a1) a1)))
def v110_2 (xa xb xc:List AV) (a1:Int):List AV:=(bif (v142_0 xa xb xc a1) then (v64_2 xa xb xc) else (v146_2 (v145_0 xa xb xc (v144_0 xa (v143_0 xa xb xc a1) (v143_1 xa xb xc a1) a1)) (v145_1 xa xb xc (v144_0 xa (v143_0 xa xb xc a1) (v143_1 xa xb xc a1) a1)) (v145_2 xa xb xc (v144_0 xa (v143_0 xa xb xc a1) (v143_1 xa xb xc a1) a1)) a1 (v144_1 xa (v143_0 xa xb xc a1) (v143_1 xa xb xc a1) a1)))
def v110_3 (xa xb xc:List AV) (a1:Int):List AV:=(bif (v142_0 xa xb xc a1) then ([]:List AV) else (v144_0 xa (v143_0 xa xb xc a1) (v143_1 xa xb xc a1) a1))
theorem e110 (xa xb xc:List AV) (a1:Int):funA c110 0 110 [AV.agg [AV.sl [.int .i64] xa,AV.sl [.int .i64] xb,AV.sl [.int .i64,.int .i64] xc],Ai a1]=((fun (x1:Int) (x2:Int)=>((fun (x3:List AV) (x4:Int)=>((fun (x5:List AV) (x6:List AV) (x7:List AV)=>(bif q142 xa xb xc a1 then (bif (v142_0 xa xb xc a1) then (bif q64 xa xb xc then some (AV.tup [AV.agg [AV.fl [.int .i64] (v64_0 xa xb xc),AV.fl [.int .i64] (v64_1 xa xb xc),AV.fl [.int .i64,.int .i64] (v64_2 xa xb xc)],AV.fl [.int .i64,.int .i64] ([]:List AV)])
 else none)
 else (bif q143 xa xb xc a1 then (bif q144 xa x1 x2 a1 then (bif q145 xa xb xc x3 then (bif q146 x5 x6 x7 a1 x4 then some (AV.tup [AV.agg [AV.fl [.int .i64] (v146_0 x5 x6 x7 a1 x4),AV.fl [.int .i64] (v146_1 x5 x6 x7 a1 x4),AV.fl [.int .i64,.int .i64] (v146_2 x5 x6 x7 a1 x4)],AV.fl [.int .i64,.int .i64] x3])
 else none)
 else none)
 else none)
 else none))
 else none)) (v145_0 xa xb xc x3) (v145_1 xa xb xc x3) (v145_2 xa xb xc x3))) (v144_0 xa x1 x2 a1) (v144_1 xa x1 x2 a1))) (v143_0 xa xb xc a1) (v143_1 xa xb xc a1)):=by kernel_rfl
theorem r110 (xa xb xc:List AV) (a1:Int) (h:q110 xa xb xc a1=true):funA c110 0 110 [AV.agg [AV.sl [.int .i64] xa,AV.sl [.int .i64] xb,AV.sl [.int .i64,.int .i64] xc],AV.int .i64 a1]=some (AV.tup [AV.agg [AV.fl [.int .i64] (v110_0 xa xb xc a1),AV.fl [.int .i64] (v110_1 xa xb xc a1),AV.fl [.int .i64,.int .i64] (v110_2 xa xb xc a1)],AV.fl [.int .i64,.int .i64] (v110_3 xa xb xc a1)]):=by
 refine (e110 xa xb xc a1).trans ?_
 unfold q110 at h
 unfold v110_0 v110_1 v110_2 v110_3
 refine ifG (fun hc=>?_) (fun hc=>?_) <;> first|rw [hc] at h ⊢|rw [hc] at h|rw [hc]|skip
 ·refine ifG (fun hc=>?_) (fun hc=>?_) <;> first|rw [hc] at h ⊢|rw [hc] at h|rw [hc]|skip
  ·refine ifG (fun hc=>?_) (fun hc=>?_) <;> first|rw [hc] at h ⊢|rw [hc] at h|rw [hc]|skip
   ·rfl
   ·first|exact Bool.noConfusion h|exact Bool.noConfusion hc
  ·refine ifG (fun hc=>?_) (fun hc=>?_) <;> first|rw [hc] at h ⊢|rw [hc] at h|rw [hc]|skip
   ·refine ifG (fun hc=>?_) (fun hc=>?_) <;> first|rw [hc] at h ⊢|rw [hc] at h|rw [hc]|skip
    ·refine ifG (fun hc=>?_) (fun hc=>?_) <;> first|rw [hc] at h ⊢|rw [hc] at h|rw [hc]|skip
     ·refine ifG (fun hc=>?_) (fun hc=>?_) <;> first|rw [hc] at h ⊢|rw [hc] at h|rw [hc]|skip
      ·rfl
      ·first|exact Bool.noConfusion h|exact Bool.noConfusion hc
     ·first|exact Bool.noConfusion h|exact Bool.noConfusion hc
    ·first|exact Bool.noConfusion h|exact Bool.noConfusion hc
   ·first|exact Bool.noConfusion h|exact Bool.noConfusion hc
 ·first|exact Bool.noConfusion h|exact Bool.noConfusion hc
def m110:TModel
 | [.agg [.sl g0 xa,.sl g1 xb,.sl g2 xc],.int .i64 a1]=>bif ctsEq g0 ([.int .i64]) && ctsEq g1 ([.int .i64]) && ctsEq g2 ([.int .i64,.int .i64]) then some (q110 xa xb xc a1,AV.tup [AV.agg [AV.fl [.int .i64] (v110_0 xa xb xc a1),AV.fl [.int .i64] (v110_1 xa xb xc a1),AV.fl [.int .i64,.int .i64] (v110_2 xa xb xc a1)],AV.fl [.int .i64,.int .i64] (v110_3 xa xb xc a1)]) else none
 | _=>none
theorem k110:Known Tryz.prog 110:=⟨Tryz.f110,Tryz.func110,by kernel_rfl,by kernel_rfl⟩
theorem meets110:Meets Tryz.prog 110 m110:=by
 refine mt (lvl:=0) (cf:=c110) rfl mixed k110 Tryz.func110 (by kernel_rfl) noLoop (allT_cons meets64 (allT_cons meets142 (allT_cons meets143 (allT_cons meets144 (allT_cons meets145 (allT_cons meets146 allT_nil)))))) allM_nil noI fun xs r h=>?_
 unfold m110 at h
 split at h
 ·rename_i g0 xa g1 xb g2 xc a1
  obtain ⟨hg,h⟩:=bif_pair h
  simp only [Bool.and_eq_true] at hg
  obtain ⟨⟨q0,q1⟩,q2⟩:=hg
  obtain rfl:=cE q0
  obtain rfl:=cE q1
  obtain rfl:=cE q2
  obtain ⟨h1,rfl⟩:=pair_inj h
  exact r110 xa xb xc a1 h1
 ·cases h
noncomputable def c65:Cfg:=cfg Tryz.prog [(65,999,[4,5,6,7])] [(45,m45),(61,m61),(64,m64),(110,m110),(111,m111)] [] [] []
def q65 (xa xb xc:List AV) (ya yb:Int):Bool:=(q61 xa xb xc && (bif !(v61_0 xa xb xc) then q64 xa xb xc else (bif !(v45_0 ya yb) then q64 xa xb xc else (q110 xa xb xc ya && (q110 (v110_0 xa xb xc ya) (v110_1 xa xb xc ya) (v110_2 xa xb xc ya) yb && (q111 (v110_0 (v110_0 xa xb xc ya) (v110_1 xa xb xc ya) (v110_2 xa xb xc ya) yb) (v110_1 (v110_0 xa xb xc ya) (v110_1 xa xb xc ya) (v110_2 xa xb xc ya) yb) (v110_2 (v110_0 xa xb xc ya) (v110_1 xa xb xc ya) (v110_2 xa xb xc ya) yb) ya && q111 (v110_0 (v110_0 xa xb xc ya) (v110_1 xa xb xc ya) (v110_2 xa xb xc ya) yb) (v110_1 (v110_0 xa xb xc ya) (v110_1 xa xb xc ya) (v110_2 xa xb xc ya) yb) (v110_2 (v110_0 xa xb xc ya) (v110_1 xa xb xc ya) (v110_2 xa xb xc ya) yb) yb))))))
def v65_0 (xa xb xc:List AV) (ya yb:Int):List AV:=(bif !(v61_0 xa xb xc) then (v64_0 xa xb xc) else (bif !(v45_0 ya yb) then (v64_0 xa xb xc) else (v110_0 (v110_0 xa xb xc ya) (v110_1 xa xb xc ya) (v110_2 xa xb xc ya) yb)))
def v65_1 (xa xb xc:List AV) (ya yb:Int):List AV:=(bif !(v61_0 xa xb xc) then (v64_1 xa xb xc) else (bif !(v45_0 ya yb) then (v64_1 xa xb xc) else (v110_1 (v110_0 xa xb xc ya) (v110_1 xa xb xc ya) (v110_2 xa xb xc ya) yb)))
def v65_2 (xa xb xc:List AV) (ya yb:Int):List AV:=(bif !(v61_0 xa xb xc) then (v64_2 xa xb xc) else (bif !(v45_0 ya yb) then (v64_2 xa xb xc) else (v110_2 (v110_0 xa xb xc ya) (v110_1 xa xb xc ya) (v110_2 xa xb xc ya) yb)))
def v65_3 (xa xb xc:List AV) (ya yb:Int):Int:=(bif !(v61_0 xa xb xc) then 0 else (bif !(v45_0 ya yb) then 0 else (v111_0 (v110_0 (v110_0 xa xb xc ya) (v110_1 xa xb xc ya) (v110_2 xa xb xc ya) yb) (v110_1 (v110_0 xa xb xc ya) (v110_1 xa xb xc ya) (v110_2 xa xb xc ya) yb) (v110_2 (v110_0 xa xb xc ya) (v110_1 xa xb xc ya) (v110_2 xa xb xc ya) yb) ya)))
def v65_4 (xa xb xc:List AV) (ya yb:Int):Int:=(bif !(v61_0 xa xb xc) then 0 else (bif !(v45_0 ya yb) then 0 else (v111_0 (v110_0 (v110_0 xa xb xc ya) (v110_1 xa xb xc ya) (v110_2 xa xb xc ya) yb) (v110_1 (v110_0 xa xb xc ya) (v110_1 xa xb xc ya) (v110_2 xa xb xc ya) yb) (v110_2 (v110_0 xa xb xc ya) (v110_1 xa xb xc ya) (v110_2 xa xb xc ya) yb) yb)))
def v65_5 (xa xb xc:List AV) (ya yb:Int):Int:=(bif !(v61_0 xa xb xc) then 0 else (bif !(v45_0 ya yb) then 0 else IntKind.i64.wrap (((v110_3 xa xb xc ya).length:Int)+((v110_3 (v110_0 xa xb xc ya) (v110_1 xa xb xc ya) (v110_2 xa xb xc ya) yb).length:Int))))
theorem e65 (xa xb xc:List AV) (ya yb:Int):funA c65 0 65 [AV.agg [AV.sl [.int .i64] xa,AV.sl [.int .i64] xb,AV.sl [.int .i64,.int .i64] xc],AV.agg [Ai ya,Ai yb]]=((fun (x1:List AV) (x2:List AV) (x3:List AV) (x4:List AV)=>((fun (x5:List AV) (x6:List AV) (x7:List AV) (x8:List AV)=>(bif q61 xa xb xc then (bif !(v61_0 xa xb xc) then (bif q64 xa xb xc then some (AV.tup [AV.agg [AV.fl [.int .i64] (v64_0 xa xb xc),AV.fl [.int .i64] (v64_1 xa xb xc),AV.fl [.int .i64,.int .i64] (v64_2 xa xb xc)],Ai 0,Ai 0,Ai 0])
 else none)
 else (bif !(v45_0 ya yb) then (bif q64 xa xb xc then some (AV.tup [AV.agg [AV.fl [.int .i64] (v64_0 xa xb xc),AV.fl [.int .i64] (v64_1 xa xb xc),AV.fl [.int .i64,.int .i64] (v64_2 xa xb xc)],Ai 0,Ai 0,Ai 0])
 else none)
 else (bif q110 xa xb xc ya then (bif q110 x1 x2 x3 yb then (bif q111 x5 x6 x7 ya then (bif q111 x5 x6 x7 yb then some (AV.tup [AV.agg [AV.fl [.int .i64] x5,AV.fl [.int .i64] x6,AV.fl [.int .i64,.int .i64] x7],Ai (v111_0 x5 x6 x7 ya),Ai (v111_0 x5 x6 x7 yb),Ai (IntKind.i64.wrap ((x4.length:Int)+(x8.length:Int)))])
 else none)
 else none)
 else none)
 else none)))
 else none)) (v110_0 x1 x2 x3 yb) (v110_1 x1 x2 x3 yb) (v110_2 x1 x2 x3 yb) (v110_3 x1 x2 x3 yb))) (v110_0 xa xb xc ya) (v110_1 xa xb xc ya) (v110_2 xa xb xc ya) (v110_3 xa xb xc ya)):=by kernel_rfl
theorem r65 (xa xb xc:List AV) (ya yb:Int) (h:q65 xa xb xc ya yb=true):funA c65 0 65 [AV.agg [AV.sl [.int .i64] xa,AV.sl [.int .i64] xb,AV.sl [.int .i64,.int .i64] xc],AV.agg [AV.int .i64 ya,AV.int .i64 yb]]=some (AV.tup [AV.agg [AV.fl [.int .i64] (v65_0 xa xb xc ya yb),AV.fl [.int .i64] (v65_1 xa xb xc ya yb),AV.fl [.int .i64,.int .i64] (v65_2 xa xb xc ya yb)],AV.int .i64 (v65_3 xa xb xc ya yb),AV.int .i64 (v65_4 xa xb xc ya yb),AV.int .i64 (v65_5 xa xb xc ya yb)]):=by
 refine (e65 xa xb xc ya yb).trans ?_
 unfold q65 at h
 unfold v65_0 v65_1 v65_2 v65_3 v65_4 v65_5
 refine ifG (fun hc=>?_) (fun hc=>?_) <;> first|rw [hc] at h ⊢|rw [hc] at h|rw [hc]|skip
 ·refine ifG (fun hc=>?_) (fun hc=>?_) <;> first|rw [hc] at h ⊢|rw [hc] at h|rw [hc]|skip
  ·refine ifG (fun hc=>?_) (fun hc=>?_) <;> first|rw [hc] at h ⊢|rw [hc] at h|rw [hc]|skip
   ·rfl
   ·first|exact Bool.noConfusion h|exact Bool.noConfusion hc
  ·refine ifG (fun hc=>?_) (fun hc=>?_) <;> first|rw [hc] at h ⊢|rw [hc] at h|rw [hc]|skip
   ·refine ifG (fun hc=>?_) (fun hc=>?_) <;> first|rw [hc] at h ⊢|rw [hc] at h|rw [hc]|skip
    ·rfl
    ·first|exact Bool.noConfusion h|exact Bool.noConfusion hc
   ·refine ifG (fun hc=>?_) (fun hc=>?_) <;> first|rw [hc] at h ⊢|rw [hc] at h|rw [hc]|skip
    ·refine ifG (fun hc=>?_) (fun hc=>?_) <;> first|rw [hc] at h ⊢|rw [hc] at h|rw [hc]|skip
     ·refine ifG (fun hc=>?_) (fun hc=>?_) <;> first|rw [hc] at h ⊢|rw [hc] at h|rw [hc]|skip
      ·refine ifG (fun hc=>?_) (fun hc=>?_) <;> first|rw [hc] at h ⊢|rw [hc] at h|rw [hc]|skip
       ·rfl
       ·first|exact Bool.noConfusion h|exact Bool.noConfusion hc
      ·first|exact Bool.noConfusion h|exact Bool.noConfusion hc
     ·first|exact Bool.noConfusion h|exact Bool.noConfusion hc
    ·first|exact Bool.noConfusion h|exact Bool.noConfusion hc
 ·first|exact Bool.noConfusion h|exact Bool.noConfusion hc
def m65:TModel
 | [.agg [.sl g0 xa,.sl g1 xb,.sl g2 xc],.agg [.int .i64 ya,.int .i64 yb]]=>bif ctsEq g0 ([.int .i64]) && ctsEq g1 ([.int .i64]) && ctsEq g2 ([.int .i64,.int .i64]) then some (q65 xa xb xc ya yb,AV.tup [AV.agg [AV.fl [.int .i64] (v65_0 xa xb xc ya yb),AV.fl [.int .i64] (v65_1 xa xb xc ya yb),AV.fl [.int .i64,.int .i64] (v65_2 xa xb xc ya yb)],AV.int .i64 (v65_3 xa xb xc ya yb),AV.int .i64 (v65_4 xa xb xc ya yb),AV.int .i64 (v65_5 xa xb xc ya yb)]) else none
 | _=>none
theorem k65:Known Tryz.prog 65:=⟨Tryz.f65,Tryz.func65,by kernel_rfl,by kernel_rfl⟩
theorem meets65:Meets Tryz.prog 65 m65:=by
 refine mt (lvl:=0) (cf:=c65) rfl mixed k65 Tryz.func65 (by kernel_rfl) noLoop (allT_cons meets45 (allT_cons meets61 (allT_cons meets64 (allT_cons meets110 (allT_cons meets111 allT_nil))))) allM_nil noI fun xs r h=>?_
 unfold m65 at h
 split at h
 ·rename_i g0 xa g1 xb g2 xc ya yb
  obtain ⟨hg,h⟩:=bif_pair h
  simp only [Bool.and_eq_true] at hg
  obtain ⟨⟨q0,q1⟩,q2⟩:=hg
  obtain rfl:=cE q0
  obtain rfl:=cE q1
  obtain rfl:=cE q2
  obtain ⟨h1,rfl⟩:=pair_inj h
  exact r65 xa xb xc ya yb h1
 ·cases h
def G67_0 {β:Type} (t2:Int) (h0_0:List AV) (h0_1:List AV) (h0_2:List AV) (t8:Int) (h1:List AV) (N:((Int × (List AV)))→β) (K:(((List AV)))→β) (d:β):β:=(bif decide (t8<t2) then (bif (decide (0≤t8) && decide (t8<(h0_0.length:Int))) then (bif (decide (0≤t8) && decide (t8<(h0_1.length:Int))) then (bif (decide ((h1.length+([AV.agg [AV.int .i64 (fI (h0_0.getD t8.toNat .undef) 0),AV.int .i64 (fI (h0_1.getD t8.toNat .undef) 0)]]).length)*16≤140737488355328) && decide ((h1.length+([AV.agg [AV.int .i64 (fI (h0_0.getD t8.toNat .undef) 0),AV.int .i64 (fI (h0_1.getD t8.toNat .undef) 0)]]).length)≤140737488355328)) then N (IntKind.i64.wrap (t8+1),h1++([AV.agg [AV.int .i64 (fI (h0_0.getD t8.toNat .undef) 0),AV.int .i64 (fI (h0_1.getD t8.toNat .undef) 0)]]))
 else d)
 else d)
 else d)
 else K h1)
def F67_0 (t2:Int) (h0_0 h0_1 h0_2:List AV) (t8:Int) (h1:List AV):Out ((Int × (List AV))) (((List AV))):=G67_0 t2 h0_0 h0_1 h0_2 t8 h1 .next .stop .fail
def R67_0 (t2:Int) (h0_0 h0_1 h0_2:List AV):((Int × (List AV)))→Out ((Int × (List AV))) (((List AV))):=fun s:Int × (List AV)=>F67_0 t2 h0_0 h0_1 h0_2 s.1 s.2
def E67_0 (t2:Int) (h0_0 h0_1 h0_2:List AV):((Int × (List AV)))→St:=fun s:Int × (List AV)=>⟨[(2,Ai t2),(3,AV.ptr [0,3] 0 0),(7,AV.own [0,7]),(8,Ai s.1)],[([0,3],⟨true,[],[AV.agg [AV.sl [.int .i64] h0_0,AV.sl [.int .i64] h0_1,AV.sl [.int .i64,.int .i64] h0_2]]⟩),([0,7],⟨false,[.int .i64,.int .i64],s.2⟩)]⟩
def K67_0 (t2:Int) (h0_0 h0_1 h0_2:List AV) (k:Kont):(((List AV)))→Option AV:=fun p:(List AV)=>k (.exit 0) ⟨[(7,AV.own [0,7])],[([0,3],⟨true,[],[AV.agg [AV.sl [.int .i64] h0_0,AV.sl [.int .i64] h0_1,AV.sl [.int .i64,.int .i64] h0_2]]⟩),([0,7],⟨false,[.int .i64,.int .i64],p⟩)]⟩
def l67_0:LModel:=fun _ _ st k=>match st with
 | ⟨[(2,.int .i64 t2),(3,.ptr g0 g1 g2),(7,.own g3),(8,.int .i64 t8)],[(g4,⟨true,[],[.agg [.sl g5 h0_0,.sl g6 h0_1,.sl g7 h0_2]]⟩),(g8,⟨false,g9,h1⟩)]⟩=>bif nmEq g0 ([0,3]) && Nat.beq g1 0 && Nat.beq g2 0 && nmEq g3 ([0,7]) && nmEq g4 ([0,3]) && ctsEq g5 ([.int .i64]) && ctsEq g6 ([.int .i64]) && ctsEq g7 ([.int .i64,.int .i64]) && nmEq g8 ([0,7]) && ctsEq g9 ([.int .i64,.int .i64]) then ro (runW (R67_0 t2 h0_0 h0_1 h0_2) ((t2 - t8:Int).toNat+1) (t8,h1)) none (K67_0 t2 h0_0 h0_1 h0_2 k) else none
 | _=>none
noncomputable def c67:Cfg:=cfg Tryz.prog [(67,0,[2,3,7,8]),(67,999,[6]),(67,1000,[7]),(67,1001,[2,3,7,8])] [] [] [] [(67,0,l67_0)]
theorem s67_0 (t2:Int) (h0_0 h0_1 h0_2:List AV) (ce:CallE) (k:Kont) (s:Int × (List AV)) (next:St→Option AV):stepA (codeA c67 ce [] 67 0 (sub [1,1,0,1,0,0] (body Tryz.f67))) (normA [] [2,3,7,8]) next ((E67_0 t2 h0_0 h0_1 h0_2) s) k=G67_0 t2 h0_0 h0_1 h0_2 s.1 s.2 (fun s=>next ((E67_0 t2 h0_0 h0_1 h0_2) s)) (K67_0 t2 h0_0 h0_1 h0_2 k) none:=by kernel_rfl
theorem st67_0 (t2:Int) (h0_0 h0_1 h0_2:List AV) (ce:CallE) (k:Kont) (s:(Int × (List AV))) (next:St→Option AV):stepA (codeA c67 ce [] 67 0 (sub [1,1,0,1,0,0] (body Tryz.f67))) (normA [] [2,3,7,8]) next ((E67_0 t2 h0_0 h0_1 h0_2) s) k=(R67_0 t2 h0_0 h0_1 h0_2 s).el none (fun s=>next ((E67_0 t2 h0_0 h0_1 h0_2) s)) (K67_0 t2 h0_0 h0_1 h0_2 k):=(s67_0 t2 h0_0 h0_1 h0_2 ce k s next).trans (by unfold R67_0;unfold F67_0 G67_0;simp only [el_cond,el_ro,el_sum,el_fail,el_next,el_stop] <;> rfl)
theorem ok67_0 {ce:CallE}:LoopOK c67 ce [] 67 0 (sub [1,1,0,1,0,0] (body Tryz.f67)):=by
 intro m hm st k r h
 obtain rfl:l67_0=m:=Option.some.inj hm
 unfold l67_0 at h
 split at h
 ·rename_i t2 g0 g1 g2 g3 t8 g4 g5 h0_0 g6 h0_1 g7 h0_2 g8 g9 h1
  obtain ⟨hg,h⟩:=bif_some h
  simp only [Bool.and_eq_true] at hg
  obtain ⟨⟨⟨⟨⟨⟨⟨⟨⟨q0,q1⟩,q2⟩,q3⟩,q4⟩,q5⟩,q6⟩,q7⟩,q8⟩,q9⟩:=hg
  obtain rfl:=nE q0
  obtain rfl:=bE q1
  obtain rfl:=bE q2
  obtain rfl:=nE q3
  obtain rfl:=nE q4
  obtain rfl:=cE q5
  obtain rfl:=cE q6
  obtain rfl:=cE q7
  obtain rfl:=nE q8
  obtain rfl:=cE q9
  refine ⟨((t2 - t8:Int).toNat+1),?_⟩
  rw [← h]
  exact loop_run (E67_0 t2 h0_0 h0_1 h0_2) (K67_0 t2 h0_0 h0_1 h0_2 k) (st67_0 t2 h0_0 h0_1 h0_2 ce k) _ (t8,h1)
 ·cases h
def q67 (xa xb xc:List AV) (a1 a2:Int):Bool:=(ro (runW (R67_0 a2 xa xb xc) ((a2 - a1:Int).toNat+1) (a1,([]:List AV))) false (fun p49=>true))
def v67_0 (xa xb xc:List AV) (a1 a2:Int):List AV:=(ro (runW (R67_0 a2 xa xb xc) ((a2 - a1:Int).toNat+1) (a1,([]:List AV))) [] (fun p49=>p49))
theorem e67 (xa xb xc:List AV) (a1 a2:Int):funA c67 0 67 [AV.agg [AV.sl [.int .i64] xa,AV.sl [.int .i64] xb,AV.sl [.int .i64,.int .i64] xc],Ai a1,Ai a2]=(ro (runW (R67_0 a2 xa xb xc) ((a2 - a1:Int).toNat+1) (a1,([]:List AV))) none (fun p49=>some (AV.fl [.int .i64,.int .i64] p49))):=by kernel_rfl
def m67:TModel
 | [.agg [.sl g0 xa,.sl g1 xb,.sl g2 xc],.int .i64 a1,.int .i64 a2]=>bif ctsEq g0 ([.int .i64]) && ctsEq g1 ([.int .i64]) && ctsEq g2 ([.int .i64,.int .i64]) then some (q67 xa xb xc a1 a2,AV.fl [.int .i64,.int .i64] (v67_0 xa xb xc a1 a2)) else none
 | _=>none
theorem k67:Known Tryz.prog 67:=⟨Tryz.f67,Tryz.func67,by kernel_rfl,by kernel_rfl⟩
theorem meets67:Meets Tryz.prog 67 m67:=by
 refine mt (lvl:=0) (cf:=c67) rfl mixed k67 Tryz.func67 (by kernel_rfl) (loops_cons ok67_0 noLoop) allT_nil allM_nil noI fun xs r h=>?_
 unfold m67 at h
 split at h
 ·rename_i g0 xa g1 xb g2 xc a1 a2
  obtain ⟨hg,h⟩:=bif_pair h
  simp only [Bool.and_eq_true] at hg
  obtain ⟨⟨q0,q1⟩,q2⟩:=hg
  obtain rfl:=cE q0
  obtain rfl:=cE q1
  obtain rfl:=cE q2
  obtain ⟨h1,rfl⟩:=pair_inj h
  exact (e67 xa xb xc a1 a2).trans ((brO (fun o:Option (((List AV)))=>some (AV.fl [.int .i64,.int .i64] (ro o [] (fun p49=>p49)))) (fun p49=>(fun _=>rfl))) h1)
 ·cases h
def q112 (b0:List AV):Bool:=decide (b0.length*16≤140737488355328)
def v112_0 (b0:List AV):List AV:=sortPL b0
def m112:WModel:=sortPM 113
theorem k112:Known Tryz.prog 112:=⟨Tryz.f112,Tryz.func112,by kernel_rfl,by kernel_rfl⟩
theorem meets112:MeetsM Tryz.prog 112 m112:=sortP_meets (sortPWalk k112)
def G66_2 {β:Type} (t1:List AV) (t11:List AV) (t12:Int) (t13:Int) (t17:List AV) (t18:Int) (h1_0:Int) (h1_1:Int) (t19:Int) (h0:List AV) (N:((Int × (List AV)))→β) (K:(((List AV)))→β) (d:β):β:=(bif decide (t19<t18) then (bif (decide (0≤t19) && decide (t19<(t17.length:Int))) then (bif decide (h1_0=fI (t17.getD t19.toNat .undef) 0) then (bif (decide ((h0.length+([AV.agg [AV.int .i64 h1_1,AV.int .i64 (fI (t17.getD t19.toNat .undef) 1)]]).length)*16≤140737488355328) && decide ((h0.length+([AV.agg [AV.int .i64 h1_1,AV.int .i64 (fI (t17.getD t19.toNat .undef) 1)]]).length)≤140737488355328)) then N (IntKind.i64.wrap (t19+1),h0++([AV.agg [AV.int .i64 h1_1,AV.int .i64 (fI (t17.getD t19.toNat .undef) 1)]]))
 else d)
 else N (IntKind.i64.wrap (t19+1),h0))
 else d)
 else K h0)
def F66_2 (t1 t11:List AV) (t12 t13:Int) (t17:List AV) (t18 h1_0 h1_1 t19:Int) (h0:List AV):Out ((Int × (List AV))) (((List AV))):=G66_2 t1 t11 t12 t13 t17 t18 h1_0 h1_1 t19 h0 .next .stop .fail
def R66_2 (t1 t11:List AV) (t12 t13:Int) (t17:List AV) (t18 h1_0 h1_1:Int):((Int × (List AV)))→Out ((Int × (List AV))) (((List AV))):=fun s:Int × (List AV)=>F66_2 t1 t11 t12 t13 t17 t18 h1_0 h1_1 s.1 s.2
def E66_2 (t1 t11:List AV) (t12 t13:Int) (t17:List AV) (t18 h1_0 h1_1:Int):((Int × (List AV)))→St:=fun s:Int × (List AV)=>⟨[(1,AV.sl [.int .i64,.int .i64] t1),(5,AV.own [0,5]),(7,AV.ptr [0,7] 0 0),(11,AV.sl [.int .i64,.int .i64] t11),(12,Ai t12),(13,Ai t13),(17,AV.sl [.int .i64,.int .i64] t17),(18,Ai t18),(19,Ai s.1)],[([0,5],⟨false,[.int .i64,.int .i64],s.2⟩),([0,7],⟨true,[],[AV.agg [Ai h1_0,Ai h1_1]]⟩)]⟩
def K66_2 (t1 t11:List AV) (t12 t13:Int) (t17:List AV) (t18 h1_0 h1_1:Int) (k:Kont):(((List AV)))→Option AV:=fun p:(List AV)=>k (.exit 2) ⟨[(1,AV.sl [.int .i64,.int .i64] t1),(5,AV.own [0,5]),(11,AV.sl [.int .i64,.int .i64] t11),(12,Ai t12),(13,Ai t13)],[([0,5],⟨false,[.int .i64,.int .i64],p⟩),([0,7],⟨true,[],[AV.agg [Ai h1_0,Ai h1_1]]⟩)]⟩
def l66_2:LModel:=fun _ _ st k=>match st with
 | ⟨[(1,.sl g0 t1),(5,.own g1),(7,.ptr g2 g3 g4),(11,.sl g5 t11),(12,.int .i64 t12),(13,.int .i64 t13),(17,.sl g6 t17),(18,.int .i64 t18),(19,.int .i64 t19)],[(g7,⟨false,g8,h0⟩),(g9,⟨true,[],[.agg [.int .i64 h1_0,.int .i64 h1_1]]⟩)]⟩=>bif ctsEq g0 ([.int .i64,.int .i64]) && nmEq g1 ([0,5]) && nmEq g2 ([0,7]) && Nat.beq g3 0 && Nat.beq g4 0 && ctsEq g5 ([.int .i64,.int .i64]) && ctsEq g6 ([.int .i64,.int .i64]) && nmEq g7 ([0,5]) && ctsEq g8 ([.int .i64,.int .i64]) && nmEq g9 ([0,7]) then ro (runW (R66_2 t1 t11 t12 t13 t17 t18 h1_0 h1_1) ((t18 - t19:Int).toNat+1) (t19,h0)) none (K66_2 t1 t11 t12 t13 t17 t18 h1_0 h1_1 k) else none
 | _=>none
def G66_0 {β:Type} (t1:List AV) (t11:List AV) (t12:Int) (t13:Int) (h0:List AV) (N:((Int × (List AV)))→β) (K:(((List AV)))→β) (d:β):β:=(bif decide (t13<t12) then (bif (decide (0≤t13) && decide (t13<(t11.length:Int))) then (ro (runW (R66_2 t1 t11 t12 t13 t1 (t1.length:Int) (fI (t11.getD t13.toNat .undef) 0) (fI (t11.getD t13.toNat .undef) 1)) (((t1.length:Int) - 0:Int).toNat+1) (0,h0)) d (fun p50=>N (IntKind.i64.wrap (t13+1),p50)))
 else d)
 else K h0)
def F66_0 (t1 t11:List AV) (t12 t13:Int) (h0:List AV):Out ((Int × (List AV))) (((List AV))):=G66_0 t1 t11 t12 t13 h0 .next .stop .fail
def R66_0 (t1 t11:List AV) (t12:Int):((Int × (List AV)))→Out ((Int × (List AV))) (((List AV))):=fun s:Int × (List AV)=>F66_0 t1 t11 t12 s.1 s.2
def E66_0 (t1 t11:List AV) (t12:Int):((Int × (List AV)))→St:=fun s:Int × (List AV)=>⟨[(1,AV.sl [.int .i64,.int .i64] t1),(5,AV.own [0,5]),(11,AV.sl [.int .i64,.int .i64] t11),(12,Ai t12),(13,Ai s.1)],[([0,5],⟨false,[.int .i64,.int .i64],s.2⟩)]⟩
def K66_0 (t1 t11:List AV) (t12:Int) (k:Kont):(((List AV)))→Option AV:=fun p:(List AV)=>k (.exit 0) ⟨[(5,AV.own [0,5])],[([0,5],⟨false,[.int .i64,.int .i64],p⟩)]⟩
def l66_0:LModel:=fun _ _ st k=>match st with
 | ⟨[(1,.sl g0 t1),(5,.own g1),(11,.sl g2 t11),(12,.int .i64 t12),(13,.int .i64 t13)],[(g3,⟨false,g4,h0⟩)]⟩=>bif ctsEq g0 ([.int .i64,.int .i64]) && nmEq g1 ([0,5]) && ctsEq g2 ([.int .i64,.int .i64]) && nmEq g3 ([0,5]) && ctsEq g4 ([.int .i64,.int .i64]) then ro (runW (R66_0 t1 t11 t12) ((t12 - t13:Int).toNat+1) (t13,h0)) none (K66_0 t1 t11 t12 k) else none
 | _=>none
noncomputable def c66:Cfg:=cfg Tryz.prog [(66,0,[1,5,11,12,13]),(66,2,[1,5,7,11,12,13,17,18,19]),(66,999,[4]),(66,1000,[5]),(66,1001,[1,5,11,12,13]),(66,1002,[1,5,11,12,13]),(66,1003,[1,5,7,11,12,13,17,18,19])] [] [(112,.w m112)] [] [(66,0,l66_0),(66,2,l66_2)]
theorem s66_2 (t1 t11:List AV) (t12 t13:Int) (t17:List AV) (t18 h1_0 h1_1:Int) (ce:CallE) (k:Kont) (s:Int × (List AV)) (next:St→Option AV):stepA (codeA c66 ce [] 66 2 (sub [1,1,0,1,0,0,1,1,0,0,1,1,0,0] (body Tryz.f66))) (normA [] [1,5,7,11,12,13,17,18,19]) next ((E66_2 t1 t11 t12 t13 t17 t18 h1_0 h1_1) s) k=G66_2 t1 t11 t12 t13 t17 t18 h1_0 h1_1 s.1 s.2 (fun s=>next ((E66_2 t1 t11 t12 t13 t17 t18 h1_0 h1_1) s)) (K66_2 t1 t11 t12 t13 t17 t18 h1_0 h1_1 k) none:=by kernel_rfl
theorem st66_2 (t1 t11:List AV) (t12 t13:Int) (t17:List AV) (t18 h1_0 h1_1:Int) (ce:CallE) (k:Kont) (s:(Int × (List AV))) (next:St→Option AV):stepA (codeA c66 ce [] 66 2 (sub [1,1,0,1,0,0,1,1,0,0,1,1,0,0] (body Tryz.f66))) (normA [] [1,5,7,11,12,13,17,18,19]) next ((E66_2 t1 t11 t12 t13 t17 t18 h1_0 h1_1) s) k=(R66_2 t1 t11 t12 t13 t17 t18 h1_0 h1_1 s).el none (fun s=>next ((E66_2 t1 t11 t12 t13 t17 t18 h1_0 h1_1) s)) (K66_2 t1 t11 t12 t13 t17 t18 h1_0 h1_1 k):=(s66_2 t1 t11 t12 t13 t17 t18 h1_0 h1_1 ce k s next).trans (by unfold R66_2;unfold F66_2 G66_2;simp only [el_cond,el_ro,el_sum,el_fail,el_next,el_stop] <;> rfl)
theorem ok66_2 {ce:CallE}:LoopOK c66 ce [] 66 2 (sub [1,1,0,1,0,0,1,1,0,0,1,1,0,0] (body Tryz.f66)):=by
 intro m hm st k r h
 obtain rfl:l66_2=m:=Option.some.inj hm
 unfold l66_2 at h
 split at h
 ·rename_i g0 t1 g1 g2 g3 g4 g5 t11 t12 t13 g6 t17 t18 t19 g7 g8 h0 g9 h1_0 h1_1
  obtain ⟨hg,h⟩:=bif_some h
  simp only [Bool.and_eq_true] at hg
  obtain ⟨⟨⟨⟨⟨⟨⟨⟨⟨q0,q1⟩,q2⟩,q3⟩,q4⟩,q5⟩,q6⟩,q7⟩,q8⟩,q9⟩:=hg
  obtain rfl:=cE q0
  obtain rfl:=nE q1
  obtain rfl:=nE q2
  obtain rfl:=bE q3
  obtain rfl:=bE q4
  obtain rfl:=cE q5
  obtain rfl:=cE q6
  obtain rfl:=nE q7
  obtain rfl:=cE q8
  obtain rfl:=nE q9
  refine ⟨((t18 - t19:Int).toNat+1),?_⟩
  rw [← h]
  exact loop_run (E66_2 t1 t11 t12 t13 t17 t18 h1_0 h1_1) (K66_2 t1 t11 t12 t13 t17 t18 h1_0 h1_1 k) (st66_2 t1 t11 t12 t13 t17 t18 h1_0 h1_1 ce k) _ (t19,h0)
 ·cases h
theorem s66_0 (t1 t11:List AV) (t12:Int) (ce:CallE) (k:Kont) (s:Int × (List AV)) (next:St→Option AV):stepA (codeA c66 ce [] 66 0 (sub [1,1,0,1,0,0] (body Tryz.f66))) (normA [] [1,5,11,12,13]) next ((E66_0 t1 t11 t12) s) k=G66_0 t1 t11 t12 s.1 s.2 (fun s=>next ((E66_0 t1 t11 t12) s)) (K66_0 t1 t11 t12 k) none:=by kernel_rfl
theorem st66_0 (t1 t11:List AV) (t12:Int) (ce:CallE) (k:Kont) (s:(Int × (List AV))) (next:St→Option AV):stepA (codeA c66 ce [] 66 0 (sub [1,1,0,1,0,0] (body Tryz.f66))) (normA [] [1,5,11,12,13]) next ((E66_0 t1 t11 t12) s) k=(R66_0 t1 t11 t12 s).el none (fun s=>next ((E66_0 t1 t11 t12) s)) (K66_0 t1 t11 t12 k):=(s66_0 t1 t11 t12 ce k s next).trans (by unfold R66_0;unfold F66_0 G66_0;simp only [el_cond,el_ro,el_sum,el_fail,el_next,el_stop] <;> rfl)
theorem ok66_0 {ce:CallE}:LoopOK c66 ce [] 66 0 (sub [1,1,0,1,0,0] (body Tryz.f66)):=by
 intro m hm st k r h
 obtain rfl:l66_0=m:=Option.some.inj hm
 unfold l66_0 at h
 split at h
 ·rename_i g0 t1 g1 g2 t11 t12 t13 g3 g4 h0
  obtain ⟨hg,h⟩:=bif_some h
  simp only [Bool.and_eq_true] at hg
  obtain ⟨⟨⟨⟨q0,q1⟩,q2⟩,q3⟩,q4⟩:=hg
  obtain rfl:=cE q0
  obtain rfl:=nE q1
  obtain rfl:=cE q2
  obtain rfl:=nE q3
  obtain rfl:=cE q4
  refine ⟨((t12 - t13:Int).toNat+1),?_⟩
  rw [← h]
  exact loop_run (E66_0 t1 t11 t12) (K66_0 t1 t11 t12 k) (st66_0 t1 t11 t12 ce k) _ (t13,h0)
 ·cases h
def q66 (a0 a1:List AV):Bool:=(ro (runW (R66_0 a1 a0 (a0.length:Int)) (((a0.length:Int) - 0:Int).toNat+1) (0,([]:List AV))) false (fun p51=>q112 p51))
def v66_0 (a0 a1:List AV):List AV:=(ro (runW (R66_0 a1 a0 (a0.length:Int)) (((a0.length:Int) - 0:Int).toNat+1) (0,([]:List AV))) [] (fun p51=>(v112_0 p51)))
theorem e66 (a0 a1:List AV):funA c66 0 66 [AV.sl [.int .i64,.int .i64] a0,AV.sl [.int .i64,.int .i64] a1]=(ro (runW (R66_0 a1 a0 (a0.length:Int)) (((a0.length:Int) - 0:Int).toNat+1) (0,([]:List AV))) none (fun p51=>(bif q112 p51 then some (AV.fl [.int .i64,.int .i64] (v112_0 p51))
 else none))):=by kernel_rfl
def m66:TModel
 | [.sl g0 a0,.sl g1 a1]=>bif ctsEq g0 ([.int .i64,.int .i64]) && ctsEq g1 ([.int .i64,.int .i64]) then some (q66 a0 a1,AV.fl [.int .i64,.int .i64] (v66_0 a0 a1)) else none
 | _=>none
theorem k66:Known Tryz.prog 66:=⟨Tryz.f66,Tryz.func66,by kernel_rfl,by kernel_rfl⟩
theorem meets66:Meets Tryz.prog 66 m66:=by
 refine mt (lvl:=0) (cf:=c66) rfl mixed k66 Tryz.func66 (by kernel_rfl) (loops_cons ok66_0 (loops_cons ok66_2 noLoop)) allT_nil (allM_cons meets112 allM_nil) noI fun xs r h=>?_
 unfold m66 at h
 split at h
 ·rename_i g0 a0 g1 a1
  obtain ⟨hg,h⟩:=bif_pair h
  simp only [Bool.and_eq_true] at hg
  obtain ⟨q0,q1⟩:=hg
  obtain rfl:=cE q0
  obtain rfl:=cE q1
  obtain ⟨h1,rfl⟩:=pair_inj h
  exact (e66 a0 a1).trans ((brO (fun o:Option (((List AV)))=>some (AV.fl [.int .i64,.int .i64] (ro o [] (fun p51=>(v112_0 p51))))) (fun p51=>(brL1 (fun _=>rfl)))) h1)
 ·cases h
noncomputable def c19:Cfg:=cfg Tryz.prog [(19,999,[6,7,8,9])] [(45,m45),(61,m61),(64,m64),(65,m65),(66,m66),(67,m67)] [] [] []
def q19 (xa xb xc ya yb yc:List AV) (za zb:Int):Bool:=(q61 xa xb xc && (bif !(v61_0 xa xb xc) then (q64 xa xb xc && q64 ya yb yc) else (q61 ya yb yc && (bif !(v61_0 ya yb yc) then (q64 xa xb xc && q64 ya yb yc) else (bif !(v45_0 za zb) then (q64 xa xb xc && q64 ya yb yc) else (q65 xa xb xc za zb && (q65 ya yb yc za zb && (q67 (v65_0 xa xb xc za zb) (v65_1 xa xb xc za zb) (v65_2 xa xb xc za zb) (v65_3 xa xb xc za zb) (v65_4 xa xb xc za zb) && (q67 (v65_0 ya yb yc za zb) (v65_1 ya yb yc za zb) (v65_2 ya yb yc za zb) (v65_3 ya yb yc za zb) (v65_4 ya yb yc za zb) && q66 (v67_0 (v65_0 xa xb xc za zb) (v65_1 xa xb xc za zb) (v65_2 xa xb xc za zb) (v65_3 xa xb xc za zb) (v65_4 xa xb xc za zb)) (v67_0 (v65_0 ya yb yc za zb) (v65_1 ya yb yc za zb) (v65_2 ya yb yc za zb) (v65_3 ya yb yc za zb) (v65_4 ya yb yc za zb)))))))))))
def v19_0 (xa xb xc ya yb yc:List AV) (za zb:Int):List AV:=(bif !(v61_0 xa xb xc) then (v64_0 xa xb xc) else (bif !(v61_0 ya yb yc) then (v64_0 xa xb xc) else (bif !(v45_0 za zb) then (v64_0 xa xb xc) else (v65_0 xa xb xc za zb))))
def v19_1 (xa xb xc ya yb yc:List AV) (za zb:Int):List AV:=(bif !(v61_0 xa xb xc) then (v64_1 xa xb xc) else (bif !(v61_0 ya yb yc) then (v64_1 xa xb xc) else (bif !(v45_0 za zb) then (v64_1 xa xb xc) else (v65_1 xa xb xc za zb))))
def v19_2 (xa xb xc ya yb yc:List AV) (za zb:Int):List AV:=(bif !(v61_0 xa xb xc) then (v64_2 xa xb xc) else (bif !(v61_0 ya yb yc) then (v64_2 xa xb xc) else (bif !(v45_0 za zb) then (v64_2 xa xb xc) else (v65_2 xa xb xc za zb))))
def v19_3 (xa xb xc ya yb yc:List AV) (za zb:Int):List AV:=(bif !(v61_0 xa xb xc) then (v64_0 ya yb yc) else (bif !(v61_0 ya yb yc) then (v64_0 ya yb yc) else (bif !(v45_0 za zb) then (v64_0 ya yb yc) else (v65_0 ya yb yc za zb))))
def v19_4 (xa xb xc ya yb yc:List AV) (za zb:Int):List AV:=(bif !(v61_0 xa xb xc) then (v64_1 ya yb yc) else (bif !(v61_0 ya yb yc) then (v64_1 ya yb yc) else (bif !(v45_0 za zb) then (v64_1 ya yb yc) else (v65_1 ya yb yc za zb))))
def v19_5 (xa xb xc ya yb yc:List AV) (za zb:Int):List AV:=(bif !(v61_0 xa xb xc) then (v64_2 ya yb yc) else (bif !(v61_0 ya yb yc) then (v64_2 ya yb yc) else (bif !(v45_0 za zb) then (v64_2 ya yb yc) else (v65_2 ya yb yc za zb))))
def v19_6 (xa xb xc ya yb yc:List AV) (za zb:Int):List AV:=(bif !(v61_0 xa xb xc) then ([]:List AV) else (bif !(v61_0 ya yb yc) then ([]:List AV) else (bif !(v45_0 za zb) then ([]:List AV) else (v66_0 (v67_0 (v65_0 xa xb xc za zb) (v65_1 xa xb xc za zb) (v65_2 xa xb xc za zb) (v65_3 xa xb xc za zb) (v65_4 xa xb xc za zb)) (v67_0 (v65_0 ya yb yc za zb) (v65_1 ya yb yc za zb) (v65_2 ya yb yc za zb) (v65_3 ya yb yc za zb) (v65_4 ya yb yc za zb))))))
def v19_7 (xa xb xc ya yb yc:List AV) (za zb:Int):Bool:=(bif !(v61_0 xa xb xc) then false else (bif !(v61_0 ya yb yc) then false else (bif !(v45_0 za zb) then false else true)))
theorem e19 (xa xb xc ya yb yc:List AV) (za zb:Int):funA c19 0 19 [AV.agg [AV.sl [.int .i64] xa,AV.sl [.int .i64] xb,AV.sl [.int .i64,.int .i64] xc],AV.agg [AV.sl [.int .i64] ya,AV.sl [.int .i64] yb,AV.sl [.int .i64,.int .i64] yc],AV.agg [Ai za,Ai zb]]=((fun (x1:List AV) (x2:List AV) (x3:List AV) (x4:Int) (x5:Int) (x6:List AV) (x7:List AV) (x8:List AV) (x9:Int) (x10:Int)=>(bif q61 xa xb xc then (bif !(v61_0 xa xb xc) then (bif q64 xa xb xc then (bif q64 ya yb yc then some (AV.tup [AV.agg [AV.fl [.int .i64] (v64_0 xa xb xc),AV.fl [.int .i64] (v64_1 xa xb xc),AV.fl [.int .i64,.int .i64] (v64_2 xa xb xc)],AV.agg [AV.fl [.int .i64] (v64_0 ya yb yc),AV.fl [.int .i64] (v64_1 ya yb yc),AV.fl [.int .i64,.int .i64] (v64_2 ya yb yc)],AV.fl [.int .i64,.int .i64] ([]:List AV),AV.bool false])
 else none)
 else none)
 else (bif q61 ya yb yc then (bif !(v61_0 ya yb yc) then (bif q64 xa xb xc then (bif q64 ya yb yc then some (AV.tup [AV.agg [AV.fl [.int .i64] (v64_0 xa xb xc),AV.fl [.int .i64] (v64_1 xa xb xc),AV.fl [.int .i64,.int .i64] (v64_2 xa xb xc)],AV.agg [AV.fl [.int .i64] (v64_0 ya yb yc),AV.fl [.int .i64] (v64_1 ya yb yc),AV.fl [.int .i64,.int .i64] (v64_2 ya yb yc)],AV.fl [.int .i64,.int .i64] ([]:List AV),AV.bool false])
 else none)
 else none)
 else (bif !(v45_0 za zb) then (bif q64 xa xb xc then (bif q64 ya yb yc then some (AV.tup [AV.agg [AV.fl [.int .i64] (v64_0 xa xb xc),AV.fl [.int .i64] (v64_1 xa xb xc),AV.fl [.int .i64,.int .i64] (v64_2 xa xb xc)],AV.agg [AV.fl [.int .i64] (v64_0 ya yb yc),AV.fl [.int .i64] (v64_1 ya yb yc),AV.fl [.int .i64,.int .i64] (v64_2 ya yb yc)],AV.fl [.int .i64,.int .i64] ([]:List AV),AV.bool false])
 else none)
 else none)
 else (bif q65 xa xb xc za zb then (bif q65 ya yb yc za zb then (bif q67 x1 x2 x3 x4 x5 then (bif q67 x6 x7 x8 x9 x10 then (bif q66 (v67_0 x1 x2 x3 x4 x5) (v67_0 x6 x7 x8 x9 x10) then some (AV.tup [AV.agg [AV.fl [.int .i64] x1,AV.fl [.int .i64] x2,AV.fl [.int .i64,.int .i64] x3],AV.agg [AV.fl [.int .i64] x6,AV.fl [.int .i64] x7,AV.fl [.int .i64,.int .i64] x8],AV.fl [.int .i64,.int .i64] (v66_0 (v67_0 x1 x2 x3 x4 x5) (v67_0 x6 x7 x8 x9 x10)),AV.bool true])
 else none)
 else none)
 else none)
 else none)
 else none)))
 else none))
 else none)) (v65_0 xa xb xc za zb) (v65_1 xa xb xc za zb) (v65_2 xa xb xc za zb) (v65_3 xa xb xc za zb) (v65_4 xa xb xc za zb) (v65_0 ya yb yc za zb) (v65_1 ya yb yc za zb) (v65_2 ya yb yc za zb) (v65_3 ya yb yc za zb) (v65_4 ya yb yc za zb)):=by kernel_rfl
theorem r19 (xa xb xc ya yb yc:List AV) (za zb:Int) (h:q19 xa xb xc ya yb yc za zb=true):funA c19 0 19 [AV.agg [AV.sl [.int .i64] xa,AV.sl [.int .i64] xb,AV.sl [.int .i64,.int .i64] xc],AV.agg [AV.sl [.int .i64] ya,AV.sl [.int .i64] yb,AV.sl [.int .i64,.int .i64] yc],AV.agg [AV.int .i64 za,AV.int .i64 zb]]=some (AV.tup [AV.agg [AV.fl [.int .i64] (v19_0 xa xb xc ya yb yc za zb),AV.fl [.int .i64] (v19_1 xa xb xc ya yb yc za zb),AV.fl [.int .i64,.int .i64] (v19_2 xa xb xc ya yb yc za zb)],AV.agg [AV.fl [.int .i64] (v19_3 xa xb xc ya yb yc za zb),AV.fl [.int .i64] (v19_4 xa xb xc ya yb yc za zb),AV.fl [.int .i64,.int .i64] (v19_5 xa xb xc ya yb yc za zb)],AV.fl [.int .i64,.int .i64] (v19_6 xa xb xc ya yb yc za zb),AV.bool (v19_7 xa xb xc ya yb yc za zb)]):=by
 refine (e19 xa xb xc ya yb yc za zb).trans ?_
 unfold q19 at h
 unfold v19_0 v19_1 v19_2 v19_3 v19_4 v19_5 v19_6 v19_7
 refine ifG (fun hc=>?_) (fun hc=>?_) <;> first|rw [hc] at h ⊢|rw [hc] at h|rw [hc]|skip
 ·refine ifG (fun hc=>?_) (fun hc=>?_) <;> first|rw [hc] at h ⊢|rw [hc] at h|rw [hc]|skip
  ·refine ifG (fun hc=>?_) (fun hc=>?_) <;> first|rw [hc] at h ⊢|rw [hc] at h|rw [hc]|skip
   ·refine ifG (fun hc=>?_) (fun hc=>?_) <;> first|rw [hc] at h ⊢|rw [hc] at h|rw [hc]|skip
    ·rfl
    ·first|exact Bool.noConfusion h|exact Bool.noConfusion hc
   ·first|exact Bool.noConfusion h|exact Bool.noConfusion hc
  ·refine ifG (fun hc=>?_) (fun hc=>?_) <;> first|rw [hc] at h ⊢|rw [hc] at h|rw [hc]|skip
   ·refine ifG (fun hc=>?_) (fun hc=>?_) <;> first|rw [hc] at h ⊢|rw [hc] at h|rw [hc]|skip
    ·refine ifG (fun hc=>?_) (fun hc=>?_) <;> first|rw [hc] at h ⊢|rw [hc] at h|rw [hc]|skip
     ·refine ifG (fun hc=>?_) (fun hc=>?_) <;> first|rw [hc] at h ⊢|rw [hc] at h|rw [hc]|skip
      ·rfl
      ·first|exact Bool.noConfusion h|exact Bool.noConfusion hc
     ·first|exact Bool.noConfusion h|exact Bool.noConfusion hc
    ·refine ifG (fun hc=>?_) (fun hc=>?_) <;> first|rw [hc] at h ⊢|rw [hc] at h|rw [hc]|skip
     ·refine ifG (fun hc=>?_) (fun hc=>?_) <;> first|rw [hc] at h ⊢|rw [hc] at h|rw [hc]|skip
      ·refine ifG (fun hc=>?_) (fun hc=>?_) <;> first|rw [hc] at h ⊢|rw [hc] at h|rw [hc]|skip
       ·rfl
       ·first|exact Bool.noConfusion h|exact Bool.noConfusion hc
      ·first|exact Bool.noConfusion h|exact Bool.noConfusion hc
     ·refine ifG (fun hc=>?_) (fun hc=>?_) <;> first|rw [hc] at h ⊢|rw [hc] at h|rw [hc]|skip
      ·refine ifG (fun hc=>?_) (fun hc=>?_) <;> first|rw [hc] at h ⊢|rw [hc] at h|rw [hc]|skip
       ·refine ifG (fun hc=>?_) (fun hc=>?_) <;> first|rw [hc] at h ⊢|rw [hc] at h|rw [hc]|skip
        ·refine ifG (fun hc=>?_) (fun hc=>?_) <;> first|rw [hc] at h ⊢|rw [hc] at h|rw [hc]|skip
         ·refine ifG (fun hc=>?_) (fun hc=>?_) <;> first|rw [hc] at h ⊢|rw [hc] at h|rw [hc]|skip
          ·rfl
          ·first|exact Bool.noConfusion h|exact Bool.noConfusion hc
         ·first|exact Bool.noConfusion h|exact Bool.noConfusion hc
        ·first|exact Bool.noConfusion h|exact Bool.noConfusion hc
       ·first|exact Bool.noConfusion h|exact Bool.noConfusion hc
      ·first|exact Bool.noConfusion h|exact Bool.noConfusion hc
   ·first|exact Bool.noConfusion h|exact Bool.noConfusion hc
 ·first|exact Bool.noConfusion h|exact Bool.noConfusion hc
def m19:TModel
 | [.agg [.sl g0 xa,.sl g1 xb,.sl g2 xc],.agg [.sl g3 ya,.sl g4 yb,.sl g5 yc],.agg [.int .i64 za,.int .i64 zb]]=>bif ctsEq g0 ([.int .i64]) && ctsEq g1 ([.int .i64]) && ctsEq g2 ([.int .i64,.int .i64]) && ctsEq g3 ([.int .i64]) && ctsEq g4 ([.int .i64]) && ctsEq g5 ([.int .i64,.int .i64]) then some (q19 xa xb xc ya yb yc za zb,AV.tup [AV.agg [AV.fl [.int .i64] (v19_0 xa xb xc ya yb yc za zb),AV.fl [.int .i64] (v19_1 xa xb xc ya yb yc za zb),AV.fl [.int .i64,.int .i64] (v19_2 xa xb xc ya yb yc za zb)],AV.agg [AV.fl [.int .i64] (v19_3 xa xb xc ya yb yc za zb),AV.fl [.int .i64] (v19_4 xa xb xc ya yb yc za zb),AV.fl [.int .i64,.int .i64] (v19_5 xa xb xc ya yb yc za zb)],AV.fl [.int .i64,.int .i64] (v19_6 xa xb xc ya yb yc za zb),AV.bool (v19_7 xa xb xc ya yb yc za zb)]) else none
 | _=>none
theorem k19:Known Tryz.prog 19:=⟨Tryz.f19,Tryz.func19,by kernel_rfl,by kernel_rfl⟩
theorem meets19:Meets Tryz.prog 19 m19:=by
 refine mt (lvl:=0) (cf:=c19) rfl mixed k19 Tryz.func19 (by kernel_rfl) noLoop (allT_cons meets45 (allT_cons meets61 (allT_cons meets64 (allT_cons meets65 (allT_cons meets66 (allT_cons meets67 allT_nil)))))) allM_nil noI fun xs r h=>?_
 unfold m19 at h
 split at h
 ·rename_i g0 xa g1 xb g2 xc g3 ya g4 yb g5 yc za zb
  obtain ⟨hg,h⟩:=bif_pair h
  simp only [Bool.and_eq_true] at hg
  obtain ⟨⟨⟨⟨⟨q0,q1⟩,q2⟩,q3⟩,q4⟩,q5⟩:=hg
  obtain rfl:=cE q0
  obtain rfl:=cE q1
  obtain rfl:=cE q2
  obtain rfl:=cE q3
  obtain rfl:=cE q4
  obtain rfl:=cE q5
  obtain ⟨h1,rfl⟩:=pair_inj h
  exact r19 xa xb xc ya yb yc za zb h1
 ·cases h
noncomputable def c51:Cfg:=cfg Tryz.prog [(51,999,[2])] [(52,m52)] [] [] []
def v51_0 (xa xb:Int):Bool:=(bif (v52_0 xa (-1000) 1000) then (v52_0 xb xa 1000) else false)
theorem e51 (xa xb:Int):funA c51 0 51 [AV.agg [Ai xa,Ai xb]]=(bif (v52_0 xa (-1000) 1000) then some (AV.bool (v52_0 xb xa 1000))
 else some (AV.bool false)):=by kernel_rfl
def m51:TModel
 | [.agg [.int .i64 xa,.int .i64 xb]]=>some (true,AV.bool (v51_0 xa xb))
 | _=>none
theorem k51:Known Tryz.prog 51:=⟨Tryz.f51,Tryz.func51,by kernel_rfl,by kernel_rfl⟩
theorem meets51:Meets Tryz.prog 51 m51:=by
 refine mt (lvl:=0) (cf:=c51) rfl mixed k51 Tryz.func51 (by kernel_rfl) noLoop (allT_cons meets52 allT_nil) allM_nil noI fun xs r h=>?_
 unfold m51 at h
 split at h
 ·rename_i xa xb
  obtain ⟨h1,rfl⟩:=pair_inj h
  exact (e51 xa xb).trans (of_tt (brT (fun b=>some (AV.bool (bif b then (v52_0 xb xa 1000) else false))) (fun _=>rfl) (fun _=>rfl)))
 ·cases h
noncomputable def c70:Cfg:=cfg Tryz.prog [(70,999,[4,5,6,7])] [(51,m51),(68,m68),(69,m69),(118,m118),(119,m119)] [] [] []
def q70 (xa xb xc:List AV) (ya yb:Int):Bool:=(q68 xa xb xc && (bif !(v68_0 xa xb xc) then q69 xa xb xc else (bif !(v51_0 ya yb) then q69 xa xb xc else (q118 xa xb xc ya && (q118 (v118_0 xa xb xc ya) (v118_1 xa xb xc ya) (v118_2 xa xb xc ya) yb && (q119 (v118_0 (v118_0 xa xb xc ya) (v118_1 xa xb xc ya) (v118_2 xa xb xc ya) yb) (v118_1 (v118_0 xa xb xc ya) (v118_1 xa xb xc ya) (v118_2 xa xb xc ya) yb) (v118_2 (v118_0 xa xb xc ya) (v118_1 xa xb xc ya) (v118_2 xa xb xc ya) yb) ya && q119 (v118_0 (v118_0 xa xb xc ya) (v118_1 xa xb xc ya) (v118_2 xa xb xc ya) yb) (v118_1 (v118_0 xa xb xc ya) (v118_1 xa xb xc ya) (v118_2 xa xb xc ya) yb) (v118_2 (v118_0 xa xb xc ya) (v118_1 xa xb xc ya) (v118_2 xa xb xc ya) yb) yb))))))
def v70_0 (xa xb xc:List AV) (ya yb:Int):List AV:=(bif !(v68_0 xa xb xc) then (v69_0 xa xb xc) else (bif !(v51_0 ya yb) then (v69_0 xa xb xc) else (v118_0 (v118_0 xa xb xc ya) (v118_1 xa xb xc ya) (v118_2 xa xb xc ya) yb)))
def v70_1 (xa xb xc:List AV) (ya yb:Int):List AV:=(bif !(v68_0 xa xb xc) then (v69_1 xa xb xc) else (bif !(v51_0 ya yb) then (v69_1 xa xb xc) else (v118_1 (v118_0 xa xb xc ya) (v118_1 xa xb xc ya) (v118_2 xa xb xc ya) yb)))
def v70_2 (xa xb xc:List AV) (ya yb:Int):List AV:=(bif !(v68_0 xa xb xc) then (v69_2 xa xb xc) else (bif !(v51_0 ya yb) then (v69_2 xa xb xc) else (v118_2 (v118_0 xa xb xc ya) (v118_1 xa xb xc ya) (v118_2 xa xb xc ya) yb)))
def v70_3 (xa xb xc:List AV) (ya yb:Int):Int:=(bif !(v68_0 xa xb xc) then 0 else (bif !(v51_0 ya yb) then 0 else (v119_0 (v118_0 (v118_0 xa xb xc ya) (v118_1 xa xb xc ya) (v118_2 xa xb xc ya) yb) (v118_1 (v118_0 xa xb xc ya) (v118_1 xa xb xc ya) (v118_2 xa xb xc ya) yb) (v118_2 (v118_0 xa xb xc ya) (v118_1 xa xb xc ya) (v118_2 xa xb xc ya) yb) ya)))
def v70_4 (xa xb xc:List AV) (ya yb:Int):Int:=(bif !(v68_0 xa xb xc) then 0 else (bif !(v51_0 ya yb) then 0 else (v119_0 (v118_0 (v118_0 xa xb xc ya) (v118_1 xa xb xc ya) (v118_2 xa xb xc ya) yb) (v118_1 (v118_0 xa xb xc ya) (v118_1 xa xb xc ya) (v118_2 xa xb xc ya) yb) (v118_2 (v118_0 xa xb xc ya) (v118_1 xa xb xc ya) (v118_2 xa xb xc ya) yb) yb)))
def v70_5 (xa xb xc:List AV) (ya yb:Int):Int:=(bif !(v68_0 xa xb xc) then 0 else (bif !(v51_0 ya yb) then 0 else IntKind.i64.wrap (((v118_3 xa xb xc ya).length:Int)+((v118_3 (v118_0 xa xb xc ya) (v118_1 xa xb xc ya) (v118_2 xa xb xc ya) yb).length:Int))))
theorem e70 (xa xb xc:List AV) (ya yb:Int):funA c70 0 70 [AV.agg [AV.sl [.int .i64] xa,AV.sl [.int .i64] xb,AV.sl [.int .i64,.int .i64] xc],AV.agg [Ai ya,Ai yb]]=((fun (x1:List AV) (x2:List AV) (x3:List AV) (x4:List AV)=>((fun (x5:List AV) (x6:List AV) (x7:List AV) (x8:List AV)=>(bif q68 xa xb xc then (bif !(v68_0 xa xb xc) then (bif q69 xa xb xc then some (AV.tup [AV.agg [AV.fl [.int .i64] (v69_0 xa xb xc),AV.fl [.int .i64] (v69_1 xa xb xc),AV.fl [.int .i64,.int .i64] (v69_2 xa xb xc)],Ai 0,Ai 0,Ai 0])
 else none)
 else (bif !(v51_0 ya yb) then (bif q69 xa xb xc then some (AV.tup [AV.agg [AV.fl [.int .i64] (v69_0 xa xb xc),AV.fl [.int .i64] (v69_1 xa xb xc),AV.fl [.int .i64,.int .i64] (v69_2 xa xb xc)],Ai 0,Ai 0,Ai 0])
 else none)
 else (bif q118 xa xb xc ya then (bif q118 x1 x2 x3 yb then (bif q119 x5 x6 x7 ya then (bif q119 x5 x6 x7 yb then some (AV.tup [AV.agg [AV.fl [.int .i64] x5,AV.fl [.int .i64] x6,AV.fl [.int .i64,.int .i64] x7],Ai (v119_0 x5 x6 x7 ya),Ai (v119_0 x5 x6 x7 yb),Ai (IntKind.i64.wrap ((x4.length:Int)+(x8.length:Int)))])
 else none)
 else none)
 else none)
 else none)))
 else none)) (v118_0 x1 x2 x3 yb) (v118_1 x1 x2 x3 yb) (v118_2 x1 x2 x3 yb) (v118_3 x1 x2 x3 yb))) (v118_0 xa xb xc ya) (v118_1 xa xb xc ya) (v118_2 xa xb xc ya) (v118_3 xa xb xc ya)):=by kernel_rfl
theorem r70 (xa xb xc:List AV) (ya yb:Int) (h:q70 xa xb xc ya yb=true):funA c70 0 70 [AV.agg [AV.sl [.int .i64] xa,AV.sl [.int .i64] xb,AV.sl [.int .i64,.int .i64] xc],AV.agg [AV.int .i64 ya,AV.int .i64 yb]]=some (AV.tup [AV.agg [AV.fl [.int .i64] (v70_0 xa xb xc ya yb),AV.fl [.int .i64] (v70_1 xa xb xc ya yb),AV.fl [.int .i64,.int .i64] (v70_2 xa xb xc ya yb)],AV.int .i64 (v70_3 xa xb xc ya yb),AV.int .i64 (v70_4 xa xb xc ya yb),AV.int .i64 (v70_5 xa xb xc ya yb)]):=by
 refine (e70 xa xb xc ya yb).trans ?_
 unfold q70 at h
 unfold v70_0 v70_1 v70_2 v70_3 v70_4 v70_5
 refine ifG (fun hc=>?_) (fun hc=>?_) <;> first|rw [hc] at h ⊢|rw [hc] at h|rw [hc]|skip
 ·refine ifG (fun hc=>?_) (fun hc=>?_) <;> first|rw [hc] at h ⊢|rw [hc] at h|rw [hc]|skip
  ·refine ifG (fun hc=>?_) (fun hc=>?_) <;> first|rw [hc] at h ⊢|rw [hc] at h|rw [hc]|skip
   ·rfl
   ·first|exact Bool.noConfusion h|exact Bool.noConfusion hc
  ·refine ifG (fun hc=>?_) (fun hc=>?_) <;> first|rw [hc] at h ⊢|rw [hc] at h|rw [hc]|skip
   ·refine ifG (fun hc=>?_) (fun hc=>?_) <;> first|rw [hc] at h ⊢|rw [hc] at h|rw [hc]|skip
    ·rfl
    ·first|exact Bool.noConfusion h|exact Bool.noConfusion hc
   ·refine ifG (fun hc=>?_) (fun hc=>?_) <;> first|rw [hc] at h ⊢|rw [hc] at h|rw [hc]|skip
    ·refine ifG (fun hc=>?_) (fun hc=>?_) <;> first|rw [hc] at h ⊢|rw [hc] at h|rw [hc]|skip
     ·refine ifG (fun hc=>?_) (fun hc=>?_) <;> first|rw [hc] at h ⊢|rw [hc] at h|rw [hc]|skip
      ·refine ifG (fun hc=>?_) (fun hc=>?_) <;> first|rw [hc] at h ⊢|rw [hc] at h|rw [hc]|skip
       ·rfl
       ·first|exact Bool.noConfusion h|exact Bool.noConfusion hc
      ·first|exact Bool.noConfusion h|exact Bool.noConfusion hc
     ·first|exact Bool.noConfusion h|exact Bool.noConfusion hc
    ·first|exact Bool.noConfusion h|exact Bool.noConfusion hc
 ·first|exact Bool.noConfusion h|exact Bool.noConfusion hc
def m70:TModel
 | [.agg [.sl g0 xa,.sl g1 xb,.sl g2 xc],.agg [.int .i64 ya,.int .i64 yb]]=>bif ctsEq g0 ([.int .i64]) && ctsEq g1 ([.int .i64]) && ctsEq g2 ([.int .i64,.int .i64]) then some (q70 xa xb xc ya yb,AV.tup [AV.agg [AV.fl [.int .i64] (v70_0 xa xb xc ya yb),AV.fl [.int .i64] (v70_1 xa xb xc ya yb),AV.fl [.int .i64,.int .i64] (v70_2 xa xb xc ya yb)],AV.int .i64 (v70_3 xa xb xc ya yb),AV.int .i64 (v70_4 xa xb xc ya yb),AV.int .i64 (v70_5 xa xb xc ya yb)]) else none
 | _=>none
theorem k70:Known Tryz.prog 70:=⟨Tryz.f70,Tryz.func70,by kernel_rfl,by kernel_rfl⟩
theorem meets70:Meets Tryz.prog 70 m70:=by
 refine mt (lvl:=0) (cf:=c70) rfl mixed k70 Tryz.func70 (by kernel_rfl) noLoop (allT_cons meets51 (allT_cons meets68 (allT_cons meets69 (allT_cons meets118 (allT_cons meets119 allT_nil))))) allM_nil noI fun xs r h=>?_
 unfold m70 at h
 split at h
 ·rename_i g0 xa g1 xb g2 xc ya yb
  obtain ⟨hg,h⟩:=bif_pair h
  simp only [Bool.and_eq_true] at hg
  obtain ⟨⟨q0,q1⟩,q2⟩:=hg
  obtain rfl:=cE q0
  obtain rfl:=cE q1
  obtain rfl:=cE q2
  obtain ⟨h1,rfl⟩:=pair_inj h
  exact r70 xa xb xc ya yb h1
 ·cases h
noncomputable def c72:Cfg:=cfg Tryz.prog [(72,999,[6])] [] [] [] []
def q72 (a1 a2:Int) (b0 b1 b2:List AV):Bool:=((decide (0≤a1) && decide (a1≤a2) && decide (a2≤(b0.length:Int))) && (decide (0≤a1) && decide (a1≤a2) && decide (a2≤(b1.length:Int))))
def v72_0 (a1 a2:Int) (b0 b1 b2:List AV):Nat:=(Int.toNat a1)
def v72_1 (a1 a2:Int) (b0 b1 b2:List AV):Nat:=(Int.toNat a2 - (Int.toNat a1))
def v72_2 (a1 a2:Int) (b0 b1 b2:List AV):Nat:=(Int.toNat a1)
def v72_3 (a1 a2:Int) (b0 b1 b2:List AV):Nat:=(Int.toNat a2 - (Int.toNat a1))
def v72_4 (a1 a2:Int) (b0 b1 b2:List AV):List AV:=b0
def v72_5 (a1 a2:Int) (b0 b1 b2:List AV):List AV:=b1
def v72_6 (a1 a2:Int) (b0 b1 b2:List AV):List AV:=b2
theorem e72 (a1 a2:Int) (b0 b1 b2:List AV) (K:AV→List Blk→Option AV):inlA c72 1 72 [AV.agg [AV.own [1],AV.own [2],AV.own [3]],Ai a1,Ai a2] [0] (canH 1 [⟨false,[.int .i64],b0⟩,⟨false,[.int .i64],b1⟩,⟨false,[.int .i64,.int .i64],b2⟩]) (keepB 3 K)=(bif (decide (0≤a1) && decide (a1≤a2) && decide (a2≤(b0.length:Int))) then (bif (decide (0≤a1) && decide (a1≤a2) && decide (a2≤(b1.length:Int))) then K (AV.agg [AV.sub [1] (Int.toNat a1) (Int.toNat a2 - (Int.toNat a1)),AV.sub [2] (Int.toNat a1) (Int.toNat a2 - (Int.toNat a1)),AV.snil]) [⟨false,[.int .i64],b0⟩,⟨false,[.int .i64],b1⟩,⟨false,[.int .i64,.int .i64],b2⟩]
 else none)
 else none):=by kernel_rfl
theorem r72 (a1 a2:Int) (b0 b1 b2:List AV) (K:AV→List Blk→Option AV) (h:q72 a1 a2 b0 b1 b2=true):inlA c72 1 72 [AV.agg [AV.own [1],AV.own [2],AV.own [3]],AV.int .i64 a1,AV.int .i64 a2] [0] (canH 1 [⟨false,[.int .i64],b0⟩,⟨false,[.int .i64],b1⟩,⟨false,[.int .i64,.int .i64],b2⟩]) (keepB 3 K)=K (AV.agg [AV.sub [1] (v72_0 a1 a2 b0 b1 b2) (v72_1 a1 a2 b0 b1 b2),AV.sub [2] (v72_2 a1 a2 b0 b1 b2) (v72_3 a1 a2 b0 b1 b2),AV.snil]) [⟨false,[.int .i64],(v72_4 a1 a2 b0 b1 b2)⟩,⟨false,[.int .i64],(v72_5 a1 a2 b0 b1 b2)⟩,⟨false,[.int .i64,.int .i64],(v72_6 a1 a2 b0 b1 b2)⟩]:=(e72 a1 a2 b0 b1 b2 K).trans ((brL (brL1 (fun _=>rfl))) h)
def m72:WModel
 | [.agg [.own g0,.own g1,.own g2],.int .i64 a1,.int .i64 a2],[⟨false,g3,b0⟩,⟨false,g4,b1⟩,⟨false,g5,b2⟩]=>bif nmEq g0 ([1]) && nmEq g1 ([2]) && nmEq g2 ([3]) && ctsEq g3 ([.int .i64]) && ctsEq g4 ([.int .i64]) && ctsEq g5 ([.int .i64,.int .i64]) then some (q72 a1 a2 b0 b1 b2,AV.agg [AV.sub [1] (v72_0 a1 a2 b0 b1 b2) (v72_1 a1 a2 b0 b1 b2),AV.sub [2] (v72_2 a1 a2 b0 b1 b2) (v72_3 a1 a2 b0 b1 b2),AV.snil],[⟨false,[.int .i64],(v72_4 a1 a2 b0 b1 b2)⟩,⟨false,[.int .i64],(v72_5 a1 a2 b0 b1 b2)⟩,⟨false,[.int .i64,.int .i64],(v72_6 a1 a2 b0 b1 b2)⟩]) else none
 | _,_=>none
theorem k72:Known Tryz.prog 72:=⟨Tryz.f72,Tryz.func72,by kernel_rfl,by kernel_rfl⟩
theorem meets72:MeetsM Tryz.prog 72 m72:=by
 refine mw (lvl:=0) (cf:=c72) rfl mixed k72 Tryz.func72 (by kernel_rfl) noLoop allT_nil allM_nil noI fun xs bs r bs' h K=>?_
 unfold m72 at h
 split at h
 ·rename_i g0 g1 g2 a1 a2 g3 b0 g4 b1 g5 b2
  obtain ⟨hg,h⟩:=bif_pair h
  simp only [Bool.and_eq_true] at hg
  obtain ⟨⟨⟨⟨⟨q0,q1⟩,q2⟩,q3⟩,q4⟩,q5⟩:=hg
  obtain rfl:=nE q0
  obtain rfl:=nE q1
  obtain rfl:=nE q2
  obtain rfl:=cE q3
  obtain rfl:=cE q4
  obtain rfl:=cE q5
  obtain ⟨h1,rfl,rfl⟩:=trip_inj h
  exact r72 a1 a2 b0 b1 b2 K h1
 ·cases h
def G101_0 {β:Type} (t1:Int) (h0_0:List AV) (h0_1:List AV) (h0_2:List AV) (t5:Int) (N:(Int)→β) (K:(Unit ⊕ Int)→β) (d:β):β:=(bif decide (t5<(h0_1.length:Int)) then (bif (decide (0≤t5) && decide (t5<(h0_1.length:Int))) then (bif decide (fI (h0_1.getD t5.toNat .undef) 0=t1) then K (.inr t5)
 else N (IntKind.i64.wrap (t5+1)))
 else d)
 else K (.inl ()))
def F101_0 (t1:Int) (h0_0 h0_1 h0_2:List AV) (t5:Int):Out (Int) (Unit ⊕ Int):=G101_0 t1 h0_0 h0_1 h0_2 t5 .next .stop .fail
def R101_0 (t1:Int) (h0_0 h0_1 h0_2:List AV):(Int)→Out (Int) (Unit ⊕ Int):=fun s:Int=>F101_0 t1 h0_0 h0_1 h0_2 s
def E101_0 (t1:Int) (h0_0 h0_1 h0_2:List AV):(Int)→St:=fun s:Int=>⟨[(1,Ai t1),(2,AV.ptr [0,2] 0 0),(5,Ai s)],[([0,2],⟨true,[],[AV.agg [AV.sl [.int .i64] h0_0,AV.sl [.int .i64] h0_1,AV.sl [.int .i64,.int .i64] h0_2]]⟩)]⟩
def K101_0 (t1:Int) (h0_0 h0_1 h0_2:List AV) (k:Kont):(Unit ⊕ Int)→Option AV:=sumE (fun _:Unit=>k (.exit 0) ⟨[],[([0,2],⟨true,[],[AV.agg [AV.sl [.int .i64] h0_0,AV.sl [.int .i64] h0_1,AV.sl [.int .i64,.int .i64] h0_2]]⟩)]⟩) (fun p:Int=>k .ret ⟨[(4,Ai p)],[([0,2],⟨true,[],[AV.agg [AV.sl [.int .i64] h0_0,AV.sl [.int .i64] h0_1,AV.sl [.int .i64,.int .i64] h0_2]]⟩)]⟩)
def l101_0:LModel:=fun _ _ st k=>match st with
 | ⟨[(1,.int .i64 t1),(2,.ptr g0 g1 g2),(5,.int .i64 t5)],[(g3,⟨true,[],[.agg [.sl g4 h0_0,.sl g5 h0_1,.sl g6 h0_2]]⟩)]⟩=>bif nmEq g0 ([0,2]) && Nat.beq g1 0 && Nat.beq g2 0 && nmEq g3 ([0,2]) && ctsEq g4 ([.int .i64]) && ctsEq g5 ([.int .i64]) && ctsEq g6 ([.int .i64,.int .i64]) then ro (runW (R101_0 t1 h0_0 h0_1 h0_2) (((h0_1.length:Int) - t5:Int).toNat+1) t5) none (K101_0 t1 h0_0 h0_1 h0_2 k) else none
 | _=>none
noncomputable def c101:Cfg:=cfg Tryz.prog [(101,0,[1,2,5]),(101,999,[4]),(101,1000,[]),(101,1001,[1,2,5])] [] [] [] [(101,0,l101_0)]
theorem s101_0 (t1:Int) (h0_0 h0_1 h0_2:List AV) (ce:CallE) (k:Kont) (s:Int) (next:St→Option AV):stepA (codeA c101 ce [] 101 0 (sub [1,0,1,0,0] (body Tryz.f101))) (normA [] [1,2,5]) next ((E101_0 t1 h0_0 h0_1 h0_2) s) k=G101_0 t1 h0_0 h0_1 h0_2 s (fun s=>next ((E101_0 t1 h0_0 h0_1 h0_2) s)) (K101_0 t1 h0_0 h0_1 h0_2 k) none:=by kernel_rfl
theorem st101_0 (t1:Int) (h0_0 h0_1 h0_2:List AV) (ce:CallE) (k:Kont) (s:Int) (next:St→Option AV):stepA (codeA c101 ce [] 101 0 (sub [1,0,1,0,0] (body Tryz.f101))) (normA [] [1,2,5]) next ((E101_0 t1 h0_0 h0_1 h0_2) s) k=(R101_0 t1 h0_0 h0_1 h0_2 s).el none (fun s=>next ((E101_0 t1 h0_0 h0_1 h0_2) s)) (K101_0 t1 h0_0 h0_1 h0_2 k):=(s101_0 t1 h0_0 h0_1 h0_2 ce k s next).trans (by unfold R101_0;unfold F101_0 G101_0;simp only [el_cond,el_ro,el_sum,el_fail,el_next,el_stop] <;> rfl)
theorem ok101_0 {ce:CallE}:LoopOK c101 ce [] 101 0 (sub [1,0,1,0,0] (body Tryz.f101)):=by
 intro m hm st k r h
 obtain rfl:l101_0=m:=Option.some.inj hm
 unfold l101_0 at h
 split at h
 ·rename_i t1 g0 g1 g2 t5 g3 g4 h0_0 g5 h0_1 g6 h0_2
  obtain ⟨hg,h⟩:=bif_some h
  simp only [Bool.and_eq_true] at hg
  obtain ⟨⟨⟨⟨⟨⟨q0,q1⟩,q2⟩,q3⟩,q4⟩,q5⟩,q6⟩:=hg
  obtain rfl:=nE q0
  obtain rfl:=bE q1
  obtain rfl:=bE q2
  obtain rfl:=nE q3
  obtain rfl:=cE q4
  obtain rfl:=cE q5
  obtain rfl:=cE q6
  refine ⟨(((h0_1.length:Int) - t5:Int).toNat+1),?_⟩
  rw [← h]
  exact loop_run (E101_0 t1 h0_0 h0_1 h0_2) (K101_0 t1 h0_0 h0_1 h0_2 k) (st101_0 t1 h0_0 h0_1 h0_2 ce k) _ t5
 ·cases h
def q101 (xa xb xc:List AV) (a1:Int):Bool:=(ro (runW (R101_0 a1 xa xb xc) (((xb.length:Int) - 0:Int).toNat+1) 0) false (sumE (fun _=>true) (fun p53=>true)))
def v101_0 (xa xb xc:List AV) (a1:Int):Int:=(ro (runW (R101_0 a1 xa xb xc) (((xb.length:Int) - 0:Int).toNat+1) 0) 0 (sumE (fun _=>(-1)) (fun p53=>p53)))
theorem e101 (xa xb xc:List AV) (a1:Int):funA c101 0 101 [AV.agg [AV.sl [.int .i64] xa,AV.sl [.int .i64] xb,AV.sl [.int .i64,.int .i64] xc],Ai a1]=(ro (runW (R101_0 a1 xa xb xc) (((xb.length:Int) - 0:Int).toNat+1) 0) none (sumE (fun _=>some (Ai (-1))) (fun p53=>some (Ai p53)))):=by kernel_rfl
def m101:TModel
 | [.agg [.sl g0 xa,.sl g1 xb,.sl g2 xc],.int .i64 a1]=>bif ctsEq g0 ([.int .i64]) && ctsEq g1 ([.int .i64]) && ctsEq g2 ([.int .i64,.int .i64]) then some (q101 xa xb xc a1,AV.int .i64 (v101_0 xa xb xc a1)) else none
 | _=>none
theorem k101:Known Tryz.prog 101:=⟨Tryz.f101,Tryz.func101,by kernel_rfl,by kernel_rfl⟩
theorem meets101:Meets Tryz.prog 101 m101:=by
 refine mt (lvl:=0) (cf:=c101) rfl mixed k101 Tryz.func101 (by kernel_rfl) (loops_cons ok101_0 noLoop) allT_nil allM_nil noI fun xs r h=>?_
 unfold m101 at h
 split at h
 ·rename_i g0 xa g1 xb g2 xc a1
  obtain ⟨hg,h⟩:=bif_pair h
  simp only [Bool.and_eq_true] at hg
  obtain ⟨⟨q0,q1⟩,q2⟩:=hg
  obtain rfl:=cE q0
  obtain rfl:=cE q1
  obtain rfl:=cE q2
  obtain ⟨h1,rfl⟩:=pair_inj h
  exact (e101 xa xb xc a1).trans ((brO (fun o:Option (Unit ⊕ Int)=>some (Ai (ro o 0 (sumE (fun _=>(-1)) (fun p53=>p53))))) (brS (fun o:Unit ⊕ Int=>some (Ai ((sumE (fun _=>(-1)) (fun p53=>p53)) o))) (fun _=>(fun _=>rfl)) (fun p53=>(fun _=>rfl)))) h1)
 ·cases h
noncomputable def c34:Cfg:=cfg Tryz.prog [(34,999,[4])] [(51,m51),(52,m52)] [] [] []
def q34 (xa xb a1:Int):Bool:=true
def v34_0 (xa xb a1:Int):Bool:=(bif (v51_0 xa xb) then (v52_0 a1 xa (IntKind.i64.wrap (xb - 1))) else false)
theorem e34 (xa xb a1:Int):funA c34 0 34 [AV.agg [Ai xa,Ai xb],Ai a1]=(bif (v51_0 xa xb) then some (AV.bool (v52_0 a1 xa (IntKind.i64.wrap (xb - 1))))
 else some (AV.bool false)):=by kernel_rfl
def m34:TModel
 | [.agg [.int .i64 xa,.int .i64 xb],.int .i64 a1]=>some (true,AV.bool (v34_0 xa xb a1))
 | _=>none
theorem k34:Known Tryz.prog 34:=⟨Tryz.f34,Tryz.func34,by kernel_rfl,by kernel_rfl⟩
theorem meets34:Meets Tryz.prog 34 m34:=by
 refine mt (lvl:=0) (cf:=c34) rfl mixed k34 Tryz.func34 (by kernel_rfl) noLoop (allT_cons meets51 (allT_cons meets52 allT_nil)) allM_nil noI fun xs r h=>?_
 unfold m34 at h
 split at h
 ·rename_i xa xb a1
  obtain ⟨h1,rfl⟩:=pair_inj h
  exact (e34 xa xb a1).trans (of_tt (brT (fun b=>some (AV.bool (bif b then (v52_0 a1 xa (IntKind.i64.wrap (xb - 1))) else false))) (fun _=>rfl) (fun _=>rfl)))
 ·cases h
def G77_2 {β:Type} (t4:Int) (t5:Int) (h0:List AV) (N:((Int × (List AV)))→β) (K:(((List AV)))→β) (d:β):β:=(bif decide (t5 > 0) then (bif (decide (0≤IntKind.i64.wrap (t5 - 1)) && decide (IntKind.i64.wrap (t5 - 1)<(h0.length:Int))) then (bif (decide (0≤t5) && decide (t5<(h0.length:Int))) then (bif decide (fI (h0.getD (IntKind.i64.wrap (t5 - 1)).toNat .undef) 0 > fI (h0.getD t5.toNat .undef) 0) then (bif q122 (IntKind.i64.wrap (t5 - 1)) t5 h0 then N (IntKind.i64.wrap (t5 - 1),(v122_0 (IntKind.i64.wrap (t5 - 1)) t5 h0))
 else d)
 else K h0)
 else d)
 else d)
 else K h0)
def F77_2 (t4 t5:Int) (h0:List AV):Out ((Int × (List AV))) (((List AV))):=G77_2 t4 t5 h0 .next .stop .fail
def R77_2 (t4:Int):((Int × (List AV)))→Out ((Int × (List AV))) (((List AV))):=fun s:Int × (List AV)=>F77_2 t4 s.1 s.2
def E77_2 (t4:Int):((Int × (List AV)))→St:=fun s:Int × (List AV)=>⟨[(3,AV.own [0,3]),(4,Ai t4),(5,Ai s.1)],[([0,3],⟨false,[.int .i64],s.2⟩)]⟩
def K77_2 (t4:Int) (k:Kont):(((List AV)))→Option AV:=fun p:(List AV)=>k (.exit 2) ⟨[(3,AV.own [0,3]),(4,Ai t4)],[([0,3],⟨false,[.int .i64],p⟩)]⟩
def l77_2:LModel:=fun _ _ st k=>match st with
 | ⟨[(3,.own g0),(4,.int .i64 t4),(5,.int .i64 t5)],[(g1,⟨false,g2,h0⟩)]⟩=>bif nmEq g0 ([0,3]) && nmEq g1 ([0,3]) && ctsEq g2 ([.int .i64]) then ro (runW (R77_2 t4) ((t5 - 0:Int).toNat+1) (t5,h0)) none (K77_2 t4 k) else none
 | _=>none
def G77_0 {β:Type} (t4:Int) (h0:List AV) (N:((Int × (List AV)))→β) (K:(((List AV)))→β) (d:β):β:=(bif decide (t4<(h0.length:Int)) then (ro (runW (R77_2 t4) ((t4 - 0:Int).toNat+1) (t4,h0)) d (fun p55=>N (IntKind.i64.wrap (t4+1),p55)))
 else K h0)
def F77_0 (t4:Int) (h0:List AV):Out ((Int × (List AV))) (((List AV))):=G77_0 t4 h0 .next .stop .fail
def R77_0:((Int × (List AV)))→Out ((Int × (List AV))) (((List AV))):=fun s:Int × (List AV)=>F77_0 s.1 s.2
def E77_0:((Int × (List AV)))→St:=fun s:Int × (List AV)=>⟨[(3,AV.own [0,3]),(4,Ai s.1)],[([0,3],⟨false,[.int .i64],s.2⟩)]⟩
def K77_0 (k:Kont):(((List AV)))→Option AV:=fun p:(List AV)=>k (.exit 0) ⟨[(3,AV.own [0,3])],[([0,3],⟨false,[.int .i64],p⟩)]⟩
def l77_0:LModel:=fun _ _ st k=>match st with
 | ⟨[(3,.own g0),(4,.int .i64 t4)],[(g1,⟨false,g2,h0⟩)]⟩=>bif nmEq g0 ([0,3]) && nmEq g1 ([0,3]) && ctsEq g2 ([.int .i64]) then ro (runW (R77_0) (((h0.length:Int) - t4:Int).toNat+1) (t4,h0)) none (K77_0 k) else none
 | _=>none
noncomputable def c77:Cfg:=cfg Tryz.prog [(77,0,[3,4]),(77,2,[3,4,5]),(77,999,[2]),(77,1000,[3]),(77,1001,[3,4]),(77,1002,[3,4]),(77,1003,[3,4,5])] [] [(122,.w m122)] [] [(77,0,l77_0),(77,2,l77_2)]
theorem s77_2 (t4:Int) (ce:CallE) (k:Kont) (s:Int × (List AV)) (next:St→Option AV):stepA (codeA c77 ce [] 77 2 (sub [1,1,0,1,0,0,1,0,0,1,0,0] (body Tryz.f77))) (normA [] [3,4,5]) next ((E77_2 t4) s) k=G77_2 t4 s.1 s.2 (fun s=>next ((E77_2 t4) s)) (K77_2 t4 k) none:=by kernel_rfl
theorem st77_2 (t4:Int) (ce:CallE) (k:Kont) (s:(Int × (List AV))) (next:St→Option AV):stepA (codeA c77 ce [] 77 2 (sub [1,1,0,1,0,0,1,0,0,1,0,0] (body Tryz.f77))) (normA [] [3,4,5]) next ((E77_2 t4) s) k=(R77_2 t4 s).el none (fun s=>next ((E77_2 t4) s)) (K77_2 t4 k):=(s77_2 t4 ce k s next).trans (by unfold R77_2;unfold F77_2 G77_2;simp only [el_cond,el_ro,el_sum,el_fail,el_next,el_stop] <;> rfl)
theorem ok77_2 {ce:CallE}:LoopOK c77 ce [] 77 2 (sub [1,1,0,1,0,0,1,0,0,1,0,0] (body Tryz.f77)):=by
 intro m hm st k r h
 obtain rfl:l77_2=m:=Option.some.inj hm
 unfold l77_2 at h
 split at h
 ·rename_i g0 t4 t5 g1 g2 h0
  obtain ⟨hg,h⟩:=bif_some h
  simp only [Bool.and_eq_true] at hg
  obtain ⟨⟨q0,q1⟩,q2⟩:=hg
  obtain rfl:=nE q0
  obtain rfl:=nE q1
  obtain rfl:=cE q2
  refine ⟨((t5 - 0:Int).toNat+1),?_⟩
  rw [← h]
  exact loop_run (E77_2 t4) (K77_2 t4 k) (st77_2 t4 ce k) _ (t5,h0)
 ·cases h
theorem s77_0 (ce:CallE) (k:Kont) (s:Int × (List AV)) (next:St→Option AV):stepA (codeA c77 ce [] 77 0 (sub [1,1,0,1,0,0] (body Tryz.f77))) (normA [] [3,4]) next (E77_0 s) k=G77_0 s.1 s.2 (fun s=>next (E77_0 s)) (K77_0 k) none:=by kernel_rfl
theorem st77_0 (ce:CallE) (k:Kont) (s:(Int × (List AV))) (next:St→Option AV):stepA (codeA c77 ce [] 77 0 (sub [1,1,0,1,0,0] (body Tryz.f77))) (normA [] [3,4]) next (E77_0 s) k=(R77_0 s).el none (fun s=>next (E77_0 s)) (K77_0 k):=(s77_0 ce k s next).trans (by unfold R77_0;unfold F77_0 G77_0;simp only [el_cond,el_ro,el_sum,el_fail,el_next,el_stop] <;> rfl)
theorem ok77_0 {ce:CallE}:LoopOK c77 ce [] 77 0 (sub [1,1,0,1,0,0] (body Tryz.f77)):=by
 intro m hm st k r h
 obtain rfl:l77_0=m:=Option.some.inj hm
 unfold l77_0 at h
 split at h
 ·rename_i g0 t4 g1 g2 h0
  obtain ⟨hg,h⟩:=bif_some h
  simp only [Bool.and_eq_true] at hg
  obtain ⟨⟨q0,q1⟩,q2⟩:=hg
  obtain rfl:=nE q0
  obtain rfl:=nE q1
  obtain rfl:=cE q2
  refine ⟨(((h0.length:Int) - t4:Int).toNat+1),?_⟩
  rw [← h]
  exact loop_run E77_0 (K77_0 k) (st77_0 ce k) _ (t4,h0)
 ·cases h
def q77 (a0:List AV):Bool:=((decide ((([]:List AV).length+a0.length)*8≤140737488355328) && decide ((([]:List AV).length+a0.length)≤140737488355328)) && (ro (runW (R77_0) ((((([]:List AV)++a0).length:Int) - 1:Int).toNat+1) (1,([]:List AV)++a0)) false (fun p56=>true)))
def v77_0 (a0:List AV):List AV:=(ro (runW (R77_0) ((((([]:List AV)++a0).length:Int) - 1:Int).toNat+1) (1,([]:List AV)++a0)) [] (fun p56=>p56))
theorem e77 (a0:List AV):funA c77 0 77 [AV.sl [.int .i64] a0]=(bif (decide ((([]:List AV).length+a0.length)*8≤140737488355328) && decide ((([]:List AV).length+a0.length)≤140737488355328)) then (ro (runW (R77_0) ((((([]:List AV)++a0).length:Int) - 1:Int).toNat+1) (1,([]:List AV)++a0)) none (fun p56=>some (AV.fl [.int .i64] p56)))
 else none):=by kernel_rfl
def m77:TModel
 | [.sl g0 a0]=>bif ctsEq g0 ([.int .i64]) then some (q77 a0,AV.fl [.int .i64] (v77_0 a0)) else none
 | _=>none
theorem k77:Known Tryz.prog 77:=⟨Tryz.f77,Tryz.func77,by kernel_rfl,by kernel_rfl⟩
theorem meets77:Meets Tryz.prog 77 m77:=by
 refine mt (lvl:=0) (cf:=c77) rfl mixed k77 Tryz.func77 (by kernel_rfl) (loops_cons ok77_0 (loops_cons ok77_2 noLoop)) allT_nil (allM_cons meets122 allM_nil) noI fun xs r h=>?_
 unfold m77 at h
 split at h
 ·rename_i g0 a0
  obtain ⟨hg,h⟩:=bif_pair h
  have q0:=hg
  obtain rfl:=cE q0
  obtain ⟨h1,rfl⟩:=pair_inj h
  exact (e77 a0).trans ((brL (brO (fun o:Option (((List AV)))=>some (AV.fl [.int .i64] (ro o [] (fun p56=>p56)))) (fun p56=>(fun _=>rfl)))) h1)
 ·cases h
def G71_4 {β:Type} (t8:Int) (h0_0:List AV) (h0_1:List AV) (h0_2:List AV) (h1_0:List AV) (h1_1:List AV) (h1_2:List AV) (h2_0:Int) (h2_1:Int) (h4:List AV) (t12:Int) (h3:List AV) (N:((Int × (List AV)))→β) (K:(((List AV)))→β) (d:β):β:=(bif decide (t12<(h4.length:Int)) then (bif (decide (0≤t12) && decide (t12<(h4.length:Int))) then (bif (decide ((h3.length+([AV.agg [AV.int .i64 t8,AV.int .i64 (fI (h4.getD t12.toNat .undef) 0)]]).length)*16≤140737488355328) && decide ((h3.length+([AV.agg [AV.int .i64 t8,AV.int .i64 (fI (h4.getD t12.toNat .undef) 0)]]).length)≤140737488355328)) then N (IntKind.i64.wrap (t12+1),h3++([AV.agg [AV.int .i64 t8,AV.int .i64 (fI (h4.getD t12.toNat .undef) 0)]]))
 else d)
 else d)
 else K h3)
def F71_4 (t8:Int) (h0_0 h0_1 h0_2 h1_0 h1_1 h1_2:List AV) (h2_0 h2_1:Int) (h4:List AV) (t12:Int) (h3:List AV):Out ((Int × (List AV))) (((List AV))):=G71_4 t8 h0_0 h0_1 h0_2 h1_0 h1_1 h1_2 h2_0 h2_1 h4 t12 h3 .next .stop .fail
def R71_4 (t8:Int) (h0_0 h0_1 h0_2 h1_0 h1_1 h1_2:List AV) (h2_0 h2_1:Int) (h4:List AV):((Int × (List AV)))→Out ((Int × (List AV))) (((List AV))):=fun s:Int × (List AV)=>F71_4 t8 h0_0 h0_1 h0_2 h1_0 h1_1 h1_2 h2_0 h2_1 h4 s.1 s.2
def E71_4 (t8:Int) (h0_0 h0_1 h0_2 h1_0 h1_1 h1_2:List AV) (h2_0 h2_1:Int) (h4:List AV):((Int × (List AV)))→St:=fun s:Int × (List AV)=>⟨[(3,AV.ptr [0,3] 0 0),(4,AV.ptr [0,4] 0 0),(5,AV.ptr [0,5] 0 0),(7,AV.own [0,7]),(8,Ai t8),(10,AV.own [0,10]),(12,Ai s.1)],[([0,3],⟨true,[],[AV.agg [AV.sl [.int .i64] h0_0,AV.sl [.int .i64] h0_1,AV.sl [.int .i64,.int .i64] h0_2]]⟩),([0,4],⟨true,[],[AV.agg [AV.sl [.int .i64] h1_0,AV.sl [.int .i64] h1_1,AV.sl [.int .i64,.int .i64] h1_2]]⟩),([0,5],⟨true,[],[AV.agg [Ai h2_0,Ai h2_1]]⟩),([0,7],⟨false,[.int .i64,.int .i64],s.2⟩),([0,10],⟨false,[.int .i64],h4⟩)]⟩
def K71_4 (t8:Int) (h0_0 h0_1 h0_2 h1_0 h1_1 h1_2:List AV) (h2_0 h2_1:Int) (h4:List AV) (k:Kont):(((List AV)))→Option AV:=fun p:(List AV)=>k (.exit 4) ⟨[(3,AV.ptr [0,3] 0 0),(4,AV.ptr [0,4] 0 0),(5,AV.ptr [0,5] 0 0),(7,AV.own [0,7]),(8,Ai t8)],[([0,3],⟨true,[],[AV.agg [AV.sl [.int .i64] h0_0,AV.sl [.int .i64] h0_1,AV.sl [.int .i64,.int .i64] h0_2]]⟩),([0,4],⟨true,[],[AV.agg [AV.sl [.int .i64] h1_0,AV.sl [.int .i64] h1_1,AV.sl [.int .i64,.int .i64] h1_2]]⟩),([0,5],⟨true,[],[AV.agg [Ai h2_0,Ai h2_1]]⟩),([0,7],⟨false,[.int .i64,.int .i64],p⟩),([0,10],⟨false,[.int .i64],h4⟩)]⟩
def l71_4:LModel:=fun _ _ st k=>match st with
 | ⟨[(3,.ptr g0 g1 g2),(4,.ptr g3 g4 g5),(5,.ptr g6 g7 g8),(7,.own g9),(8,.int .i64 t8),(10,.own g10),(12,.int .i64 t12)],[(g11,⟨true,[],[.agg [.sl g12 h0_0,.sl g13 h0_1,.sl g14 h0_2]]⟩),(g15,⟨true,[],[.agg [.sl g16 h1_0,.sl g17 h1_1,.sl g18 h1_2]]⟩),(g19,⟨true,[],[.agg [.int .i64 h2_0,.int .i64 h2_1]]⟩),(g20,⟨false,g21,h3⟩),(g22,⟨false,g23,h4⟩)]⟩=>bif nmEq g0 ([0,3]) && Nat.beq g1 0 && Nat.beq g2 0 && nmEq g3 ([0,4]) && Nat.beq g4 0 && Nat.beq g5 0 && nmEq g6 ([0,5]) && Nat.beq g7 0 && Nat.beq g8 0 && nmEq g9 ([0,7]) && nmEq g10 ([0,10]) && nmEq g11 ([0,3]) && ctsEq g12 ([.int .i64]) && ctsEq g13 ([.int .i64]) && ctsEq g14 ([.int .i64,.int .i64]) && nmEq g15 ([0,4]) && ctsEq g16 ([.int .i64]) && ctsEq g17 ([.int .i64]) && ctsEq g18 ([.int .i64,.int .i64]) && nmEq g19 ([0,5]) && nmEq g20 ([0,7]) && ctsEq g21 ([.int .i64,.int .i64]) && nmEq g22 ([0,10]) && ctsEq g23 ([.int .i64]) then ro (runW (R71_4 t8 h0_0 h0_1 h0_2 h1_0 h1_1 h1_2 h2_0 h2_1 h4) (((h4.length:Int) - t12:Int).toNat+1) (t12,h3)) none (K71_4 t8 h0_0 h0_1 h0_2 h1_0 h1_1 h1_2 h2_0 h2_1 h4 k) else none
 | _=>none
def G71_2 {β:Type} (t8:Int) (t9:Int) (h0_0:List AV) (h0_1:List AV) (h0_2:List AV) (h1_0:List AV) (h1_1:List AV) (h1_2:List AV) (h2_0:Int) (h2_1:Int) (h3:List AV) (t11:Int) (h4:List AV) (N:((Int × (List AV)))→β) (K:(((List AV)))→β) (d:β):β:=(bif decide (t11<(h1_0.length:Int)) then (bif (decide (0≤t11) && decide (t11<(h1_0.length:Int))) then (bif (decide (0≤t9) && decide (t9<(h0_0.length:Int))) then (bif decide (fI (h1_0.getD t11.toNat .undef) 0=fI (h0_0.getD t9.toNat .undef) 0) then (bif (decide (0≤t11) && decide (t11<(h1_1.length:Int))) then (bif (decide ((h4.length+([AV.int .i64 (fI (h1_1.getD t11.toNat .undef) 0)]).length)*8≤140737488355328) && decide ((h4.length+([AV.int .i64 (fI (h1_1.getD t11.toNat .undef) 0)]).length)≤140737488355328)) then N (IntKind.i64.wrap (t11+1),h4++([AV.int .i64 (fI (h1_1.getD t11.toNat .undef) 0)]))
 else d)
 else d)
 else N (IntKind.i64.wrap (t11+1),h4))
 else d)
 else d)
 else K h4)
def F71_2 (t8 t9:Int) (h0_0 h0_1 h0_2 h1_0 h1_1 h1_2:List AV) (h2_0 h2_1:Int) (h3:List AV) (t11:Int) (h4:List AV):Out ((Int × (List AV))) (((List AV))):=G71_2 t8 t9 h0_0 h0_1 h0_2 h1_0 h1_1 h1_2 h2_0 h2_1 h3 t11 h4 .next .stop .fail
def R71_2 (t8 t9:Int) (h0_0 h0_1 h0_2 h1_0 h1_1 h1_2:List AV) (h2_0 h2_1:Int) (h3:List AV):((Int × (List AV)))→Out ((Int × (List AV))) (((List AV))):=fun s:Int × (List AV)=>F71_2 t8 t9 h0_0 h0_1 h0_2 h1_0 h1_1 h1_2 h2_0 h2_1 h3 s.1 s.2
def E71_2 (t8 t9:Int) (h0_0 h0_1 h0_2 h1_0 h1_1 h1_2:List AV) (h2_0 h2_1:Int) (h3:List AV):((Int × (List AV)))→St:=fun s:Int × (List AV)=>⟨[(3,AV.ptr [0,3] 0 0),(4,AV.ptr [0,4] 0 0),(5,AV.ptr [0,5] 0 0),(7,AV.own [0,7]),(8,Ai t8),(9,Ai t9),(10,AV.own [0,10]),(11,Ai s.1)],[([0,3],⟨true,[],[AV.agg [AV.sl [.int .i64] h0_0,AV.sl [.int .i64] h0_1,AV.sl [.int .i64,.int .i64] h0_2]]⟩),([0,4],⟨true,[],[AV.agg [AV.sl [.int .i64] h1_0,AV.sl [.int .i64] h1_1,AV.sl [.int .i64,.int .i64] h1_2]]⟩),([0,5],⟨true,[],[AV.agg [Ai h2_0,Ai h2_1]]⟩),([0,7],⟨false,[.int .i64,.int .i64],h3⟩),([0,10],⟨false,[.int .i64],s.2⟩)]⟩
def K71_2 (t8 t9:Int) (h0_0 h0_1 h0_2 h1_0 h1_1 h1_2:List AV) (h2_0 h2_1:Int) (h3:List AV) (k:Kont):(((List AV)))→Option AV:=fun p:(List AV)=>k (.exit 2) ⟨[(3,AV.ptr [0,3] 0 0),(4,AV.ptr [0,4] 0 0),(5,AV.ptr [0,5] 0 0),(7,AV.own [0,7]),(8,Ai t8),(10,AV.own [0,10])],[([0,3],⟨true,[],[AV.agg [AV.sl [.int .i64] h0_0,AV.sl [.int .i64] h0_1,AV.sl [.int .i64,.int .i64] h0_2]]⟩),([0,4],⟨true,[],[AV.agg [AV.sl [.int .i64] h1_0,AV.sl [.int .i64] h1_1,AV.sl [.int .i64,.int .i64] h1_2]]⟩),([0,5],⟨true,[],[AV.agg [Ai h2_0,Ai h2_1]]⟩),([0,7],⟨false,[.int .i64,.int .i64],h3⟩),([0,10],⟨false,[.int .i64],p⟩)]⟩
def l71_2:LModel:=fun _ _ st k=>match st with
 | ⟨[(3,.ptr g0 g1 g2),(4,.ptr g3 g4 g5),(5,.ptr g6 g7 g8),(7,.own g9),(8,.int .i64 t8),(9,.int .i64 t9),(10,.own g10),(11,.int .i64 t11)],[(g11,⟨true,[],[.agg [.sl g12 h0_0,.sl g13 h0_1,.sl g14 h0_2]]⟩),(g15,⟨true,[],[.agg [.sl g16 h1_0,.sl g17 h1_1,.sl g18 h1_2]]⟩),(g19,⟨true,[],[.agg [.int .i64 h2_0,.int .i64 h2_1]]⟩),(g20,⟨false,g21,h3⟩),(g22,⟨false,g23,h4⟩)]⟩=>bif nmEq g0 ([0,3]) && Nat.beq g1 0 && Nat.beq g2 0 && nmEq g3 ([0,4]) && Nat.beq g4 0 && Nat.beq g5 0 && nmEq g6 ([0,5]) && Nat.beq g7 0 && Nat.beq g8 0 && nmEq g9 ([0,7]) && nmEq g10 ([0,10]) && nmEq g11 ([0,3]) && ctsEq g12 ([.int .i64]) && ctsEq g13 ([.int .i64]) && ctsEq g14 ([.int .i64,.int .i64]) && nmEq g15 ([0,4]) && ctsEq g16 ([.int .i64]) && ctsEq g17 ([.int .i64]) && ctsEq g18 ([.int .i64,.int .i64]) && nmEq g19 ([0,5]) && nmEq g20 ([0,7]) && ctsEq g21 ([.int .i64,.int .i64]) && nmEq g22 ([0,10]) && ctsEq g23 ([.int .i64]) then ro (runW (R71_2 t8 t9 h0_0 h0_1 h0_2 h1_0 h1_1 h1_2 h2_0 h2_1 h3) (((h1_0.length:Int) - t11:Int).toNat+1) (t11,h4)) none (K71_2 t8 t9 h0_0 h0_1 h0_2 h1_0 h1_1 h1_2 h2_0 h2_1 h3 k) else none
 | _=>none
def G71_0 {β:Type} (h0_0:List AV) (h0_1:List AV) (h0_2:List AV) (h1_0:List AV) (h1_1:List AV) (h1_2:List AV) (h2_0:Int) (h2_1:Int) (t8:Int) (h3:List AV) (N:((Int × (List AV)))→β) (K:(((List AV)))→β) (d:β):β:=(bif decide (t8<1000) then (bif q101 h0_0 h0_1 h0_2 t8 then (bif decide ((v101_0 h0_0 h0_1 h0_2 t8)<0) then N (IntKind.i64.wrap (t8+1),h3)
 else (bif (decide (0≤(v101_0 h0_0 h0_1 h0_2 t8)) && decide ((v101_0 h0_0 h0_1 h0_2 t8)<(h0_0.length:Int))) then (bif !(v34_0 h2_0 h2_1 (fI (h0_0.getD (v101_0 h0_0 h0_1 h0_2 t8).toNat .undef) 0)) then N (IntKind.i64.wrap (t8+1),h3)
 else (ro (runW (R71_2 t8 (v101_0 h0_0 h0_1 h0_2 t8) h0_0 h0_1 h0_2 h1_0 h1_1 h1_2 h2_0 h2_1 h3) (((h1_0.length:Int) - 0:Int).toNat+1) (0,([]:List AV))) d (fun p54=>(bif q77 p54 then (ro (runW (R71_4 t8 h0_0 h0_1 h0_2 h1_0 h1_1 h1_2 h2_0 h2_1 (v77_0 p54)) ((((v77_0 p54).length:Int) - 0:Int).toNat+1) (0,h3)) d (fun p57=>N (IntKind.i64.wrap (t8+1),p57)))
 else d))))
 else d))
 else d)
 else K h3)
def F71_0 (h0_0 h0_1 h0_2 h1_0 h1_1 h1_2:List AV) (h2_0 h2_1 t8:Int) (h3:List AV):Out ((Int × (List AV))) (((List AV))):=G71_0 h0_0 h0_1 h0_2 h1_0 h1_1 h1_2 h2_0 h2_1 t8 h3 .next .stop .fail
def R71_0 (h0_0 h0_1 h0_2 h1_0 h1_1 h1_2:List AV) (h2_0 h2_1:Int):((Int × (List AV)))→Out ((Int × (List AV))) (((List AV))):=fun s:Int × (List AV)=>F71_0 h0_0 h0_1 h0_2 h1_0 h1_1 h1_2 h2_0 h2_1 s.1 s.2
def E71_0 (h0_0 h0_1 h0_2 h1_0 h1_1 h1_2:List AV) (h2_0 h2_1:Int):((Int × (List AV)))→St:=fun s:Int × (List AV)=>⟨[(3,AV.ptr [0,3] 0 0),(4,AV.ptr [0,4] 0 0),(5,AV.ptr [0,5] 0 0),(7,AV.own [0,7]),(8,Ai s.1)],[([0,3],⟨true,[],[AV.agg [AV.sl [.int .i64] h0_0,AV.sl [.int .i64] h0_1,AV.sl [.int .i64,.int .i64] h0_2]]⟩),([0,4],⟨true,[],[AV.agg [AV.sl [.int .i64] h1_0,AV.sl [.int .i64] h1_1,AV.sl [.int .i64,.int .i64] h1_2]]⟩),([0,5],⟨true,[],[AV.agg [Ai h2_0,Ai h2_1]]⟩),([0,7],⟨false,[.int .i64,.int .i64],s.2⟩)]⟩
def K71_0 (h0_0 h0_1 h0_2 h1_0 h1_1 h1_2:List AV) (h2_0 h2_1:Int) (k:Kont):(((List AV)))→Option AV:=fun p:(List AV)=>k (.exit 0) ⟨[(7,AV.own [0,7])],[([0,3],⟨true,[],[AV.agg [AV.sl [.int .i64] h0_0,AV.sl [.int .i64] h0_1,AV.sl [.int .i64,.int .i64] h0_2]]⟩),([0,4],⟨true,[],[AV.agg [AV.sl [.int .i64] h1_0,AV.sl [.int .i64] h1_1,AV.sl [.int .i64,.int .i64] h1_2]]⟩),([0,5],⟨true,[],[AV.agg [Ai h2_0,Ai h2_1]]⟩),([0,7],⟨false,[.int .i64,.int .i64],p⟩)]⟩
def l71_0:LModel:=fun _ _ st k=>match st with
 | ⟨[(3,.ptr g0 g1 g2),(4,.ptr g3 g4 g5),(5,.ptr g6 g7 g8),(7,.own g9),(8,.int .i64 t8)],[(g10,⟨true,[],[.agg [.sl g11 h0_0,.sl g12 h0_1,.sl g13 h0_2]]⟩),(g14,⟨true,[],[.agg [.sl g15 h1_0,.sl g16 h1_1,.sl g17 h1_2]]⟩),(g18,⟨true,[],[.agg [.int .i64 h2_0,.int .i64 h2_1]]⟩),(g19,⟨false,g20,h3⟩)]⟩=>bif nmEq g0 ([0,3]) && Nat.beq g1 0 && Nat.beq g2 0 && nmEq g3 ([0,4]) && Nat.beq g4 0 && Nat.beq g5 0 && nmEq g6 ([0,5]) && Nat.beq g7 0 && Nat.beq g8 0 && nmEq g9 ([0,7]) && nmEq g10 ([0,3]) && ctsEq g11 ([.int .i64]) && ctsEq g12 ([.int .i64]) && ctsEq g13 ([.int .i64,.int .i64]) && nmEq g14 ([0,4]) && ctsEq g15 ([.int .i64]) && ctsEq g16 ([.int .i64]) && ctsEq g17 ([.int .i64,.int .i64]) && nmEq g18 ([0,5]) && nmEq g19 ([0,7]) && ctsEq g20 ([.int .i64,.int .i64]) then ro (runW (R71_0 h0_0 h0_1 h0_2 h1_0 h1_1 h1_2 h2_0 h2_1) ((1000 - t8:Int).toNat+1) (t8,h3)) none (K71_0 h0_0 h0_1 h0_2 h1_0 h1_1 h1_2 h2_0 h2_1 k) else none
 | _=>none
noncomputable def c71:Cfg:=cfg Tryz.prog [(71,0,[3,4,5,7,8]),(71,2,[3,4,5,7,8,9,10,11]),(71,4,[3,4,5,7,8,10,12]),(71,999,[6]),(71,1000,[7]),(71,1001,[3,4,5,7,8]),(71,1002,[3,4,5,7,8,10]),(71,1003,[3,4,5,7,8,9,10,11]),(71,1004,[3,4,5,7,8]),(71,1005,[3,4,5,7,8,10,12])] [(34,m34),(77,m77),(101,m101)] [] [] [(71,0,l71_0),(71,2,l71_2),(71,4,l71_4)]
theorem s71_4 (t8:Int) (h0_0 h0_1 h0_2 h1_0 h1_1 h1_2:List AV) (h2_0 h2_1:Int) (h4:List AV) (ce:CallE) (k:Kont) (s:Int × (List AV)) (next:St→Option AV):stepA (codeA c71 ce [] 71 4 (sub [1,1,0,1,0,0,1,0,0,1,1,1,1,1,1,0,0] (body Tryz.f71))) (normA [] [3,4,5,7,8,10,12]) next ((E71_4 t8 h0_0 h0_1 h0_2 h1_0 h1_1 h1_2 h2_0 h2_1 h4) s) k=G71_4 t8 h0_0 h0_1 h0_2 h1_0 h1_1 h1_2 h2_0 h2_1 h4 s.1 s.2 (fun s=>next ((E71_4 t8 h0_0 h0_1 h0_2 h1_0 h1_1 h1_2 h2_0 h2_1 h4) s)) (K71_4 t8 h0_0 h0_1 h0_2 h1_0 h1_1 h1_2 h2_0 h2_1 h4 k) none:=by kernel_rfl
theorem st71_4 (t8:Int) (h0_0 h0_1 h0_2 h1_0 h1_1 h1_2:List AV) (h2_0 h2_1:Int) (h4:List AV) (ce:CallE) (k:Kont) (s:(Int × (List AV))) (next:St→Option AV):stepA (codeA c71 ce [] 71 4 (sub [1,1,0,1,0,0,1,0,0,1,1,1,1,1,1,0,0] (body Tryz.f71))) (normA [] [3,4,5,7,8,10,12]) next ((E71_4 t8 h0_0 h0_1 h0_2 h1_0 h1_1 h1_2 h2_0 h2_1 h4) s) k=(R71_4 t8 h0_0 h0_1 h0_2 h1_0 h1_1 h1_2 h2_0 h2_1 h4 s).el none (fun s=>next ((E71_4 t8 h0_0 h0_1 h0_2 h1_0 h1_1 h1_2 h2_0 h2_1 h4) s)) (K71_4 t8 h0_0 h0_1 h0_2 h1_0 h1_1 h1_2 h2_0 h2_1 h4 k):=(s71_4 t8 h0_0 h0_1 h0_2 h1_0 h1_1 h1_2 h2_0 h2_1 h4 ce k s next).trans (by unfold R71_4;unfold F71_4 G71_4;simp only [el_cond,el_ro,el_sum,el_fail,el_next,el_stop] <;> rfl)
theorem ok71_4 {ce:CallE}:LoopOK c71 ce [] 71 4 (sub [1,1,0,1,0,0,1,0,0,1,1,1,1,1,1,0,0] (body Tryz.f71)):=by
 intro m hm st k r h
 obtain rfl:l71_4=m:=Option.some.inj hm
 unfold l71_4 at h
 split at h
 ·rename_i g0 g1 g2 g3 g4 g5 g6 g7 g8 g9 t8 g10 t12 g11 g12 h0_0 g13 h0_1 g14 h0_2 g15 g16 h1_0 g17 h1_1 g18 h1_2 g19 h2_0 h2_1 g20 g21 h3 g22 g23 h4
  obtain ⟨hg,h⟩:=bif_some h
  simp only [Bool.and_eq_true] at hg
  obtain ⟨⟨⟨⟨⟨⟨⟨⟨⟨⟨⟨⟨⟨⟨⟨⟨⟨⟨⟨⟨⟨⟨⟨q0,q1⟩,q2⟩,q3⟩,q4⟩,q5⟩,q6⟩,q7⟩,q8⟩,q9⟩,q10⟩,q11⟩,q12⟩,q13⟩,q14⟩,q15⟩,q16⟩,q17⟩,q18⟩,q19⟩,q20⟩,q21⟩,q22⟩,q23⟩:=hg
  obtain rfl:=nE q0
  obtain rfl:=bE q1
  obtain rfl:=bE q2
  obtain rfl:=nE q3
  obtain rfl:=bE q4
  obtain rfl:=bE q5
  obtain rfl:=nE q6
  obtain rfl:=bE q7
  obtain rfl:=bE q8
  obtain rfl:=nE q9
  obtain rfl:=nE q10
  obtain rfl:=nE q11
  obtain rfl:=cE q12
  obtain rfl:=cE q13
  obtain rfl:=cE q14
  obtain rfl:=nE q15
  obtain rfl:=cE q16
  obtain rfl:=cE q17
  obtain rfl:=cE q18
  obtain rfl:=nE q19
  obtain rfl:=nE q20
  obtain rfl:=cE q21
  obtain rfl:=nE q22
  obtain rfl:=cE q23
  refine ⟨(((h4.length:Int) - t12:Int).toNat+1),?_⟩
  rw [← h]
  exact loop_run (E71_4 t8 h0_0 h0_1 h0_2 h1_0 h1_1 h1_2 h2_0 h2_1 h4) (K71_4 t8 h0_0 h0_1 h0_2 h1_0 h1_1 h1_2 h2_0 h2_1 h4 k) (st71_4 t8 h0_0 h0_1 h0_2 h1_0 h1_1 h1_2 h2_0 h2_1 h4 ce k) _ (t12,h3)
 ·cases h
theorem s71_2 (t8 t9:Int) (h0_0 h0_1 h0_2 h1_0 h1_1 h1_2:List AV) (h2_0 h2_1:Int) (h3:List AV) (ce:CallE) (k:Kont) (s:Int × (List AV)) (next:St→Option AV):stepA (codeA c71 ce [] 71 2 (sub [1,1,0,1,0,0,1,0,0,1,1,1,0,1,0,0] (body Tryz.f71))) (normA [] [3,4,5,7,8,9,10,11]) next ((E71_2 t8 t9 h0_0 h0_1 h0_2 h1_0 h1_1 h1_2 h2_0 h2_1 h3) s) k=G71_2 t8 t9 h0_0 h0_1 h0_2 h1_0 h1_1 h1_2 h2_0 h2_1 h3 s.1 s.2 (fun s=>next ((E71_2 t8 t9 h0_0 h0_1 h0_2 h1_0 h1_1 h1_2 h2_0 h2_1 h3) s)) (K71_2 t8 t9 h0_0 h0_1 h0_2 h1_0 h1_1 h1_2 h2_0 h2_1 h3 k) none:=by kernel_rfl
theorem st71_2 (t8 t9:Int) (h0_0 h0_1 h0_2 h1_0 h1_1 h1_2:List AV) (h2_0 h2_1:Int) (h3:List AV) (ce:CallE) (k:Kont) (s:(Int × (List AV))) (next:St→Option AV):stepA (codeA c71 ce [] 71 2 (sub [1,1,0,1,0,0,1,0,0,1,1,1,0,1,0,0] (body Tryz.f71))) (normA [] [3,4,5,7,8,9,10,11]) next ((E71_2 t8 t9 h0_0 h0_1 h0_2 h1_0 h1_1 h1_2 h2_0 h2_1 h3) s) k=(R71_2 t8 t9 h0_0 h0_1 h0_2 h1_0 h1_1 h1_2 h2_0 h2_1 h3 s).el none (fun s=>next ((E71_2 t8 t9 h0_0 h0_1 h0_2 h1_0 h1_1 h1_2 h2_0 h2_1 h3) s)) (K71_2 t8 t9 h0_0 h0_1 h0_2 h1_0 h1_1 h1_2 h2_0 h2_1 h3 k):=(s71_2 t8 t9 h0_0 h0_1 h0_2 h1_0 h1_1 h1_2 h2_0 h2_1 h3 ce k s next).trans (by unfold R71_2;unfold F71_2 G71_2;simp only [el_cond,el_ro,el_sum,el_fail,el_next,el_stop] <;> rfl)
theorem ok71_2 {ce:CallE}:LoopOK c71 ce [] 71 2 (sub [1,1,0,1,0,0,1,0,0,1,1,1,0,1,0,0] (body Tryz.f71)):=by
 intro m hm st k r h
 obtain rfl:l71_2=m:=Option.some.inj hm
 unfold l71_2 at h
 split at h
 ·rename_i g0 g1 g2 g3 g4 g5 g6 g7 g8 g9 t8 t9 g10 t11 g11 g12 h0_0 g13 h0_1 g14 h0_2 g15 g16 h1_0 g17 h1_1 g18 h1_2 g19 h2_0 h2_1 g20 g21 h3 g22 g23 h4
  obtain ⟨hg,h⟩:=bif_some h
  simp only [Bool.and_eq_true] at hg
  obtain ⟨⟨⟨⟨⟨⟨⟨⟨⟨⟨⟨⟨⟨⟨⟨⟨⟨⟨⟨⟨⟨⟨⟨q0,q1⟩,q2⟩,q3⟩,q4⟩,q5⟩,q6⟩,q7⟩,q8⟩,q9⟩,q10⟩,q11⟩,q12⟩,q13⟩,q14⟩,q15⟩,q16⟩,q17⟩,q18⟩,q19⟩,q20⟩,q21⟩,q22⟩,q23⟩:=hg
  obtain rfl:=nE q0
  obtain rfl:=bE q1
  obtain rfl:=bE q2
  obtain rfl:=nE q3
  obtain rfl:=bE q4
  obtain rfl:=bE q5
  obtain rfl:=nE q6
  obtain rfl:=bE q7
  obtain rfl:=bE q8
  obtain rfl:=nE q9
  obtain rfl:=nE q10
  obtain rfl:=nE q11
  obtain rfl:=cE q12
  obtain rfl:=cE q13
  obtain rfl:=cE q14
  obtain rfl:=nE q15
  obtain rfl:=cE q16
  obtain rfl:=cE q17
  obtain rfl:=cE q18
  obtain rfl:=nE q19
  obtain rfl:=nE q20
  obtain rfl:=cE q21
  obtain rfl:=nE q22
  obtain rfl:=cE q23
  refine ⟨(((h1_0.length:Int) - t11:Int).toNat+1),?_⟩
  rw [← h]
  exact loop_run (E71_2 t8 t9 h0_0 h0_1 h0_2 h1_0 h1_1 h1_2 h2_0 h2_1 h3) (K71_2 t8 t9 h0_0 h0_1 h0_2 h1_0 h1_1 h1_2 h2_0 h2_1 h3 k) (st71_2 t8 t9 h0_0 h0_1 h0_2 h1_0 h1_1 h1_2 h2_0 h2_1 h3 ce k) _ (t11,h4)
 ·cases h
theorem s71_0 (h0_0 h0_1 h0_2 h1_0 h1_1 h1_2:List AV) (h2_0 h2_1:Int) (ce:CallE) (k:Kont) (s:Int × (List AV)) (next:St→Option AV):stepA (codeA c71 ce [] 71 0 (sub [1,1,0,1,0,0] (body Tryz.f71))) (normA [] [3,4,5,7,8]) next ((E71_0 h0_0 h0_1 h0_2 h1_0 h1_1 h1_2 h2_0 h2_1) s) k=G71_0 h0_0 h0_1 h0_2 h1_0 h1_1 h1_2 h2_0 h2_1 s.1 s.2 (fun s=>next ((E71_0 h0_0 h0_1 h0_2 h1_0 h1_1 h1_2 h2_0 h2_1) s)) (K71_0 h0_0 h0_1 h0_2 h1_0 h1_1 h1_2 h2_0 h2_1 k) none:=by kernel_rfl
theorem st71_0 (h0_0 h0_1 h0_2 h1_0 h1_1 h1_2:List AV) (h2_0 h2_1:Int) (ce:CallE) (k:Kont) (s:(Int × (List AV))) (next:St→Option AV):stepA (codeA c71 ce [] 71 0 (sub [1,1,0,1,0,0] (body Tryz.f71))) (normA [] [3,4,5,7,8]) next ((E71_0 h0_0 h0_1 h0_2 h1_0 h1_1 h1_2 h2_0 h2_1) s) k=(R71_0 h0_0 h0_1 h0_2 h1_0 h1_1 h1_2 h2_0 h2_1 s).el none (fun s=>next ((E71_0 h0_0 h0_1 h0_2 h1_0 h1_1 h1_2 h2_0 h2_1) s)) (K71_0 h0_0 h0_1 h0_2 h1_0 h1_1 h1_2 h2_0 h2_1 k):=(s71_0 h0_0 h0_1 h0_2 h1_0 h1_1 h1_2 h2_0 h2_1 ce k s next).trans (by unfold R71_0;unfold F71_0 G71_0;simp only [el_cond,el_ro,el_sum,el_fail,el_next,el_stop] <;> rfl)
theorem ok71_0 {ce:CallE}:LoopOK c71 ce [] 71 0 (sub [1,1,0,1,0,0] (body Tryz.f71)):=by
 intro m hm st k r h
 obtain rfl:l71_0=m:=Option.some.inj hm
 unfold l71_0 at h
 split at h
 ·rename_i g0 g1 g2 g3 g4 g5 g6 g7 g8 g9 t8 g10 g11 h0_0 g12 h0_1 g13 h0_2 g14 g15 h1_0 g16 h1_1 g17 h1_2 g18 h2_0 h2_1 g19 g20 h3
  obtain ⟨hg,h⟩:=bif_some h
  simp only [Bool.and_eq_true] at hg
  obtain ⟨⟨⟨⟨⟨⟨⟨⟨⟨⟨⟨⟨⟨⟨⟨⟨⟨⟨⟨⟨q0,q1⟩,q2⟩,q3⟩,q4⟩,q5⟩,q6⟩,q7⟩,q8⟩,q9⟩,q10⟩,q11⟩,q12⟩,q13⟩,q14⟩,q15⟩,q16⟩,q17⟩,q18⟩,q19⟩,q20⟩:=hg
  obtain rfl:=nE q0
  obtain rfl:=bE q1
  obtain rfl:=bE q2
  obtain rfl:=nE q3
  obtain rfl:=bE q4
  obtain rfl:=bE q5
  obtain rfl:=nE q6
  obtain rfl:=bE q7
  obtain rfl:=bE q8
  obtain rfl:=nE q9
  obtain rfl:=nE q10
  obtain rfl:=cE q11
  obtain rfl:=cE q12
  obtain rfl:=cE q13
  obtain rfl:=nE q14
  obtain rfl:=cE q15
  obtain rfl:=cE q16
  obtain rfl:=cE q17
  obtain rfl:=nE q18
  obtain rfl:=nE q19
  obtain rfl:=cE q20
  refine ⟨((1000 - t8:Int).toNat+1),?_⟩
  rw [← h]
  exact loop_run (E71_0 h0_0 h0_1 h0_2 h1_0 h1_1 h1_2 h2_0 h2_1) (K71_0 h0_0 h0_1 h0_2 h1_0 h1_1 h1_2 h2_0 h2_1 k) (st71_0 h0_0 h0_1 h0_2 h1_0 h1_1 h1_2 h2_0 h2_1 ce k) _ (t8,h3)
 ·cases h
def q71 (xa xb xc ya yb yc:List AV) (za zb:Int):Bool:=(ro (runW (R71_0 xa xb xc ya yb yc za zb) ((1000 - 0:Int).toNat+1) (0,([]:List AV))) false (fun p58=>true))
def v71_0 (xa xb xc ya yb yc:List AV) (za zb:Int):List AV:=(ro (runW (R71_0 xa xb xc ya yb yc za zb) ((1000 - 0:Int).toNat+1) (0,([]:List AV))) [] (fun p58=>p58))
theorem e71 (xa xb xc ya yb yc:List AV) (za zb:Int):funA c71 0 71 [AV.agg [AV.sl [.int .i64] xa,AV.sl [.int .i64] xb,AV.sl [.int .i64,.int .i64] xc],AV.agg [AV.sl [.int .i64] ya,AV.sl [.int .i64] yb,AV.sl [.int .i64,.int .i64] yc],AV.agg [Ai za,Ai zb]]=(ro (runW (R71_0 xa xb xc ya yb yc za zb) ((1000 - 0:Int).toNat+1) (0,([]:List AV))) none (fun p58=>some (AV.fl [.int .i64,.int .i64] p58))):=by kernel_rfl
def m71:TModel
 | [.agg [.sl g0 xa,.sl g1 xb,.sl g2 xc],.agg [.sl g3 ya,.sl g4 yb,.sl g5 yc],.agg [.int .i64 za,.int .i64 zb]]=>bif ctsEq g0 ([.int .i64]) && ctsEq g1 ([.int .i64]) && ctsEq g2 ([.int .i64,.int .i64]) && ctsEq g3 ([.int .i64]) && ctsEq g4 ([.int .i64]) && ctsEq g5 ([.int .i64,.int .i64]) then some (q71 xa xb xc ya yb yc za zb,AV.fl [.int .i64,.int .i64] (v71_0 xa xb xc ya yb yc za zb)) else none
 | _=>none
theorem k71:Known Tryz.prog 71:=⟨Tryz.f71,Tryz.func71,by kernel_rfl,by kernel_rfl⟩
theorem meets71:Meets Tryz.prog 71 m71:=by
 refine mt (lvl:=0) (cf:=c71) rfl mixed k71 Tryz.func71 (by kernel_rfl) (loops_cons ok71_0 (loops_cons ok71_2 (loops_cons ok71_4 noLoop))) (allT_cons meets34 (allT_cons meets77 (allT_cons meets101 allT_nil))) allM_nil noI fun xs r h=>?_
 unfold m71 at h
 split at h
 ·rename_i g0 xa g1 xb g2 xc g3 ya g4 yb g5 yc za zb
  obtain ⟨hg,h⟩:=bif_pair h
  simp only [Bool.and_eq_true] at hg
  obtain ⟨⟨⟨⟨⟨q0,q1⟩,q2⟩,q3⟩,q4⟩,q5⟩:=hg
  obtain rfl:=cE q0
  obtain rfl:=cE q1
  obtain rfl:=cE q2
  obtain rfl:=cE q3
  obtain rfl:=cE q4
  obtain rfl:=cE q5
  obtain ⟨h1,rfl⟩:=pair_inj h
  exact (e71 xa xb xc ya yb yc za zb).trans ((brO (fun o:Option (((List AV)))=>some (AV.fl [.int .i64,.int .i64] (ro o [] (fun p58=>p58)))) (fun p58=>(fun _=>rfl))) h1)
 ·cases h
noncomputable def c20:Cfg:=cfg Tryz.prog [(20,999,[6,7,8,9])] [(51,m51),(68,m68),(69,m69),(70,m70),(71,m71)] [(72,.w m72)] [] []
def q20 (xa xb xc ya yb yc:List AV) (za zb:Int):Bool:=(q68 xa xb xc && (bif !(v68_0 xa xb xc) then (q69 xa xb xc && q69 ya yb yc) else (q68 ya yb yc && (bif !(v68_0 ya yb yc) then (q69 xa xb xc && q69 ya yb yc) else (bif !(v51_0 za zb) then (q69 xa xb xc && q69 ya yb yc) else (q70 xa xb xc za zb && (q70 ya yb yc za zb && (q72 (v70_3 xa xb xc za zb) (v70_4 xa xb xc za zb) (v70_0 xa xb xc za zb) (v70_1 xa xb xc za zb) (v70_2 xa xb xc za zb) && (q72 (v70_3 ya yb yc za zb) (v70_4 ya yb yc za zb) (v70_0 ya yb yc za zb) (v70_1 ya yb yc za zb) (v70_2 ya yb yc za zb) && q71 (((v72_4 (v70_3 xa xb xc za zb) (v70_4 xa xb xc za zb) (v70_0 xa xb xc za zb) (v70_1 xa xb xc za zb) (v70_2 xa xb xc za zb)).drop (v72_0 (v70_3 xa xb xc za zb) (v70_4 xa xb xc za zb) (v70_0 xa xb xc za zb) (v70_1 xa xb xc za zb) (v70_2 xa xb xc za zb))).take (v72_1 (v70_3 xa xb xc za zb) (v70_4 xa xb xc za zb) (v70_0 xa xb xc za zb) (v70_1 xa xb xc za zb) (v70_2 xa xb xc za zb))) (((v72_5 (v70_3 xa xb xc za zb) (v70_4 xa xb xc za zb) (v70_0 xa xb xc za zb) (v70_1 xa xb xc za zb) (v70_2 xa xb xc za zb)).drop (v72_2 (v70_3 xa xb xc za zb) (v70_4 xa xb xc za zb) (v70_0 xa xb xc za zb) (v70_1 xa xb xc za zb) (v70_2 xa xb xc za zb))).take (v72_3 (v70_3 xa xb xc za zb) (v70_4 xa xb xc za zb) (v70_0 xa xb xc za zb) (v70_1 xa xb xc za zb) (v70_2 xa xb xc za zb))) ([]:List AV) (((v72_4 (v70_3 ya yb yc za zb) (v70_4 ya yb yc za zb) (v70_0 ya yb yc za zb) (v70_1 ya yb yc za zb) (v70_2 ya yb yc za zb)).drop (v72_0 (v70_3 ya yb yc za zb) (v70_4 ya yb yc za zb) (v70_0 ya yb yc za zb) (v70_1 ya yb yc za zb) (v70_2 ya yb yc za zb))).take (v72_1 (v70_3 ya yb yc za zb) (v70_4 ya yb yc za zb) (v70_0 ya yb yc za zb) (v70_1 ya yb yc za zb) (v70_2 ya yb yc za zb))) (((v72_5 (v70_3 ya yb yc za zb) (v70_4 ya yb yc za zb) (v70_0 ya yb yc za zb) (v70_1 ya yb yc za zb) (v70_2 ya yb yc za zb)).drop (v72_2 (v70_3 ya yb yc za zb) (v70_4 ya yb yc za zb) (v70_0 ya yb yc za zb) (v70_1 ya yb yc za zb) (v70_2 ya yb yc za zb))).take (v72_3 (v70_3 ya yb yc za zb) (v70_4 ya yb yc za zb) (v70_0 ya yb yc za zb) (v70_1 ya yb yc za zb) (v70_2 ya yb yc za zb))) ([]:List AV) za zb)))))))))
def v20_0 (xa xb xc ya yb yc:List AV) (za zb:Int):List AV:=(bif !(v68_0 xa xb xc) then (v69_0 xa xb xc) else (bif !(v68_0 ya yb yc) then (v69_0 xa xb xc) else (bif !(v51_0 za zb) then (v69_0 xa xb xc) else (v72_4 (v70_3 xa xb xc za zb) (v70_4 xa xb xc za zb) (v70_0 xa xb xc za zb) (v70_1 xa xb xc za zb) (v70_2 xa xb xc za zb)))))
def v20_1 (xa xb xc ya yb yc:List AV) (za zb:Int):List AV:=(bif !(v68_0 xa xb xc) then (v69_1 xa xb xc) else (bif !(v68_0 ya yb yc) then (v69_1 xa xb xc) else (bif !(v51_0 za zb) then (v69_1 xa xb xc) else (v72_5 (v70_3 xa xb xc za zb) (v70_4 xa xb xc za zb) (v70_0 xa xb xc za zb) (v70_1 xa xb xc za zb) (v70_2 xa xb xc za zb)))))
def v20_2 (xa xb xc ya yb yc:List AV) (za zb:Int):List AV:=(bif !(v68_0 xa xb xc) then (v69_2 xa xb xc) else (bif !(v68_0 ya yb yc) then (v69_2 xa xb xc) else (bif !(v51_0 za zb) then (v69_2 xa xb xc) else (v72_6 (v70_3 xa xb xc za zb) (v70_4 xa xb xc za zb) (v70_0 xa xb xc za zb) (v70_1 xa xb xc za zb) (v70_2 xa xb xc za zb)))))
def v20_3 (xa xb xc ya yb yc:List AV) (za zb:Int):List AV:=(bif !(v68_0 xa xb xc) then (v69_0 ya yb yc) else (bif !(v68_0 ya yb yc) then (v69_0 ya yb yc) else (bif !(v51_0 za zb) then (v69_0 ya yb yc) else (v72_4 (v70_3 ya yb yc za zb) (v70_4 ya yb yc za zb) (v70_0 ya yb yc za zb) (v70_1 ya yb yc za zb) (v70_2 ya yb yc za zb)))))
def v20_4 (xa xb xc ya yb yc:List AV) (za zb:Int):List AV:=(bif !(v68_0 xa xb xc) then (v69_1 ya yb yc) else (bif !(v68_0 ya yb yc) then (v69_1 ya yb yc) else (bif !(v51_0 za zb) then (v69_1 ya yb yc) else (v72_5 (v70_3 ya yb yc za zb) (v70_4 ya yb yc za zb) (v70_0 ya yb yc za zb) (v70_1 ya yb yc za zb) (v70_2 ya yb yc za zb)))))
def v20_5 (xa xb xc ya yb yc:List AV) (za zb:Int):List AV:=(bif !(v68_0 xa xb xc) then (v69_2 ya yb yc) else (bif !(v68_0 ya yb yc) then (v69_2 ya yb yc) else (bif !(v51_0 za zb) then (v69_2 ya yb yc) else (v72_6 (v70_3 ya yb yc za zb) (v70_4 ya yb yc za zb) (v70_0 ya yb yc za zb) (v70_1 ya yb yc za zb) (v70_2 ya yb yc za zb)))))
def v20_6 (xa xb xc ya yb yc:List AV) (za zb:Int):List AV:=(bif !(v68_0 xa xb xc) then ([]:List AV) else (bif !(v68_0 ya yb yc) then ([]:List AV) else (bif !(v51_0 za zb) then ([]:List AV) else (v71_0 (((v72_4 (v70_3 xa xb xc za zb) (v70_4 xa xb xc za zb) (v70_0 xa xb xc za zb) (v70_1 xa xb xc za zb) (v70_2 xa xb xc za zb)).drop (v72_0 (v70_3 xa xb xc za zb) (v70_4 xa xb xc za zb) (v70_0 xa xb xc za zb) (v70_1 xa xb xc za zb) (v70_2 xa xb xc za zb))).take (v72_1 (v70_3 xa xb xc za zb) (v70_4 xa xb xc za zb) (v70_0 xa xb xc za zb) (v70_1 xa xb xc za zb) (v70_2 xa xb xc za zb))) (((v72_5 (v70_3 xa xb xc za zb) (v70_4 xa xb xc za zb) (v70_0 xa xb xc za zb) (v70_1 xa xb xc za zb) (v70_2 xa xb xc za zb)).drop (v72_2 (v70_3 xa xb xc za zb) (v70_4 xa xb xc za zb) (v70_0 xa xb xc za zb) (v70_1 xa xb xc za zb) (v70_2 xa xb xc za zb))).take (v72_3 (v70_3 xa xb xc za zb) (v70_4 xa xb xc za zb) (v70_0 xa xb xc za zb) (v70_1 xa xb xc za zb) (v70_2 xa xb xc za zb))) ([]:List AV) (((v72_4 (v70_3 ya yb yc za zb) (v70_4 ya yb yc za zb) (v70_0 ya yb yc za zb) (v70_1 ya yb yc za zb) (v70_2 ya yb yc za zb)).drop (v72_0 (v70_3 ya yb yc za zb) (v70_4 ya yb yc za zb) (v70_0 ya yb yc za zb) (v70_1 ya yb yc za zb) (v70_2 ya yb yc za zb))).take (v72_1 (v70_3 ya yb yc za zb) (v70_4 ya yb yc za zb) (v70_0 ya yb yc za zb) (v70_1 ya yb yc za zb) (v70_2 ya yb yc za zb))) (((v72_5 (v70_3 ya yb yc za zb) (v70_4 ya yb yc za zb) (v70_0 ya yb yc za zb) (v70_1 ya yb yc za zb) (v70_2 ya yb yc za zb)).drop (v72_2 (v70_3 ya yb yc za zb) (v70_4 ya yb yc za zb) (v70_0 ya yb yc za zb) (v70_1 ya yb yc za zb) (v70_2 ya yb yc za zb))).take (v72_3 (v70_3 ya yb yc za zb) (v70_4 ya yb yc za zb) (v70_0 ya yb yc za zb) (v70_1 ya yb yc za zb) (v70_2 ya yb yc za zb))) ([]:List AV) za zb))))
def v20_7 (xa xb xc ya yb yc:List AV) (za zb:Int):Bool:=(bif !(v68_0 xa xb xc) then false else (bif !(v68_0 ya yb yc) then false else (bif !(v51_0 za zb) then false else true)))
theorem e20 (xa xb xc ya yb yc:List AV) (za zb:Int):funA c20 0 20 [AV.agg [AV.sl [.int .i64] xa,AV.sl [.int .i64] xb,AV.sl [.int .i64,.int .i64] xc],AV.agg [AV.sl [.int .i64] ya,AV.sl [.int .i64] yb,AV.sl [.int .i64,.int .i64] yc],AV.agg [Ai za,Ai zb]]=((fun (x1:List AV) (x2:List AV) (x3:List AV) (x4:Int) (x5:Int) (x6:List AV) (x7:List AV) (x8:List AV) (x9:Int) (x10:Int)=>(bif q68 xa xb xc then (bif !(v68_0 xa xb xc) then (bif q69 xa xb xc then (bif q69 ya yb yc then some (AV.tup [AV.agg [AV.fl [.int .i64] (v69_0 xa xb xc),AV.fl [.int .i64] (v69_1 xa xb xc),AV.fl [.int .i64,.int .i64] (v69_2 xa xb xc)],AV.agg [AV.fl [.int .i64] (v69_0 ya yb yc),AV.fl [.int .i64] (v69_1 ya yb yc),AV.fl [.int .i64,.int .i64] (v69_2 ya yb yc)],AV.fl [.int .i64,.int .i64] ([]:List AV),AV.bool false])
 else none)
 else none)
 else (bif q68 ya yb yc then (bif !(v68_0 ya yb yc) then (bif q69 xa xb xc then (bif q69 ya yb yc then some (AV.tup [AV.agg [AV.fl [.int .i64] (v69_0 xa xb xc),AV.fl [.int .i64] (v69_1 xa xb xc),AV.fl [.int .i64,.int .i64] (v69_2 xa xb xc)],AV.agg [AV.fl [.int .i64] (v69_0 ya yb yc),AV.fl [.int .i64] (v69_1 ya yb yc),AV.fl [.int .i64,.int .i64] (v69_2 ya yb yc)],AV.fl [.int .i64,.int .i64] ([]:List AV),AV.bool false])
 else none)
 else none)
 else (bif !(v51_0 za zb) then (bif q69 xa xb xc then (bif q69 ya yb yc then some (AV.tup [AV.agg [AV.fl [.int .i64] (v69_0 xa xb xc),AV.fl [.int .i64] (v69_1 xa xb xc),AV.fl [.int .i64,.int .i64] (v69_2 xa xb xc)],AV.agg [AV.fl [.int .i64] (v69_0 ya yb yc),AV.fl [.int .i64] (v69_1 ya yb yc),AV.fl [.int .i64,.int .i64] (v69_2 ya yb yc)],AV.fl [.int .i64,.int .i64] ([]:List AV),AV.bool false])
 else none)
 else none)
 else (bif q70 xa xb xc za zb then (bif q70 ya yb yc za zb then (bif q72 x4 x5 x1 x2 x3 then (bif q72 x9 x10 x6 x7 x8 then (bif q71 (((v72_4 x4 x5 x1 x2 x3).drop (v72_0 x4 x5 x1 x2 x3)).take (v72_1 x4 x5 x1 x2 x3)) (((v72_5 x4 x5 x1 x2 x3).drop (v72_2 x4 x5 x1 x2 x3)).take (v72_3 x4 x5 x1 x2 x3)) ([]:List AV) (((v72_4 x9 x10 x6 x7 x8).drop (v72_0 x9 x10 x6 x7 x8)).take (v72_1 x9 x10 x6 x7 x8)) (((v72_5 x9 x10 x6 x7 x8).drop (v72_2 x9 x10 x6 x7 x8)).take (v72_3 x9 x10 x6 x7 x8)) ([]:List AV) za zb then some (AV.tup [AV.agg [AV.fl [.int .i64] (v72_4 x4 x5 x1 x2 x3),AV.fl [.int .i64] (v72_5 x4 x5 x1 x2 x3),AV.fl [.int .i64,.int .i64] (v72_6 x4 x5 x1 x2 x3)],AV.agg [AV.fl [.int .i64] (v72_4 x9 x10 x6 x7 x8),AV.fl [.int .i64] (v72_5 x9 x10 x6 x7 x8),AV.fl [.int .i64,.int .i64] (v72_6 x9 x10 x6 x7 x8)],AV.fl [.int .i64,.int .i64] (v71_0 (((v72_4 x4 x5 x1 x2 x3).drop (v72_0 x4 x5 x1 x2 x3)).take (v72_1 x4 x5 x1 x2 x3)) (((v72_5 x4 x5 x1 x2 x3).drop (v72_2 x4 x5 x1 x2 x3)).take (v72_3 x4 x5 x1 x2 x3)) ([]:List AV) (((v72_4 x9 x10 x6 x7 x8).drop (v72_0 x9 x10 x6 x7 x8)).take (v72_1 x9 x10 x6 x7 x8)) (((v72_5 x9 x10 x6 x7 x8).drop (v72_2 x9 x10 x6 x7 x8)).take (v72_3 x9 x10 x6 x7 x8)) ([]:List AV) za zb),AV.bool true])
 else none)
 else none)
 else none)
 else none)
 else none)))
 else none))
 else none)) (v70_0 xa xb xc za zb) (v70_1 xa xb xc za zb) (v70_2 xa xb xc za zb) (v70_3 xa xb xc za zb) (v70_4 xa xb xc za zb) (v70_0 ya yb yc za zb) (v70_1 ya yb yc za zb) (v70_2 ya yb yc za zb) (v70_3 ya yb yc za zb) (v70_4 ya yb yc za zb)):=by kernel_rfl
theorem r20 (xa xb xc ya yb yc:List AV) (za zb:Int) (h:q20 xa xb xc ya yb yc za zb=true):funA c20 0 20 [AV.agg [AV.sl [.int .i64] xa,AV.sl [.int .i64] xb,AV.sl [.int .i64,.int .i64] xc],AV.agg [AV.sl [.int .i64] ya,AV.sl [.int .i64] yb,AV.sl [.int .i64,.int .i64] yc],AV.agg [AV.int .i64 za,AV.int .i64 zb]]=some (AV.tup [AV.agg [AV.fl [.int .i64] (v20_0 xa xb xc ya yb yc za zb),AV.fl [.int .i64] (v20_1 xa xb xc ya yb yc za zb),AV.fl [.int .i64,.int .i64] (v20_2 xa xb xc ya yb yc za zb)],AV.agg [AV.fl [.int .i64] (v20_3 xa xb xc ya yb yc za zb),AV.fl [.int .i64] (v20_4 xa xb xc ya yb yc za zb),AV.fl [.int .i64,.int .i64] (v20_5 xa xb xc ya yb yc za zb)],AV.fl [.int .i64,.int .i64] (v20_6 xa xb xc ya yb yc za zb),AV.bool (v20_7 xa xb xc ya yb yc za zb)]):=by
 refine (e20 xa xb xc ya yb yc za zb).trans ?_
 unfold q20 at h
 unfold v20_0 v20_1 v20_2 v20_3 v20_4 v20_5 v20_6 v20_7
 refine ifG (fun hc=>?_) (fun hc=>?_) <;> first|rw [hc] at h ⊢|rw [hc] at h|rw [hc]|skip
 ·refine ifG (fun hc=>?_) (fun hc=>?_) <;> first|rw [hc] at h ⊢|rw [hc] at h|rw [hc]|skip
  ·refine ifG (fun hc=>?_) (fun hc=>?_) <;> first|rw [hc] at h ⊢|rw [hc] at h|rw [hc]|skip
   ·refine ifG (fun hc=>?_) (fun hc=>?_) <;> first|rw [hc] at h ⊢|rw [hc] at h|rw [hc]|skip
    ·rfl
    ·first|exact Bool.noConfusion h|exact Bool.noConfusion hc
   ·first|exact Bool.noConfusion h|exact Bool.noConfusion hc
  ·refine ifG (fun hc=>?_) (fun hc=>?_) <;> first|rw [hc] at h ⊢|rw [hc] at h|rw [hc]|skip
   ·refine ifG (fun hc=>?_) (fun hc=>?_) <;> first|rw [hc] at h ⊢|rw [hc] at h|rw [hc]|skip
    ·refine ifG (fun hc=>?_) (fun hc=>?_) <;> first|rw [hc] at h ⊢|rw [hc] at h|rw [hc]|skip
     ·refine ifG (fun hc=>?_) (fun hc=>?_) <;> first|rw [hc] at h ⊢|rw [hc] at h|rw [hc]|skip
      ·rfl
      ·first|exact Bool.noConfusion h|exact Bool.noConfusion hc
     ·first|exact Bool.noConfusion h|exact Bool.noConfusion hc
    ·refine ifG (fun hc=>?_) (fun hc=>?_) <;> first|rw [hc] at h ⊢|rw [hc] at h|rw [hc]|skip
     ·refine ifG (fun hc=>?_) (fun hc=>?_) <;> first|rw [hc] at h ⊢|rw [hc] at h|rw [hc]|skip
      ·refine ifG (fun hc=>?_) (fun hc=>?_) <;> first|rw [hc] at h ⊢|rw [hc] at h|rw [hc]|skip
       ·rfl
       ·first|exact Bool.noConfusion h|exact Bool.noConfusion hc
      ·first|exact Bool.noConfusion h|exact Bool.noConfusion hc
     ·refine ifG (fun hc=>?_) (fun hc=>?_) <;> first|rw [hc] at h ⊢|rw [hc] at h|rw [hc]|skip
      ·refine ifG (fun hc=>?_) (fun hc=>?_) <;> first|rw [hc] at h ⊢|rw [hc] at h|rw [hc]|skip
       ·refine ifG (fun hc=>?_) (fun hc=>?_) <;> first|rw [hc] at h ⊢|rw [hc] at h|rw [hc]|skip
        ·refine ifG (fun hc=>?_) (fun hc=>?_) <;> first|rw [hc] at h ⊢|rw [hc] at h|rw [hc]|skip
         ·refine ifG (fun hc=>?_) (fun hc=>?_) <;> first|rw [hc] at h ⊢|rw [hc] at h|rw [hc]|skip
          ·rfl
          ·first|exact Bool.noConfusion h|exact Bool.noConfusion hc
         ·first|exact Bool.noConfusion h|exact Bool.noConfusion hc
        ·first|exact Bool.noConfusion h|exact Bool.noConfusion hc
       ·first|exact Bool.noConfusion h|exact Bool.noConfusion hc
      ·first|exact Bool.noConfusion h|exact Bool.noConfusion hc
   ·first|exact Bool.noConfusion h|exact Bool.noConfusion hc
 ·first|exact Bool.noConfusion h|exact Bool.noConfusion hc
def m20:TModel
 | [.agg [.sl g0 xa,.sl g1 xb,.sl g2 xc],.agg [.sl g3 ya,.sl g4 yb,.sl g5 yc],.agg [.int .i64 za,.int .i64 zb]]=>bif ctsEq g0 ([.int .i64]) && ctsEq g1 ([.int .i64]) && ctsEq g2 ([.int .i64,.int .i64]) && ctsEq g3 ([.int .i64]) && ctsEq g4 ([.int .i64]) && ctsEq g5 ([.int .i64,.int .i64]) then some (q20 xa xb xc ya yb yc za zb,AV.tup [AV.agg [AV.fl [.int .i64] (v20_0 xa xb xc ya yb yc za zb),AV.fl [.int .i64] (v20_1 xa xb xc ya yb yc za zb),AV.fl [.int .i64,.int .i64] (v20_2 xa xb xc ya yb yc za zb)],AV.agg [AV.fl [.int .i64] (v20_3 xa xb xc ya yb yc za zb),AV.fl [.int .i64] (v20_4 xa xb xc ya yb yc za zb),AV.fl [.int .i64,.int .i64] (v20_5 xa xb xc ya yb yc za zb)],AV.fl [.int .i64,.int .i64] (v20_6 xa xb xc ya yb yc za zb),AV.bool (v20_7 xa xb xc ya yb yc za zb)]) else none
 | _=>none
theorem k20:Known Tryz.prog 20:=⟨Tryz.f20,Tryz.func20,by kernel_rfl,by kernel_rfl⟩
theorem meets20:Meets Tryz.prog 20 m20:=by
 refine mt (lvl:=0) (cf:=c20) rfl mixed k20 Tryz.func20 (by kernel_rfl) noLoop (allT_cons meets51 (allT_cons meets68 (allT_cons meets69 (allT_cons meets70 (allT_cons meets71 allT_nil))))) (allM_cons meets72 allM_nil) noI fun xs r h=>?_
 unfold m20 at h
 split at h
 ·rename_i g0 xa g1 xb g2 xc g3 ya g4 yb g5 yc za zb
  obtain ⟨hg,h⟩:=bif_pair h
  simp only [Bool.and_eq_true] at hg
  obtain ⟨⟨⟨⟨⟨q0,q1⟩,q2⟩,q3⟩,q4⟩,q5⟩:=hg
  obtain rfl:=cE q0
  obtain rfl:=cE q1
  obtain rfl:=cE q2
  obtain rfl:=cE q3
  obtain rfl:=cE q4
  obtain rfl:=cE q5
  obtain ⟨h1,rfl⟩:=pair_inj h
  exact r20 xa xb xc ya yb yc za zb h1
 ·cases h
def G73_0 {β:Type} (t0:List AV) (t1:List AV) (t5:Int) (N:(Int)→β) (K:(Unit ⊕ Unit)→β) (d:β):β:=(bif decide (t5<(t0.length:Int)) then (bif (decide (0≤t5) && decide (t5<(t0.length:Int))) then (bif (decide (0≤t5) && decide (t5<(t1.length:Int))) then (bif !decide (fI (t0.getD t5.toNat .undef) 0=fI (t1.getD t5.toNat .undef) 0) then K (.inr ())
 else N (IntKind.i64.wrap (t5+1)))
 else d)
 else d)
 else K (.inl ()))
def F73_0 (t0 t1:List AV) (t5:Int):Out (Int) (Unit ⊕ Unit):=G73_0 t0 t1 t5 .next .stop .fail
def R73_0 (t0 t1:List AV):(Int)→Out (Int) (Unit ⊕ Unit):=fun s:Int=>F73_0 t0 t1 s
def E73_0 (t0 t1:List AV):(Int)→St:=fun s:Int=>⟨[(0,AV.sl [.int .i64] t0),(1,AV.sl [.int .i64] t1),(5,Ai s)],[]⟩
def K73_0 (t0 t1:List AV) (k:Kont):(Unit ⊕ Unit)→Option AV:=sumE (fun _:Unit=>k (.exit 0) ⟨[],[]⟩) (fun _:Unit=>k .ret ⟨[(4,AV.bool false)],[]⟩)
def l73_0:LModel:=fun _ _ st k=>match st with
 | ⟨[(0,.sl g0 t0),(1,.sl g1 t1),(5,.int .i64 t5)],[]⟩=>bif ctsEq g0 ([.int .i64]) && ctsEq g1 ([.int .i64]) then ro (runW (R73_0 t0 t1) (((t0.length:Int) - t5:Int).toNat+1) t5) none (K73_0 t0 t1 k) else none
 | _=>none
noncomputable def c73:Cfg:=cfg Tryz.prog [(73,0,[0,1,5]),(73,999,[4]),(73,1000,[]),(73,1001,[0,1,5])] [] [] [] [(73,0,l73_0)]
theorem s73_0 (t0 t1:List AV) (ce:CallE) (k:Kont) (s:Int) (next:St→Option AV):stepA (codeA c73 ce [] 73 0 (sub [1,1,0,1,0,0] (body Tryz.f73))) (normA [] [0,1,5]) next ((E73_0 t0 t1) s) k=G73_0 t0 t1 s (fun s=>next ((E73_0 t0 t1) s)) (K73_0 t0 t1 k) none:=by kernel_rfl
theorem st73_0 (t0 t1:List AV) (ce:CallE) (k:Kont) (s:Int) (next:St→Option AV):stepA (codeA c73 ce [] 73 0 (sub [1,1,0,1,0,0] (body Tryz.f73))) (normA [] [0,1,5]) next ((E73_0 t0 t1) s) k=(R73_0 t0 t1 s).el none (fun s=>next ((E73_0 t0 t1) s)) (K73_0 t0 t1 k):=(s73_0 t0 t1 ce k s next).trans (by unfold R73_0;unfold F73_0 G73_0;simp only [el_cond,el_ro,el_sum,el_fail,el_next,el_stop] <;> rfl)
theorem ok73_0 {ce:CallE}:LoopOK c73 ce [] 73 0 (sub [1,1,0,1,0,0] (body Tryz.f73)):=by
 intro m hm st k r h
 obtain rfl:l73_0=m:=Option.some.inj hm
 unfold l73_0 at h
 split at h
 ·rename_i g0 t0 g1 t1 t5
  obtain ⟨hg,h⟩:=bif_some h
  simp only [Bool.and_eq_true] at hg
  obtain ⟨q0,q1⟩:=hg
  obtain rfl:=cE q0
  obtain rfl:=cE q1
  refine ⟨(((t0.length:Int) - t5:Int).toNat+1),?_⟩
  rw [← h]
  exact loop_run (E73_0 t0 t1) (K73_0 t0 t1 k) (st73_0 t0 t1 ce k) _ t5
 ·cases h
def q73 (a0 a1:List AV):Bool:=(bif !decide ((a0.length:Int)=(a1.length:Int)) then true else (ro (runW (R73_0 a0 a1) (((a0.length:Int) - 0:Int).toNat+1) 0) false (sumE (fun _=>true) (fun _=>true))))
def v73_0 (a0 a1:List AV):Bool:=(bif !decide ((a0.length:Int)=(a1.length:Int)) then false else (ro (runW (R73_0 a0 a1) (((a0.length:Int) - 0:Int).toNat+1) 0) false (sumE (fun _=>true) (fun _=>false))))
theorem e73 (a0 a1:List AV):funA c73 0 73 [AV.sl [.int .i64] a0,AV.sl [.int .i64] a1]=(bif !decide ((a0.length:Int)=(a1.length:Int)) then some (AV.bool false)
 else (ro (runW (R73_0 a0 a1) (((a0.length:Int) - 0:Int).toNat+1) 0) none (sumE (fun _=>some (AV.bool true)) (fun _=>some (AV.bool false))))):=by kernel_rfl
def m73:TModel
 | [.sl g0 a0,.sl g1 a1]=>bif ctsEq g0 ([.int .i64]) && ctsEq g1 ([.int .i64]) then some (q73 a0 a1,AV.bool (v73_0 a0 a1)) else none
 | _=>none
theorem k73:Known Tryz.prog 73:=⟨Tryz.f73,Tryz.func73,by kernel_rfl,by kernel_rfl⟩
theorem meets73:Meets Tryz.prog 73 m73:=by
 refine mt (lvl:=0) (cf:=c73) rfl mixed k73 Tryz.func73 (by kernel_rfl) (loops_cons ok73_0 noLoop) allT_nil allM_nil noI fun xs r h=>?_
 unfold m73 at h
 split at h
 ·rename_i g0 a0 g1 a1
  obtain ⟨hg,h⟩:=bif_pair h
  simp only [Bool.and_eq_true] at hg
  obtain ⟨q0,q1⟩:=hg
  obtain rfl:=cE q0
  obtain rfl:=cE q1
  obtain ⟨h1,rfl⟩:=pair_inj h
  exact (e73 a0 a1).trans ((br (fun b=>some (AV.bool (bif b then false else (ro (runW (R73_0 a0 a1) (((a0.length:Int) - 0:Int).toNat+1) 0) false (sumE (fun _=>true) (fun _=>false)))))) (fun _=>rfl) (brO (fun o:Option (Unit ⊕ Unit)=>some (AV.bool (ro o false (sumE (fun _=>true) (fun _=>false))))) (brS (fun o:Unit ⊕ Unit=>some (AV.bool ((sumE (fun _=>true) (fun _=>false)) o))) (fun _=>(fun _=>rfl)) (fun _=>(fun _=>rfl))))) h1)
 ·cases h
def G74_0 {β:Type} (t0:List AV) (t1:List AV) (t5:Int) (N:(Int)→β) (K:(Unit ⊕ Unit)→β) (d:β):β:=(bif decide (t5<(t0.length:Int)) then (bif (decide (0≤t5) && decide (t5<(t0.length:Int))) then (bif (decide (0≤t5) && decide (t5<(t1.length:Int))) then (bif !(bif decide (fI (t0.getD t5.toNat .undef) 0=fI (t1.getD t5.toNat .undef) 0) then (bif decide (fI (t0.getD t5.toNat .undef) 1=fI (t1.getD t5.toNat .undef) 1) then true else false) else false) then K (.inr ())
 else N (IntKind.i64.wrap (t5+1)))
 else d)
 else d)
 else K (.inl ()))
def F74_0 (t0 t1:List AV) (t5:Int):Out (Int) (Unit ⊕ Unit):=G74_0 t0 t1 t5 .next .stop .fail
def R74_0 (t0 t1:List AV):(Int)→Out (Int) (Unit ⊕ Unit):=fun s:Int=>F74_0 t0 t1 s
def E74_0 (t0 t1:List AV):(Int)→St:=fun s:Int=>⟨[(0,AV.sl [.int .i64,.int .i64] t0),(1,AV.sl [.int .i64,.int .i64] t1),(5,Ai s)],[]⟩
def K74_0 (t0 t1:List AV) (k:Kont):(Unit ⊕ Unit)→Option AV:=sumE (fun _:Unit=>k (.exit 0) ⟨[],[]⟩) (fun _:Unit=>k .ret ⟨[(4,AV.bool false)],[]⟩)
def l74_0:LModel:=fun _ _ st k=>match st with
 | ⟨[(0,.sl g0 t0),(1,.sl g1 t1),(5,.int .i64 t5)],[]⟩=>bif ctsEq g0 ([.int .i64,.int .i64]) && ctsEq g1 ([.int .i64,.int .i64]) then ro (runW (R74_0 t0 t1) (((t0.length:Int) - t5:Int).toNat+1) t5) none (K74_0 t0 t1 k) else none
 | _=>none
noncomputable def c74:Cfg:=cfg Tryz.prog [(74,0,[0,1,5]),(74,999,[4]),(74,1000,[]),(74,1001,[0,1,5])] [] [] [] [(74,0,l74_0)]
theorem s74_0 (t0 t1:List AV) (ce:CallE) (k:Kont) (s:Int) (next:St→Option AV):stepA (codeA c74 ce [] 74 0 (sub [1,1,0,1,0,0] (body Tryz.f74))) (normA [] [0,1,5]) next ((E74_0 t0 t1) s) k=G74_0 t0 t1 s (fun s=>next ((E74_0 t0 t1) s)) (K74_0 t0 t1 k) none:=by kernel_rfl
theorem st74_0 (t0 t1:List AV) (ce:CallE) (k:Kont) (s:Int) (next:St→Option AV):stepA (codeA c74 ce [] 74 0 (sub [1,1,0,1,0,0] (body Tryz.f74))) (normA [] [0,1,5]) next ((E74_0 t0 t1) s) k=(R74_0 t0 t1 s).el none (fun s=>next ((E74_0 t0 t1) s)) (K74_0 t0 t1 k):=(s74_0 t0 t1 ce k s next).trans (by unfold R74_0;unfold F74_0 G74_0;simp only [el_cond,el_ro,el_sum,el_fail,el_next,el_stop] <;> rfl)
theorem ok74_0 {ce:CallE}:LoopOK c74 ce [] 74 0 (sub [1,1,0,1,0,0] (body Tryz.f74)):=by
 intro m hm st k r h
 obtain rfl:l74_0=m:=Option.some.inj hm
 unfold l74_0 at h
 split at h
 ·rename_i g0 t0 g1 t1 t5
  obtain ⟨hg,h⟩:=bif_some h
  simp only [Bool.and_eq_true] at hg
  obtain ⟨q0,q1⟩:=hg
  obtain rfl:=cE q0
  obtain rfl:=cE q1
  refine ⟨(((t0.length:Int) - t5:Int).toNat+1),?_⟩
  rw [← h]
  exact loop_run (E74_0 t0 t1) (K74_0 t0 t1 k) (st74_0 t0 t1 ce k) _ t5
 ·cases h
def q74 (a0 a1:List AV):Bool:=(bif !decide ((a0.length:Int)=(a1.length:Int)) then true else (ro (runW (R74_0 a0 a1) (((a0.length:Int) - 0:Int).toNat+1) 0) false (sumE (fun _=>true) (fun _=>true))))
def v74_0 (a0 a1:List AV):Bool:=(bif !decide ((a0.length:Int)=(a1.length:Int)) then false else (ro (runW (R74_0 a0 a1) (((a0.length:Int) - 0:Int).toNat+1) 0) false (sumE (fun _=>true) (fun _=>false))))
theorem e74 (a0 a1:List AV):funA c74 0 74 [AV.sl [.int .i64,.int .i64] a0,AV.sl [.int .i64,.int .i64] a1]=(bif !decide ((a0.length:Int)=(a1.length:Int)) then some (AV.bool false)
 else (ro (runW (R74_0 a0 a1) (((a0.length:Int) - 0:Int).toNat+1) 0) none (sumE (fun _=>some (AV.bool true)) (fun _=>some (AV.bool false))))):=by kernel_rfl
def m74:TModel
 | [.sl g0 a0,.sl g1 a1]=>bif ctsEq g0 ([.int .i64,.int .i64]) && ctsEq g1 ([.int .i64,.int .i64]) then some (q74 a0 a1,AV.bool (v74_0 a0 a1)) else none
 | _=>none
theorem k74:Known Tryz.prog 74:=⟨Tryz.f74,Tryz.func74,by kernel_rfl,by kernel_rfl⟩
theorem meets74:Meets Tryz.prog 74 m74:=by
 refine mt (lvl:=0) (cf:=c74) rfl mixed k74 Tryz.func74 (by kernel_rfl) (loops_cons ok74_0 noLoop) allT_nil allM_nil noI fun xs r h=>?_
 unfold m74 at h
 split at h
 ·rename_i g0 a0 g1 a1
  obtain ⟨hg,h⟩:=bif_pair h
  simp only [Bool.and_eq_true] at hg
  obtain ⟨q0,q1⟩:=hg
  obtain rfl:=cE q0
  obtain rfl:=cE q1
  obtain ⟨h1,rfl⟩:=pair_inj h
  exact (e74 a0 a1).trans ((br (fun b=>some (AV.bool (bif b then false else (ro (runW (R74_0 a0 a1) (((a0.length:Int) - 0:Int).toNat+1) 0) false (sumE (fun _=>true) (fun _=>false)))))) (fun _=>rfl) (brO (fun o:Option (Unit ⊕ Unit)=>some (AV.bool (ro o false (sumE (fun _=>true) (fun _=>false))))) (brS (fun o:Unit ⊕ Unit=>some (AV.bool ((sumE (fun _=>true) (fun _=>false)) o))) (fun _=>(fun _=>rfl)) (fun _=>(fun _=>rfl))))) h1)
 ·cases h
noncomputable def c21:Cfg:=cfg Tryz.prog [(21,999,[4])] [(73,m73),(74,m74)] [] [] []
def q21 (xa xb xc ya yb yc:List AV):Bool:=(q73 xa ya && (bif (v73_0 xa ya) then (q73 xb yb && (bif (v73_0 xb yb) then q74 xc yc else true)) else true))
def v21_0 (xa xb xc ya yb yc:List AV):Bool:=(bif (v73_0 xa ya) then (bif (v73_0 xb yb) then (v74_0 xc yc) else false) else false)
theorem e21 (xa xb xc ya yb yc:List AV):funA c21 0 21 [AV.agg [AV.sl [.int .i64] xa,AV.sl [.int .i64] xb,AV.sl [.int .i64,.int .i64] xc],AV.agg [AV.sl [.int .i64] ya,AV.sl [.int .i64] yb,AV.sl [.int .i64,.int .i64] yc]]=(bif q73 xa ya then (bif (v73_0 xa ya) then (bif q73 xb yb then (bif (v73_0 xb yb) then (bif q74 xc yc then some (AV.bool (v74_0 xc yc))
 else none)
 else some (AV.bool false))
 else none)
 else some (AV.bool false))
 else none):=by kernel_rfl
def m21:TModel
 | [.agg [.sl g0 xa,.sl g1 xb,.sl g2 xc],.agg [.sl g3 ya,.sl g4 yb,.sl g5 yc]]=>bif ctsEq g0 ([.int .i64]) && ctsEq g1 ([.int .i64]) && ctsEq g2 ([.int .i64,.int .i64]) && ctsEq g3 ([.int .i64]) && ctsEq g4 ([.int .i64]) && ctsEq g5 ([.int .i64,.int .i64]) then some (q21 xa xb xc ya yb yc,AV.bool (v21_0 xa xb xc ya yb yc)) else none
 | _=>none
theorem k21:Known Tryz.prog 21:=⟨Tryz.f21,Tryz.func21,by kernel_rfl,by kernel_rfl⟩
theorem meets21:Meets Tryz.prog 21 m21:=by
 refine mt (lvl:=0) (cf:=c21) rfl mixed k21 Tryz.func21 (by kernel_rfl) noLoop (allT_cons meets73 (allT_cons meets74 allT_nil)) allM_nil noI fun xs r h=>?_
 unfold m21 at h
 split at h
 ·rename_i g0 xa g1 xb g2 xc g3 ya g4 yb g5 yc
  obtain ⟨hg,h⟩:=bif_pair h
  simp only [Bool.and_eq_true] at hg
  obtain ⟨⟨⟨⟨⟨q0,q1⟩,q2⟩,q3⟩,q4⟩,q5⟩:=hg
  obtain rfl:=cE q0
  obtain rfl:=cE q1
  obtain rfl:=cE q2
  obtain rfl:=cE q3
  obtain rfl:=cE q4
  obtain rfl:=cE q5
  obtain ⟨h1,rfl⟩:=pair_inj h
  exact (e21 xa xb xc ya yb yc).trans ((brL (br (fun b=>some (AV.bool (bif b then (bif (v73_0 xb yb) then (v74_0 xc yc) else false) else false))) (brL (br (fun b=>some (AV.bool (bif b then (v74_0 xc yc) else false))) (brL1 (fun _=>rfl)) (fun _=>rfl))) (fun _=>rfl))) h1)
 ·cases h
noncomputable def c86:Cfg:=cfg Tryz.prog [(86,999,[4])] [(45,m45)] [] [] []
def v86_0 (xa xb a1:Int):Bool:=(bif (v45_0 xa xb) then (bif decide (xa≤a1) then decide (a1<xb) else false) else false)
theorem e86 (xa xb a1:Int):funA c86 0 86 [AV.agg [Ai xa,Ai xb],Ai a1]=(bif (v45_0 xa xb) then (bif decide (xa≤a1) then some (AV.bool (decide (a1<xb)))
 else some (AV.bool false))
 else some (AV.bool false)):=by kernel_rfl
def m86:TModel
 | [.agg [.int .i64 xa,.int .i64 xb],.int .i64 a1]=>some (true,AV.bool (v86_0 xa xb a1))
 | _=>none
theorem k86:Known Tryz.prog 86:=⟨Tryz.f86,Tryz.func86,by kernel_rfl,by kernel_rfl⟩
theorem meets86:Meets Tryz.prog 86 m86:=by
 refine mt (lvl:=0) (cf:=c86) rfl mixed k86 Tryz.func86 (by kernel_rfl) noLoop (allT_cons meets45 allT_nil) allM_nil noI fun xs r h=>?_
 unfold m86 at h
 split at h
 ·rename_i xa xb a1
  obtain ⟨h1,rfl⟩:=pair_inj h
  exact (e86 xa xb a1).trans (of_tt (brT (fun b=>some (AV.bool (bif b then (bif decide (xa≤a1) then decide (a1<xb) else false) else false))) (brT (fun b=>some (AV.bool (bif b then decide (a1<xb) else false))) (fun _=>rfl) (fun _=>rfl)) (fun _=>rfl)))
 ·cases h
noncomputable def c121:Cfg:=cfg Tryz.prog [(121,999,[3])] [(86,m86)] [] [] []
def v121_0 (xa xb:Int) (a1:AV):Bool := !(v86_0 (fI a1 0) (fI a1 1) xa)
theorem e121 (xa xb:Int) (a1:AV):funA c121 0 121 [AV.agg [Ai xa,Ai xb],AV.rptr [.int .i64,.int .i64] a1 0]=some (AV.bool (!(v86_0 (fI a1 0) (fI a1 1) xa))):=by kernel_rfl
def m121:TModel
 | [.agg [.int .i64 xa,.int .i64 xb],.rptr g0 a1 g1]=>bif ctsEq g0 ([.int .i64,.int .i64]) && Nat.beq g1 0 then some (true,AV.bool (v121_0 xa xb a1)) else none
 | _=>none
theorem k121:Known Tryz.prog 121:=⟨Tryz.f121,Tryz.func121,by kernel_rfl,by kernel_rfl⟩
theorem meets121:Meets Tryz.prog 121 m121:=by
 refine mt (lvl:=0) (cf:=c121) rfl mixed k121 Tryz.func121 (by kernel_rfl) noLoop (allT_cons meets86 allT_nil) allM_nil noI fun xs r h=>?_
 unfold m121 at h
 split at h
 ·rename_i xa xb g0 a1 g1
  obtain ⟨hg,h⟩:=bif_pair h
  simp only [Bool.and_eq_true] at hg
  obtain ⟨q0,q1⟩:=hg
  obtain rfl:=cE q0
  obtain rfl:=bE q1
  obtain ⟨h1,rfl⟩:=pair_inj h
  exact (e121 xa xb a1).trans (of_tt (fun _=>rfl))
 ·cases h
def G154_0 {β:Type} (t0:List AV) (t1:AV) (t7:Int) (t8:Int) (N:(Int)→β) (K:(Unit ⊕ Int)→β) (d:β):β:=(bif decide (t8<t7) then (bif (decide (0≤t8) && decide (t8<(t0.length:Int))) then (bif (v121_0 (fI (t0.getD t8.toNat .undef) 0) (fI (t0.getD t8.toNat .undef) 1) t1) then K (.inr t8)
 else N (IntKind.i64.wrap (t8+1)))
 else d)
 else K (.inl ()))
def F154_0 (t0:List AV) (t1:AV) (t7 t8:Int):Out (Int) (Unit ⊕ Int):=G154_0 t0 t1 t7 t8 .next .stop .fail
def R154_0 (t0:List AV) (t1:AV) (t7:Int):(Int)→Out (Int) (Unit ⊕ Int):=fun s:Int=>F154_0 t0 t1 t7 s
def E154_0 (t0:List AV) (t1:AV) (t7:Int):(Int)→St:=fun s:Int=>⟨[(0,AV.sl [.int .i64,.int .i64] t0),(1,AV.fn 121 [AV.rptr [.int .i64,.int .i64] t1 0]),(7,Ai t7),(8,Ai s)],[]⟩
def K154_0 (t0:List AV) (t1:AV) (t7:Int) (k:Kont):(Unit ⊕ Int)→Option AV:=sumE (fun _:Unit=>k (.exit 0) ⟨[],[]⟩) (fun p:Int=>k .ret ⟨[(4,Ai p)],[]⟩)
def l154_0:LModel:=fun _ _ st k=>match st with
 | ⟨[(0,.sl g0 t0),(1,.fn g1 [.rptr g2 t1 g3]),(7,.int .i64 t7),(8,.int .i64 t8)],[]⟩=>bif ctsEq g0 ([.int .i64,.int .i64]) && Nat.beq g1 121 && ctsEq g2 ([.int .i64,.int .i64]) && Nat.beq g3 0 then ro (runW (R154_0 t0 t1 t7) ((t7 - t8:Int).toNat+1) t8) none (K154_0 t0 t1 t7 k) else none
 | _=>none
noncomputable def c154:Cfg:=cfg Tryz.prog [(154,0,[0,1,7,8]),(154,999,[4]),(154,1000,[]),(154,1001,[0,1,7,8])] [(121,m121)] [] [] [(154,0,l154_0)]
theorem s154_0 (t0:List AV) (t1:AV) (t7:Int) (ce:CallE) (k:Kont) (s:Int) (next:St→Option AV):stepA (codeA c154 ce [] 154 0 (sub [1,0,1,0,0] (body Tryz.f154))) (normA [] [0,1,7,8]) next ((E154_0 t0 t1 t7) s) k=G154_0 t0 t1 t7 s (fun s=>next ((E154_0 t0 t1 t7) s)) (K154_0 t0 t1 t7 k) none:=by kernel_rfl
theorem st154_0 (t0:List AV) (t1:AV) (t7:Int) (ce:CallE) (k:Kont) (s:Int) (next:St→Option AV):stepA (codeA c154 ce [] 154 0 (sub [1,0,1,0,0] (body Tryz.f154))) (normA [] [0,1,7,8]) next ((E154_0 t0 t1 t7) s) k=(R154_0 t0 t1 t7 s).el none (fun s=>next ((E154_0 t0 t1 t7) s)) (K154_0 t0 t1 t7 k):=(s154_0 t0 t1 t7 ce k s next).trans (by unfold R154_0;unfold F154_0 G154_0;simp only [el_cond,el_ro,el_sum,el_fail,el_next,el_stop] <;> rfl)
theorem ok154_0 {ce:CallE}:LoopOK c154 ce [] 154 0 (sub [1,0,1,0,0] (body Tryz.f154)):=by
 intro m hm st k r h
 obtain rfl:l154_0=m:=Option.some.inj hm
 unfold l154_0 at h
 split at h
 ·rename_i g0 t0 g1 g2 t1 g3 t7 t8
  obtain ⟨hg,h⟩:=bif_some h
  simp only [Bool.and_eq_true] at hg
  obtain ⟨⟨⟨q0,q1⟩,q2⟩,q3⟩:=hg
  obtain rfl:=cE q0
  obtain rfl:=bE q1
  obtain rfl:=cE q2
  obtain rfl:=bE q3
  refine ⟨((t7 - t8:Int).toNat+1),?_⟩
  rw [← h]
  exact loop_run (E154_0 t0 t1 t7) (K154_0 t0 t1 t7 k) (st154_0 t0 t1 t7 ce k) _ t8
 ·cases h
def q154 (a0:List AV) (a1:AV):Bool:=(ro (runW (R154_0 a0 a1 (a0.length:Int)) (((a0.length:Int) - 0:Int).toNat+1) 0) false (sumE (fun _=>true) (fun p64=>true)))
def v154_0 (a0:List AV) (a1:AV):Int:=(ro (runW (R154_0 a0 a1 (a0.length:Int)) (((a0.length:Int) - 0:Int).toNat+1) 0) 0 (sumE (fun _=>(-1)) (fun p64=>p64)))
theorem e154 (a0:List AV) (a1:AV):funA c154 0 154 [AV.sl [.int .i64,.int .i64] a0,AV.fn 121 [AV.rptr [.int .i64,.int .i64] a1 0]]=(ro (runW (R154_0 a0 a1 (a0.length:Int)) (((a0.length:Int) - 0:Int).toNat+1) 0) none (sumE (fun _=>some (Ai (-1))) (fun p64=>some (Ai p64)))):=by kernel_rfl
def m154:TModel
 | [.sl g0 a0,.fn g1 [.rptr g2 a1 g3]]=>bif ctsEq g0 ([.int .i64,.int .i64]) && Nat.beq g1 121 && ctsEq g2 ([.int .i64,.int .i64]) && Nat.beq g3 0 then some (q154 a0 a1,AV.int .i64 (v154_0 a0 a1)) else none
 | _=>none
theorem k154:Known Tryz.prog 154:=⟨Tryz.f154,Tryz.func154,by kernel_rfl,by kernel_rfl⟩
theorem meets154:Meets Tryz.prog 154 m154:=by
 refine mt (lvl:=0) (cf:=c154) rfl mixed k154 Tryz.func154 (by kernel_rfl) (loops_cons ok154_0 noLoop) (allT_cons meets121 allT_nil) allM_nil noI fun xs r h=>?_
 unfold m154 at h
 split at h
 ·rename_i g0 a0 g1 g2 a1 g3
  obtain ⟨hg,h⟩:=bif_pair h
  simp only [Bool.and_eq_true] at hg
  obtain ⟨⟨⟨q0,q1⟩,q2⟩,q3⟩:=hg
  obtain rfl:=cE q0
  obtain rfl:=bE q1
  obtain rfl:=cE q2
  obtain rfl:=bE q3
  obtain ⟨h1,rfl⟩:=pair_inj h
  exact (e154 a0 a1).trans ((brO (fun o:Option (Unit ⊕ Int)=>some (Ai (ro o 0 (sumE (fun _=>(-1)) (fun p64=>p64))))) (brS (fun o:Unit ⊕ Int=>some (Ai ((sumE (fun _=>(-1)) (fun p64=>p64)) o))) (fun _=>(fun _=>rfl)) (fun p64=>(fun _=>rfl)))) h1)
 ·cases h
end
end Go.Proofs.YtbmfgibbjchijaaGreat
