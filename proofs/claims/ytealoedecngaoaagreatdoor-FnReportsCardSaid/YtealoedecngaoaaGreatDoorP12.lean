import Derived.Test.YtealoedecngaoaaGreatDoorP11
import Derived.Test.YtealoedecngaoaaGreatDoorProg
import Derived.KernelRfl
namespace Go.Proofs.YtealoedecngaoaaGreatDoor
open Go Go.Proofs.VE
set_option linter.unusedVariables false
set_option linter.unusedSimpArgs false
set_option maxRecDepth 100000
set_option maxHeartbeats 4000000
noncomputable section
def G181_0_s0 {β:Type} (t0:List AV) (t1:List AV) (h0:List AV) (h1:List AV) (h2:List AV) (t7:Int) (h3:Int) (h4:Int) (N:((Int × Int × Int) ⊕ (Int × (List AV) × Int × Int))→β) (K:((Int × Int) ⊕ ((List AV) × Int × Int))→β) (d:β):β:=(bif decide (t7<(t1.length:Int)) then (bif decide (t7≤3) then (bif (decide (0≤t7) && decide (t7<(t1.length:Int))) then (bif (decide ((([]:List AV).length+(fL (t1.getD t7.toNat .undef) 0).length)*8≤140737488355328) && decide ((([]:List AV).length+(fL (t1.getD t7.toNat .undef) 0).length)≤140737488355328)) then (bif (decide ((([AV.agg [AV.sl [.int .i64] (([]:List AV)++(fL (t1.getD t7.toNat .undef) 0)),AV.int .i64 0,AV.bool false,AV.int .i64 0,AV.int .i64 0,AV.int .i64 0,AV.int .i64 0,AV.int .i64 0,AV.int .i64 0]]).length)*88≤140737488355328) && decide ((([AV.agg [AV.sl [.int .i64] (([]:List AV)++(fL (t1.getD t7.toNat .undef) 0)),AV.int .i64 0,AV.bool false,AV.int .i64 0,AV.int .i64 0,AV.int .i64 0,AV.int .i64 0,AV.int .i64 0,AV.int .i64 0]]).length)≤140737488355328)) then N (.inr (IntKind.i64.wrap (t7+1),[AV.agg [AV.sl [.int .i64] (([]:List AV)++(fL (t1.getD t7.toNat .undef) 0)),AV.int .i64 0,AV.bool false,AV.int .i64 0,AV.int .i64 0,AV.int .i64 0,AV.int .i64 0,AV.int .i64 0,AV.int .i64 0]],h3,h4))
 else d)
 else d)
 else d)
 else K (.inl (h3,h4)))
 else K (.inl (h3,h4)))
def F181_0_s0 (t0 t1 h0 h1 h2:List AV) (t7 h3 h4:Int):Out ((Int × Int × Int) ⊕ (Int × (List AV) × Int × Int)) ((Int × Int) ⊕ ((List AV) × Int × Int)):=G181_0_s0 t0 t1 h0 h1 h2 t7 h3 h4 .next .stop .fail
def G181_0_s1 {β:Type} (t0:List AV) (t1:List AV) (h0:List AV) (h1:List AV) (h2:List AV) (t7:Int) (h3:List AV) (h4:Int) (h5:Int) (N:((Int × Int × Int) ⊕ (Int × (List AV) × Int × Int))→β) (K:((Int × Int) ⊕ ((List AV) × Int × Int))→β) (d:β):β:=(bif decide (t7<(t1.length:Int)) then (bif decide (t7≤3) then (bif (decide (0≤t7) && decide (t7<(t1.length:Int))) then (bif (decide ((([]:List AV).length+(fL (t1.getD t7.toNat .undef) 0).length)*8≤140737488355328) && decide ((([]:List AV).length+(fL (t1.getD t7.toNat .undef) 0).length)≤140737488355328)) then (bif (decide ((h3.length+([AV.agg [AV.sl [.int .i64] (([]:List AV)++(fL (t1.getD t7.toNat .undef) 0)),AV.int .i64 0,AV.bool false,AV.int .i64 0,AV.int .i64 0,AV.int .i64 0,AV.int .i64 0,AV.int .i64 0,AV.int .i64 0]]).length)*88≤140737488355328) && decide ((h3.length+([AV.agg [AV.sl [.int .i64] (([]:List AV)++(fL (t1.getD t7.toNat .undef) 0)),AV.int .i64 0,AV.bool false,AV.int .i64 0,AV.int .i64 0,AV.int .i64 0,AV.int .i64 0,AV.int .i64 0,AV.int .i64 0]]).length)≤140737488355328)) then N (.inr (IntKind.i64.wrap (t7+1),h3++([AV.agg [AV.sl [.int .i64] (([]:List AV)++(fL (t1.getD t7.toNat .undef) 0)),AV.int .i64 0,AV.bool false,AV.int .i64 0,AV.int .i64 0,AV.int .i64 0,AV.int .i64 0,AV.int .i64 0,AV.int .i64 0]]),h4,h5))
 else d)
 else d)
 else d)
 else K (.inr (h3,h4,h5)))
 else K (.inr (h3,h4,h5)))
def F181_0_s1 (t0 t1 h0 h1 h2:List AV) (t7:Int) (h3:List AV) (h4 h5:Int):Out ((Int × Int × Int) ⊕ (Int × (List AV) × Int × Int)) ((Int × Int) ⊕ ((List AV) × Int × Int)):=G181_0_s1 t0 t1 h0 h1 h2 t7 h3 h4 h5 .next .stop .fail
def R181_0 (t0 t1 h0 h1 h2:List AV):((Int × Int × Int) ⊕ (Int × (List AV) × Int × Int))→Out ((Int × Int × Int) ⊕ (Int × (List AV) × Int × Int)) ((Int × Int) ⊕ ((List AV) × Int × Int)):=sumE (fun s:Int × Int × Int=>F181_0_s0 t0 t1 h0 h1 h2 s.1 s.2.1 s.2.2) (fun s:Int × (List AV) × Int × Int=>F181_0_s1 t0 t1 h0 h1 h2 s.1 s.2.1 s.2.2.1 s.2.2.2)
def E181_0 (t0 t1 h0 h1 h2:List AV):((Int × Int × Int) ⊕ (Int × (List AV) × Int × Int))→St:=sumE (fun s:Int × Int × Int=>⟨[(0,AV.sl [.int .i64] t0),(1,AV.sl [.sl [.int .i64]] t1),(4,AV.ptr [0,4] 0 0),(6,AV.ptr [0,6] 0 0),(7,Ai s.1)],[([0,0,6],⟨false,[.int .i64],h0⟩),([0,1,6],⟨false,[.int .i64],h1⟩),([0,2,6],⟨false,[.int .i64,.int .i64],h2⟩),([0,4],⟨true,[],[AV.agg [AV.snil,AV.snil,AV.snil,AV.snil,Ai s.2.1]]⟩),([0,6],⟨true,[],[AV.agg [AV.own [0,0,6],AV.own [0,1,6],AV.own [0,2,6],AV.snil,Ai s.2.2]]⟩)]⟩) (fun s:Int × (List AV) × Int × Int=>⟨[(0,AV.sl [.int .i64] t0),(1,AV.sl [.sl [.int .i64]] t1),(4,AV.ptr [0,4] 0 0),(6,AV.ptr [0,6] 0 0),(7,Ai s.1)],[([0,0,6],⟨false,[.int .i64],h0⟩),([0,1,6],⟨false,[.int .i64],h1⟩),([0,2,6],⟨false,[.int .i64,.int .i64],h2⟩),([0,3,6],⟨false,[.sl [.int .i64],.int .i64,.bool,.int .i64,.int .i64,.int .i64,.int .i64,.int .i64,.int .i64],s.2.1⟩),([0,4],⟨true,[],[AV.agg [AV.snil,AV.snil,AV.snil,AV.snil,Ai s.2.2.1]]⟩),([0,6],⟨true,[],[AV.agg [AV.own [0,0,6],AV.own [0,1,6],AV.own [0,2,6],AV.own [0,3,6],Ai s.2.2.2]]⟩)]⟩)
def K181_0 (t0 t1 h0 h1 h2:List AV) (k:Kont):((Int × Int) ⊕ ((List AV) × Int × Int))→Option AV:=sumE (fun p:Int × Int=>k (.exit 0) ⟨[(0,AV.sl [.int .i64] t0),(1,AV.sl [.sl [.int .i64]] t1),(4,AV.ptr [0,4] 0 0),(6,AV.ptr [0,6] 0 0)],[([0,0,6],⟨false,[.int .i64],h0⟩),([0,1,6],⟨false,[.int .i64],h1⟩),([0,2,6],⟨false,[.int .i64,.int .i64],h2⟩),([0,4],⟨true,[],[AV.agg [AV.snil,AV.snil,AV.snil,AV.snil,Ai p.1]]⟩),([0,6],⟨true,[],[AV.agg [AV.own [0,0,6],AV.own [0,1,6],AV.own [0,2,6],AV.snil,Ai p.2]]⟩)]⟩) (fun p:(List AV) × Int × Int=>k (.exit 0) ⟨[(0,AV.sl [.int .i64] t0),(1,AV.sl [.sl [.int .i64]] t1),(4,AV.ptr [0,4] 0 0),(6,AV.ptr [0,6] 0 0)],[([0,0,6],⟨false,[.int .i64],h0⟩),([0,1,6],⟨false,[.int .i64],h1⟩),([0,2,6],⟨false,[.int .i64,.int .i64],h2⟩),([0,3,6],⟨false,[.sl [.int .i64],.int .i64,.bool,.int .i64,.int .i64,.int .i64,.int .i64,.int .i64,.int .i64],p.1⟩),([0,4],⟨true,[],[AV.agg [AV.snil,AV.snil,AV.snil,AV.snil,Ai p.2.1]]⟩),([0,6],⟨true,[],[AV.agg [AV.own [0,0,6],AV.own [0,1,6],AV.own [0,2,6],AV.own [0,3,6],Ai p.2.2]]⟩)]⟩)
def l181_0:LModel:=fun _ _ st k=>match st with
 | ⟨[(0,.sl g0 t0),(1,.sl g1 t1),(4,.ptr g2 g3 g4),(6,.ptr g5 g6 g7),(7,.int .i64 t7)],[(g8,⟨false,g9,h0⟩),(g10,⟨false,g11,h1⟩),(g12,⟨false,g13,h2⟩),(g14,⟨true,[],[.agg [.snil,.snil,.snil,.snil,.int .i64 h3]]⟩),(g15,⟨true,[],[.agg [.own g16,.own g17,.own g18,.snil,.int .i64 h4]]⟩)]⟩=>bif ctsEq g0 ([.int .i64]) && ctsEq g1 ([.sl [.int .i64]]) && nmEq g2 ([0,4]) && Nat.beq g3 0 && Nat.beq g4 0 && nmEq g5 ([0,6]) && Nat.beq g6 0 && Nat.beq g7 0 && nmEq g8 ([0,0,6]) && ctsEq g9 ([.int .i64]) && nmEq g10 ([0,1,6]) && ctsEq g11 ([.int .i64]) && nmEq g12 ([0,2,6]) && ctsEq g13 ([.int .i64,.int .i64]) && nmEq g14 ([0,4]) && nmEq g15 ([0,6]) && nmEq g16 ([0,0,6]) && nmEq g17 ([0,1,6]) && nmEq g18 ([0,2,6]) then ro (runW (R181_0 t0 t1 h0 h1 h2) (((t1.length:Int) - t7:Int).toNat+1) (.inl (t7,h3,h4))) none (K181_0 t0 t1 h0 h1 h2 k) else none
 | ⟨[(0,.sl g0 t0),(1,.sl g1 t1),(4,.ptr g2 g3 g4),(6,.ptr g5 g6 g7),(7,.int .i64 t7)],[(g8,⟨false,g9,h0⟩),(g10,⟨false,g11,h1⟩),(g12,⟨false,g13,h2⟩),(g14,⟨false,g15,h3⟩),(g16,⟨true,[],[.agg [.snil,.snil,.snil,.snil,.int .i64 h4]]⟩),(g17,⟨true,[],[.agg [.own g18,.own g19,.own g20,.own g21,.int .i64 h5]]⟩)]⟩=>bif ctsEq g0 ([.int .i64]) && ctsEq g1 ([.sl [.int .i64]]) && nmEq g2 ([0,4]) && Nat.beq g3 0 && Nat.beq g4 0 && nmEq g5 ([0,6]) && Nat.beq g6 0 && Nat.beq g7 0 && nmEq g8 ([0,0,6]) && ctsEq g9 ([.int .i64]) && nmEq g10 ([0,1,6]) && ctsEq g11 ([.int .i64]) && nmEq g12 ([0,2,6]) && ctsEq g13 ([.int .i64,.int .i64]) && nmEq g14 ([0,3,6]) && ctsEq g15 ([.sl [.int .i64],.int .i64,.bool,.int .i64,.int .i64,.int .i64,.int .i64,.int .i64,.int .i64]) && nmEq g16 ([0,4]) && nmEq g17 ([0,6]) && nmEq g18 ([0,0,6]) && nmEq g19 ([0,1,6]) && nmEq g20 ([0,2,6]) && nmEq g21 ([0,3,6]) then ro (runW (R181_0 t0 t1 h0 h1 h2) (((t1.length:Int) - t7:Int).toNat+1) (.inr (t7,h3,h4,h5))) none (K181_0 t0 t1 h0 h1 h2 k) else none
 | _=>none
noncomputable def c181:Cfg:=cfg Tryz.prog [(181,0,[0,1,4,6,7]),(181,999,[4,5]),(181,1000,[0,1,4,6]),(181,1001,[0,1,4,6,7])] [(13,m13),(99,m99),(100,m100)] [] [] [(181,0,l181_0)]
theorem s181_0_s0 (t0 t1 h0 h1 h2:List AV) (ce:CallE) (k:Kont) (s:Int × Int × Int) (next:St→Option AV):stepA (codeA c181 ce [] 181 0 (sub [1,1,0,1,0,0] (body Tryz.f181))) (normA [] [0,1,4,6,7]) next ((E181_0 t0 t1 h0 h1 h2) (.inl s)) k=G181_0_s0 t0 t1 h0 h1 h2 s.1 s.2.1 s.2.2 (fun s=>next ((E181_0 t0 t1 h0 h1 h2) s)) (K181_0 t0 t1 h0 h1 h2 k) none:=by kernel_rfl
theorem s181_0_s1 (t0 t1 h0 h1 h2:List AV) (ce:CallE) (k:Kont) (s:Int × (List AV) × Int × Int) (next:St→Option AV):stepA (codeA c181 ce [] 181 0 (sub [1,1,0,1,0,0] (body Tryz.f181))) (normA [] [0,1,4,6,7]) next ((E181_0 t0 t1 h0 h1 h2) (.inr s)) k=G181_0_s1 t0 t1 h0 h1 h2 s.1 s.2.1 s.2.2.1 s.2.2.2 (fun s=>next ((E181_0 t0 t1 h0 h1 h2) s)) (K181_0 t0 t1 h0 h1 h2 k) none:=by kernel_rfl
theorem st181_0 (t0 t1 h0 h1 h2:List AV) (ce:CallE) (k:Kont) (s:(Int × Int × Int) ⊕ (Int × (List AV) × Int × Int)) (next:St→Option AV):stepA (codeA c181 ce [] 181 0 (sub [1,1,0,1,0,0] (body Tryz.f181))) (normA [] [0,1,4,6,7]) next ((E181_0 t0 t1 h0 h1 h2) s) k=(R181_0 t0 t1 h0 h1 h2 s).el none (fun s=>next ((E181_0 t0 t1 h0 h1 h2) s)) (K181_0 t0 t1 h0 h1 h2 k):=(match s with | .inl s=>(s181_0_s0 t0 t1 h0 h1 h2 ce k s next).trans (by unfold R181_0;unfold F181_0_s0 G181_0_s0;simp only [el_cond,el_ro,el_sum,el_fail,el_next,el_stop] <;> rfl) | .inr s=>(s181_0_s1 t0 t1 h0 h1 h2 ce k s next).trans (by unfold R181_0;unfold F181_0_s1 G181_0_s1;simp only [el_cond,el_ro,el_sum,el_fail,el_next,el_stop] <;> rfl))
theorem ok181_0 {ce:CallE}:LoopOK c181 ce [] 181 0 (sub [1,1,0,1,0,0] (body Tryz.f181)):=by
 intro m hm st k r h
 obtain rfl:l181_0=m:=Option.some.inj hm
 unfold l181_0 at h
 split at h
 ·rename_i g0 t0 g1 t1 g2 g3 g4 g5 g6 g7 t7 g8 g9 h0 g10 g11 h1 g12 g13 h2 g14 h3 g15 g16 g17 g18 h4
  obtain ⟨hg,h⟩:=bif_some h
  simp only [Bool.and_eq_true] at hg
  obtain ⟨⟨⟨⟨⟨⟨⟨⟨⟨⟨⟨⟨⟨⟨⟨⟨⟨⟨q0,q1⟩,q2⟩,q3⟩,q4⟩,q5⟩,q6⟩,q7⟩,q8⟩,q9⟩,q10⟩,q11⟩,q12⟩,q13⟩,q14⟩,q15⟩,q16⟩,q17⟩,q18⟩:=hg
  obtain rfl:=cE q0
  obtain rfl:=cE q1
  obtain rfl:=nE q2
  obtain rfl:=bE q3
  obtain rfl:=bE q4
  obtain rfl:=nE q5
  obtain rfl:=bE q6
  obtain rfl:=bE q7
  obtain rfl:=nE q8
  obtain rfl:=cE q9
  obtain rfl:=nE q10
  obtain rfl:=cE q11
  obtain rfl:=nE q12
  obtain rfl:=cE q13
  obtain rfl:=nE q14
  obtain rfl:=nE q15
  obtain rfl:=nE q16
  obtain rfl:=nE q17
  obtain rfl:=nE q18
  refine ⟨(((t1.length:Int) - t7:Int).toNat+1),?_⟩
  rw [← h]
  exact loop_run (E181_0 t0 t1 h0 h1 h2) (K181_0 t0 t1 h0 h1 h2 k) (st181_0 t0 t1 h0 h1 h2 ce k) _ (.inl (t7,h3,h4))
 ·rename_i g0 t0 g1 t1 g2 g3 g4 g5 g6 g7 t7 g8 g9 h0 g10 g11 h1 g12 g13 h2 g14 g15 h3 g16 h4 g17 g18 g19 g20 g21 h5
  obtain ⟨hg,h⟩:=bif_some h
  simp only [Bool.and_eq_true] at hg
  obtain ⟨⟨⟨⟨⟨⟨⟨⟨⟨⟨⟨⟨⟨⟨⟨⟨⟨⟨⟨⟨⟨q0,q1⟩,q2⟩,q3⟩,q4⟩,q5⟩,q6⟩,q7⟩,q8⟩,q9⟩,q10⟩,q11⟩,q12⟩,q13⟩,q14⟩,q15⟩,q16⟩,q17⟩,q18⟩,q19⟩,q20⟩,q21⟩:=hg
  obtain rfl:=cE q0
  obtain rfl:=cE q1
  obtain rfl:=nE q2
  obtain rfl:=bE q3
  obtain rfl:=bE q4
  obtain rfl:=nE q5
  obtain rfl:=bE q6
  obtain rfl:=bE q7
  obtain rfl:=nE q8
  obtain rfl:=cE q9
  obtain rfl:=nE q10
  obtain rfl:=cE q11
  obtain rfl:=nE q12
  obtain rfl:=cE q13
  obtain rfl:=nE q14
  obtain rfl:=cE q15
  obtain rfl:=nE q16
  obtain rfl:=nE q17
  obtain rfl:=nE q18
  obtain rfl:=nE q19
  obtain rfl:=nE q20
  obtain rfl:=nE q21
  refine ⟨(((t1.length:Int) - t7:Int).toNat+1),?_⟩
  rw [← h]
  exact loop_run (E181_0 t0 t1 h0 h1 h2) (K181_0 t0 t1 h0 h1 h2 k) (st181_0 t0 t1 h0 h1 h2 ce k) _ (.inr (t7,h3,h4,h5))
 ·cases h
def q181 (a0 a1:List AV):Bool:=(q99 a0 && (ro (runW (R181_0 a0 a1 (v99_0 a0) (v99_1 a0) (v99_2 a0)) (((a1.length:Int) - 0:Int).toNat+1) (.inl (0,0,0))) false (sumE (fun p63=>(q100 a0 && (bif !(v100_0 a0) then true else (bif decide ((a1.length:Int) > 3) then true else q13 (v99_0 a0) (v99_1 a0) (v99_2 a0) ([]:List AV) p63.2)))) (fun p73=>(q100 a0 && (bif !(v100_0 a0) then true else (bif decide ((a1.length:Int) > 3) then true else q13 (v99_0 a0) (v99_1 a0) (v99_2 a0) p73.1 p73.2.2)))))))
def v181_0 (a0 a1:List AV):List AV:=(ro (runW (R181_0 a0 a1 (v99_0 a0) (v99_1 a0) (v99_2 a0)) (((a1.length:Int) - 0:Int).toNat+1) (.inl (0,0,0))) [] (sumE (fun p63=>(bif !(v100_0 a0) then ([]:List AV) else (bif decide ((a1.length:Int) > 3) then ([]:List AV) else (bif !(v13_0 (v99_0 a0) (v99_1 a0) (v99_2 a0) ([]:List AV) p63.2) then ([]:List AV) else (v99_0 a0))))) (fun p73=>(bif !(v100_0 a0) then ([]:List AV) else (bif decide ((a1.length:Int) > 3) then ([]:List AV) else (bif !(v13_0 (v99_0 a0) (v99_1 a0) (v99_2 a0) p73.1 p73.2.2) then ([]:List AV) else (v99_0 a0)))))))
def v181_1 (a0 a1:List AV):List AV:=(ro (runW (R181_0 a0 a1 (v99_0 a0) (v99_1 a0) (v99_2 a0)) (((a1.length:Int) - 0:Int).toNat+1) (.inl (0,0,0))) [] (sumE (fun p63=>(bif !(v100_0 a0) then ([]:List AV) else (bif decide ((a1.length:Int) > 3) then ([]:List AV) else (bif !(v13_0 (v99_0 a0) (v99_1 a0) (v99_2 a0) ([]:List AV) p63.2) then ([]:List AV) else (v99_1 a0))))) (fun p73=>(bif !(v100_0 a0) then ([]:List AV) else (bif decide ((a1.length:Int) > 3) then ([]:List AV) else (bif !(v13_0 (v99_0 a0) (v99_1 a0) (v99_2 a0) p73.1 p73.2.2) then ([]:List AV) else (v99_1 a0)))))))
def v181_2 (a0 a1:List AV):List AV:=(ro (runW (R181_0 a0 a1 (v99_0 a0) (v99_1 a0) (v99_2 a0)) (((a1.length:Int) - 0:Int).toNat+1) (.inl (0,0,0))) [] (sumE (fun p63=>(bif !(v100_0 a0) then ([]:List AV) else (bif decide ((a1.length:Int) > 3) then ([]:List AV) else (bif !(v13_0 (v99_0 a0) (v99_1 a0) (v99_2 a0) ([]:List AV) p63.2) then ([]:List AV) else (v99_2 a0))))) (fun p73=>(bif !(v100_0 a0) then ([]:List AV) else (bif decide ((a1.length:Int) > 3) then ([]:List AV) else (bif !(v13_0 (v99_0 a0) (v99_1 a0) (v99_2 a0) p73.1 p73.2.2) then ([]:List AV) else (v99_2 a0)))))))
def v181_3 (a0 a1:List AV):List AV:=(ro (runW (R181_0 a0 a1 (v99_0 a0) (v99_1 a0) (v99_2 a0)) (((a1.length:Int) - 0:Int).toNat+1) (.inl (0,0,0))) [] (sumE (fun p63=>([]:List AV)) (fun p73=>(bif !(v100_0 a0) then ([]:List AV) else (bif decide ((a1.length:Int) > 3) then ([]:List AV) else (bif !(v13_0 (v99_0 a0) (v99_1 a0) (v99_2 a0) p73.1 p73.2.2) then ([]:List AV) else p73.1))))))
def v181_4 (a0 a1:List AV):Int:=(ro (runW (R181_0 a0 a1 (v99_0 a0) (v99_1 a0) (v99_2 a0)) (((a1.length:Int) - 0:Int).toNat+1) (.inl (0,0,0))) 0 (sumE (fun p63=>(bif !(v100_0 a0) then 0 else (bif decide ((a1.length:Int) > 3) then 0 else (bif !(v13_0 (v99_0 a0) (v99_1 a0) (v99_2 a0) ([]:List AV) p63.2) then 0 else p63.2)))) (fun p73=>(bif !(v100_0 a0) then 0 else (bif decide ((a1.length:Int) > 3) then 0 else (bif !(v13_0 (v99_0 a0) (v99_1 a0) (v99_2 a0) p73.1 p73.2.2) then 0 else p73.2.2))))))
def v181_5 (a0 a1:List AV):Bool:=(ro (runW (R181_0 a0 a1 (v99_0 a0) (v99_1 a0) (v99_2 a0)) (((a1.length:Int) - 0:Int).toNat+1) (.inl (0,0,0))) false (sumE (fun p63=>(bif !(v100_0 a0) then false else (bif decide ((a1.length:Int) > 3) then false else (bif !(v13_0 (v99_0 a0) (v99_1 a0) (v99_2 a0) ([]:List AV) p63.2) then false else true)))) (fun p73=>(bif !(v100_0 a0) then false else (bif decide ((a1.length:Int) > 3) then false else (bif !(v13_0 (v99_0 a0) (v99_1 a0) (v99_2 a0) p73.1 p73.2.2) then false else true))))))
theorem e181 (a0 a1:List AV):funA c181 0 181 [AV.sl [.int .i64] a0,AV.sl [.sl [.int .i64]] a1]=(bif q99 a0 then (ro (runW (R181_0 a0 a1 (v99_0 a0) (v99_1 a0) (v99_2 a0)) (((a1.length:Int) - 0:Int).toNat+1) (.inl (0,0,0))) none (sumE (fun p63=>(bif q100 a0 then (bif !(v100_0 a0) then some (AV.tup [AV.agg [AV.fl [.int .i64] ([]:List AV),AV.fl [.int .i64] ([]:List AV),AV.fl [.int .i64,.int .i64] ([]:List AV),AV.fl [.sl [.int .i64],.int .i64,.bool,.int .i64,.int .i64,.int .i64,.int .i64,.int .i64,.int .i64] ([]:List AV),Ai 0],AV.bool false])
 else (bif decide ((a1.length:Int) > 3) then some (AV.tup [AV.agg [AV.fl [.int .i64] ([]:List AV),AV.fl [.int .i64] ([]:List AV),AV.fl [.int .i64,.int .i64] ([]:List AV),AV.fl [.sl [.int .i64],.int .i64,.bool,.int .i64,.int .i64,.int .i64,.int .i64,.int .i64,.int .i64] ([]:List AV),Ai 0],AV.bool false])
 else (bif q13 (v99_0 a0) (v99_1 a0) (v99_2 a0) ([]:List AV) p63.2 then (bif !(v13_0 (v99_0 a0) (v99_1 a0) (v99_2 a0) ([]:List AV) p63.2) then some (AV.tup [AV.agg [AV.fl [.int .i64] ([]:List AV),AV.fl [.int .i64] ([]:List AV),AV.fl [.int .i64,.int .i64] ([]:List AV),AV.fl [.sl [.int .i64],.int .i64,.bool,.int .i64,.int .i64,.int .i64,.int .i64,.int .i64,.int .i64] ([]:List AV),Ai 0],AV.bool false])
 else some (AV.tup [AV.agg [AV.fl [.int .i64] (v99_0 a0),AV.fl [.int .i64] (v99_1 a0),AV.fl [.int .i64,.int .i64] (v99_2 a0),AV.fl [.sl [.int .i64],.int .i64,.bool,.int .i64,.int .i64,.int .i64,.int .i64,.int .i64,.int .i64] ([]:List AV),Ai p63.2],AV.bool true]))
 else none)))
 else none)) (fun p73=>(bif q100 a0 then (bif !(v100_0 a0) then some (AV.tup [AV.agg [AV.fl [.int .i64] ([]:List AV),AV.fl [.int .i64] ([]:List AV),AV.fl [.int .i64,.int .i64] ([]:List AV),AV.fl [.sl [.int .i64],.int .i64,.bool,.int .i64,.int .i64,.int .i64,.int .i64,.int .i64,.int .i64] ([]:List AV),Ai 0],AV.bool false])
 else (bif decide ((a1.length:Int) > 3) then some (AV.tup [AV.agg [AV.fl [.int .i64] ([]:List AV),AV.fl [.int .i64] ([]:List AV),AV.fl [.int .i64,.int .i64] ([]:List AV),AV.fl [.sl [.int .i64],.int .i64,.bool,.int .i64,.int .i64,.int .i64,.int .i64,.int .i64,.int .i64] ([]:List AV),Ai 0],AV.bool false])
 else (bif q13 (v99_0 a0) (v99_1 a0) (v99_2 a0) p73.1 p73.2.2 then (bif !(v13_0 (v99_0 a0) (v99_1 a0) (v99_2 a0) p73.1 p73.2.2) then some (AV.tup [AV.agg [AV.fl [.int .i64] ([]:List AV),AV.fl [.int .i64] ([]:List AV),AV.fl [.int .i64,.int .i64] ([]:List AV),AV.fl [.sl [.int .i64],.int .i64,.bool,.int .i64,.int .i64,.int .i64,.int .i64,.int .i64,.int .i64] ([]:List AV),Ai 0],AV.bool false])
 else some (AV.tup [AV.agg [AV.fl [.int .i64] (v99_0 a0),AV.fl [.int .i64] (v99_1 a0),AV.fl [.int .i64,.int .i64] (v99_2 a0),AV.fl [.sl [.int .i64],.int .i64,.bool,.int .i64,.int .i64,.int .i64,.int .i64,.int .i64,.int .i64] p73.1,Ai p73.2.2],AV.bool true]))
 else none)))
 else none))))
 else none):=by kernel_rfl
theorem r181 (a0 a1:List AV) (h:q181 a0 a1=true):funA c181 0 181 [AV.sl [.int .i64] a0,AV.sl [.sl [.int .i64]] a1]=some (AV.tup [AV.agg [AV.fl [.int .i64] (v181_0 a0 a1),AV.fl [.int .i64] (v181_1 a0 a1),AV.fl [.int .i64,.int .i64] (v181_2 a0 a1),AV.fl [.sl [.int .i64],.int .i64,.bool,.int .i64,.int .i64,.int .i64,.int .i64,.int .i64,.int .i64] (v181_3 a0 a1),AV.int .i64 (v181_4 a0 a1)],AV.bool (v181_5 a0 a1)]):=by
 refine (e181 a0 a1).trans ?_
 unfold q181 at h
 unfold v181_0 v181_1 v181_2 v181_3 v181_4 v181_5
 refine ifG (fun hc=>?_) (fun hc=>?_) <;> first|rw [hc] at h ⊢|rw [hc] at h|rw [hc]|skip
 ·refine roG (fun hc=>?_) (fun r hc=>?_) <;> first|rw [hc] at h ⊢|rw [hc] at h|rw [hc]|skip
  ·exact Bool.noConfusion h
  ·try simp only [ro] at h ⊢
   cases r with
   | inl p63 =>
    try simp only [sumE] at h ⊢
    refine ifG (fun hc=>?_) (fun hc=>?_) <;> first|rw [hc] at h ⊢|rw [hc] at h|rw [hc]|skip
    ·refine ifG (fun hc=>?_) (fun hc=>?_) <;> first|rw [hc] at h ⊢|rw [hc] at h|rw [hc]|skip
     ·rfl
     ·refine ifG (fun hc=>?_) (fun hc=>?_) <;> first|rw [hc] at h ⊢|rw [hc] at h|rw [hc]|skip
      ·rfl
      ·refine ifG (fun hc=>?_) (fun hc=>?_) <;> first|rw [hc] at h ⊢|rw [hc] at h|rw [hc]|skip
       ·refine ifG (fun hc=>?_) (fun hc=>?_) <;> first|rw [hc] at h ⊢|rw [hc] at h|rw [hc]|skip
        ·rfl
        ·rfl
       ·first|exact Bool.noConfusion h|exact Bool.noConfusion hc
    ·first|exact Bool.noConfusion h|exact Bool.noConfusion hc
   | inr p73 =>
    try simp only [sumE] at h ⊢
    refine ifG (fun hc=>?_) (fun hc=>?_) <;> first|rw [hc] at h ⊢|rw [hc] at h|rw [hc]|skip
    ·refine ifG (fun hc=>?_) (fun hc=>?_) <;> first|rw [hc] at h ⊢|rw [hc] at h|rw [hc]|skip
     ·rfl
     ·refine ifG (fun hc=>?_) (fun hc=>?_) <;> first|rw [hc] at h ⊢|rw [hc] at h|rw [hc]|skip
      ·rfl
      ·refine ifG (fun hc=>?_) (fun hc=>?_) <;> first|rw [hc] at h ⊢|rw [hc] at h|rw [hc]|skip
       ·refine ifG (fun hc=>?_) (fun hc=>?_) <;> first|rw [hc] at h ⊢|rw [hc] at h|rw [hc]|skip
        ·rfl
        ·rfl
       ·first|exact Bool.noConfusion h|exact Bool.noConfusion hc
    ·first|exact Bool.noConfusion h|exact Bool.noConfusion hc
 ·first|exact Bool.noConfusion h|exact Bool.noConfusion hc
def m181:TModel
 | [.sl g0 a0,.sl g1 a1]=>bif ctsEq g0 ([.int .i64]) && ctsEq g1 ([.sl [.int .i64]]) then some (q181 a0 a1,AV.tup [AV.agg [AV.fl [.int .i64] (v181_0 a0 a1),AV.fl [.int .i64] (v181_1 a0 a1),AV.fl [.int .i64,.int .i64] (v181_2 a0 a1),AV.fl [.sl [.int .i64],.int .i64,.bool,.int .i64,.int .i64,.int .i64,.int .i64,.int .i64,.int .i64] (v181_3 a0 a1),AV.int .i64 (v181_4 a0 a1)],AV.bool (v181_5 a0 a1)]) else none
 | _=>none
theorem k181:Known Tryz.prog 181:=⟨Tryz.f181,Tryz.func181,by kernel_rfl,by kernel_rfl⟩
theorem meets181:Meets Tryz.prog 181 m181:=by
 refine mt (lvl:=0) (cf:=c181) rfl mixed k181 Tryz.func181 (by kernel_rfl) (loops_cons ok181_0 noLoop) (allT_cons meets13 (allT_cons meets99 (allT_cons meets100 allT_nil))) allM_nil noI fun xs r h=>?_
 unfold m181 at h
 split at h
 ·rename_i g0 a0 g1 a1
  obtain ⟨hg,h⟩:=bif_pair h
  simp only [Bool.and_eq_true] at hg
  obtain ⟨q0,q1⟩:=hg
  obtain rfl:=cE q0
  obtain rfl:=cE q1
  obtain ⟨h1,rfl⟩:=pair_inj h
  exact r181 a0 a1 h1
 ·cases h
def G63_0 {β:Type} (t6:Int) (h0:List AV) (h1_0:List AV) (h1_1:Int) (h1_2:Int) (N:((Int × (List AV) × (List AV) × Int × Int))→β) (K:(((List AV) × (List AV) × Int × Int))→β) (d:β):β:=(bif decide (t6 > 0) then (bif q131 3 h1_0 h1_1 h1_2 then (bif (decide ((h0.length+([AV.int .i64 (v131_0 3 h1_0 h1_1 h1_2)]).length)*8≤140737488355328) && decide ((h0.length+([AV.int .i64 (v131_0 3 h1_0 h1_1 h1_2)]).length)≤140737488355328)) then N (IntKind.i64.wrap (t6 - 1),h0++([AV.int .i64 (v131_0 3 h1_0 h1_1 h1_2)]),(v131_1 3 h1_0 h1_1 h1_2),(v131_2 3 h1_0 h1_1 h1_2),(v131_3 3 h1_0 h1_1 h1_2))
 else d)
 else d)
 else K (h0,h1_0,h1_1,h1_2))
def F63_0 (t6:Int) (h0 h1_0:List AV) (h1_1 h1_2:Int):Out ((Int × (List AV) × (List AV) × Int × Int)) (((List AV) × (List AV) × Int × Int)):=G63_0 t6 h0 h1_0 h1_1 h1_2 .next .stop .fail
def R63_0:((Int × (List AV) × (List AV) × Int × Int))→Out ((Int × (List AV) × (List AV) × Int × Int)) (((List AV) × (List AV) × Int × Int)):=fun s:Int × (List AV) × (List AV) × Int × Int=>F63_0 s.1 s.2.1 s.2.2.1 s.2.2.2.1 s.2.2.2.2
def E63_0:((Int × (List AV) × (List AV) × Int × Int))→St:=fun s:Int × (List AV) × (List AV) × Int × Int=>⟨[(0,AV.ptr [1] 0 0),(5,AV.own [0,5,0]),(6,Ai s.1)],[([0,5,0],⟨false,[.int .i64],s.2.1⟩),([1],⟨true,[],[AV.agg [AV.sl [.int .u8] s.2.2.1,Ai s.2.2.2.1,Ai s.2.2.2.2]]⟩)]⟩
def K63_0 (k:Kont):(((List AV) × (List AV) × Int × Int))→Option AV:=fun p:(List AV) × (List AV) × Int × Int=>k (.exit 0) ⟨[(5,AV.own [0,5,0])],[([0,5,0],⟨false,[.int .i64],p.1⟩),([1],⟨true,[],[AV.agg [AV.sl [.int .u8] p.2.1,Ai p.2.2.1,Ai p.2.2.2]]⟩)]⟩
def l63_0:LModel:=fun _ _ st k=>match st with
 | ⟨[(0,.ptr g0 g1 g2),(5,.own g3),(6,.int .i64 t6)],[(g4,⟨false,g5,h0⟩),(g6,⟨true,[],[.agg [.sl g7 h1_0,.int .i64 h1_1,.int .i64 h1_2]]⟩)]⟩=>bif nmEq g0 ([1]) && Nat.beq g1 0 && Nat.beq g2 0 && nmEq g3 ([0,5,0]) && nmEq g4 ([0,5,0]) && ctsEq g5 ([.int .i64]) && nmEq g6 ([1]) && ctsEq g7 ([.int .u8]) then ro (runW (R63_0) ((t6 - 0:Int).toNat+1) (t6,h0,h1_0,h1_1,h1_2)) none (K63_0 k) else none
 | _=>none
noncomputable def c63:Cfg:=cfg Tryz.prog [(63,0,[0,5,6]),(63,999,[4]),(63,1000,[5]),(63,1001,[0,5,6])] [] [(131,.g m131)] [] [(63,0,l63_0)]
theorem s63_0 (ce:CallE) (k:Kont) (s:Int × (List AV) × (List AV) × Int × Int) (next:St→Option AV):stepA (codeA c63 ce [0] 63 0 (sub [1,1,0,1,0,0] (body Tryz.f63))) (normA [0] [0,5,6]) next (E63_0 s) k=G63_0 s.1 s.2.1 s.2.2.1 s.2.2.2.1 s.2.2.2.2 (fun s=>next (E63_0 s)) (K63_0 k) none:=by kernel_rfl
theorem st63_0 (ce:CallE) (k:Kont) (s:(Int × (List AV) × (List AV) × Int × Int)) (next:St→Option AV):stepA (codeA c63 ce [0] 63 0 (sub [1,1,0,1,0,0] (body Tryz.f63))) (normA [0] [0,5,6]) next (E63_0 s) k=(R63_0 s).el none (fun s=>next (E63_0 s)) (K63_0 k):=(s63_0 ce k s next).trans (by unfold R63_0;unfold F63_0 G63_0;simp only [el_cond,el_ro,el_sum,el_fail,el_next,el_stop] <;> rfl)
theorem ok63_0 {ce:CallE}:LoopOK c63 ce [0] 63 0 (sub [1,1,0,1,0,0] (body Tryz.f63)):=by
 intro m hm st k r h
 obtain rfl:l63_0=m:=Option.some.inj hm
 unfold l63_0 at h
 split at h
 ·rename_i g0 g1 g2 g3 t6 g4 g5 h0 g6 g7 h1_0 h1_1 h1_2
  obtain ⟨hg,h⟩:=bif_some h
  simp only [Bool.and_eq_true] at hg
  obtain ⟨⟨⟨⟨⟨⟨⟨q0,q1⟩,q2⟩,q3⟩,q4⟩,q5⟩,q6⟩,q7⟩:=hg
  obtain rfl:=nE q0
  obtain rfl:=bE q1
  obtain rfl:=bE q2
  obtain rfl:=nE q3
  obtain rfl:=nE q4
  obtain rfl:=cE q5
  obtain rfl:=nE q6
  obtain rfl:=cE q7
  refine ⟨((t6 - 0:Int).toNat+1),?_⟩
  rw [← h]
  exact loop_run E63_0 (K63_0 k) (st63_0 ce k) _ (t6,h0,h1_0,h1_1,h1_2)
 ·cases h
def T63 {β:Type} (k:((List AV) × (List AV) × Int × Int)→β) (n:β) (a1:Int) (ua:List AV) (ub:Int) (uc:Int):β:=(bif q131 a1 ua ub uc then (ro (runW (R63_0) (((v131_0 a1 ua ub uc) - 0:Int).toNat+1) ((v131_0 a1 ua ub uc),([]:List AV),(v131_1 a1 ua ub uc),(v131_2 a1 ua ub uc),(v131_3 a1 ua ub uc))) n (fun p74=>k (p74.1,p74.2.1,p74.2.2.1,p74.2.2.2)))
 else n)
abbrev W63 (a1:Int) (ua:List AV) (ub:Int) (uc:Int):Option ((List AV) × (List AV) × Int × Int):=T63 some none a1 ua ub uc
theorem n63 {β:Type} (k:((List AV) × (List AV) × Int × Int)→β) (n:β) (a1:Int) (ua:List AV) (ub:Int) (uc:Int):T63 k n a1 ua ub uc=oe k n (W63 a1 ua ub uc):=by
 unfold W63 T63
 simp only [oe_cond,oe_ro,oe_sum,oe_some,oe_none]
def q63 (a1:Int) (ua:List AV) (ub uc:Int):Bool:=(W63 a1 ua ub uc).isSome
def v63_0 (a1:Int) (ua:List AV) (ub uc:Int):List AV:=oe (fun t=>t.1) [] (W63 a1 ua ub uc)
def v63_1 (a1:Int) (ua:List AV) (ub uc:Int):List AV:=oe (fun t=>t.2.1) [] (W63 a1 ua ub uc)
def v63_2 (a1:Int) (ua:List AV) (ub uc:Int):Int:=oe (fun t=>t.2.2.1) 0 (W63 a1 ua ub uc)
def v63_3 (a1:Int) (ua:List AV) (ub uc:Int):Int:=oe (fun t=>t.2.2.2) 0 (W63 a1 ua ub uc)
theorem e63 (a1:Int) (ua:List AV) (ub uc:Int) (K:List AV→List (Option Blk)→Option AV):inlA c63 1 63 [AV.ptr [1] 0 0,Ai a1] [0] (canH 1 [⟨true,[],[AV.agg [AV.sl [.int .u8] ua,Ai ub,Ai uc]]⟩]) (keepG Tryz.prog 1 [24] [] K)=T63 (fun t=>K [AV.fl [.int .i64] t.1] [some ⟨true,[],[AV.agg [AV.sl [.int .u8] t.2.1,Ai t.2.2.1,Ai t.2.2.2]]⟩]) none a1 ua ub uc:=by kernel_rfl
theorem r63 (a1:Int) (ua:List AV) (ub uc:Int) (K:List AV→List (Option Blk)→Option AV) (h:q63 a1 ua ub uc=true):inlA c63 1 63 [AV.ptr [1] 0 0,AV.int .i64 a1] [0] (canH 1 [⟨true,[],[AV.agg [AV.sl [.int .u8] ua,AV.int .i64 ub,AV.int .i64 uc]]⟩]) (keepG Tryz.prog 1 [24] [] K)=K [AV.fl [.int .i64] (v63_0 a1 ua ub uc)] [some ⟨true,[],[AV.agg [AV.sl [.int .u8] (v63_1 a1 ua ub uc),AV.int .i64 (v63_2 a1 ua ub uc),AV.int .i64 (v63_3 a1 ua ub uc)]]⟩]:=by
 refine ((e63 a1 ua ub uc K).trans (n63 _ _ a1 ua ub uc)).trans ?_
 unfold q63 at h
 unfold v63_0 v63_1 v63_2 v63_3
 generalize W63 a1 ua ub uc=o at *
 cases o with
 | none=>cases h
 | some t=>rfl
def m63:GModel
 | [.ptr g0 g1 g2,.int .i64 a1],[⟨true,[],[.agg [.sl g3 ua,.int .i64 ub,.int .i64 uc]]⟩]=>bif nmEq g0 ([1]) && Nat.beq g1 0 && Nat.beq g2 0 && ctsEq g3 ([.int .u8]) then some (q63 a1 ua ub uc,[AV.fl [.int .i64] (v63_0 a1 ua ub uc)],[some ⟨true,[],[AV.agg [AV.sl [.int .u8] (v63_1 a1 ua ub uc),AV.int .i64 (v63_2 a1 ua ub uc),AV.int .i64 (v63_3 a1 ua ub uc)]]⟩]) else none
 | _,_=>none
theorem k63:Known Tryz.prog 63:=⟨Tryz.f63,Tryz.func63,by kernel_rfl,by kernel_rfl⟩
theorem meets63:MeetsG Tryz.prog 63 m63:=by
 refine mg (rt:=[24]) (gs:=[]) (lvl:=0) (cf:=c63) rfl mixed k63 Tryz.func63 (by kernel_rfl) (loops_cons ok63_0 noLoop) allT_nil (allG_cons meets131 allM_nil) noI fun xs bs r bs' h K=>?_
 unfold m63 at h
 split at h
 ·rename_i g0 g1 g2 a1 g3 ua ub uc
  obtain ⟨hg,h⟩:=bif_pair h
  simp only [Bool.and_eq_true] at hg
  obtain ⟨⟨⟨q0,q1⟩,q2⟩,q3⟩:=hg
  obtain rfl:=nE q0
  obtain rfl:=bE q1
  obtain rfl:=bE q2
  obtain rfl:=cE q3
  obtain ⟨h1,rfl,rfl⟩:=trip_inj h
  exact r63 a1 ua ub uc K h1
 ·cases h
def G67_0_s0 {β:Type} (h0:List AV) (h1_0:List AV) (h1_1:List AV) (h1_2:List AV) (h1_3:List AV) (h1_4:Int) (h2:List AV) (h3:Int) (h4:List AV) (h5:Int) (t4:Int) (N:(Int ⊕ (Int × (List AV)))→β) (K:(Unit ⊕ ((List AV)))→β) (d:β):β:=(bif decide (t4<(h1_3.length:Int)) then (bif (decide (0≤t4) && decide (t4<(h1_3.length:Int))) then (bif (decide ((([]:List AV).length+(fL (h1_3.getD t4.toNat .undef) 0).length)*8≤140737488355328) && decide ((([]:List AV).length+(fL (h1_3.getD t4.toNat .undef) 0).length)≤140737488355328)) then (bif (decide ((([AV.agg [AV.sl [.int .i64] (([]:List AV)++(fL (h1_3.getD t4.toNat .undef) 0)),AV.int .i64 (fI (h1_3.getD t4.toNat .undef) 1),AV.bool (fB (h1_3.getD t4.toNat .undef) 2),AV.int .i64 (fI (h1_3.getD t4.toNat .undef) 3),AV.int .i64 (fI (h1_3.getD t4.toNat .undef) 4),AV.int .i64 (fI (h1_3.getD t4.toNat .undef) 5),AV.int .i64 (fI (h1_3.getD t4.toNat .undef) 6),AV.int .i64 (fI (h1_3.getD t4.toNat .undef) 7),AV.int .i64 (fI (h1_3.getD t4.toNat .undef) 8)]]).length)*88≤140737488355328) && decide ((([AV.agg [AV.sl [.int .i64] (([]:List AV)++(fL (h1_3.getD t4.toNat .undef) 0)),AV.int .i64 (fI (h1_3.getD t4.toNat .undef) 1),AV.bool (fB (h1_3.getD t4.toNat .undef) 2),AV.int .i64 (fI (h1_3.getD t4.toNat .undef) 3),AV.int .i64 (fI (h1_3.getD t4.toNat .undef) 4),AV.int .i64 (fI (h1_3.getD t4.toNat .undef) 5),AV.int .i64 (fI (h1_3.getD t4.toNat .undef) 6),AV.int .i64 (fI (h1_3.getD t4.toNat .undef) 7),AV.int .i64 (fI (h1_3.getD t4.toNat .undef) 8)]]).length)≤140737488355328)) then N (.inr (IntKind.i64.wrap (t4+1),[AV.agg [AV.sl [.int .i64] (([]:List AV)++(fL (h1_3.getD t4.toNat .undef) 0)),AV.int .i64 (fI (h1_3.getD t4.toNat .undef) 1),AV.bool (fB (h1_3.getD t4.toNat .undef) 2),AV.int .i64 (fI (h1_3.getD t4.toNat .undef) 3),AV.int .i64 (fI (h1_3.getD t4.toNat .undef) 4),AV.int .i64 (fI (h1_3.getD t4.toNat .undef) 5),AV.int .i64 (fI (h1_3.getD t4.toNat .undef) 6),AV.int .i64 (fI (h1_3.getD t4.toNat .undef) 7),AV.int .i64 (fI (h1_3.getD t4.toNat .undef) 8)]]))
 else d)
 else d)
 else d)
 else K (.inl ()))
def F67_0_s0 (h0 h1_0 h1_1 h1_2 h1_3:List AV) (h1_4:Int) (h2:List AV) (h3:Int) (h4:List AV) (h5 t4:Int):Out (Int ⊕ (Int × (List AV))) (Unit ⊕ ((List AV))):=G67_0_s0 h0 h1_0 h1_1 h1_2 h1_3 h1_4 h2 h3 h4 h5 t4 .next .stop .fail
def G67_0_s1 {β:Type} (h0:List AV) (h1_0:List AV) (h1_1:List AV) (h1_2:List AV) (h1_3:List AV) (h1_4:Int) (h2:List AV) (h3:Int) (h4:List AV) (h5:Int) (t4:Int) (h6:List AV) (N:(Int ⊕ (Int × (List AV)))→β) (K:(Unit ⊕ ((List AV)))→β) (d:β):β:=(bif decide (t4<(h1_3.length:Int)) then (bif (decide (0≤t4) && decide (t4<(h1_3.length:Int))) then (bif (decide ((([]:List AV).length+(fL (h1_3.getD t4.toNat .undef) 0).length)*8≤140737488355328) && decide ((([]:List AV).length+(fL (h1_3.getD t4.toNat .undef) 0).length)≤140737488355328)) then (bif (decide ((h6.length+([AV.agg [AV.sl [.int .i64] (([]:List AV)++(fL (h1_3.getD t4.toNat .undef) 0)),AV.int .i64 (fI (h1_3.getD t4.toNat .undef) 1),AV.bool (fB (h1_3.getD t4.toNat .undef) 2),AV.int .i64 (fI (h1_3.getD t4.toNat .undef) 3),AV.int .i64 (fI (h1_3.getD t4.toNat .undef) 4),AV.int .i64 (fI (h1_3.getD t4.toNat .undef) 5),AV.int .i64 (fI (h1_3.getD t4.toNat .undef) 6),AV.int .i64 (fI (h1_3.getD t4.toNat .undef) 7),AV.int .i64 (fI (h1_3.getD t4.toNat .undef) 8)]]).length)*88≤140737488355328) && decide ((h6.length+([AV.agg [AV.sl [.int .i64] (([]:List AV)++(fL (h1_3.getD t4.toNat .undef) 0)),AV.int .i64 (fI (h1_3.getD t4.toNat .undef) 1),AV.bool (fB (h1_3.getD t4.toNat .undef) 2),AV.int .i64 (fI (h1_3.getD t4.toNat .undef) 3),AV.int .i64 (fI (h1_3.getD t4.toNat .undef) 4),AV.int .i64 (fI (h1_3.getD t4.toNat .undef) 5),AV.int .i64 (fI (h1_3.getD t4.toNat .undef) 6),AV.int .i64 (fI (h1_3.getD t4.toNat .undef) 7),AV.int .i64 (fI (h1_3.getD t4.toNat .undef) 8)]]).length)≤140737488355328)) then N (.inr (IntKind.i64.wrap (t4+1),h6++([AV.agg [AV.sl [.int .i64] (([]:List AV)++(fL (h1_3.getD t4.toNat .undef) 0)),AV.int .i64 (fI (h1_3.getD t4.toNat .undef) 1),AV.bool (fB (h1_3.getD t4.toNat .undef) 2),AV.int .i64 (fI (h1_3.getD t4.toNat .undef) 3),AV.int .i64 (fI (h1_3.getD t4.toNat .undef) 4),AV.int .i64 (fI (h1_3.getD t4.toNat .undef) 5),AV.int .i64 (fI (h1_3.getD t4.toNat .undef) 6),AV.int .i64 (fI (h1_3.getD t4.toNat .undef) 7),AV.int .i64 (fI (h1_3.getD t4.toNat .undef) 8)]])))
 else d)
 else d)
 else d)
 else K (.inr h6))
def F67_0_s1 (h0 h1_0 h1_1 h1_2 h1_3:List AV) (h1_4:Int) (h2:List AV) (h3:Int) (h4:List AV) (h5 t4:Int) (h6:List AV):Out (Int ⊕ (Int × (List AV))) (Unit ⊕ ((List AV))):=G67_0_s1 h0 h1_0 h1_1 h1_2 h1_3 h1_4 h2 h3 h4 h5 t4 h6 .next .stop .fail
def R67_0 (h0 h1_0 h1_1 h1_2 h1_3:List AV) (h1_4:Int) (h2:List AV) (h3:Int) (h4:List AV) (h5:Int):(Int ⊕ (Int × (List AV)))→Out (Int ⊕ (Int × (List AV))) (Unit ⊕ ((List AV))):=sumE (fun s:Int=>F67_0_s0 h0 h1_0 h1_1 h1_2 h1_3 h1_4 h2 h3 h4 h5 s) (fun s:Int × (List AV)=>F67_0_s1 h0 h1_0 h1_1 h1_2 h1_3 h1_4 h2 h3 h4 h5 s.1 s.2)
def E67_0 (h0 h1_0 h1_1 h1_2 h1_3:List AV) (h1_4:Int) (h2:List AV) (h3:Int) (h4:List AV) (h5:Int):(Int ⊕ (Int × (List AV)))→St:=sumE (fun s:Int=>⟨[(1,AV.ptr [0,1] 0 0),(2,AV.ptr [0,2] 0 0),(3,AV.ptr [0,3] 0 0),(4,Ai s)],[([0,0,3],⟨false,[.int .i64],h0⟩),([0,1],⟨true,[],[AV.agg [AV.sl [.int .i64] h1_0,AV.sl [.int .i64] h1_1,AV.sl [.int .i64,.int .i64] h1_2,AV.sl [.sl [.int .i64],.int .i64,.bool,.int .i64,.int .i64,.int .i64,.int .i64,.int .i64,.int .i64] h1_3,Ai h1_4]]⟩),([0,1,3],⟨false,[.int .i64],h2⟩),([0,2],⟨true,[],[AV.agg [AV.snil,AV.snil,AV.snil,AV.snil,Ai h3]]⟩),([0,2,3],⟨false,[.int .i64,.int .i64],h4⟩),([0,3],⟨true,[],[AV.agg [AV.own [0,0,3],AV.own [0,1,3],AV.own [0,2,3],AV.snil,Ai h5]]⟩)]⟩) (fun s:Int × (List AV)=>⟨[(1,AV.ptr [0,1] 0 0),(2,AV.ptr [0,2] 0 0),(3,AV.ptr [0,3] 0 0),(4,Ai s.1)],[([0,0,3],⟨false,[.int .i64],h0⟩),([0,1],⟨true,[],[AV.agg [AV.sl [.int .i64] h1_0,AV.sl [.int .i64] h1_1,AV.sl [.int .i64,.int .i64] h1_2,AV.sl [.sl [.int .i64],.int .i64,.bool,.int .i64,.int .i64,.int .i64,.int .i64,.int .i64,.int .i64] h1_3,Ai h1_4]]⟩),([0,1,3],⟨false,[.int .i64],h2⟩),([0,2],⟨true,[],[AV.agg [AV.snil,AV.snil,AV.snil,AV.snil,Ai h3]]⟩),([0,2,3],⟨false,[.int .i64,.int .i64],h4⟩),([0,3],⟨true,[],[AV.agg [AV.own [0,0,3],AV.own [0,1,3],AV.own [0,2,3],AV.own [0,3,3],Ai h5]]⟩),([0,3,3],⟨false,[.sl [.int .i64],.int .i64,.bool,.int .i64,.int .i64,.int .i64,.int .i64,.int .i64,.int .i64],s.2⟩)]⟩)
def K67_0 (h0 h1_0 h1_1 h1_2 h1_3:List AV) (h1_4:Int) (h2:List AV) (h3:Int) (h4:List AV) (h5:Int) (k:Kont):(Unit ⊕ ((List AV)))→Option AV:=sumE (fun _:Unit=>k (.exit 0) ⟨[(2,AV.ptr [0,2] 0 0),(3,AV.ptr [0,3] 0 0)],[([0,0,3],⟨false,[.int .i64],h0⟩),([0,1],⟨true,[],[AV.agg [AV.sl [.int .i64] h1_0,AV.sl [.int .i64] h1_1,AV.sl [.int .i64,.int .i64] h1_2,AV.sl [.sl [.int .i64],.int .i64,.bool,.int .i64,.int .i64,.int .i64,.int .i64,.int .i64,.int .i64] h1_3,Ai h1_4]]⟩),([0,1,3],⟨false,[.int .i64],h2⟩),([0,2],⟨true,[],[AV.agg [AV.snil,AV.snil,AV.snil,AV.snil,Ai h3]]⟩),([0,2,3],⟨false,[.int .i64,.int .i64],h4⟩),([0,3],⟨true,[],[AV.agg [AV.own [0,0,3],AV.own [0,1,3],AV.own [0,2,3],AV.snil,Ai h5]]⟩)]⟩) (fun p:(List AV)=>k (.exit 0) ⟨[(2,AV.ptr [0,2] 0 0),(3,AV.ptr [0,3] 0 0)],[([0,0,3],⟨false,[.int .i64],h0⟩),([0,1],⟨true,[],[AV.agg [AV.sl [.int .i64] h1_0,AV.sl [.int .i64] h1_1,AV.sl [.int .i64,.int .i64] h1_2,AV.sl [.sl [.int .i64],.int .i64,.bool,.int .i64,.int .i64,.int .i64,.int .i64,.int .i64,.int .i64] h1_3,Ai h1_4]]⟩),([0,1,3],⟨false,[.int .i64],h2⟩),([0,2],⟨true,[],[AV.agg [AV.snil,AV.snil,AV.snil,AV.snil,Ai h3]]⟩),([0,2,3],⟨false,[.int .i64,.int .i64],h4⟩),([0,3],⟨true,[],[AV.agg [AV.own [0,0,3],AV.own [0,1,3],AV.own [0,2,3],AV.own [0,3,3],Ai h5]]⟩),([0,3,3],⟨false,[.sl [.int .i64],.int .i64,.bool,.int .i64,.int .i64,.int .i64,.int .i64,.int .i64,.int .i64],p⟩)]⟩)
def l67_0:LModel:=fun _ _ st k=>match st with
 | ⟨[(1,.ptr g0 g1 g2),(2,.ptr g3 g4 g5),(3,.ptr g6 g7 g8),(4,.int .i64 t4)],[(g9,⟨false,g10,h0⟩),(g11,⟨true,[],[.agg [.sl g12 h1_0,.sl g13 h1_1,.sl g14 h1_2,.sl g15 h1_3,.int .i64 h1_4]]⟩),(g16,⟨false,g17,h2⟩),(g18,⟨true,[],[.agg [.snil,.snil,.snil,.snil,.int .i64 h3]]⟩),(g19,⟨false,g20,h4⟩),(g21,⟨true,[],[.agg [.own g22,.own g23,.own g24,.snil,.int .i64 h5]]⟩)]⟩=>bif nmEq g0 ([0,1]) && Nat.beq g1 0 && Nat.beq g2 0 && nmEq g3 ([0,2]) && Nat.beq g4 0 && Nat.beq g5 0 && nmEq g6 ([0,3]) && Nat.beq g7 0 && Nat.beq g8 0 && nmEq g9 ([0,0,3]) && ctsEq g10 ([.int .i64]) && nmEq g11 ([0,1]) && ctsEq g12 ([.int .i64]) && ctsEq g13 ([.int .i64]) && ctsEq g14 ([.int .i64,.int .i64]) && ctsEq g15 ([.sl [.int .i64],.int .i64,.bool,.int .i64,.int .i64,.int .i64,.int .i64,.int .i64,.int .i64]) && nmEq g16 ([0,1,3]) && ctsEq g17 ([.int .i64]) && nmEq g18 ([0,2]) && nmEq g19 ([0,2,3]) && ctsEq g20 ([.int .i64,.int .i64]) && nmEq g21 ([0,3]) && nmEq g22 ([0,0,3]) && nmEq g23 ([0,1,3]) && nmEq g24 ([0,2,3]) then ro (runW (R67_0 h0 h1_0 h1_1 h1_2 h1_3 h1_4 h2 h3 h4 h5) (((h1_3.length:Int) - t4:Int).toNat+1) (.inl t4)) none (K67_0 h0 h1_0 h1_1 h1_2 h1_3 h1_4 h2 h3 h4 h5 k) else none
 | ⟨[(1,.ptr g0 g1 g2),(2,.ptr g3 g4 g5),(3,.ptr g6 g7 g8),(4,.int .i64 t4)],[(g9,⟨false,g10,h0⟩),(g11,⟨true,[],[.agg [.sl g12 h1_0,.sl g13 h1_1,.sl g14 h1_2,.sl g15 h1_3,.int .i64 h1_4]]⟩),(g16,⟨false,g17,h2⟩),(g18,⟨true,[],[.agg [.snil,.snil,.snil,.snil,.int .i64 h3]]⟩),(g19,⟨false,g20,h4⟩),(g21,⟨true,[],[.agg [.own g22,.own g23,.own g24,.own g25,.int .i64 h5]]⟩),(g26,⟨false,g27,h6⟩)]⟩=>bif nmEq g0 ([0,1]) && Nat.beq g1 0 && Nat.beq g2 0 && nmEq g3 ([0,2]) && Nat.beq g4 0 && Nat.beq g5 0 && nmEq g6 ([0,3]) && Nat.beq g7 0 && Nat.beq g8 0 && nmEq g9 ([0,0,3]) && ctsEq g10 ([.int .i64]) && nmEq g11 ([0,1]) && ctsEq g12 ([.int .i64]) && ctsEq g13 ([.int .i64]) && ctsEq g14 ([.int .i64,.int .i64]) && ctsEq g15 ([.sl [.int .i64],.int .i64,.bool,.int .i64,.int .i64,.int .i64,.int .i64,.int .i64,.int .i64]) && nmEq g16 ([0,1,3]) && ctsEq g17 ([.int .i64]) && nmEq g18 ([0,2]) && nmEq g19 ([0,2,3]) && ctsEq g20 ([.int .i64,.int .i64]) && nmEq g21 ([0,3]) && nmEq g22 ([0,0,3]) && nmEq g23 ([0,1,3]) && nmEq g24 ([0,2,3]) && nmEq g25 ([0,3,3]) && nmEq g26 ([0,3,3]) && ctsEq g27 ([.sl [.int .i64],.int .i64,.bool,.int .i64,.int .i64,.int .i64,.int .i64,.int .i64,.int .i64]) then ro (runW (R67_0 h0 h1_0 h1_1 h1_2 h1_3 h1_4 h2 h3 h4 h5) (((h1_3.length:Int) - t4:Int).toNat+1) (.inr (t4,h6))) none (K67_0 h0 h1_0 h1_1 h1_2 h1_3 h1_4 h2 h3 h4 h5 k) else none
 | _=>none
noncomputable def c67:Cfg:=cfg Tryz.prog [(67,0,[1,2,3,4]),(67,999,[2]),(67,1000,[2,3]),(67,1001,[1,2,3,4])] [(138,m138)] [] [] [(67,0,l67_0)]
theorem s67_0_s0 (h0 h1_0 h1_1 h1_2 h1_3:List AV) (h1_4:Int) (h2:List AV) (h3:Int) (h4:List AV) (h5:Int) (ce:CallE) (k:Kont) (s:Int) (next:St→Option AV):stepA (codeA c67 ce [] 67 0 (sub [1,1,0,1,0,0] (body Tryz.f67))) (normA [] [1,2,3,4]) next ((E67_0 h0 h1_0 h1_1 h1_2 h1_3 h1_4 h2 h3 h4 h5) (.inl s)) k=G67_0_s0 h0 h1_0 h1_1 h1_2 h1_3 h1_4 h2 h3 h4 h5 s (fun s=>next ((E67_0 h0 h1_0 h1_1 h1_2 h1_3 h1_4 h2 h3 h4 h5) s)) (K67_0 h0 h1_0 h1_1 h1_2 h1_3 h1_4 h2 h3 h4 h5 k) none:=by kernel_rfl
theorem s67_0_s1 (h0 h1_0 h1_1 h1_2 h1_3:List AV) (h1_4:Int) (h2:List AV) (h3:Int) (h4:List AV) (h5:Int) (ce:CallE) (k:Kont) (s:Int × (List AV)) (next:St→Option AV):stepA (codeA c67 ce [] 67 0 (sub [1,1,0,1,0,0] (body Tryz.f67))) (normA [] [1,2,3,4]) next ((E67_0 h0 h1_0 h1_1 h1_2 h1_3 h1_4 h2 h3 h4 h5) (.inr s)) k=G67_0_s1 h0 h1_0 h1_1 h1_2 h1_3 h1_4 h2 h3 h4 h5 s.1 s.2 (fun s=>next ((E67_0 h0 h1_0 h1_1 h1_2 h1_3 h1_4 h2 h3 h4 h5) s)) (K67_0 h0 h1_0 h1_1 h1_2 h1_3 h1_4 h2 h3 h4 h5 k) none:=by kernel_rfl
theorem st67_0 (h0 h1_0 h1_1 h1_2 h1_3:List AV) (h1_4:Int) (h2:List AV) (h3:Int) (h4:List AV) (h5:Int) (ce:CallE) (k:Kont) (s:Int ⊕ (Int × (List AV))) (next:St→Option AV):stepA (codeA c67 ce [] 67 0 (sub [1,1,0,1,0,0] (body Tryz.f67))) (normA [] [1,2,3,4]) next ((E67_0 h0 h1_0 h1_1 h1_2 h1_3 h1_4 h2 h3 h4 h5) s) k=(R67_0 h0 h1_0 h1_1 h1_2 h1_3 h1_4 h2 h3 h4 h5 s).el none (fun s=>next ((E67_0 h0 h1_0 h1_1 h1_2 h1_3 h1_4 h2 h3 h4 h5) s)) (K67_0 h0 h1_0 h1_1 h1_2 h1_3 h1_4 h2 h3 h4 h5 k):=(match s with | .inl s=>(s67_0_s0 h0 h1_0 h1_1 h1_2 h1_3 h1_4 h2 h3 h4 h5 ce k s next).trans (by unfold R67_0;unfold F67_0_s0 G67_0_s0;simp only [el_cond,el_ro,el_sum,el_fail,el_next,el_stop] <;> rfl) | .inr s=>(s67_0_s1 h0 h1_0 h1_1 h1_2 h1_3 h1_4 h2 h3 h4 h5 ce k s next).trans (by unfold R67_0;unfold F67_0_s1 G67_0_s1;simp only [el_cond,el_ro,el_sum,el_fail,el_next,el_stop] <;> rfl))
theorem ok67_0 {ce:CallE}:LoopOK c67 ce [] 67 0 (sub [1,1,0,1,0,0] (body Tryz.f67)):=by
 intro m hm st k r h
 obtain rfl:l67_0=m:=Option.some.inj hm
 unfold l67_0 at h
 split at h
 ·rename_i g0 g1 g2 g3 g4 g5 g6 g7 g8 t4 g9 g10 h0 g11 g12 h1_0 g13 h1_1 g14 h1_2 g15 h1_3 h1_4 g16 g17 h2 g18 h3 g19 g20 h4 g21 g22 g23 g24 h5
  obtain ⟨hg,h⟩:=bif_some h
  simp only [Bool.and_eq_true] at hg
  obtain ⟨⟨⟨⟨⟨⟨⟨⟨⟨⟨⟨⟨⟨⟨⟨⟨⟨⟨⟨⟨⟨⟨⟨⟨q0,q1⟩,q2⟩,q3⟩,q4⟩,q5⟩,q6⟩,q7⟩,q8⟩,q9⟩,q10⟩,q11⟩,q12⟩,q13⟩,q14⟩,q15⟩,q16⟩,q17⟩,q18⟩,q19⟩,q20⟩,q21⟩,q22⟩,q23⟩,q24⟩:=hg
  obtain rfl:=nE q0
  obtain rfl:=bE q1
  obtain rfl:=bE q2
  obtain rfl:=nE q3
  obtain rfl:=bE q4
  obtain rfl:=bE q5
  obtain rfl:=nE q6
  obtain rfl:=bE q7
  obtain rfl:=bE q8
  obtain rfl:=nE q9
  obtain rfl:=cE q10
  obtain rfl:=nE q11
  obtain rfl:=cE q12
  obtain rfl:=cE q13
  obtain rfl:=cE q14
  obtain rfl:=cE q15
  obtain rfl:=nE q16
  obtain rfl:=cE q17
  obtain rfl:=nE q18
  obtain rfl:=nE q19
  obtain rfl:=cE q20
  obtain rfl:=nE q21
  obtain rfl:=nE q22
  obtain rfl:=nE q23
  obtain rfl:=nE q24
  refine ⟨(((h1_3.length:Int) - t4:Int).toNat+1),?_⟩
  rw [← h]
  exact loop_run (E67_0 h0 h1_0 h1_1 h1_2 h1_3 h1_4 h2 h3 h4 h5) (K67_0 h0 h1_0 h1_1 h1_2 h1_3 h1_4 h2 h3 h4 h5 k) (st67_0 h0 h1_0 h1_1 h1_2 h1_3 h1_4 h2 h3 h4 h5 ce k) _ (.inl t4)
 ·rename_i g0 g1 g2 g3 g4 g5 g6 g7 g8 t4 g9 g10 h0 g11 g12 h1_0 g13 h1_1 g14 h1_2 g15 h1_3 h1_4 g16 g17 h2 g18 h3 g19 g20 h4 g21 g22 g23 g24 g25 h5 g26 g27 h6
  obtain ⟨hg,h⟩:=bif_some h
  simp only [Bool.and_eq_true] at hg
  obtain ⟨⟨⟨⟨⟨⟨⟨⟨⟨⟨⟨⟨⟨⟨⟨⟨⟨⟨⟨⟨⟨⟨⟨⟨⟨⟨⟨q0,q1⟩,q2⟩,q3⟩,q4⟩,q5⟩,q6⟩,q7⟩,q8⟩,q9⟩,q10⟩,q11⟩,q12⟩,q13⟩,q14⟩,q15⟩,q16⟩,q17⟩,q18⟩,q19⟩,q20⟩,q21⟩,q22⟩,q23⟩,q24⟩,q25⟩,q26⟩,q27⟩:=hg
  obtain rfl:=nE q0
  obtain rfl:=bE q1
  obtain rfl:=bE q2
  obtain rfl:=nE q3
  obtain rfl:=bE q4
  obtain rfl:=bE q5
  obtain rfl:=nE q6
  obtain rfl:=bE q7
  obtain rfl:=bE q8
  obtain rfl:=nE q9
  obtain rfl:=cE q10
  obtain rfl:=nE q11
  obtain rfl:=cE q12
  obtain rfl:=cE q13
  obtain rfl:=cE q14
  obtain rfl:=cE q15
  obtain rfl:=nE q16
  obtain rfl:=cE q17
  obtain rfl:=nE q18
  obtain rfl:=nE q19
  obtain rfl:=cE q20
  obtain rfl:=nE q21
  obtain rfl:=nE q22
  obtain rfl:=nE q23
  obtain rfl:=nE q24
  obtain rfl:=nE q25
  obtain rfl:=nE q26
  obtain rfl:=cE q27
  refine ⟨(((h1_3.length:Int) - t4:Int).toNat+1),?_⟩
  rw [← h]
  exact loop_run (E67_0 h0 h1_0 h1_1 h1_2 h1_3 h1_4 h2 h3 h4 h5) (K67_0 h0 h1_0 h1_1 h1_2 h1_3 h1_4 h2 h3 h4 h5 k) (st67_0 h0 h1_0 h1_1 h1_2 h1_3 h1_4 h2 h3 h4 h5 ce k) _ (.inr (t4,h6))
 ·cases h
def q67 (xa xb xc xd:List AV) (xe:Int):Bool:=(q138 xa xb xc && (ro (runW (R67_0 (v138_0 xa xb xc) xa xb xc xd xe (v138_1 xa xb xc) 0 (v138_2 xa xb xc) xe) (((xd.length:Int) - 0:Int).toNat+1) (.inl 0)) false (sumE (fun _=>true) (fun p76=>true))))
def v67_0 (xa xb xc xd:List AV) (xe:Int):List AV:=(v138_0 xa xb xc)
def v67_1 (xa xb xc xd:List AV) (xe:Int):List AV:=(v138_1 xa xb xc)
def v67_2 (xa xb xc xd:List AV) (xe:Int):List AV:=(v138_2 xa xb xc)
def v67_3 (xa xb xc xd:List AV) (xe:Int):List AV:=(ro (runW (R67_0 (v138_0 xa xb xc) xa xb xc xd xe (v138_1 xa xb xc) 0 (v138_2 xa xb xc) xe) (((xd.length:Int) - 0:Int).toNat+1) (.inl 0)) [] (sumE (fun _=>([]:List AV)) (fun p76=>p76)))
def v67_4 (xa xb xc xd:List AV) (xe:Int):Int:=xe
theorem e67 (xa xb xc xd:List AV) (xe:Int):funA c67 0 67 [AV.agg [AV.sl [.int .i64] xa,AV.sl [.int .i64] xb,AV.sl [.int .i64,.int .i64] xc,AV.sl [.sl [.int .i64],.int .i64,.bool,.int .i64,.int .i64,.int .i64,.int .i64,.int .i64,.int .i64] xd,Ai xe]]=(bif q138 xa xb xc then (ro (runW (R67_0 (v138_0 xa xb xc) xa xb xc xd xe (v138_1 xa xb xc) 0 (v138_2 xa xb xc) xe) (((xd.length:Int) - 0:Int).toNat+1) (.inl 0)) none (sumE (fun _=>some (AV.agg [AV.fl [.int .i64] (v138_0 xa xb xc),AV.fl [.int .i64] (v138_1 xa xb xc),AV.fl [.int .i64,.int .i64] (v138_2 xa xb xc),AV.fl [.sl [.int .i64],.int .i64,.bool,.int .i64,.int .i64,.int .i64,.int .i64,.int .i64,.int .i64] ([]:List AV),Ai xe])) (fun p76=>some (AV.agg [AV.fl [.int .i64] (v138_0 xa xb xc),AV.fl [.int .i64] (v138_1 xa xb xc),AV.fl [.int .i64,.int .i64] (v138_2 xa xb xc),AV.fl [.sl [.int .i64],.int .i64,.bool,.int .i64,.int .i64,.int .i64,.int .i64,.int .i64,.int .i64] p76,Ai xe]))))
 else none):=by kernel_rfl
def m67:TModel
 | [.agg [.sl g0 xa,.sl g1 xb,.sl g2 xc,.sl g3 xd,.int .i64 xe]]=>bif ctsEq g0 ([.int .i64]) && ctsEq g1 ([.int .i64]) && ctsEq g2 ([.int .i64,.int .i64]) && ctsEq g3 ([.sl [.int .i64],.int .i64,.bool,.int .i64,.int .i64,.int .i64,.int .i64,.int .i64,.int .i64]) then some (q67 xa xb xc xd xe,AV.agg [AV.fl [.int .i64] (v67_0 xa xb xc xd xe),AV.fl [.int .i64] (v67_1 xa xb xc xd xe),AV.fl [.int .i64,.int .i64] (v67_2 xa xb xc xd xe),AV.fl [.sl [.int .i64],.int .i64,.bool,.int .i64,.int .i64,.int .i64,.int .i64,.int .i64,.int .i64] (v67_3 xa xb xc xd xe),AV.int .i64 (v67_4 xa xb xc xd xe)]) else none
 | _=>none
theorem k67:Known Tryz.prog 67:=⟨Tryz.f67,Tryz.func67,by kernel_rfl,by kernel_rfl⟩
theorem meets67:Meets Tryz.prog 67 m67:=by
 refine mt (lvl:=0) (cf:=c67) rfl mixed k67 Tryz.func67 (by kernel_rfl) (loops_cons ok67_0 noLoop) (allT_cons meets138 allT_nil) allM_nil noI fun xs r h=>?_
 unfold m67 at h
 split at h
 ·rename_i g0 xa g1 xb g2 xc g3 xd xe
  obtain ⟨hg,h⟩:=bif_pair h
  simp only [Bool.and_eq_true] at hg
  obtain ⟨⟨⟨q0,q1⟩,q2⟩,q3⟩:=hg
  obtain rfl:=cE q0
  obtain rfl:=cE q1
  obtain rfl:=cE q2
  obtain rfl:=cE q3
  obtain ⟨h1,rfl⟩:=pair_inj h
  exact (e67 xa xb xc xd xe).trans ((brL (brO (fun o:Option (Unit ⊕ ((List AV)))=>some (AV.agg [AV.fl [.int .i64] (v138_0 xa xb xc),AV.fl [.int .i64] (v138_1 xa xb xc),AV.fl [.int .i64,.int .i64] (v138_2 xa xb xc),AV.fl [.sl [.int .i64],.int .i64,.bool,.int .i64,.int .i64,.int .i64,.int .i64,.int .i64,.int .i64] (ro o [] (sumE (fun _=>([]:List AV)) (fun p76=>p76))),Ai xe])) (brS (fun o:Unit ⊕ ((List AV))=>some (AV.agg [AV.fl [.int .i64] (v138_0 xa xb xc),AV.fl [.int .i64] (v138_1 xa xb xc),AV.fl [.int .i64,.int .i64] (v138_2 xa xb xc),AV.fl [.sl [.int .i64],.int .i64,.bool,.int .i64,.int .i64,.int .i64,.int .i64,.int .i64,.int .i64] ((sumE (fun _=>([]:List AV)) (fun p76=>p76)) o),Ai xe])) (fun _=>(fun _=>rfl)) (fun p76=>(fun _=>rfl))))) h1)
 ·cases h
def w139_1 (b4:List AV) (a1:Int):List AV:=b4.set a1.toNat (AV.agg [AV.sl [.int .i64] (fL (b4.getD a1.toNat .undef) 0),AV.int .i64 (fI (b4.getD a1.toNat .undef) 1),AV.bool false,AV.int .i64 (fI (b4.getD a1.toNat .undef) 3),AV.int .i64 (fI (b4.getD a1.toNat .undef) 4),AV.int .i64 (fI (b4.getD a1.toNat .undef) 5),AV.int .i64 (fI (b4.getD a1.toNat .undef) 6),AV.int .i64 (fI (b4.getD a1.toNat .undef) 7),AV.int .i64 (fI (b4.getD a1.toNat .undef) 8)])
def w139_2 (b4:List AV) (a1:Int):List AV:=(w139_1 b4 a1).set a1.toNat (AV.agg [AV.sl [.int .i64] (fL ((w139_1 b4 a1).getD a1.toNat .undef) 0),AV.int .i64 (fI ((w139_1 b4 a1).getD a1.toNat .undef) 1),AV.bool (fB ((w139_1 b4 a1).getD a1.toNat .undef) 2),AV.int .i64 0,AV.int .i64 (fI ((w139_1 b4 a1).getD a1.toNat .undef) 4),AV.int .i64 (fI ((w139_1 b4 a1).getD a1.toNat .undef) 5),AV.int .i64 (fI ((w139_1 b4 a1).getD a1.toNat .undef) 6),AV.int .i64 (fI ((w139_1 b4 a1).getD a1.toNat .undef) 7),AV.int .i64 (fI ((w139_1 b4 a1).getD a1.toNat .undef) 8)])
def w139_3 (b4:List AV) (a1:Int):List AV:=(w139_2 b4 a1).set a1.toNat (AV.agg [AV.sl [.int .i64] (fL ((w139_2 b4 a1).getD a1.toNat .undef) 0),AV.int .i64 (fI ((w139_2 b4 a1).getD a1.toNat .undef) 1),AV.bool (fB ((w139_2 b4 a1).getD a1.toNat .undef) 2),AV.int .i64 (fI ((w139_2 b4 a1).getD a1.toNat .undef) 3),AV.int .i64 0,AV.int .i64 (fI ((w139_2 b4 a1).getD a1.toNat .undef) 5),AV.int .i64 (fI ((w139_2 b4 a1).getD a1.toNat .undef) 6),AV.int .i64 (fI ((w139_2 b4 a1).getD a1.toNat .undef) 7),AV.int .i64 (fI ((w139_2 b4 a1).getD a1.toNat .undef) 8)])
def w139_4 (b4:List AV) (a1:Int):List AV:=(w139_3 b4 a1).set a1.toNat (AV.agg [AV.sl [.int .i64] (fL ((w139_3 b4 a1).getD a1.toNat .undef) 0),AV.int .i64 (fI ((w139_3 b4 a1).getD a1.toNat .undef) 1),AV.bool (fB ((w139_3 b4 a1).getD a1.toNat .undef) 2),AV.int .i64 (fI ((w139_3 b4 a1).getD a1.toNat .undef) 3),AV.int .i64 (fI ((w139_3 b4 a1).getD a1.toNat .undef) 4),AV.int .i64 0,AV.int .i64 (fI ((w139_3 b4 a1).getD a1.toNat .undef) 6),AV.int .i64 (fI ((w139_3 b4 a1).getD a1.toNat .undef) 7),AV.int .i64 (fI ((w139_3 b4 a1).getD a1.toNat .undef) 8)])
def w139_5 (b4:List AV) (a1:Int):List AV:=(w139_4 b4 a1).set a1.toNat (AV.agg [AV.sl [.int .i64] (fL ((w139_4 b4 a1).getD a1.toNat .undef) 0),AV.int .i64 (fI ((w139_4 b4 a1).getD a1.toNat .undef) 1),AV.bool (fB ((w139_4 b4 a1).getD a1.toNat .undef) 2),AV.int .i64 (fI ((w139_4 b4 a1).getD a1.toNat .undef) 3),AV.int .i64 (fI ((w139_4 b4 a1).getD a1.toNat .undef) 4),AV.int .i64 (fI ((w139_4 b4 a1).getD a1.toNat .undef) 5),AV.int .i64 0,AV.int .i64 (fI ((w139_4 b4 a1).getD a1.toNat .undef) 7),AV.int .i64 (fI ((w139_4 b4 a1).getD a1.toNat .undef) 8)])
def w139_6 (b4:List AV) (a1:Int):List AV:=(w139_5 b4 a1).set a1.toNat (AV.agg [AV.sl [.int .i64] (fL ((w139_5 b4 a1).getD a1.toNat .undef) 0),AV.int .i64 (IntKind.i64.wrap (fI ((w139_5 b4 a1).getD a1.toNat .undef) 1+1)),AV.bool (fB ((w139_5 b4 a1).getD a1.toNat .undef) 2),AV.int .i64 (fI ((w139_5 b4 a1).getD a1.toNat .undef) 3),AV.int .i64 (fI ((w139_5 b4 a1).getD a1.toNat .undef) 4),AV.int .i64 (fI ((w139_5 b4 a1).getD a1.toNat .undef) 5),AV.int .i64 (fI ((w139_5 b4 a1).getD a1.toNat .undef) 6),AV.int .i64 (fI ((w139_5 b4 a1).getD a1.toNat .undef) 7),AV.int .i64 (fI ((w139_5 b4 a1).getD a1.toNat .undef) 8)])
def w139_7 (b4:List AV) (a1:Int):List AV:=b4.set a1.toNat (AV.agg [AV.sl [.int .i64] (fL (b4.getD a1.toNat .undef) 0),AV.int .i64 (fI (b4.getD a1.toNat .undef) 1),AV.bool (fB (b4.getD a1.toNat .undef) 2),AV.int .i64 (fI (b4.getD a1.toNat .undef) 3),AV.int .i64 (fI (b4.getD a1.toNat .undef) 4),AV.int .i64 (IntKind.i64.wrap (fI (b4.getD a1.toNat .undef) 5+1)),AV.int .i64 (fI (b4.getD a1.toNat .undef) 6),AV.int .i64 (fI (b4.getD a1.toNat .undef) 7),AV.int .i64 (fI (b4.getD a1.toNat .undef) 8)])
def w139_8 (b4:List AV) (a1:Int):List AV:=b4.set a1.toNat (AV.agg [AV.sl [.int .i64] (fL (b4.getD a1.toNat .undef) 0),AV.int .i64 (fI (b4.getD a1.toNat .undef) 1),AV.bool (fB (b4.getD a1.toNat .undef) 2),AV.int .i64 (fI (b4.getD a1.toNat .undef) 3),AV.int .i64 (fI (b4.getD a1.toNat .undef) 4),AV.int .i64 (fI (b4.getD a1.toNat .undef) 5),AV.int .i64 (IntKind.i64.wrap (fI (b4.getD a1.toNat .undef) 6 - 1)),AV.int .i64 (fI (b4.getD a1.toNat .undef) 7),AV.int .i64 (fI (b4.getD a1.toNat .undef) 8)])
def w139_9 (b4:List AV) (a1:Int):List AV:=(w139_7 b4 a1).set a1.toNat (AV.agg [AV.sl [.int .i64] (fL ((w139_7 b4 a1).getD a1.toNat .undef) 0),AV.int .i64 (fI ((w139_7 b4 a1).getD a1.toNat .undef) 1),AV.bool (fB ((w139_7 b4 a1).getD a1.toNat .undef) 2),AV.int .i64 (fI ((w139_7 b4 a1).getD a1.toNat .undef) 3),AV.int .i64 (fI ((w139_7 b4 a1).getD a1.toNat .undef) 4),AV.int .i64 (fI ((w139_7 b4 a1).getD a1.toNat .undef) 5),AV.int .i64 (IntKind.i64.wrap (fI ((w139_7 b4 a1).getD a1.toNat .undef) 6 - 1)),AV.int .i64 (fI ((w139_7 b4 a1).getD a1.toNat .undef) 7),AV.int .i64 (fI ((w139_7 b4 a1).getD a1.toNat .undef) 8)])
def w139_10 (b4:List AV) (a1:Int):List AV:=(w139_9 b4 a1).set a1.toNat (AV.agg [AV.sl [.int .i64] (fL ((w139_9 b4 a1).getD a1.toNat .undef) 0),AV.int .i64 (fI ((w139_9 b4 a1).getD a1.toNat .undef) 1),AV.bool (fB ((w139_9 b4 a1).getD a1.toNat .undef) 2),AV.int .i64 (fI ((w139_9 b4 a1).getD a1.toNat .undef) 3),AV.int .i64 (fI ((w139_9 b4 a1).getD a1.toNat .undef) 4),AV.int .i64 (fI ((w139_9 b4 a1).getD a1.toNat .undef) 5),AV.int .i64 (fI ((w139_9 b4 a1).getD a1.toNat .undef) 6),AV.int .i64 (IntKind.i64.wrap (fI ((w139_9 b4 a1).getD a1.toNat .undef) 7+1)),AV.int .i64 (fI ((w139_9 b4 a1).getD a1.toNat .undef) 8)])
noncomputable def c139:Cfg:=cfg Tryz.prog [(139,999,[]),(139,1000,[])] [(103,m103)] [(149,.w m149)] [] []
def T139 {β:Type} (k:((List AV) × (List AV) × (List AV) × (List AV) × Int)→β) (n:β) (a1:Int) (b0:Int) (b1:List AV) (b2:List AV) (b3:List AV) (b4:List AV):β:=(bif (decide (0≤a1) && decide (a1<(b4.length:Int))) then (bif (decide (0≤fI (b4.getD a1.toNat .undef) 1) && decide (fI (b4.getD a1.toNat .undef) 1<((fL (b4.getD a1.toNat .undef) 0).length:Int))) then (bif decide (fI (b4.getD a1.toNat .undef) 5 > fI (b4.getD a1.toNat .undef) 6) then (bif q103 b1 b2 b3 (fI ((fL (b4.getD a1.toNat .undef) 0).getD (fI (b4.getD a1.toNat .undef) 1).toNat .undef) 0) (fI (b4.getD a1.toNat .undef) 5) then k ((v103_0 b1 b2 b3 (fI ((fL (b4.getD a1.toNat .undef) 0).getD (fI (b4.getD a1.toNat .undef) 1).toNat .undef) 0) (fI (b4.getD a1.toNat .undef) 5)),(v103_1 b1 b2 b3 (fI ((fL (b4.getD a1.toNat .undef) 0).getD (fI (b4.getD a1.toNat .undef) 1).toNat .undef) 0) (fI (b4.getD a1.toNat .undef) 5)),(v103_2 b1 b2 b3 (fI ((fL (b4.getD a1.toNat .undef) 0).getD (fI (b4.getD a1.toNat .undef) 1).toNat .undef) 0) (fI (b4.getD a1.toNat .undef) 5)),(w139_6 b4 a1),b0)
 else n)
 else (bif (decide (0≤fI (b4.getD a1.toNat .undef) 5) && decide (fI (b4.getD a1.toNat .undef) 5<(b1.length:Int))) then (bif decide (fI (b1.getD (fI (b4.getD a1.toNat .undef) 5).toNat .undef) 0<fI ((fL (b4.getD a1.toNat .undef) 0).getD (fI (b4.getD a1.toNat .undef) 1).toNat .undef) 0) then k (b1,b2,b3,(w139_7 b4 a1),b0)
 else (bif (decide (0≤fI (b4.getD a1.toNat .undef) 6) && decide (fI (b4.getD a1.toNat .undef) 6<(b1.length:Int))) then (bif decide (fI (b1.getD (fI (b4.getD a1.toNat .undef) 6).toNat .undef) 0 ≥ fI ((fL (b4.getD a1.toNat .undef) 0).getD (fI (b4.getD a1.toNat .undef) 1).toNat .undef) 0) then k (b1,b2,b3,(w139_8 b4 a1),b0)
 else (bif q149 (fI (b4.getD a1.toNat .undef) 5) (fI (b4.getD a1.toNat .undef) 6) b1 then (bif q149 (fI (b4.getD a1.toNat .undef) 5) (fI (b4.getD a1.toNat .undef) 6) b2 then k ((v149_0 (fI (b4.getD a1.toNat .undef) 5) (fI (b4.getD a1.toNat .undef) 6) b1),(v149_0 (fI (b4.getD a1.toNat .undef) 5) (fI (b4.getD a1.toNat .undef) 6) b2),b3,(w139_10 b4 a1),b0)
 else n)
 else n))
 else n))
 else n))
 else n)
 else n)
abbrev W139 (a1:Int) (b0:Int) (b1:List AV) (b2:List AV) (b3:List AV) (b4:List AV):Option ((List AV) × (List AV) × (List AV) × (List AV) × Int):=T139 some none a1 b0 b1 b2 b3 b4
theorem n139 {β:Type} (k:((List AV) × (List AV) × (List AV) × (List AV) × Int)→β) (n:β) (a1:Int) (b0:Int) (b1:List AV) (b2:List AV) (b3:List AV) (b4:List AV):T139 k n a1 b0 b1 b2 b3 b4=oe k n (W139 a1 b0 b1 b2 b3 b4):=by
 unfold W139 T139
 simp only [oe_cond,oe_ro,oe_sum,oe_some,oe_none]
def q139 (a1 b0:Int) (b1 b2 b3 b4:List AV):Bool:=(W139 a1 b0 b1 b2 b3 b4).isSome
def v139_0 (a1 b0:Int) (b1 b2 b3 b4:List AV):List AV:=oe (fun t=>t.1) [] (W139 a1 b0 b1 b2 b3 b4)
def v139_1 (a1 b0:Int) (b1 b2 b3 b4:List AV):List AV:=oe (fun t=>t.2.1) [] (W139 a1 b0 b1 b2 b3 b4)
def v139_2 (a1 b0:Int) (b1 b2 b3 b4:List AV):List AV:=oe (fun t=>t.2.2.1) [] (W139 a1 b0 b1 b2 b3 b4)
def v139_3 (a1 b0:Int) (b1 b2 b3 b4:List AV):List AV:=oe (fun t=>t.2.2.2.1) [] (W139 a1 b0 b1 b2 b3 b4)
def v139_4 (a1 b0:Int) (b1 b2 b3 b4:List AV):Int:=oe (fun t=>t.2.2.2.2) 0 (W139 a1 b0 b1 b2 b3 b4)
theorem e139 (a1 b0:Int) (b1 b2 b3 b4:List AV) (K:List AV→List (Option Blk)→Option AV):inlA c139 1 139 [AV.ptr [1] 0 0,Ai a1] [0] (canH 1 [⟨true,[],[AV.agg [AV.own [2],AV.own [3],AV.own [4],AV.own [5],Ai b0]]⟩,⟨false,[.int .i64],b1⟩,⟨false,[.int .i64],b2⟩,⟨false,[.int .i64,.int .i64],b3⟩,⟨false,[.sl [.int .i64],.int .i64,.bool,.int .i64,.int .i64,.int .i64,.int .i64,.int .i64,.int .i64],b4⟩]) (keepG Tryz.prog 5 [] [1,2,3,4] K)=T139 (fun t=>K [] [some ⟨true,[],[AV.agg [AV.fl [.int .i64] t.1,AV.fl [.int .i64] t.2.1,AV.fl [.int .i64,.int .i64] t.2.2.1,AV.fl [.sl [.int .i64],.int .i64,.bool,.int .i64,.int .i64,.int .i64,.int .i64,.int .i64,.int .i64] t.2.2.2.1,Ai t.2.2.2.2]]⟩,none,none,none,none]) none a1 b0 b1 b2 b3 b4:=by kernel_rfl
theorem r139 (a1 b0:Int) (b1 b2 b3 b4:List AV) (K:List AV→List (Option Blk)→Option AV) (h:q139 a1 b0 b1 b2 b3 b4=true):inlA c139 1 139 [AV.ptr [1] 0 0,AV.int .i64 a1] [0] (canH 1 [⟨true,[],[AV.agg [AV.own [2],AV.own [3],AV.own [4],AV.own [5],AV.int .i64 b0]]⟩,⟨false,[.int .i64],b1⟩,⟨false,[.int .i64],b2⟩,⟨false,[.int .i64,.int .i64],b3⟩,⟨false,[.sl [.int .i64],.int .i64,.bool,.int .i64,.int .i64,.int .i64,.int .i64,.int .i64,.int .i64],b4⟩]) (keepG Tryz.prog 5 [] [1,2,3,4] K)=K [] [some ⟨true,[],[AV.agg [AV.fl [.int .i64] (v139_0 a1 b0 b1 b2 b3 b4),AV.fl [.int .i64] (v139_1 a1 b0 b1 b2 b3 b4),AV.fl [.int .i64,.int .i64] (v139_2 a1 b0 b1 b2 b3 b4),AV.fl [.sl [.int .i64],.int .i64,.bool,.int .i64,.int .i64,.int .i64,.int .i64,.int .i64,.int .i64] (v139_3 a1 b0 b1 b2 b3 b4),AV.int .i64 (v139_4 a1 b0 b1 b2 b3 b4)]]⟩,none,none,none,none]:=by
 refine ((e139 a1 b0 b1 b2 b3 b4 K).trans (n139 _ _ a1 b0 b1 b2 b3 b4)).trans ?_
 unfold q139 at h
 unfold v139_0 v139_1 v139_2 v139_3 v139_4
 generalize W139 a1 b0 b1 b2 b3 b4=o at *
 cases o with
 | none=>cases h
 | some t=>rfl
def m139:GModel
 | [.ptr g0 g1 g2,.int .i64 a1],[⟨true,[],[.agg [.own g3,.own g4,.own g5,.own g6,.int .i64 b0]]⟩,⟨false,g7,b1⟩,⟨false,g8,b2⟩,⟨false,g9,b3⟩,⟨false,g10,b4⟩]=>bif nmEq g0 ([1]) && Nat.beq g1 0 && Nat.beq g2 0 && nmEq g3 ([2]) && nmEq g4 ([3]) && nmEq g5 ([4]) && nmEq g6 ([5]) && ctsEq g7 ([.int .i64]) && ctsEq g8 ([.int .i64]) && ctsEq g9 ([.int .i64,.int .i64]) && ctsEq g10 ([.sl [.int .i64],.int .i64,.bool,.int .i64,.int .i64,.int .i64,.int .i64,.int .i64,.int .i64]) then some (q139 a1 b0 b1 b2 b3 b4,[],[some ⟨true,[],[AV.agg [AV.fl [.int .i64] (v139_0 a1 b0 b1 b2 b3 b4),AV.fl [.int .i64] (v139_1 a1 b0 b1 b2 b3 b4),AV.fl [.int .i64,.int .i64] (v139_2 a1 b0 b1 b2 b3 b4),AV.fl [.sl [.int .i64],.int .i64,.bool,.int .i64,.int .i64,.int .i64,.int .i64,.int .i64,.int .i64] (v139_3 a1 b0 b1 b2 b3 b4),AV.int .i64 (v139_4 a1 b0 b1 b2 b3 b4)]]⟩,none,none,none,none]) else none
 | _,_=>none
theorem k139:Known Tryz.prog 139:=⟨Tryz.f139,Tryz.func139,by kernel_rfl,by kernel_rfl⟩
theorem meets139:MeetsG Tryz.prog 139 m139:=by
 refine mg (rt:=[]) (gs:=[1,2,3,4]) (lvl:=0) (cf:=c139) rfl mixed k139 Tryz.func139 (by kernel_rfl) noLoop (allT_cons meets103 allT_nil) (allM_cons meets149 allM_nil) noI fun xs bs r bs' h K=>?_
 unfold m139 at h
 split at h
 ·rename_i g0 g1 g2 a1 g3 g4 g5 g6 b0 g7 b1 g8 b2 g9 b3 g10 b4
  obtain ⟨hg,h⟩:=bif_pair h
  simp only [Bool.and_eq_true] at hg
  obtain ⟨⟨⟨⟨⟨⟨⟨⟨⟨⟨q0,q1⟩,q2⟩,q3⟩,q4⟩,q5⟩,q6⟩,q7⟩,q8⟩,q9⟩,q10⟩:=hg
  obtain rfl:=nE q0
  obtain rfl:=bE q1
  obtain rfl:=bE q2
  obtain rfl:=nE q3
  obtain rfl:=nE q4
  obtain rfl:=nE q5
  obtain rfl:=nE q6
  obtain rfl:=cE q7
  obtain rfl:=cE q8
  obtain rfl:=cE q9
  obtain rfl:=cE q10
  obtain ⟨h1,rfl,rfl⟩:=trip_inj h
  exact r139 a1 b0 b1 b2 b3 b4 K h1
 ·cases h
def G141_0 {β:Type} (t1:Int) (t8:Int) (t9:Int) (h0_0:List AV) (h0_1:List AV) (h0_2:List AV) (h0_3:List AV) (h0_4:Int) (t10:Int) (N:(Int)→β) (K:(Unit ⊕ Int)→β) (d:β):β:=(bif decide (t10<(h0_3.length:Int)) then (bif !decide (t10=t1) then (bif (decide (0≤t10) && decide (t10<(h0_3.length:Int))) then (bif (v74_0 (fL (h0_3.getD t10.toNat .undef) 0) (fI (h0_3.getD t10.toNat .undef) 1) (fB (h0_3.getD t10.toNat .undef) 2) (fI (h0_3.getD t10.toNat .undef) 3) (fI (h0_3.getD t10.toNat .undef) 4) (fI (h0_3.getD t10.toNat .undef) 5) (fI (h0_3.getD t10.toNat .undef) 6) (fI (h0_3.getD t10.toNat .undef) 7) (fI (h0_3.getD t10.toNat .undef) 8) t8 t9) then K (.inr t10)
 else N (IntKind.i64.wrap (t10+1)))
 else d)
 else N (IntKind.i64.wrap (t10+1)))
 else K (.inl ()))
def F141_0 (t1 t8 t9:Int) (h0_0 h0_1 h0_2 h0_3:List AV) (h0_4 t10:Int):Out (Int) (Unit ⊕ Int):=G141_0 t1 t8 t9 h0_0 h0_1 h0_2 h0_3 h0_4 t10 .next .stop .fail
def R141_0 (t1 t8 t9:Int) (h0_0 h0_1 h0_2 h0_3:List AV) (h0_4:Int):(Int)→Out (Int) (Unit ⊕ Int):=fun s:Int=>F141_0 t1 t8 t9 h0_0 h0_1 h0_2 h0_3 h0_4 s
def E141_0 (t1 t8 t9:Int) (h0_0 h0_1 h0_2 h0_3:List AV) (h0_4:Int):(Int)→St:=fun s:Int=>⟨[(1,Ai t1),(2,AV.ptr [0,2] 0 0),(8,Ai t8),(9,Ai t9),(10,Ai s)],[([0,2],⟨true,[],[AV.agg [AV.sl [.int .i64] h0_0,AV.sl [.int .i64] h0_1,AV.sl [.int .i64,.int .i64] h0_2,AV.sl [.sl [.int .i64],.int .i64,.bool,.int .i64,.int .i64,.int .i64,.int .i64,.int .i64,.int .i64] h0_3,Ai h0_4]]⟩)]⟩
def K141_0 (t1 t8 t9:Int) (h0_0 h0_1 h0_2 h0_3:List AV) (h0_4:Int) (k:Kont):(Unit ⊕ Int)→Option AV:=sumE (fun _:Unit=>k (.exit 0) ⟨[],[([0,2],⟨true,[],[AV.agg [AV.sl [.int .i64] h0_0,AV.sl [.int .i64] h0_1,AV.sl [.int .i64,.int .i64] h0_2,AV.sl [.sl [.int .i64],.int .i64,.bool,.int .i64,.int .i64,.int .i64,.int .i64,.int .i64,.int .i64] h0_3,Ai h0_4]]⟩)]⟩) (fun p:Int=>k .ret ⟨[(4,Ai p)],[([0,2],⟨true,[],[AV.agg [AV.sl [.int .i64] h0_0,AV.sl [.int .i64] h0_1,AV.sl [.int .i64,.int .i64] h0_2,AV.sl [.sl [.int .i64],.int .i64,.bool,.int .i64,.int .i64,.int .i64,.int .i64,.int .i64,.int .i64] h0_3,Ai h0_4]]⟩)]⟩)
def l141_0:LModel:=fun _ _ st k=>match st with
 | ⟨[(1,.int .i64 t1),(2,.ptr g0 g1 g2),(8,.int .i64 t8),(9,.int .i64 t9),(10,.int .i64 t10)],[(g3,⟨true,[],[.agg [.sl g4 h0_0,.sl g5 h0_1,.sl g6 h0_2,.sl g7 h0_3,.int .i64 h0_4]]⟩)]⟩=>bif nmEq g0 ([0,2]) && Nat.beq g1 0 && Nat.beq g2 0 && nmEq g3 ([0,2]) && ctsEq g4 ([.int .i64]) && ctsEq g5 ([.int .i64]) && ctsEq g6 ([.int .i64,.int .i64]) && ctsEq g7 ([.sl [.int .i64],.int .i64,.bool,.int .i64,.int .i64,.int .i64,.int .i64,.int .i64,.int .i64]) then ro (runW (R141_0 t1 t8 t9 h0_0 h0_1 h0_2 h0_3 h0_4) (((h0_3.length:Int) - t10:Int).toNat+1) t10) none (K141_0 t1 t8 t9 h0_0 h0_1 h0_2 h0_3 h0_4 k) else none
 | _=>none
noncomputable def c141:Cfg:=cfg Tryz.prog [(141,0,[1,2,8,9,10]),(141,999,[4]),(141,1000,[]),(141,1001,[1,2,8,9,10])] [(13,m13),(21,m21),(72,m72),(74,m74),(101,m101)] [] [] [(141,0,l141_0)]
theorem s141_0 (t1 t8 t9:Int) (h0_0 h0_1 h0_2 h0_3:List AV) (h0_4:Int) (ce:CallE) (k:Kont) (s:Int) (next:St→Option AV):stepA (codeA c141 ce [] 141 0 (sub [1,1,1,1,1,0,1,0,0] (body Tryz.f141))) (normA [] [1,2,8,9,10]) next ((E141_0 t1 t8 t9 h0_0 h0_1 h0_2 h0_3 h0_4) s) k=G141_0 t1 t8 t9 h0_0 h0_1 h0_2 h0_3 h0_4 s (fun s=>next ((E141_0 t1 t8 t9 h0_0 h0_1 h0_2 h0_3 h0_4) s)) (K141_0 t1 t8 t9 h0_0 h0_1 h0_2 h0_3 h0_4 k) none:=by kernel_rfl
theorem st141_0 (t1 t8 t9:Int) (h0_0 h0_1 h0_2 h0_3:List AV) (h0_4:Int) (ce:CallE) (k:Kont) (s:Int) (next:St→Option AV):stepA (codeA c141 ce [] 141 0 (sub [1,1,1,1,1,0,1,0,0] (body Tryz.f141))) (normA [] [1,2,8,9,10]) next ((E141_0 t1 t8 t9 h0_0 h0_1 h0_2 h0_3 h0_4) s) k=(R141_0 t1 t8 t9 h0_0 h0_1 h0_2 h0_3 h0_4 s).el none (fun s=>next ((E141_0 t1 t8 t9 h0_0 h0_1 h0_2 h0_3 h0_4) s)) (K141_0 t1 t8 t9 h0_0 h0_1 h0_2 h0_3 h0_4 k):=(s141_0 t1 t8 t9 h0_0 h0_1 h0_2 h0_3 h0_4 ce k s next).trans (by unfold R141_0;unfold F141_0 G141_0;simp only [el_cond,el_ro,el_sum,el_fail,el_next,el_stop] <;> rfl)
theorem ok141_0 {ce:CallE}:LoopOK c141 ce [] 141 0 (sub [1,1,1,1,1,0,1,0,0] (body Tryz.f141)):=by
 intro m hm st k r h
 obtain rfl:l141_0=m:=Option.some.inj hm
 unfold l141_0 at h
 split at h
 ·rename_i t1 g0 g1 g2 t8 t9 t10 g3 g4 h0_0 g5 h0_1 g6 h0_2 g7 h0_3 h0_4
  obtain ⟨hg,h⟩:=bif_some h
  simp only [Bool.and_eq_true] at hg
  obtain ⟨⟨⟨⟨⟨⟨⟨q0,q1⟩,q2⟩,q3⟩,q4⟩,q5⟩,q6⟩,q7⟩:=hg
  obtain rfl:=nE q0
  obtain rfl:=bE q1
  obtain rfl:=bE q2
  obtain rfl:=nE q3
  obtain rfl:=cE q4
  obtain rfl:=cE q5
  obtain rfl:=cE q6
  obtain rfl:=cE q7
  refine ⟨(((h0_3.length:Int) - t10:Int).toNat+1),?_⟩
  rw [← h]
  exact loop_run (E141_0 t1 t8 t9 h0_0 h0_1 h0_2 h0_3 h0_4) (K141_0 t1 t8 t9 h0_0 h0_1 h0_2 h0_3 h0_4 k) (st141_0 t1 t8 t9 h0_0 h0_1 h0_2 h0_3 h0_4 ce k) _ t10
 ·cases h
def q141 (xa xb xc xd:List AV) (xe a1:Int):Bool:=(q13 xa xb xc xd xe && (bif !(v13_0 xa xb xc xd xe) then true else (bif !(v72_0 a1 0 (IntKind.i64.wrap ((xd.length:Int) - 1))) then true else ((decide (0≤a1) && decide (a1<(xd.length:Int))) && (bif fB (xd.getD a1.toNat .undef) 2 then true else ((decide (0≤a1) && decide (a1<(xd.length:Int))) && ((decide (0≤a1) && decide (a1<(xd.length:Int))) && (bif decide (fI (xd.getD a1.toNat .undef) 1=((fL (xd.getD a1.toNat .undef) 0).length:Int)) then true else ((decide (0≤a1) && decide (a1<(xd.length:Int))) && ((decide (0≤a1) && decide (a1<(xd.length:Int))) && ((decide (0≤fI (xd.getD a1.toNat .undef) 1) && decide (fI (xd.getD a1.toNat .undef) 1<((fL (xd.getD a1.toNat .undef) 0).length:Int))) && (q21 xa xb xc (fI ((fL (xd.getD a1.toNat .undef) 0).getD (fI (xd.getD a1.toNat .undef) 1).toNat .undef) 0) && (bif (v21_1 xa xb xc (fI ((fL (xd.getD a1.toNat .undef) 0).getD (fI (xd.getD a1.toNat .undef) 1).toNat .undef) 0)) then true else (q101 xa xb xc (fI ((fL (xd.getD a1.toNat .undef) 0).getD (fI (xd.getD a1.toNat .undef) 1).toNat .undef) 0) && (ro (runW (R141_0 a1 (v101_0 xa xb xc (fI ((fL (xd.getD a1.toNat .undef) 0).getD (fI (xd.getD a1.toNat .undef) 1).toNat .undef) 0)) (v101_1 xa xb xc (fI ((fL (xd.getD a1.toNat .undef) 0).getD (fI (xd.getD a1.toNat .undef) 1).toNat .undef) 0)) xa xb xc xd xe) (((xd.length:Int) - 0:Int).toNat+1) 0) false (sumE (fun _=>true) (fun p78=>true)))))))))))))))))
def v141_0 (xa xb xc xd:List AV) (xe a1:Int):Int:=(bif !(v13_0 xa xb xc xd xe) then (-1) else (bif !(v72_0 a1 0 (IntKind.i64.wrap ((xd.length:Int) - 1))) then (-1) else (bif fB (xd.getD a1.toNat .undef) 2 then (-1) else (bif decide (fI (xd.getD a1.toNat .undef) 1=((fL (xd.getD a1.toNat .undef) 0).length:Int)) then (-1) else (bif (v21_1 xa xb xc (fI ((fL (xd.getD a1.toNat .undef) 0).getD (fI (xd.getD a1.toNat .undef) 1).toNat .undef) 0)) then (-1) else (ro (runW (R141_0 a1 (v101_0 xa xb xc (fI ((fL (xd.getD a1.toNat .undef) 0).getD (fI (xd.getD a1.toNat .undef) 1).toNat .undef) 0)) (v101_1 xa xb xc (fI ((fL (xd.getD a1.toNat .undef) 0).getD (fI (xd.getD a1.toNat .undef) 1).toNat .undef) 0)) xa xb xc xd xe) (((xd.length:Int) - 0:Int).toNat+1) 0) 0 (sumE (fun _=>(-1)) (fun p78=>p78))))))))
theorem e141 (xa xb xc xd:List AV) (xe a1:Int):funA c141 0 141 [AV.agg [AV.sl [.int .i64] xa,AV.sl [.int .i64] xb,AV.sl [.int .i64,.int .i64] xc,AV.sl [.sl [.int .i64],.int .i64,.bool,.int .i64,.int .i64,.int .i64,.int .i64,.int .i64,.int .i64] xd,Ai xe],Ai a1]=(bif q13 xa xb xc xd xe then (bif !(v13_0 xa xb xc xd xe) then some (Ai (-1))
 else (bif !(v72_0 a1 0 (IntKind.i64.wrap ((xd.length:Int) - 1))) then some (Ai (-1))
 else (bif (decide (0≤a1) && decide (a1<(xd.length:Int))) then (bif fB (xd.getD a1.toNat .undef) 2 then some (Ai (-1))
 else (bif (decide (0≤a1) && decide (a1<(xd.length:Int))) then (bif (decide (0≤a1) && decide (a1<(xd.length:Int))) then (bif decide (fI (xd.getD a1.toNat .undef) 1=((fL (xd.getD a1.toNat .undef) 0).length:Int)) then some (Ai (-1))
 else (bif (decide (0≤a1) && decide (a1<(xd.length:Int))) then (bif (decide (0≤a1) && decide (a1<(xd.length:Int))) then (bif (decide (0≤fI (xd.getD a1.toNat .undef) 1) && decide (fI (xd.getD a1.toNat .undef) 1<((fL (xd.getD a1.toNat .undef) 0).length:Int))) then (bif q21 xa xb xc (fI ((fL (xd.getD a1.toNat .undef) 0).getD (fI (xd.getD a1.toNat .undef) 1).toNat .undef) 0) then (bif (v21_1 xa xb xc (fI ((fL (xd.getD a1.toNat .undef) 0).getD (fI (xd.getD a1.toNat .undef) 1).toNat .undef) 0)) then some (Ai (-1))
 else (bif q101 xa xb xc (fI ((fL (xd.getD a1.toNat .undef) 0).getD (fI (xd.getD a1.toNat .undef) 1).toNat .undef) 0) then (ro (runW (R141_0 a1 (v101_0 xa xb xc (fI ((fL (xd.getD a1.toNat .undef) 0).getD (fI (xd.getD a1.toNat .undef) 1).toNat .undef) 0)) (v101_1 xa xb xc (fI ((fL (xd.getD a1.toNat .undef) 0).getD (fI (xd.getD a1.toNat .undef) 1).toNat .undef) 0)) xa xb xc xd xe) (((xd.length:Int) - 0:Int).toNat+1) 0) none (sumE (fun _=>some (Ai (-1))) (fun p78=>some (Ai p78))))
 else none))
 else none)
 else none)
 else none)
 else none))
 else none)
 else none))
 else none)))
 else none):=by kernel_rfl
theorem r141 (xa xb xc xd:List AV) (xe a1:Int) (h:q141 xa xb xc xd xe a1=true):funA c141 0 141 [AV.agg [AV.sl [.int .i64] xa,AV.sl [.int .i64] xb,AV.sl [.int .i64,.int .i64] xc,AV.sl [.sl [.int .i64],.int .i64,.bool,.int .i64,.int .i64,.int .i64,.int .i64,.int .i64,.int .i64] xd,AV.int .i64 xe],AV.int .i64 a1]=some (AV.int .i64 (v141_0 xa xb xc xd xe a1)):=by
 refine (e141 xa xb xc xd xe a1).trans ?_
 unfold q141 at h
 unfold v141_0
 refine ifG (fun hc=>?_) (fun hc=>?_) <;> first|rw [hc] at h ⊢|rw [hc] at h|rw [hc]|skip
 ·refine ifG (fun hc=>?_) (fun hc=>?_) <;> first|rw [hc] at h ⊢|rw [hc] at h|rw [hc]|skip
  ·rfl
  ·refine ifG (fun hc=>?_) (fun hc=>?_) <;> first|rw [hc] at h ⊢|rw [hc] at h|rw [hc]|skip
   ·rfl
   ·refine ifG (fun hc=>?_) (fun hc=>?_) <;> first|rw [hc] at h ⊢|rw [hc] at h|rw [hc]|skip
    ·refine ifG (fun hc=>?_) (fun hc=>?_) <;> first|rw [hc] at h ⊢|rw [hc] at h|rw [hc]|skip
     ·rfl
     ·refine ifT ?_
      refine ifT ?_
      refine ifG (fun hc=>?_) (fun hc=>?_) <;> first|rw [hc] at h ⊢|rw [hc] at h|rw [hc]|skip
      ·rfl
      ·refine ifT ?_
       refine ifT ?_
       refine ifG (fun hc=>?_) (fun hc=>?_) <;> first|rw [hc] at h ⊢|rw [hc] at h|rw [hc]|skip
       ·refine ifG (fun hc=>?_) (fun hc=>?_) <;> first|rw [hc] at h ⊢|rw [hc] at h|rw [hc]|skip
        ·refine ifG (fun hc=>?_) (fun hc=>?_) <;> first|rw [hc] at h ⊢|rw [hc] at h|rw [hc]|skip
         ·rfl
         ·refine ifG (fun hc=>?_) (fun hc=>?_) <;> first|rw [hc] at h ⊢|rw [hc] at h|rw [hc]|skip
          ·refine roG (fun hc=>?_) (fun r hc=>?_) <;> first|rw [hc] at h ⊢|rw [hc] at h|rw [hc]|skip
           ·exact Bool.noConfusion h
           ·try simp only [ro] at h ⊢
            cases r with
            | inl _ =>
             try simp only [sumE] at h ⊢
             rfl
            | inr p78 =>
             try simp only [sumE] at h ⊢
             rfl
          ·first|exact Bool.noConfusion h|exact Bool.noConfusion hc
        ·first|exact Bool.noConfusion h|exact Bool.noConfusion hc
       ·first|exact Bool.noConfusion h|exact Bool.noConfusion hc
    ·first|exact Bool.noConfusion h|exact Bool.noConfusion hc
 ·first|exact Bool.noConfusion h|exact Bool.noConfusion hc
def m141:TModel
 | [.agg [.sl g0 xa,.sl g1 xb,.sl g2 xc,.sl g3 xd,.int .i64 xe],.int .i64 a1]=>bif ctsEq g0 ([.int .i64]) && ctsEq g1 ([.int .i64]) && ctsEq g2 ([.int .i64,.int .i64]) && ctsEq g3 ([.sl [.int .i64],.int .i64,.bool,.int .i64,.int .i64,.int .i64,.int .i64,.int .i64,.int .i64]) then some (q141 xa xb xc xd xe a1,AV.int .i64 (v141_0 xa xb xc xd xe a1)) else none
 | _=>none
theorem k141:Known Tryz.prog 141:=⟨Tryz.f141,Tryz.func141,by kernel_rfl,by kernel_rfl⟩
theorem meets141:Meets Tryz.prog 141 m141:=by
 refine mt (lvl:=0) (cf:=c141) rfl mixed k141 Tryz.func141 (by kernel_rfl) (loops_cons ok141_0 noLoop) (allT_cons meets13 (allT_cons meets21 (allT_cons meets72 (allT_cons meets74 (allT_cons meets101 allT_nil))))) allM_nil noI fun xs r h=>?_
 unfold m141 at h
 split at h
 ·rename_i g0 xa g1 xb g2 xc g3 xd xe a1
  obtain ⟨hg,h⟩:=bif_pair h
  simp only [Bool.and_eq_true] at hg
  obtain ⟨⟨⟨q0,q1⟩,q2⟩,q3⟩:=hg
  obtain rfl:=cE q0
  obtain rfl:=cE q1
  obtain rfl:=cE q2
  obtain rfl:=cE q3
  obtain ⟨h1,rfl⟩:=pair_inj h
  exact r141 xa xb xc xd xe a1 h1
 ·cases h
def w140_1 (b4:List AV) (a1:Int):List AV:=b4.set a1.toNat (AV.agg [AV.sl [.int .i64] (fL (b4.getD a1.toNat .undef) 0),AV.int .i64 (IntKind.i64.wrap (fI (b4.getD a1.toNat .undef) 1+1)),AV.bool (fB (b4.getD a1.toNat .undef) 2),AV.int .i64 (fI (b4.getD a1.toNat .undef) 3),AV.int .i64 (fI (b4.getD a1.toNat .undef) 4),AV.int .i64 (fI (b4.getD a1.toNat .undef) 5),AV.int .i64 (fI (b4.getD a1.toNat .undef) 6),AV.int .i64 (fI (b4.getD a1.toNat .undef) 7),AV.int .i64 (fI (b4.getD a1.toNat .undef) 8)])
def w140_2 (b4:List AV) (a1:Int):List AV:=b4.set a1.toNat (AV.agg [AV.sl [.int .i64] (fL (b4.getD a1.toNat .undef) 0),AV.int .i64 (fI (b4.getD a1.toNat .undef) 1),AV.bool (fB (b4.getD a1.toNat .undef) 2),AV.int .i64 (fI (b4.getD a1.toNat .undef) 3),AV.int .i64 (fI (b4.getD a1.toNat .undef) 4),AV.int .i64 (fI (b4.getD a1.toNat .undef) 5),AV.int .i64 (fI (b4.getD a1.toNat .undef) 6),AV.int .i64 (fI (b4.getD a1.toNat .undef) 7),AV.int .i64 (IntKind.i64.wrap (fI (b4.getD a1.toNat .undef) 8+1))])
def w140_3 (b4:List AV) (a1:Int):List AV:=b4.set a1.toNat (AV.agg [AV.sl [.int .i64] (fL (b4.getD a1.toNat .undef) 0),AV.int .i64 (fI (b4.getD a1.toNat .undef) 1),AV.bool true,AV.int .i64 (fI (b4.getD a1.toNat .undef) 3),AV.int .i64 (fI (b4.getD a1.toNat .undef) 4),AV.int .i64 (fI (b4.getD a1.toNat .undef) 5),AV.int .i64 (fI (b4.getD a1.toNat .undef) 6),AV.int .i64 (fI (b4.getD a1.toNat .undef) 7),AV.int .i64 (fI (b4.getD a1.toNat .undef) 8)])
def w140_4 (b4:List AV) (a1:Int) (b1 b2 b3:List AV):List AV:=(w140_3 b4 a1).set a1.toNat (AV.agg [AV.sl [.int .i64] (fL ((w140_3 b4 a1).getD a1.toNat .undef) 0),AV.int .i64 (fI ((w140_3 b4 a1).getD a1.toNat .undef) 1),AV.bool (fB ((w140_3 b4 a1).getD a1.toNat .undef) 2),AV.int .i64 (v101_0 b1 b2 b3 (fI ((fL (b4.getD a1.toNat .undef) 0).getD (fI (b4.getD a1.toNat .undef) 1).toNat .undef) 0)),AV.int .i64 (fI ((w140_3 b4 a1).getD a1.toNat .undef) 4),AV.int .i64 (fI ((w140_3 b4 a1).getD a1.toNat .undef) 5),AV.int .i64 (fI ((w140_3 b4 a1).getD a1.toNat .undef) 6),AV.int .i64 (fI ((w140_3 b4 a1).getD a1.toNat .undef) 7),AV.int .i64 (fI ((w140_3 b4 a1).getD a1.toNat .undef) 8)])
def w140_5 (b4:List AV) (a1:Int) (b1 b2 b3:List AV):List AV:=(w140_4 b4 a1 b1 b2 b3).set a1.toNat (AV.agg [AV.sl [.int .i64] (fL ((w140_4 b4 a1 b1 b2 b3).getD a1.toNat .undef) 0),AV.int .i64 (fI ((w140_4 b4 a1 b1 b2 b3).getD a1.toNat .undef) 1),AV.bool (fB ((w140_4 b4 a1 b1 b2 b3).getD a1.toNat .undef) 2),AV.int .i64 (fI ((w140_4 b4 a1 b1 b2 b3).getD a1.toNat .undef) 3),AV.int .i64 (v101_1 b1 b2 b3 (fI ((fL (b4.getD a1.toNat .undef) 0).getD (fI (b4.getD a1.toNat .undef) 1).toNat .undef) 0)),AV.int .i64 (fI ((w140_4 b4 a1 b1 b2 b3).getD a1.toNat .undef) 5),AV.int .i64 (fI ((w140_4 b4 a1 b1 b2 b3).getD a1.toNat .undef) 6),AV.int .i64 (fI ((w140_4 b4 a1 b1 b2 b3).getD a1.toNat .undef) 7),AV.int .i64 (fI ((w140_4 b4 a1 b1 b2 b3).getD a1.toNat .undef) 8)])
def w140_6 (b4:List AV) (a1:Int) (b1 b2 b3:List AV):List AV:=(w140_5 b4 a1 b1 b2 b3).set a1.toNat (AV.agg [AV.sl [.int .i64] (fL ((w140_5 b4 a1 b1 b2 b3).getD a1.toNat .undef) 0),AV.int .i64 (fI ((w140_5 b4 a1 b1 b2 b3).getD a1.toNat .undef) 1),AV.bool (fB ((w140_5 b4 a1 b1 b2 b3).getD a1.toNat .undef) 2),AV.int .i64 (fI ((w140_5 b4 a1 b1 b2 b3).getD a1.toNat .undef) 3),AV.int .i64 (fI ((w140_5 b4 a1 b1 b2 b3).getD a1.toNat .undef) 4),AV.int .i64 (v101_0 b1 b2 b3 (fI ((fL (b4.getD a1.toNat .undef) 0).getD (fI (b4.getD a1.toNat .undef) 1).toNat .undef) 0)),AV.int .i64 (fI ((w140_5 b4 a1 b1 b2 b3).getD a1.toNat .undef) 6),AV.int .i64 (fI ((w140_5 b4 a1 b1 b2 b3).getD a1.toNat .undef) 7),AV.int .i64 (fI ((w140_5 b4 a1 b1 b2 b3).getD a1.toNat .undef) 8)])
def w140_7 (b4:List AV) (a1:Int) (b1 b2 b3:List AV):List AV:=(w140_6 b4 a1 b1 b2 b3).set a1.toNat (AV.agg [AV.sl [.int .i64] (fL ((w140_6 b4 a1 b1 b2 b3).getD a1.toNat .undef) 0),AV.int .i64 (fI ((w140_6 b4 a1 b1 b2 b3).getD a1.toNat .undef) 1),AV.bool (fB ((w140_6 b4 a1 b1 b2 b3).getD a1.toNat .undef) 2),AV.int .i64 (fI ((w140_6 b4 a1 b1 b2 b3).getD a1.toNat .undef) 3),AV.int .i64 (fI ((w140_6 b4 a1 b1 b2 b3).getD a1.toNat .undef) 4),AV.int .i64 (fI ((w140_6 b4 a1 b1 b2 b3).getD a1.toNat .undef) 5),AV.int .i64 (IntKind.i64.wrap ((v101_1 b1 b2 b3 (fI ((fL (b4.getD a1.toNat .undef) 0).getD (fI (b4.getD a1.toNat .undef) 1).toNat .undef) 0)) - 1)),AV.int .i64 (fI ((w140_6 b4 a1 b1 b2 b3).getD a1.toNat .undef) 7),AV.int .i64 (fI ((w140_6 b4 a1 b1 b2 b3).getD a1.toNat .undef) 8)])
noncomputable def c140:Cfg:=cfg Tryz.prog [(140,999,[])] [(21,m21),(101,m101)] [] [] []
def T140 {β:Type} (k:((List AV) × (List AV) × (List AV) × (List AV) × Int)→β) (n:β) (a1:Int) (a2:Bool) (b0:Int) (b1:List AV) (b2:List AV) (b3:List AV) (b4:List AV):β:=(bif (decide (0≤a1) && decide (a1<(b4.length:Int))) then (bif (decide (0≤fI (b4.getD a1.toNat .undef) 1) && decide (fI (b4.getD a1.toNat .undef) 1<((fL (b4.getD a1.toNat .undef) 0).length:Int))) then (bif q21 b1 b2 b3 (fI ((fL (b4.getD a1.toNat .undef) 0).getD (fI (b4.getD a1.toNat .undef) 1).toNat .undef) 0) then (bif (v21_1 b1 b2 b3 (fI ((fL (b4.getD a1.toNat .undef) 0).getD (fI (b4.getD a1.toNat .undef) 1).toNat .undef) 0)) then k (b1,b2,b3,(w140_1 b4 a1),b0)
 else (bif a2 then k (b1,b2,b3,(w140_2 b4 a1),b0)
 else (bif q101 b1 b2 b3 (fI ((fL (b4.getD a1.toNat .undef) 0).getD (fI (b4.getD a1.toNat .undef) 1).toNat .undef) 0) then k (b1,b2,b3,(w140_7 b4 a1 b1 b2 b3),b0)
 else n)))
 else n)
 else n)
 else n)
abbrev W140 (a1:Int) (a2:Bool) (b0:Int) (b1:List AV) (b2:List AV) (b3:List AV) (b4:List AV):Option ((List AV) × (List AV) × (List AV) × (List AV) × Int):=T140 some none a1 a2 b0 b1 b2 b3 b4
theorem n140 {β:Type} (k:((List AV) × (List AV) × (List AV) × (List AV) × Int)→β) (n:β) (a1:Int) (a2:Bool) (b0:Int) (b1:List AV) (b2:List AV) (b3:List AV) (b4:List AV):T140 k n a1 a2 b0 b1 b2 b3 b4=oe k n (W140 a1 a2 b0 b1 b2 b3 b4):=by
 unfold W140 T140
 simp only [oe_cond,oe_ro,oe_sum,oe_some,oe_none]
def q140 (a1:Int) (a2:Bool) (b0:Int) (b1 b2 b3 b4:List AV):Bool:=(W140 a1 a2 b0 b1 b2 b3 b4).isSome
def v140_0 (a1:Int) (a2:Bool) (b0:Int) (b1 b2 b3 b4:List AV):List AV:=oe (fun t=>t.1) [] (W140 a1 a2 b0 b1 b2 b3 b4)
def v140_1 (a1:Int) (a2:Bool) (b0:Int) (b1 b2 b3 b4:List AV):List AV:=oe (fun t=>t.2.1) [] (W140 a1 a2 b0 b1 b2 b3 b4)
def v140_2 (a1:Int) (a2:Bool) (b0:Int) (b1 b2 b3 b4:List AV):List AV:=oe (fun t=>t.2.2.1) [] (W140 a1 a2 b0 b1 b2 b3 b4)
def v140_3 (a1:Int) (a2:Bool) (b0:Int) (b1 b2 b3 b4:List AV):List AV:=oe (fun t=>t.2.2.2.1) [] (W140 a1 a2 b0 b1 b2 b3 b4)
def v140_4 (a1:Int) (a2:Bool) (b0:Int) (b1 b2 b3 b4:List AV):Int:=oe (fun t=>t.2.2.2.2) 0 (W140 a1 a2 b0 b1 b2 b3 b4)
theorem e140 (a1:Int) (a2:Bool) (b0:Int) (b1 b2 b3 b4:List AV) (K:List AV→List (Option Blk)→Option AV):inlA c140 1 140 [AV.ptr [1] 0 0,Ai a1,AV.bool a2] [0] (canH 1 [⟨true,[],[AV.agg [AV.own [2],AV.own [3],AV.own [4],AV.own [5],Ai b0]]⟩,⟨false,[.int .i64],b1⟩,⟨false,[.int .i64],b2⟩,⟨false,[.int .i64,.int .i64],b3⟩,⟨false,[.sl [.int .i64],.int .i64,.bool,.int .i64,.int .i64,.int .i64,.int .i64,.int .i64,.int .i64],b4⟩]) (keepG Tryz.prog 5 [] [1,2,3,4] K)=T140 (fun t=>K [] [some ⟨true,[],[AV.agg [AV.fl [.int .i64] t.1,AV.fl [.int .i64] t.2.1,AV.fl [.int .i64,.int .i64] t.2.2.1,AV.fl [.sl [.int .i64],.int .i64,.bool,.int .i64,.int .i64,.int .i64,.int .i64,.int .i64,.int .i64] t.2.2.2.1,Ai t.2.2.2.2]]⟩,none,none,none,none]) none a1 a2 b0 b1 b2 b3 b4:=by kernel_rfl
theorem r140 (a1:Int) (a2:Bool) (b0:Int) (b1 b2 b3 b4:List AV) (K:List AV→List (Option Blk)→Option AV) (h:q140 a1 a2 b0 b1 b2 b3 b4=true):inlA c140 1 140 [AV.ptr [1] 0 0,AV.int .i64 a1,AV.bool a2] [0] (canH 1 [⟨true,[],[AV.agg [AV.own [2],AV.own [3],AV.own [4],AV.own [5],AV.int .i64 b0]]⟩,⟨false,[.int .i64],b1⟩,⟨false,[.int .i64],b2⟩,⟨false,[.int .i64,.int .i64],b3⟩,⟨false,[.sl [.int .i64],.int .i64,.bool,.int .i64,.int .i64,.int .i64,.int .i64,.int .i64,.int .i64],b4⟩]) (keepG Tryz.prog 5 [] [1,2,3,4] K)=K [] [some ⟨true,[],[AV.agg [AV.fl [.int .i64] (v140_0 a1 a2 b0 b1 b2 b3 b4),AV.fl [.int .i64] (v140_1 a1 a2 b0 b1 b2 b3 b4),AV.fl [.int .i64,.int .i64] (v140_2 a1 a2 b0 b1 b2 b3 b4),AV.fl [.sl [.int .i64],.int .i64,.bool,.int .i64,.int .i64,.int .i64,.int .i64,.int .i64,.int .i64] (v140_3 a1 a2 b0 b1 b2 b3 b4),AV.int .i64 (v140_4 a1 a2 b0 b1 b2 b3 b4)]]⟩,none,none,none,none]:=by
 refine ((e140 a1 a2 b0 b1 b2 b3 b4 K).trans (n140 _ _ a1 a2 b0 b1 b2 b3 b4)).trans ?_
 unfold q140 at h
 unfold v140_0 v140_1 v140_2 v140_3 v140_4
 generalize W140 a1 a2 b0 b1 b2 b3 b4=o at *
 cases o with
 | none=>cases h
 | some t=>rfl
def m140:GModel
 | [.ptr g0 g1 g2,.int .i64 a1,.bool a2],[⟨true,[],[.agg [.own g3,.own g4,.own g5,.own g6,.int .i64 b0]]⟩,⟨false,g7,b1⟩,⟨false,g8,b2⟩,⟨false,g9,b3⟩,⟨false,g10,b4⟩]=>bif nmEq g0 ([1]) && Nat.beq g1 0 && Nat.beq g2 0 && nmEq g3 ([2]) && nmEq g4 ([3]) && nmEq g5 ([4]) && nmEq g6 ([5]) && ctsEq g7 ([.int .i64]) && ctsEq g8 ([.int .i64]) && ctsEq g9 ([.int .i64,.int .i64]) && ctsEq g10 ([.sl [.int .i64],.int .i64,.bool,.int .i64,.int .i64,.int .i64,.int .i64,.int .i64,.int .i64]) then some (q140 a1 a2 b0 b1 b2 b3 b4,[],[some ⟨true,[],[AV.agg [AV.fl [.int .i64] (v140_0 a1 a2 b0 b1 b2 b3 b4),AV.fl [.int .i64] (v140_1 a1 a2 b0 b1 b2 b3 b4),AV.fl [.int .i64,.int .i64] (v140_2 a1 a2 b0 b1 b2 b3 b4),AV.fl [.sl [.int .i64],.int .i64,.bool,.int .i64,.int .i64,.int .i64,.int .i64,.int .i64,.int .i64] (v140_3 a1 a2 b0 b1 b2 b3 b4),AV.int .i64 (v140_4 a1 a2 b0 b1 b2 b3 b4)]]⟩,none,none,none,none]) else none
 | _,_=>none
theorem k140:Known Tryz.prog 140:=⟨Tryz.f140,Tryz.func140,by kernel_rfl,by kernel_rfl⟩
theorem meets140:MeetsG Tryz.prog 140 m140:=by
 refine mg (rt:=[]) (gs:=[1,2,3,4]) (lvl:=0) (cf:=c140) rfl mixed k140 Tryz.func140 (by kernel_rfl) noLoop (allT_cons meets21 (allT_cons meets101 allT_nil)) allM_nil noI fun xs bs r bs' h K=>?_
 unfold m140 at h
 split at h
 ·rename_i g0 g1 g2 a1 a2 g3 g4 g5 g6 b0 g7 b1 g8 b2 g9 b3 g10 b4
  obtain ⟨hg,h⟩:=bif_pair h
  simp only [Bool.and_eq_true] at hg
  obtain ⟨⟨⟨⟨⟨⟨⟨⟨⟨⟨q0,q1⟩,q2⟩,q3⟩,q4⟩,q5⟩,q6⟩,q7⟩,q8⟩,q9⟩,q10⟩:=hg
  obtain rfl:=nE q0
  obtain rfl:=bE q1
  obtain rfl:=bE q2
  obtain rfl:=nE q3
  obtain rfl:=nE q4
  obtain rfl:=nE q5
  obtain rfl:=nE q6
  obtain rfl:=cE q7
  obtain rfl:=cE q8
  obtain rfl:=cE q9
  obtain rfl:=cE q10
  obtain ⟨h1,rfl,rfl⟩:=trip_inj h
  exact r140 a1 a2 b0 b1 b2 b3 b4 K h1
 ·cases h
noncomputable def c68:Cfg:=cfg Tryz.prog [(68,999,[4,5])] [(13,m13),(67,m67),(72,m72),(141,m141)] [(139,.g m139),(140,.g m140)] [] []
def T68 {β:Type} (k:((List AV) × (List AV) × (List AV) × (List AV) × Int × Bool)→β) (n:β) (xa:List AV) (xb:List AV) (xc:List AV) (xd:List AV) (xe:Int) (a1:Int):β:=by
 refine (?f0:(List AV)→(List AV)→(List AV)→(List AV)→Int→Int→β) (v67_0 xa xb xc xd xe) (v67_1 xa xb xc xd xe) (v67_2 xa xb xc xd xe) (v67_3 xa xb xc xd xe) (v67_4 xa xb xc xd xe) (v141_0 xa xb xc xd xe a1);intro x1 x2 x3 x4 x5 x6
 exact (bif q67 xa xb xc xd xe then (bif q13 xa xb xc xd xe then (bif !(v13_0 xa xb xc xd xe) then k (x1,x2,x3,x4,x5,false)
 else (bif !(v72_0 a1 0 (IntKind.i64.wrap ((xd.length:Int) - 1))) then k (x1,x2,x3,x4,x5,false)
 else (bif decide (xe ≥ 100000) then k (x1,x2,x3,x4,x5,false)
 else (bif (decide (0≤a1) && decide (a1<(xd.length:Int))) then (bif decide (fI (xd.getD a1.toNat .undef) 8 ≥ 100000) then k (x1,x2,x3,x4,x5,false)
 else (bif (decide (0≤a1) && decide (a1<(xd.length:Int))) then (bif decide (fI (xd.getD a1.toNat .undef) 7 ≥ 100000) then k (x1,x2,x3,x4,x5,false)
 else (bif (decide (0≤a1) && decide (a1<(xd.length:Int))) then (bif (decide (0≤a1) && decide (a1<(xd.length:Int))) then (bif decide (fI (xd.getD a1.toNat .undef) 1=((fL (xd.getD a1.toNat .undef) 0).length:Int)) then k (x1,x2,x3,x4,x5,false)
 else (bif (decide (0≤a1) && decide (a1<(xd.length:Int))) then (bif fB (xd.getD a1.toNat .undef) 2 then (bif q139 a1 x5 x1 x2 x3 x4 then k ((v139_0 a1 x5 x1 x2 x3 x4),(v139_1 a1 x5 x1 x2 x3 x4),(v139_2 a1 x5 x1 x2 x3 x4),(v139_3 a1 x5 x1 x2 x3 x4),IntKind.i64.wrap (xe+1),true)
 else n)
 else (bif q141 xa xb xc xd xe a1 then (bif q140 a1 (decide (x6 ≥ 0)) x5 x1 x2 x3 x4 then k ((v140_0 a1 (decide (x6 ≥ 0)) x5 x1 x2 x3 x4),(v140_1 a1 (decide (x6 ≥ 0)) x5 x1 x2 x3 x4),(v140_2 a1 (decide (x6 ≥ 0)) x5 x1 x2 x3 x4),(v140_3 a1 (decide (x6 ≥ 0)) x5 x1 x2 x3 x4),IntKind.i64.wrap (xe+1),true)
 else n)
 else n))
 else n))
 else n)
 else n))
 else n))
 else n))))
 else n)
 else n)
abbrev W68 (xa:List AV) (xb:List AV) (xc:List AV) (xd:List AV) (xe:Int) (a1:Int):Option ((List AV) × (List AV) × (List AV) × (List AV) × Int × Bool):=T68 some none xa xb xc xd xe a1
theorem n68 {β:Type} (k:((List AV) × (List AV) × (List AV) × (List AV) × Int × Bool)→β) (n:β) (xa:List AV) (xb:List AV) (xc:List AV) (xd:List AV) (xe:Int) (a1:Int):T68 k n xa xb xc xd xe a1=oe k n (W68 xa xb xc xd xe a1):=by
 unfold W68 T68
 simp only [oe_cond,oe_ro,oe_sum,oe_some,oe_none]
def q68 (xa xb xc xd:List AV) (xe a1:Int):Bool:=(W68 xa xb xc xd xe a1).isSome
def v68_0 (xa xb xc xd:List AV) (xe a1:Int):List AV:=oe (fun t=>t.1) [] (W68 xa xb xc xd xe a1)
def v68_1 (xa xb xc xd:List AV) (xe a1:Int):List AV:=oe (fun t=>t.2.1) [] (W68 xa xb xc xd xe a1)
def v68_2 (xa xb xc xd:List AV) (xe a1:Int):List AV:=oe (fun t=>t.2.2.1) [] (W68 xa xb xc xd xe a1)
def v68_3 (xa xb xc xd:List AV) (xe a1:Int):List AV:=oe (fun t=>t.2.2.2.1) [] (W68 xa xb xc xd xe a1)
def v68_4 (xa xb xc xd:List AV) (xe a1:Int):Int:=oe (fun t=>t.2.2.2.2.1) 0 (W68 xa xb xc xd xe a1)
def v68_5 (xa xb xc xd:List AV) (xe a1:Int):Bool:=oe (fun t=>t.2.2.2.2.2) false (W68 xa xb xc xd xe a1)
theorem e68 (xa xb xc xd:List AV) (xe a1:Int):funA c68 0 68 [AV.agg [AV.sl [.int .i64] xa,AV.sl [.int .i64] xb,AV.sl [.int .i64,.int .i64] xc,AV.sl [.sl [.int .i64],.int .i64,.bool,.int .i64,.int .i64,.int .i64,.int .i64,.int .i64,.int .i64] xd,Ai xe],Ai a1]=T68 (fun t=>some (AV.tup [AV.agg [AV.fl [.int .i64] t.1,AV.fl [.int .i64] t.2.1,AV.fl [.int .i64,.int .i64] t.2.2.1,AV.fl [.sl [.int .i64],.int .i64,.bool,.int .i64,.int .i64,.int .i64,.int .i64,.int .i64,.int .i64] t.2.2.2.1,Ai t.2.2.2.2.1],AV.bool t.2.2.2.2.2])) none xa xb xc xd xe a1:=by kernel_rfl
theorem r68 (xa xb xc xd:List AV) (xe a1:Int) (h:q68 xa xb xc xd xe a1=true):funA c68 0 68 [AV.agg [AV.sl [.int .i64] xa,AV.sl [.int .i64] xb,AV.sl [.int .i64,.int .i64] xc,AV.sl [.sl [.int .i64],.int .i64,.bool,.int .i64,.int .i64,.int .i64,.int .i64,.int .i64,.int .i64] xd,AV.int .i64 xe],AV.int .i64 a1]=some (AV.tup [AV.agg [AV.fl [.int .i64] (v68_0 xa xb xc xd xe a1),AV.fl [.int .i64] (v68_1 xa xb xc xd xe a1),AV.fl [.int .i64,.int .i64] (v68_2 xa xb xc xd xe a1),AV.fl [.sl [.int .i64],.int .i64,.bool,.int .i64,.int .i64,.int .i64,.int .i64,.int .i64,.int .i64] (v68_3 xa xb xc xd xe a1),AV.int .i64 (v68_4 xa xb xc xd xe a1)],AV.bool (v68_5 xa xb xc xd xe a1)]):=by
 refine ((e68 xa xb xc xd xe a1).trans (n68 _ _ xa xb xc xd xe a1)).trans ?_
 unfold q68 at h
 unfold v68_0 v68_1 v68_2 v68_3 v68_4 v68_5
 generalize W68 xa xb xc xd xe a1=o at *
 cases o with
 | none=>cases h
 | some t=>rfl
def m68:TModel
 | [.agg [.sl g0 xa,.sl g1 xb,.sl g2 xc,.sl g3 xd,.int .i64 xe],.int .i64 a1]=>bif ctsEq g0 ([.int .i64]) && ctsEq g1 ([.int .i64]) && ctsEq g2 ([.int .i64,.int .i64]) && ctsEq g3 ([.sl [.int .i64],.int .i64,.bool,.int .i64,.int .i64,.int .i64,.int .i64,.int .i64,.int .i64]) then some (q68 xa xb xc xd xe a1,AV.tup [AV.agg [AV.fl [.int .i64] (v68_0 xa xb xc xd xe a1),AV.fl [.int .i64] (v68_1 xa xb xc xd xe a1),AV.fl [.int .i64,.int .i64] (v68_2 xa xb xc xd xe a1),AV.fl [.sl [.int .i64],.int .i64,.bool,.int .i64,.int .i64,.int .i64,.int .i64,.int .i64,.int .i64] (v68_3 xa xb xc xd xe a1),AV.int .i64 (v68_4 xa xb xc xd xe a1)],AV.bool (v68_5 xa xb xc xd xe a1)]) else none
 | _=>none
theorem k68:Known Tryz.prog 68:=⟨Tryz.f68,Tryz.func68,by kernel_rfl,by kernel_rfl⟩
theorem meets68:Meets Tryz.prog 68 m68:=by
 refine mt (lvl:=0) (cf:=c68) rfl mixed k68 Tryz.func68 (by kernel_rfl) noLoop (allT_cons meets13 (allT_cons meets67 (allT_cons meets72 (allT_cons meets141 allT_nil)))) (allG_cons meets139 (allG_cons meets140 allM_nil)) noI fun xs r h=>?_
 unfold m68 at h
 split at h
 ·rename_i g0 xa g1 xb g2 xc g3 xd xe a1
  obtain ⟨hg,h⟩:=bif_pair h
  simp only [Bool.and_eq_true] at hg
  obtain ⟨⟨⟨q0,q1⟩,q2⟩,q3⟩:=hg
  obtain rfl:=cE q0
  obtain rfl:=cE q1
  obtain rfl:=cE q2
  obtain rfl:=cE q3
  obtain ⟨h1,rfl⟩:=pair_inj h
  exact r68 xa xb xc xd xe a1 h1
 ·cases h
def G11_0 {β:Type} (t1:List AV) (h4:Int) (t6:Int) (h0:List AV) (h1:List AV) (h2:List AV) (h3:List AV) (h5:Int) (N:((Int × (List AV) × (List AV) × (List AV) × (List AV) × Int))→β) (K:(((List AV) × (List AV) × (List AV) × (List AV) × Int))→β) (d:β):β:=(bif decide (t6<(t1.length:Int)) then (bif decide (t6<2000) then (bif (decide (0≤t6) && decide (t6<(t1.length:Int))) then (bif q68 h0 h1 h2 h3 h5 (fI (t1.getD t6.toNat .undef) 0) then N (IntKind.i64.wrap (t6+1),(v68_0 h0 h1 h2 h3 h5 (fI (t1.getD t6.toNat .undef) 0)),(v68_1 h0 h1 h2 h3 h5 (fI (t1.getD t6.toNat .undef) 0)),(v68_2 h0 h1 h2 h3 h5 (fI (t1.getD t6.toNat .undef) 0)),(v68_3 h0 h1 h2 h3 h5 (fI (t1.getD t6.toNat .undef) 0)),(v68_4 h0 h1 h2 h3 h5 (fI (t1.getD t6.toNat .undef) 0)))
 else d)
 else d)
 else K (h0,h1,h2,h3,h5))
 else K (h0,h1,h2,h3,h5))
def F11_0 (t1:List AV) (h4 t6:Int) (h0 h1 h2 h3:List AV) (h5:Int):Out ((Int × (List AV) × (List AV) × (List AV) × (List AV) × Int)) (((List AV) × (List AV) × (List AV) × (List AV) × Int)):=G11_0 t1 h4 t6 h0 h1 h2 h3 h5 .next .stop .fail
def R11_0 (t1:List AV) (h4:Int):((Int × (List AV) × (List AV) × (List AV) × (List AV) × Int))→Out ((Int × (List AV) × (List AV) × (List AV) × (List AV) × Int)) (((List AV) × (List AV) × (List AV) × (List AV) × Int)):=fun s:Int × (List AV) × (List AV) × (List AV) × (List AV) × Int=>F11_0 t1 h4 s.1 s.2.1 s.2.2.1 s.2.2.2.1 s.2.2.2.2.1 s.2.2.2.2.2
def E11_0 (t1:List AV) (h4:Int):((Int × (List AV) × (List AV) × (List AV) × (List AV) × Int))→St:=fun s:Int × (List AV) × (List AV) × (List AV) × (List AV) × Int=>⟨[(1,AV.sl [.int .i64] t1),(4,AV.ptr [0,4] 0 0),(5,AV.ptr [0,5] 0 0),(6,Ai s.1)],[([0,0,5],⟨false,[.int .i64],s.2.1⟩),([0,1,5],⟨false,[.int .i64],s.2.2.1⟩),([0,2,5],⟨false,[.int .i64,.int .i64],s.2.2.2.1⟩),([0,3,5],⟨false,[.sl [.int .i64],.int .i64,.bool,.int .i64,.int .i64,.int .i64,.int .i64,.int .i64,.int .i64],s.2.2.2.2.1⟩),([0,4],⟨true,[],[AV.agg [AV.snil,AV.snil,AV.snil,AV.snil,Ai h4]]⟩),([0,5],⟨true,[],[AV.agg [AV.own [0,0,5],AV.own [0,1,5],AV.own [0,2,5],AV.own [0,3,5],Ai s.2.2.2.2.2]]⟩)]⟩
def K11_0 (t1:List AV) (h4:Int) (k:Kont):(((List AV) × (List AV) × (List AV) × (List AV) × Int))→Option AV:=fun p:(List AV) × (List AV) × (List AV) × (List AV) × Int=>k (.exit 0) ⟨[(4,AV.ptr [0,4] 0 0),(5,AV.ptr [0,5] 0 0)],[([0,0,5],⟨false,[.int .i64],p.1⟩),([0,1,5],⟨false,[.int .i64],p.2.1⟩),([0,2,5],⟨false,[.int .i64,.int .i64],p.2.2.1⟩),([0,3,5],⟨false,[.sl [.int .i64],.int .i64,.bool,.int .i64,.int .i64,.int .i64,.int .i64,.int .i64,.int .i64],p.2.2.2.1⟩),([0,4],⟨true,[],[AV.agg [AV.snil,AV.snil,AV.snil,AV.snil,Ai h4]]⟩),([0,5],⟨true,[],[AV.agg [AV.own [0,0,5],AV.own [0,1,5],AV.own [0,2,5],AV.own [0,3,5],Ai p.2.2.2.2]]⟩)]⟩
def l11_0:LModel:=fun _ _ st k=>match st with
 | ⟨[(1,.sl g0 t1),(4,.ptr g1 g2 g3),(5,.ptr g4 g5 g6),(6,.int .i64 t6)],[(g7,⟨false,g8,h0⟩),(g9,⟨false,g10,h1⟩),(g11,⟨false,g12,h2⟩),(g13,⟨false,g14,h3⟩),(g15,⟨true,[],[.agg [.snil,.snil,.snil,.snil,.int .i64 h4]]⟩),(g16,⟨true,[],[.agg [.own g17,.own g18,.own g19,.own g20,.int .i64 h5]]⟩)]⟩=>bif ctsEq g0 ([.int .i64]) && nmEq g1 ([0,4]) && Nat.beq g2 0 && Nat.beq g3 0 && nmEq g4 ([0,5]) && Nat.beq g5 0 && Nat.beq g6 0 && nmEq g7 ([0,0,5]) && ctsEq g8 ([.int .i64]) && nmEq g9 ([0,1,5]) && ctsEq g10 ([.int .i64]) && nmEq g11 ([0,2,5]) && ctsEq g12 ([.int .i64,.int .i64]) && nmEq g13 ([0,3,5]) && ctsEq g14 ([.sl [.int .i64],.int .i64,.bool,.int .i64,.int .i64,.int .i64,.int .i64,.int .i64,.int .i64]) && nmEq g15 ([0,4]) && nmEq g16 ([0,5]) && nmEq g17 ([0,0,5]) && nmEq g18 ([0,1,5]) && nmEq g19 ([0,2,5]) && nmEq g20 ([0,3,5]) then ro (runW (R11_0 t1 h4) (((t1.length:Int) - t6:Int).toNat+1) (t6,h0,h1,h2,h3,h5)) none (K11_0 t1 h4 k) else none
 | _=>none
noncomputable def c11:Cfg:=cfg Tryz.prog [(11,0,[1,4,5,6]),(11,999,[4]),(11,1000,[4,5]),(11,1001,[1,4,5,6])] [(67,m67),(68,m68)] [] [] [(11,0,l11_0)]
theorem s11_0 (t1:List AV) (h4:Int) (ce:CallE) (k:Kont) (s:Int × (List AV) × (List AV) × (List AV) × (List AV) × Int) (next:St→Option AV):stepA (codeA c11 ce [] 11 0 (sub [1,1,0,1,0,0] (body Tryz.f11))) (normA [] [1,4,5,6]) next ((E11_0 t1 h4) s) k=G11_0 t1 h4 s.1 s.2.1 s.2.2.1 s.2.2.2.1 s.2.2.2.2.1 s.2.2.2.2.2 (fun s=>next ((E11_0 t1 h4) s)) (K11_0 t1 h4 k) none:=by kernel_rfl
theorem st11_0 (t1:List AV) (h4:Int) (ce:CallE) (k:Kont) (s:(Int × (List AV) × (List AV) × (List AV) × (List AV) × Int)) (next:St→Option AV):stepA (codeA c11 ce [] 11 0 (sub [1,1,0,1,0,0] (body Tryz.f11))) (normA [] [1,4,5,6]) next ((E11_0 t1 h4) s) k=(R11_0 t1 h4 s).el none (fun s=>next ((E11_0 t1 h4) s)) (K11_0 t1 h4 k):=(s11_0 t1 h4 ce k s next).trans (by unfold R11_0;unfold F11_0 G11_0;simp only [el_cond,el_ro,el_sum,el_fail,el_next,el_stop] <;> rfl)
theorem ok11_0 {ce:CallE}:LoopOK c11 ce [] 11 0 (sub [1,1,0,1,0,0] (body Tryz.f11)):=by
 intro m hm st k r h
 obtain rfl:l11_0=m:=Option.some.inj hm
 unfold l11_0 at h
 split at h
 ·rename_i g0 t1 g1 g2 g3 g4 g5 g6 t6 g7 g8 h0 g9 g10 h1 g11 g12 h2 g13 g14 h3 g15 h4 g16 g17 g18 g19 g20 h5
  obtain ⟨hg,h⟩:=bif_some h
  simp only [Bool.and_eq_true] at hg
  obtain ⟨⟨⟨⟨⟨⟨⟨⟨⟨⟨⟨⟨⟨⟨⟨⟨⟨⟨⟨⟨q0,q1⟩,q2⟩,q3⟩,q4⟩,q5⟩,q6⟩,q7⟩,q8⟩,q9⟩,q10⟩,q11⟩,q12⟩,q13⟩,q14⟩,q15⟩,q16⟩,q17⟩,q18⟩,q19⟩,q20⟩:=hg
  obtain rfl:=cE q0
  obtain rfl:=nE q1
  obtain rfl:=bE q2
  obtain rfl:=bE q3
  obtain rfl:=nE q4
  obtain rfl:=bE q5
  obtain rfl:=bE q6
  obtain rfl:=nE q7
  obtain rfl:=cE q8
  obtain rfl:=nE q9
  obtain rfl:=cE q10
  obtain rfl:=nE q11
  obtain rfl:=cE q12
  obtain rfl:=nE q13
  obtain rfl:=cE q14
  obtain rfl:=nE q15
  obtain rfl:=nE q16
  obtain rfl:=nE q17
  obtain rfl:=nE q18
  obtain rfl:=nE q19
  obtain rfl:=nE q20
  refine ⟨(((t1.length:Int) - t6:Int).toNat+1),?_⟩
  rw [← h]
  exact loop_run (E11_0 t1 h4) (K11_0 t1 h4 k) (st11_0 t1 h4 ce k) _ (t6,h0,h1,h2,h3,h5)
 ·cases h
def q11 (xa xb xc xd:List AV) (xe:Int) (a1:List AV):Bool:=(q67 xa xb xc xd xe && (ro (runW (R11_0 a1 0) (((a1.length:Int) - 0:Int).toNat+1) (0,(v67_0 xa xb xc xd xe),(v67_1 xa xb xc xd xe),(v67_2 xa xb xc xd xe),(v67_3 xa xb xc xd xe),(v67_4 xa xb xc xd xe))) false (fun p79=>true)))
def v11_0 (xa xb xc xd:List AV) (xe:Int) (a1:List AV):List AV:=(ro (runW (R11_0 a1 0) (((a1.length:Int) - 0:Int).toNat+1) (0,(v67_0 xa xb xc xd xe),(v67_1 xa xb xc xd xe),(v67_2 xa xb xc xd xe),(v67_3 xa xb xc xd xe),(v67_4 xa xb xc xd xe))) [] (fun p79=>p79.1))
def v11_1 (xa xb xc xd:List AV) (xe:Int) (a1:List AV):List AV:=(ro (runW (R11_0 a1 0) (((a1.length:Int) - 0:Int).toNat+1) (0,(v67_0 xa xb xc xd xe),(v67_1 xa xb xc xd xe),(v67_2 xa xb xc xd xe),(v67_3 xa xb xc xd xe),(v67_4 xa xb xc xd xe))) [] (fun p79=>p79.2.1))
def v11_2 (xa xb xc xd:List AV) (xe:Int) (a1:List AV):List AV:=(ro (runW (R11_0 a1 0) (((a1.length:Int) - 0:Int).toNat+1) (0,(v67_0 xa xb xc xd xe),(v67_1 xa xb xc xd xe),(v67_2 xa xb xc xd xe),(v67_3 xa xb xc xd xe),(v67_4 xa xb xc xd xe))) [] (fun p79=>p79.2.2.1))
def v11_3 (xa xb xc xd:List AV) (xe:Int) (a1:List AV):List AV:=(ro (runW (R11_0 a1 0) (((a1.length:Int) - 0:Int).toNat+1) (0,(v67_0 xa xb xc xd xe),(v67_1 xa xb xc xd xe),(v67_2 xa xb xc xd xe),(v67_3 xa xb xc xd xe),(v67_4 xa xb xc xd xe))) [] (fun p79=>p79.2.2.2.1))
def v11_4 (xa xb xc xd:List AV) (xe:Int) (a1:List AV):Int:=(ro (runW (R11_0 a1 0) (((a1.length:Int) - 0:Int).toNat+1) (0,(v67_0 xa xb xc xd xe),(v67_1 xa xb xc xd xe),(v67_2 xa xb xc xd xe),(v67_3 xa xb xc xd xe),(v67_4 xa xb xc xd xe))) 0 (fun p79=>p79.2.2.2.2))
theorem e11 (xa xb xc xd:List AV) (xe:Int) (a1:List AV):funA c11 0 11 [AV.agg [AV.sl [.int .i64] xa,AV.sl [.int .i64] xb,AV.sl [.int .i64,.int .i64] xc,AV.sl [.sl [.int .i64],.int .i64,.bool,.int .i64,.int .i64,.int .i64,.int .i64,.int .i64,.int .i64] xd,Ai xe],AV.sl [.int .i64] a1]=(bif q67 xa xb xc xd xe then (ro (runW (R11_0 a1 0) (((a1.length:Int) - 0:Int).toNat+1) (0,(v67_0 xa xb xc xd xe),(v67_1 xa xb xc xd xe),(v67_2 xa xb xc xd xe),(v67_3 xa xb xc xd xe),(v67_4 xa xb xc xd xe))) none (fun p79=>some (AV.agg [AV.fl [.int .i64] p79.1,AV.fl [.int .i64] p79.2.1,AV.fl [.int .i64,.int .i64] p79.2.2.1,AV.fl [.sl [.int .i64],.int .i64,.bool,.int .i64,.int .i64,.int .i64,.int .i64,.int .i64,.int .i64] p79.2.2.2.1,Ai p79.2.2.2.2])))
 else none):=by kernel_rfl
def m11:TModel
 | [.agg [.sl g0 xa,.sl g1 xb,.sl g2 xc,.sl g3 xd,.int .i64 xe],.sl g4 a1]=>bif ctsEq g0 ([.int .i64]) && ctsEq g1 ([.int .i64]) && ctsEq g2 ([.int .i64,.int .i64]) && ctsEq g3 ([.sl [.int .i64],.int .i64,.bool,.int .i64,.int .i64,.int .i64,.int .i64,.int .i64,.int .i64]) && ctsEq g4 ([.int .i64]) then some (q11 xa xb xc xd xe a1,AV.agg [AV.fl [.int .i64] (v11_0 xa xb xc xd xe a1),AV.fl [.int .i64] (v11_1 xa xb xc xd xe a1),AV.fl [.int .i64,.int .i64] (v11_2 xa xb xc xd xe a1),AV.fl [.sl [.int .i64],.int .i64,.bool,.int .i64,.int .i64,.int .i64,.int .i64,.int .i64,.int .i64] (v11_3 xa xb xc xd xe a1),AV.int .i64 (v11_4 xa xb xc xd xe a1)]) else none
 | _=>none
theorem k11:Known Tryz.prog 11:=⟨Tryz.f11,Tryz.func11,by kernel_rfl,by kernel_rfl⟩
theorem meets11:Meets Tryz.prog 11 m11:=by
 refine mt (lvl:=0) (cf:=c11) rfl mixed k11 Tryz.func11 (by kernel_rfl) (loops_cons ok11_0 noLoop) (allT_cons meets67 (allT_cons meets68 allT_nil)) allM_nil noI fun xs r h=>?_
 unfold m11 at h
 split at h
 ·rename_i g0 xa g1 xb g2 xc g3 xd xe g4 a1
  obtain ⟨hg,h⟩:=bif_pair h
  simp only [Bool.and_eq_true] at hg
  obtain ⟨⟨⟨⟨q0,q1⟩,q2⟩,q3⟩,q4⟩:=hg
  obtain rfl:=cE q0
  obtain rfl:=cE q1
  obtain rfl:=cE q2
  obtain rfl:=cE q3
  obtain rfl:=cE q4
  obtain ⟨h1,rfl⟩:=pair_inj h
  exact (e11 xa xb xc xd xe a1).trans ((brL (brO (fun o:Option (((List AV) × (List AV) × (List AV) × (List AV) × Int))=>some (AV.agg [AV.fl [.int .i64] (ro o [] (fun p79=>p79.1)),AV.fl [.int .i64] (ro o [] (fun p79=>p79.2.1)),AV.fl [.int .i64,.int .i64] (ro o [] (fun p79=>p79.2.2.1)),AV.fl [.sl [.int .i64],.int .i64,.bool,.int .i64,.int .i64,.int .i64,.int .i64,.int .i64,.int .i64] (ro o [] (fun p79=>p79.2.2.2.1)),Ai (ro o 0 (fun p79=>p79.2.2.2.2))])) (fun p79=>(fun _=>rfl)))) h1)
 ·cases h
def G130_0 {β:Type} (h0:Int) (h1:List AV) (t5:Int) (h2:List AV) (h3_0:List AV) (h3_1:Int) (h3_2:Int) (N:((Int × (List AV) × (List AV) × Int × Int))→β) (K:(((List AV) × (List AV) × Int × Int))→β) (d:β):β:=(bif decide (t5 > 0) then (bif q99 h1 then (bif q180 h3_0 h3_1 h3_2 (v99_0 h1) (v99_1 h1) (v99_2 h1) then (bif (decide ((h2.length+([AV.sl [.int .i64] (v180_0 h3_0 h3_1 h3_2 (v99_0 h1) (v99_1 h1) (v99_2 h1))]).length)*24≤140737488355328) && decide ((h2.length+([AV.sl [.int .i64] (v180_0 h3_0 h3_1 h3_2 (v99_0 h1) (v99_1 h1) (v99_2 h1))]).length)≤140737488355328)) then N (IntKind.i64.wrap (t5 - 1),h2++([AV.sl [.int .i64] (v180_0 h3_0 h3_1 h3_2 (v99_0 h1) (v99_1 h1) (v99_2 h1))]),(v180_1 h3_0 h3_1 h3_2 (v99_0 h1) (v99_1 h1) (v99_2 h1)),(v180_2 h3_0 h3_1 h3_2 (v99_0 h1) (v99_1 h1) (v99_2 h1)),(v180_3 h3_0 h3_1 h3_2 (v99_0 h1) (v99_1 h1) (v99_2 h1)))
 else d)
 else d)
 else d)
 else K (h2,h3_0,h3_1,h3_2))
def F130_0 (h0:Int) (h1:List AV) (t5:Int) (h2 h3_0:List AV) (h3_1 h3_2:Int):Out ((Int × (List AV) × (List AV) × Int × Int)) (((List AV) × (List AV) × Int × Int)):=G130_0 h0 h1 t5 h2 h3_0 h3_1 h3_2 .next .stop .fail
def R130_0 (h0:Int) (h1:List AV):((Int × (List AV) × (List AV) × Int × Int))→Out ((Int × (List AV) × (List AV) × Int × Int)) (((List AV) × (List AV) × Int × Int)):=fun s:Int × (List AV) × (List AV) × Int × Int=>F130_0 h0 h1 s.1 s.2.1 s.2.2.1 s.2.2.2.1 s.2.2.2.2
def E130_0 (h0:Int) (h1:List AV):((Int × (List AV) × (List AV) × Int × Int))→St:=fun s:Int × (List AV) × (List AV) × Int × Int=>⟨[(0,AV.ptr [1] 0 0),(2,AV.ptr [0,2,0] 0 0),(3,AV.own [0,3,0]),(4,AV.own [0,4,0]),(5,Ai s.1)],[([0,2,0],⟨true,[],[AV.agg [AV.snil,AV.snil,AV.snil,AV.snil,Ai h0]]⟩),([0,3,0],⟨false,[.int .i64],h1⟩),([0,4,0],⟨false,[.sl [.int .i64]],s.2.1⟩),([1],⟨true,[],[AV.agg [AV.sl [.int .u8] s.2.2.1,Ai s.2.2.2.1,Ai s.2.2.2.2]]⟩)]⟩
def K130_0 (h0:Int) (h1:List AV) (k:Kont):(((List AV) × (List AV) × Int × Int))→Option AV:=fun p:(List AV) × (List AV) × Int × Int=>k (.exit 0) ⟨[(0,AV.ptr [1] 0 0),(2,AV.ptr [0,2,0] 0 0),(3,AV.own [0,3,0]),(4,AV.own [0,4,0])],[([0,2,0],⟨true,[],[AV.agg [AV.snil,AV.snil,AV.snil,AV.snil,Ai h0]]⟩),([0,3,0],⟨false,[.int .i64],h1⟩),([0,4,0],⟨false,[.sl [.int .i64]],p.1⟩),([1],⟨true,[],[AV.agg [AV.sl [.int .u8] p.2.1,Ai p.2.2.1,Ai p.2.2.2]]⟩)]⟩
def l130_0:LModel:=fun _ _ st k=>match st with
 | ⟨[(0,.ptr g0 g1 g2),(2,.ptr g3 g4 g5),(3,.own g6),(4,.own g7),(5,.int .i64 t5)],[(g8,⟨true,[],[.agg [.snil,.snil,.snil,.snil,.int .i64 h0]]⟩),(g9,⟨false,g10,h1⟩),(g11,⟨false,g12,h2⟩),(g13,⟨true,[],[.agg [.sl g14 h3_0,.int .i64 h3_1,.int .i64 h3_2]]⟩)]⟩=>bif nmEq g0 ([1]) && Nat.beq g1 0 && Nat.beq g2 0 && nmEq g3 ([0,2,0]) && Nat.beq g4 0 && Nat.beq g5 0 && nmEq g6 ([0,3,0]) && nmEq g7 ([0,4,0]) && nmEq g8 ([0,2,0]) && nmEq g9 ([0,3,0]) && ctsEq g10 ([.int .i64]) && nmEq g11 ([0,4,0]) && ctsEq g12 ([.sl [.int .i64]]) && nmEq g13 ([1]) && ctsEq g14 ([.int .u8]) then ro (runW (R130_0 h0 h1) ((t5 - 0:Int).toNat+1) (t5,h2,h3_0,h3_1,h3_2)) none (K130_0 h0 h1 k) else none
 | _=>none
noncomputable def c130:Cfg:=cfg Tryz.prog [(130,0,[0,2,3,4,5]),(130,999,[2]),(130,1000,[0,2,3,4]),(130,1001,[0,2,3,4,5])] [(11,m11),(99,m99),(181,m181)] [(63,.g m63),(91,.g m91),(131,.g m131),(180,.g m180)] [] [(130,0,l130_0)]
theorem s130_0 (h0:Int) (h1:List AV) (ce:CallE) (k:Kont) (s:Int × (List AV) × (List AV) × Int × Int) (next:St→Option AV):stepA (codeA c130 ce [0] 130 0 (sub [1,1,1,0,1,0,0] (body Tryz.f130))) (normA [0] [0,2,3,4,5]) next ((E130_0 h0 h1) s) k=G130_0 h0 h1 s.1 s.2.1 s.2.2.1 s.2.2.2.1 s.2.2.2.2 (fun s=>next ((E130_0 h0 h1) s)) (K130_0 h0 h1 k) none:=by kernel_rfl
theorem st130_0 (h0:Int) (h1:List AV) (ce:CallE) (k:Kont) (s:(Int × (List AV) × (List AV) × Int × Int)) (next:St→Option AV):stepA (codeA c130 ce [0] 130 0 (sub [1,1,1,0,1,0,0] (body Tryz.f130))) (normA [0] [0,2,3,4,5]) next ((E130_0 h0 h1) s) k=(R130_0 h0 h1 s).el none (fun s=>next ((E130_0 h0 h1) s)) (K130_0 h0 h1 k):=(s130_0 h0 h1 ce k s next).trans (by unfold R130_0;unfold F130_0 G130_0;simp only [el_cond,el_ro,el_sum,el_fail,el_next,el_stop] <;> rfl)
theorem ok130_0 {ce:CallE}:LoopOK c130 ce [0] 130 0 (sub [1,1,1,0,1,0,0] (body Tryz.f130)):=by
 intro m hm st k r h
 obtain rfl:l130_0=m:=Option.some.inj hm
 unfold l130_0 at h
 split at h
 ·rename_i g0 g1 g2 g3 g4 g5 g6 g7 t5 g8 h0 g9 g10 h1 g11 g12 h2 g13 g14 h3_0 h3_1 h3_2
  obtain ⟨hg,h⟩:=bif_some h
  simp only [Bool.and_eq_true] at hg
  obtain ⟨⟨⟨⟨⟨⟨⟨⟨⟨⟨⟨⟨⟨⟨q0,q1⟩,q2⟩,q3⟩,q4⟩,q5⟩,q6⟩,q7⟩,q8⟩,q9⟩,q10⟩,q11⟩,q12⟩,q13⟩,q14⟩:=hg
  obtain rfl:=nE q0
  obtain rfl:=bE q1
  obtain rfl:=bE q2
  obtain rfl:=nE q3
  obtain rfl:=bE q4
  obtain rfl:=bE q5
  obtain rfl:=nE q6
  obtain rfl:=nE q7
  obtain rfl:=nE q8
  obtain rfl:=nE q9
  obtain rfl:=cE q10
  obtain rfl:=nE q11
  obtain rfl:=cE q12
  obtain rfl:=nE q13
  obtain rfl:=cE q14
  refine ⟨((t5 - 0:Int).toNat+1),?_⟩
  rw [← h]
  exact loop_run (E130_0 h0 h1) (K130_0 h0 h1 k) (st130_0 h0 h1 ce k) _ (t5,h2,h3_0,h3_1,h3_2)
 ·cases h
def T130 {β:Type} (k:((List AV) × (List AV) × (List AV) × (List AV) × Int × (List AV) × Int × Int)→β) (n:β) (ua:List AV) (ub:Int) (uc:Int):β:=by
 refine (?f0:(List AV)→(List AV)→Int→Int→β) (v91_0 12 ua ub uc) (v91_1 12 ua ub uc) (v91_2 12 ua ub uc) (v91_3 12 ua ub uc);intro x1 x2 x3 x4
 exact (bif q91 12 ua ub uc then (bif q131 3 x2 x3 x4 then (ro (runW (R130_0 0 x1) (((IntKind.i64.wrap (1+(v131_0 3 x2 x3 x4))) - 0:Int).toNat+1) (IntKind.i64.wrap (1+(v131_0 3 x2 x3 x4)),([]:List AV),(v131_1 3 x2 x3 x4),(v131_2 3 x2 x3 x4),(v131_3 3 x2 x3 x4))) n (fun p62=>(bif q181 x1 p62.1 then (bif q63 60 p62.2.1 p62.2.2.1 p62.2.2.2 then (bif q11 (v181_0 x1 p62.1) (v181_1 x1 p62.1) (v181_2 x1 p62.1) (v181_3 x1 p62.1) (v181_4 x1 p62.1) (v63_0 60 p62.2.1 p62.2.2.1 p62.2.2.2) then k ((v11_0 (v181_0 x1 p62.1) (v181_1 x1 p62.1) (v181_2 x1 p62.1) (v181_3 x1 p62.1) (v181_4 x1 p62.1) (v63_0 60 p62.2.1 p62.2.2.1 p62.2.2.2)),(v11_1 (v181_0 x1 p62.1) (v181_1 x1 p62.1) (v181_2 x1 p62.1) (v181_3 x1 p62.1) (v181_4 x1 p62.1) (v63_0 60 p62.2.1 p62.2.2.1 p62.2.2.2)),(v11_2 (v181_0 x1 p62.1) (v181_1 x1 p62.1) (v181_2 x1 p62.1) (v181_3 x1 p62.1) (v181_4 x1 p62.1) (v63_0 60 p62.2.1 p62.2.2.1 p62.2.2.2)),(v11_3 (v181_0 x1 p62.1) (v181_1 x1 p62.1) (v181_2 x1 p62.1) (v181_3 x1 p62.1) (v181_4 x1 p62.1) (v63_0 60 p62.2.1 p62.2.2.1 p62.2.2.2)),(v11_4 (v181_0 x1 p62.1) (v181_1 x1 p62.1) (v181_2 x1 p62.1) (v181_3 x1 p62.1) (v181_4 x1 p62.1) (v63_0 60 p62.2.1 p62.2.2.1 p62.2.2.2)),(v63_1 60 p62.2.1 p62.2.2.1 p62.2.2.2),(v63_2 60 p62.2.1 p62.2.2.1 p62.2.2.2),(v63_3 60 p62.2.1 p62.2.2.1 p62.2.2.2))
 else n)
 else n)
 else n)))
 else n)
 else n)
abbrev W130 (ua:List AV) (ub:Int) (uc:Int):Option ((List AV) × (List AV) × (List AV) × (List AV) × Int × (List AV) × Int × Int):=T130 some none ua ub uc
theorem n130 {β:Type} (k:((List AV) × (List AV) × (List AV) × (List AV) × Int × (List AV) × Int × Int)→β) (n:β) (ua:List AV) (ub:Int) (uc:Int):T130 k n ua ub uc=oe k n (W130 ua ub uc):=by
 unfold W130 T130
 simp only [oe_cond,oe_ro,oe_sum,oe_some,oe_none]
def q130 (ua:List AV) (ub uc:Int):Bool:=(W130 ua ub uc).isSome
def v130_0 (ua:List AV) (ub uc:Int):List AV:=oe (fun t=>t.1) [] (W130 ua ub uc)
def v130_1 (ua:List AV) (ub uc:Int):List AV:=oe (fun t=>t.2.1) [] (W130 ua ub uc)
def v130_2 (ua:List AV) (ub uc:Int):List AV:=oe (fun t=>t.2.2.1) [] (W130 ua ub uc)
def v130_3 (ua:List AV) (ub uc:Int):List AV:=oe (fun t=>t.2.2.2.1) [] (W130 ua ub uc)
def v130_4 (ua:List AV) (ub uc:Int):Int:=oe (fun t=>t.2.2.2.2.1) 0 (W130 ua ub uc)
def v130_5 (ua:List AV) (ub uc:Int):List AV:=oe (fun t=>t.2.2.2.2.2.1) [] (W130 ua ub uc)
def v130_6 (ua:List AV) (ub uc:Int):Int:=oe (fun t=>t.2.2.2.2.2.2.1) 0 (W130 ua ub uc)
def v130_7 (ua:List AV) (ub uc:Int):Int:=oe (fun t=>t.2.2.2.2.2.2.2) 0 (W130 ua ub uc)
theorem e130 (ua:List AV) (ub uc:Int) (K:List AV→List (Option Blk)→Option AV):inlA c130 1 130 [AV.ptr [1] 0 0] [0] (canH 1 [⟨true,[],[AV.agg [AV.sl [.int .u8] ua,Ai ub,Ai uc]]⟩]) (keepG Tryz.prog 1 [30] [] K)=T130 (fun t=>K [AV.agg [AV.fl [.int .i64] t.1,AV.fl [.int .i64] t.2.1,AV.fl [.int .i64,.int .i64] t.2.2.1,AV.fl [.sl [.int .i64],.int .i64,.bool,.int .i64,.int .i64,.int .i64,.int .i64,.int .i64,.int .i64] t.2.2.2.1,Ai t.2.2.2.2.1]] [some ⟨true,[],[AV.agg [AV.sl [.int .u8] t.2.2.2.2.2.1,Ai t.2.2.2.2.2.2.1,Ai t.2.2.2.2.2.2.2]]⟩]) none ua ub uc:=by kernel_rfl
theorem r130 (ua:List AV) (ub uc:Int) (K:List AV→List (Option Blk)→Option AV) (h:q130 ua ub uc=true):inlA c130 1 130 [AV.ptr [1] 0 0] [0] (canH 1 [⟨true,[],[AV.agg [AV.sl [.int .u8] ua,AV.int .i64 ub,AV.int .i64 uc]]⟩]) (keepG Tryz.prog 1 [30] [] K)=K [AV.agg [AV.fl [.int .i64] (v130_0 ua ub uc),AV.fl [.int .i64] (v130_1 ua ub uc),AV.fl [.int .i64,.int .i64] (v130_2 ua ub uc),AV.fl [.sl [.int .i64],.int .i64,.bool,.int .i64,.int .i64,.int .i64,.int .i64,.int .i64,.int .i64] (v130_3 ua ub uc),AV.int .i64 (v130_4 ua ub uc)]] [some ⟨true,[],[AV.agg [AV.sl [.int .u8] (v130_5 ua ub uc),AV.int .i64 (v130_6 ua ub uc),AV.int .i64 (v130_7 ua ub uc)]]⟩]:=by
 refine ((e130 ua ub uc K).trans (n130 _ _ ua ub uc)).trans ?_
 unfold q130 at h
 unfold v130_0 v130_1 v130_2 v130_3 v130_4 v130_5 v130_6 v130_7
 generalize W130 ua ub uc=o at *
 cases o with
 | none=>cases h
 | some t=>rfl
def m130:GModel
 | [.ptr g0 g1 g2],[⟨true,[],[.agg [.sl g3 ua,.int .i64 ub,.int .i64 uc]]⟩]=>bif nmEq g0 ([1]) && Nat.beq g1 0 && Nat.beq g2 0 && ctsEq g3 ([.int .u8]) then some (q130 ua ub uc,[AV.agg [AV.fl [.int .i64] (v130_0 ua ub uc),AV.fl [.int .i64] (v130_1 ua ub uc),AV.fl [.int .i64,.int .i64] (v130_2 ua ub uc),AV.fl [.sl [.int .i64],.int .i64,.bool,.int .i64,.int .i64,.int .i64,.int .i64,.int .i64,.int .i64] (v130_3 ua ub uc),AV.int .i64 (v130_4 ua ub uc)]],[some ⟨true,[],[AV.agg [AV.sl [.int .u8] (v130_5 ua ub uc),AV.int .i64 (v130_6 ua ub uc),AV.int .i64 (v130_7 ua ub uc)]]⟩]) else none
 | _,_=>none
theorem k130:Known Tryz.prog 130:=⟨Tryz.f130,Tryz.func130,by kernel_rfl,by kernel_rfl⟩
theorem meets130:MeetsG Tryz.prog 130 m130:=by
 refine mg (rt:=[30]) (gs:=[]) (lvl:=0) (cf:=c130) rfl mixed k130 Tryz.func130 (by kernel_rfl) (loops_cons ok130_0 noLoop) (allT_cons meets11 (allT_cons meets99 (allT_cons meets181 allT_nil))) (allG_cons meets63 (allG_cons meets91 (allG_cons meets131 (allG_cons meets180 allM_nil)))) noI fun xs bs r bs' h K=>?_
 unfold m130 at h
 split at h
 ·rename_i g0 g1 g2 g3 ua ub uc
  obtain ⟨hg,h⟩:=bif_pair h
  simp only [Bool.and_eq_true] at hg
  obtain ⟨⟨⟨q0,q1⟩,q2⟩,q3⟩:=hg
  obtain rfl:=nE q0
  obtain rfl:=bE q1
  obtain rfl:=bE q2
  obtain rfl:=cE q3
  obtain ⟨h1,rfl,rfl⟩:=trip_inj h
  exact r130 ua ub uc K h1
 ·cases h
noncomputable def c62:Cfg:=cfg Tryz.prog [(62,999,[2]),(62,1000,[2,3])] [] [(80,.g m80),(130,.g m130),(131,.g m131),(132,.g m132)] [] []
def T62 {β:Type} (k:((List AV) × (List AV) × (List AV) × (List AV) × Int × (List AV) × Int × Int)→β) (n:β) (ua:List AV) (ub:Int) (uc:Int):β:=by
 refine (?f0:(List AV)→(List AV)→(List AV)→(List AV)→Int→(List AV)→Int→Int→β) (v130_0 ua ub uc) (v130_1 ua ub uc) (v130_2 ua ub uc) (v130_3 ua ub uc) (v130_4 ua ub uc) (v130_5 ua ub uc) (v130_6 ua ub uc) (v130_7 ua ub uc);intro x1 x2 x3 x4 x5 x6 x7 x8
 refine (?f1:Int→(List AV)→Int→Int→β) (v131_0 14 x6 x7 x8) (v131_1 14 x6 x7 x8) (v131_2 14 x6 x7 x8) (v131_3 14 x6 x7 x8);intro x9 x10 x11 x12
 exact (bif q130 ua ub uc then (bif q131 14 x6 x7 x8 then (bif decide (x9=0) then (bif q132 x10 x11 x12 ([AV.int .i64 (-1),AV.int .i64 0,AV.int .i64 99999,AV.int .i64 100000]) then k (x1,x2,x3,x4,(v132_0 x10 x11 x12 ([AV.int .i64 (-1),AV.int .i64 0,AV.int .i64 99999,AV.int .i64 100000])),(v132_1 x10 x11 x12 ([AV.int .i64 (-1),AV.int .i64 0,AV.int .i64 99999,AV.int .i64 100000])),(v132_2 x10 x11 x12 ([AV.int .i64 (-1),AV.int .i64 0,AV.int .i64 99999,AV.int .i64 100000])),(v132_3 x10 x11 x12 ([AV.int .i64 (-1),AV.int .i64 0,AV.int .i64 99999,AV.int .i64 100000])))
 else n)
 else (bif decide (x9=1) then (bif decide ((x4.length:Int) > 0) then (bif q131 6 x10 x11 x12 then (bif (decide (0≤0) && decide (0<(x4.length:Int))) then k (x1,x2,x3,x4.set (0:Int).toNat (AV.agg [AV.sl [.int .i64] (fL (x4.getD (0:Int).toNat .undef) 0),AV.int .i64 (fI (x4.getD (0:Int).toNat .undef) 1),AV.bool (fB (x4.getD (0:Int).toNat .undef) 2),AV.int .i64 (fI (x4.getD (0:Int).toNat .undef) 3),AV.int .i64 (fI (x4.getD (0:Int).toNat .undef) 4),AV.int .i64 (v131_0 6 x10 x11 x12),AV.int .i64 (fI (x4.getD (0:Int).toNat .undef) 6),AV.int .i64 (fI (x4.getD (0:Int).toNat .undef) 7),AV.int .i64 (fI (x4.getD (0:Int).toNat .undef) 8)]),x5,(v131_1 6 x10 x11 x12),(v131_2 6 x10 x11 x12),(v131_3 6 x10 x11 x12))
 else n)
 else n)
 else k (x1,x2,x3,x4,x5,x10,x11,x12))
 else (bif decide (x9=2) then (bif q80 x10 x11 x12 then k ((v80_0 x10 x11 x12),(v80_1 x10 x11 x12),(v80_2 x10 x11 x12),x4,x5,(v80_3 x10 x11 x12),(v80_4 x10 x11 x12),(v80_5 x10 x11 x12))
 else n)
 else k (x1,x2,x3,x4,x5,x10,x11,x12))))
 else n)
 else n)
abbrev W62 (ua:List AV) (ub:Int) (uc:Int):Option ((List AV) × (List AV) × (List AV) × (List AV) × Int × (List AV) × Int × Int):=T62 some none ua ub uc
theorem n62 {β:Type} (k:((List AV) × (List AV) × (List AV) × (List AV) × Int × (List AV) × Int × Int)→β) (n:β) (ua:List AV) (ub:Int) (uc:Int):T62 k n ua ub uc=oe k n (W62 ua ub uc):=by
 unfold W62 T62
 simp only [oe_cond,oe_ro,oe_sum,oe_some,oe_none]
def q62 (ua:List AV) (ub uc:Int):Bool:=(W62 ua ub uc).isSome
def v62_0 (ua:List AV) (ub uc:Int):List AV:=oe (fun t=>t.1) [] (W62 ua ub uc)
def v62_1 (ua:List AV) (ub uc:Int):List AV:=oe (fun t=>t.2.1) [] (W62 ua ub uc)
def v62_2 (ua:List AV) (ub uc:Int):List AV:=oe (fun t=>t.2.2.1) [] (W62 ua ub uc)
def v62_3 (ua:List AV) (ub uc:Int):List AV:=oe (fun t=>t.2.2.2.1) [] (W62 ua ub uc)
def v62_4 (ua:List AV) (ub uc:Int):Int:=oe (fun t=>t.2.2.2.2.1) 0 (W62 ua ub uc)
def v62_5 (ua:List AV) (ub uc:Int):List AV:=oe (fun t=>t.2.2.2.2.2.1) [] (W62 ua ub uc)
def v62_6 (ua:List AV) (ub uc:Int):Int:=oe (fun t=>t.2.2.2.2.2.2.1) 0 (W62 ua ub uc)
def v62_7 (ua:List AV) (ub uc:Int):Int:=oe (fun t=>t.2.2.2.2.2.2.2) 0 (W62 ua ub uc)
theorem e62 (ua:List AV) (ub uc:Int) (K:List AV→List (Option Blk)→Option AV):inlA c62 1 62 [AV.ptr [1] 0 0] [0] (canH 1 [⟨true,[],[AV.agg [AV.sl [.int .u8] ua,Ai ub,Ai uc]]⟩]) (keepG Tryz.prog 1 [30] [] K)=T62 (fun t=>K [AV.agg [AV.fl [.int .i64] t.1,AV.fl [.int .i64] t.2.1,AV.fl [.int .i64,.int .i64] t.2.2.1,AV.fl [.sl [.int .i64],.int .i64,.bool,.int .i64,.int .i64,.int .i64,.int .i64,.int .i64,.int .i64] t.2.2.2.1,Ai t.2.2.2.2.1]] [some ⟨true,[],[AV.agg [AV.sl [.int .u8] t.2.2.2.2.2.1,Ai t.2.2.2.2.2.2.1,Ai t.2.2.2.2.2.2.2]]⟩]) none ua ub uc:=by kernel_rfl
theorem r62 (ua:List AV) (ub uc:Int) (K:List AV→List (Option Blk)→Option AV) (h:q62 ua ub uc=true):inlA c62 1 62 [AV.ptr [1] 0 0] [0] (canH 1 [⟨true,[],[AV.agg [AV.sl [.int .u8] ua,AV.int .i64 ub,AV.int .i64 uc]]⟩]) (keepG Tryz.prog 1 [30] [] K)=K [AV.agg [AV.fl [.int .i64] (v62_0 ua ub uc),AV.fl [.int .i64] (v62_1 ua ub uc),AV.fl [.int .i64,.int .i64] (v62_2 ua ub uc),AV.fl [.sl [.int .i64],.int .i64,.bool,.int .i64,.int .i64,.int .i64,.int .i64,.int .i64,.int .i64] (v62_3 ua ub uc),AV.int .i64 (v62_4 ua ub uc)]] [some ⟨true,[],[AV.agg [AV.sl [.int .u8] (v62_5 ua ub uc),AV.int .i64 (v62_6 ua ub uc),AV.int .i64 (v62_7 ua ub uc)]]⟩]:=by
 refine ((e62 ua ub uc K).trans (n62 _ _ ua ub uc)).trans ?_
 unfold q62 at h
 unfold v62_0 v62_1 v62_2 v62_3 v62_4 v62_5 v62_6 v62_7
 generalize W62 ua ub uc=o at *
 cases o with
 | none=>cases h
 | some t=>rfl
def m62:GModel
 | [.ptr g0 g1 g2],[⟨true,[],[.agg [.sl g3 ua,.int .i64 ub,.int .i64 uc]]⟩]=>bif nmEq g0 ([1]) && Nat.beq g1 0 && Nat.beq g2 0 && ctsEq g3 ([.int .u8]) then some (q62 ua ub uc,[AV.agg [AV.fl [.int .i64] (v62_0 ua ub uc),AV.fl [.int .i64] (v62_1 ua ub uc),AV.fl [.int .i64,.int .i64] (v62_2 ua ub uc),AV.fl [.sl [.int .i64],.int .i64,.bool,.int .i64,.int .i64,.int .i64,.int .i64,.int .i64,.int .i64] (v62_3 ua ub uc),AV.int .i64 (v62_4 ua ub uc)]],[some ⟨true,[],[AV.agg [AV.sl [.int .u8] (v62_5 ua ub uc),AV.int .i64 (v62_6 ua ub uc),AV.int .i64 (v62_7 ua ub uc)]]⟩]) else none
 | _,_=>none
theorem k62:Known Tryz.prog 62:=⟨Tryz.f62,Tryz.func62,by kernel_rfl,by kernel_rfl⟩
theorem meets62:MeetsG Tryz.prog 62 m62:=by
 refine mg (rt:=[30]) (gs:=[]) (lvl:=0) (cf:=c62) rfl mixed k62 Tryz.func62 (by kernel_rfl) noLoop allT_nil (allG_cons meets80 (allG_cons meets130 (allG_cons meets131 (allG_cons meets132 allM_nil)))) noI fun xs bs r bs' h K=>?_
 unfold m62 at h
 split at h
 ·rename_i g0 g1 g2 g3 ua ub uc
  obtain ⟨hg,h⟩:=bif_pair h
  simp only [Bool.and_eq_true] at hg
  obtain ⟨⟨⟨q0,q1⟩,q2⟩,q3⟩:=hg
  obtain rfl:=nE q0
  obtain rfl:=bE q1
  obtain rfl:=bE q2
  obtain rfl:=cE q3
  obtain ⟨h1,rfl,rfl⟩:=trip_inj h
  exact r62 ua ub uc K h1
 ·cases h
def G30i61_0 {β:Type} (t0:List AV) (h0:Int) (t3:Int) (t4:Int) (N:((Int × Int))→β) (K:(Int)→β) (d:β):β:=(bif decide (t4<(t0.length:Int)) then (bif decide (t4<4000) then (bif (decide (0≤t4) && decide (t4<(t0.length:Int))) then N (IntKind.i64.wrap ((BitVec.ofInt 64 (IntKind.i64.wrap (IntKind.i64.wrap (IntKind.i64.wrap (t3*131)+IntKind.i64.wrap (fI (t0.getD t4.toNat .undef) 0))+7)) &&& BitVec.ofInt 64 1073741823).toNat:Int),IntKind.i64.wrap (t4+1))
 else d)
 else K t3)
 else K t3)
def F30i61_0 (t0:List AV) (h0 t3 t4:Int):Out ((Int × Int)) (Int):=G30i61_0 t0 h0 t3 t4 .next .stop .fail
def R30i61_0 (t0:List AV) (h0:Int):((Int × Int))→Out ((Int × Int)) (Int):=fun s:Int × Int=>F30i61_0 t0 h0 s.1 s.2
def E30i61_0 (t0:List AV) (h0:Int):((Int × Int))→St:=fun s:Int × Int=>⟨[(0,AV.sl [.int .u8] t0),(3,Ai s.1),(4,Ai s.2)],[([1,2],⟨true,[],[AV.agg [AV.snil,AV.snil,AV.snil,AV.snil,Ai h0]]⟩)]⟩
def K30i61_0 (t0:List AV) (h0:Int) (k:Kont):(Int)→Option AV:=fun p:Int=>k (.exit 0) ⟨[(0,AV.sl [.int .u8] t0),(3,Ai p)],[([1,2],⟨true,[],[AV.agg [AV.snil,AV.snil,AV.snil,AV.snil,Ai h0]]⟩)]⟩
def l30i61_0:LModel:=fun _ π st k=>match st with
 | ⟨[(0,.sl g1 t0),(3,.int .i64 t3),(4,.int .i64 t4)],[(g2,⟨true,[],[.agg [.snil,.snil,.snil,.snil,.int .i64 h0]]⟩)]⟩=>bif nmEq π ([4]) && ctsEq g1 ([.int .u8]) && nmEq g2 ([1,2]) then ro (runW (R30i61_0 t0 h0) (((t0.length:Int) - t4:Int).toNat+1) (t3,t4)) none (K30i61_0 t0 h0 k) else none
 | _=>none
noncomputable def c30:Cfg:=cfg Tryz.prog [(30,999,[2]),(61,0,[0,3,4]),(61,999,[2]),(61,1000,[0,3]),(61,1001,[0,3,4])] [] [(62,.g m62)] [61] [(61,0,l30i61_0)]
theorem s30i61_0 (t0:List AV) (h0:Int) (ce:CallE) (k:Kont) (s:Int × Int) (next:St→Option AV):stepA (codeA c30 ce [4] 61 0 (sub [1,1,0,1,0,0] (body Tryz.f61))) (normA [4] [0,3,4]) next ((E30i61_0 t0 h0) s) k=G30i61_0 t0 h0 s.1 s.2 (fun s=>next ((E30i61_0 t0 h0) s)) (K30i61_0 t0 h0 k) none:=by kernel_rfl
theorem st30i61_0 (t0:List AV) (h0:Int) (ce:CallE) (k:Kont) (s:(Int × Int)) (next:St→Option AV):stepA (codeA c30 ce [4] 61 0 (sub [1,1,0,1,0,0] (body Tryz.f61))) (normA [4] [0,3,4]) next ((E30i61_0 t0 h0) s) k=(R30i61_0 t0 h0 s).el none (fun s=>next ((E30i61_0 t0 h0) s)) (K30i61_0 t0 h0 k):=(s30i61_0 t0 h0 ce k s next).trans (by unfold R30i61_0;unfold F30i61_0 G30i61_0;simp only [el_cond,el_ro,el_sum,el_fail,el_next,el_stop] <;> rfl)
theorem ok30i61_0 {ce:CallE} {π:Nm}:LoopOK c30 ce π 61 0 (sub [1,1,0,1,0,0] (body Tryz.f61)):=by
 intro m hm st k r h
 obtain rfl:l30i61_0=m:=Option.some.inj hm
 unfold l30i61_0 at h
 split at h
 ·rename_i g1 t0 t3 t4 g2 h0
  obtain ⟨hg,h⟩:=bif_some h
  simp only [Bool.and_eq_true] at hg
  obtain ⟨⟨q0,q1⟩,q2⟩:=hg
  obtain rfl:=nE q0
  obtain rfl:=cE q1
  obtain rfl:=nE q2
  refine ⟨(((t0.length:Int) - t4:Int).toNat+1),?_⟩
  rw [← h]
  exact loop_run (E30i61_0 t0 h0) (K30i61_0 t0 h0 k) (st30i61_0 t0 h0 ce k) _ (t3,t4)
 ·cases h
def T30 {β:Type} (k:((List AV) × (List AV) × (List AV) × (List AV) × Int)→β) (n:β) (a0:List AV):β:=(ro (runW (R30i61_0 a0 0) (((a0.length:Int) - 0:Int).toNat+1) (IntKind.i64.wrap (10101+(a0.length:Int)),0)) n (fun p60=>(bif q62 a0 0 p60 then k ((v62_0 a0 0 p60),(v62_1 a0 0 p60),(v62_2 a0 0 p60),(v62_3 a0 0 p60),(v62_4 a0 0 p60))
 else n)))
abbrev W30 (a0:List AV):Option ((List AV) × (List AV) × (List AV) × (List AV) × Int):=T30 some none a0
theorem n30 {β:Type} (k:((List AV) × (List AV) × (List AV) × (List AV) × Int)→β) (n:β) (a0:List AV):T30 k n a0=oe k n (W30 a0):=by
 unfold W30 T30
 simp only [oe_cond,oe_ro,oe_sum,oe_some,oe_none]
def q30 (a0:List AV):Bool:=(W30 a0).isSome
def v30_0 (a0:List AV):List AV:=oe (fun t=>t.1) [] (W30 a0)
def v30_1 (a0:List AV):List AV:=oe (fun t=>t.2.1) [] (W30 a0)
def v30_2 (a0:List AV):List AV:=oe (fun t=>t.2.2.1) [] (W30 a0)
def v30_3 (a0:List AV):List AV:=oe (fun t=>t.2.2.2.1) [] (W30 a0)
def v30_4 (a0:List AV):Int:=oe (fun t=>t.2.2.2.2) 0 (W30 a0)
theorem e30 (a0:List AV):funA c30 1 30 [AV.sl [.int .u8] a0]=T30 (fun t=>some (AV.agg [AV.fl [.int .i64] t.1,AV.fl [.int .i64] t.2.1,AV.fl [.int .i64,.int .i64] t.2.2.1,AV.fl [.sl [.int .i64],.int .i64,.bool,.int .i64,.int .i64,.int .i64,.int .i64,.int .i64,.int .i64] t.2.2.2.1,Ai t.2.2.2.2])) none a0:=by kernel_rfl
theorem r30 (a0:List AV) (h:q30 a0=true):funA c30 1 30 [AV.sl [.int .u8] a0]=some (AV.agg [AV.fl [.int .i64] (v30_0 a0),AV.fl [.int .i64] (v30_1 a0),AV.fl [.int .i64,.int .i64] (v30_2 a0),AV.fl [.sl [.int .i64],.int .i64,.bool,.int .i64,.int .i64,.int .i64,.int .i64,.int .i64,.int .i64] (v30_3 a0),AV.int .i64 (v30_4 a0)]):=by
 refine ((e30 a0).trans (n30 _ _ a0)).trans ?_
 unfold q30 at h
 unfold v30_0 v30_1 v30_2 v30_3 v30_4
 generalize W30 a0=o at *
 cases o with
 | none=>cases h
 | some t=>rfl
def m30:TModel
 | [.sl g0 a0]=>bif ctsEq g0 ([.int .u8]) then some (q30 a0,AV.agg [AV.fl [.int .i64] (v30_0 a0),AV.fl [.int .i64] (v30_1 a0),AV.fl [.int .i64,.int .i64] (v30_2 a0),AV.fl [.sl [.int .i64],.int .i64,.bool,.int .i64,.int .i64,.int .i64,.int .i64,.int .i64,.int .i64] (v30_3 a0),AV.int .i64 (v30_4 a0)]) else none
 | _=>none
theorem k30:Known Tryz.prog 30:=⟨Tryz.f30,Tryz.func30,by kernel_rfl,by kernel_rfl⟩
theorem i30_61:InlK Tryz.prog [(30,999,[2]),(61,0,[0,3,4]),(61,999,[2]),(61,1000,[0,3]),(61,1001,[0,3,4])] [] [(62,.g m62)] [61] [(61,0,l30i61_0)] 61:=⟨⟨Tryz.f61,Tryz.func61,by kernel_rfl,by kernel_rfl⟩,Tryz.f61,[(0,sub [1,1,0,1,0,0] (body Tryz.f61))],Tryz.func61,by kernel_rfl,fun ce π=>(loops_cons (ok30i61_0 (ce:=ce) (π:=π)) noLoop)⟩
theorem meets30:Meets Tryz.prog 30 m30:=by
 refine mt (lvl:=1) (cf:=c30) rfl mixed k30 Tryz.func30 (by kernel_rfl) noLoop allT_nil (allG_cons meets62 allM_nil) (allI_cons i30_61 noI) fun xs r h=>?_
 unfold m30 at h
 split at h
 ·rename_i g0 a0
  obtain ⟨hg,h⟩:=bif_pair h
  have q0:=hg
  obtain rfl:=cE q0
  obtain ⟨h1,rfl⟩:=pair_inj h
  exact r30 a0 h1
 ·cases h
noncomputable def c142:Cfg:=cfg Tryz.prog [(142,999,[2])] [(106,m106)] [] [] []
def q142 (a0:List AV):Bool:=(bif decide ((a0.length:Int)≤60) then q106 a0 (-1000) 1000 else true)
def v142_0 (a0:List AV):Bool:=(bif decide ((a0.length:Int)≤60) then (v106_0 a0 (-1000) 1000) else false)
theorem e142 (a0:List AV):funA c142 0 142 [AV.sl [.int .i64] a0]=(bif decide ((a0.length:Int)≤60) then (bif q106 a0 (-1000) 1000 then some (AV.bool (v106_0 a0 (-1000) 1000))
 else none)
 else some (AV.bool false)):=by kernel_rfl
def m142:TModel
 | [.sl g0 a0]=>bif ctsEq g0 ([.int .i64]) then some (q142 a0,AV.bool (v142_0 a0)) else none
 | _=>none
theorem k142:Known Tryz.prog 142:=⟨Tryz.f142,Tryz.func142,by kernel_rfl,by kernel_rfl⟩
theorem meets142:Meets Tryz.prog 142 m142:=by
 refine mt (lvl:=0) (cf:=c142) rfl mixed k142 Tryz.func142 (by kernel_rfl) noLoop (allT_cons meets106 allT_nil) allM_nil noI fun xs r h=>?_
 unfold m142 at h
 split at h
 ·rename_i g0 a0
  obtain ⟨hg,h⟩:=bif_pair h
  have q0:=hg
  obtain rfl:=cE q0
  obtain ⟨h1,rfl⟩:=pair_inj h
  exact (e142 a0).trans ((br (fun b=>some (AV.bool (bif b then (v106_0 a0 (-1000) 1000) else false))) (brL1 (fun _=>rfl)) (fun _=>rfl)) h1)
 ·cases h
def G19_0 {β:Type} (t1:Int) (t9:List AV) (t10:Int) (t11:Int) (N:(Int)→β) (K:(Unit ⊕ (Int × Int × Int))→β) (d:β):β:=(bif decide (t11<t10) then (bif (decide (0≤t11) && decide (t11<(t9.length:Int))) then (bif decide (fI (t9.getD t11.toNat .undef) 0=t1) then K (.inr (fI (t9.getD t11.toNat .undef) 1,fI (t9.getD t11.toNat .undef) 0,fI (t9.getD t11.toNat .undef) 1))
 else N (IntKind.i64.wrap (t11+1)))
 else d)
 else K (.inl ()))
def F19_0 (t1:Int) (t9:List AV) (t10 t11:Int):Out (Int) (Unit ⊕ (Int × Int × Int)):=G19_0 t1 t9 t10 t11 .next .stop .fail
def R19_0 (t1:Int) (t9:List AV) (t10:Int):(Int)→Out (Int) (Unit ⊕ (Int × Int × Int)):=fun s:Int=>F19_0 t1 t9 t10 s
def E19_0 (t1:Int) (t9:List AV) (t10:Int):(Int)→St:=fun s:Int=>⟨[(1,Ai t1),(9,AV.sl [.int .i64,.int .i64] t9),(10,Ai t10),(11,Ai s)],[]⟩
def K19_0 (t1:Int) (t9:List AV) (t10:Int) (k:Kont):(Unit ⊕ (Int × Int × Int))→Option AV:=sumE (fun _:Unit=>k (.exit 0) ⟨[],[]⟩) (fun p:Int × Int × Int=>k .ret ⟨[(4,Ai p.1),(5,AV.bool true)],[([1,7],⟨true,[],[AV.agg [Ai p.2.1,Ai p.2.2]]⟩)]⟩)
def l19_0:LModel:=fun _ _ st k=>match st with
 | ⟨[(1,.int .i64 t1),(9,.sl g0 t9),(10,.int .i64 t10),(11,.int .i64 t11)],[]⟩=>bif ctsEq g0 ([.int .i64,.int .i64]) then ro (runW (R19_0 t1 t9 t10) ((t10 - t11:Int).toNat+1) t11) none (K19_0 t1 t9 t10 k) else none
 | _=>none
noncomputable def c19:Cfg:=cfg Tryz.prog [(19,0,[1,9,10,11]),(19,999,[4,5]),(19,1000,[]),(19,1001,[1,9,10,11])] [] [] [] [(19,0,l19_0)]
theorem s19_0 (t1:Int) (t9:List AV) (t10:Int) (ce:CallE) (k:Kont) (s:Int) (next:St→Option AV):stepA (codeA c19 ce [] 19 0 (sub [1,0,1,0,0] (body Tryz.f19))) (normA [] [1,9,10,11]) next ((E19_0 t1 t9 t10) s) k=G19_0 t1 t9 t10 s (fun s=>next ((E19_0 t1 t9 t10) s)) (K19_0 t1 t9 t10 k) none:=by kernel_rfl
theorem st19_0 (t1:Int) (t9:List AV) (t10:Int) (ce:CallE) (k:Kont) (s:Int) (next:St→Option AV):stepA (codeA c19 ce [] 19 0 (sub [1,0,1,0,0] (body Tryz.f19))) (normA [] [1,9,10,11]) next ((E19_0 t1 t9 t10) s) k=(R19_0 t1 t9 t10 s).el none (fun s=>next ((E19_0 t1 t9 t10) s)) (K19_0 t1 t9 t10 k):=(s19_0 t1 t9 t10 ce k s next).trans (by unfold R19_0;unfold F19_0 G19_0;simp only [el_cond,el_ro,el_sum,el_fail,el_next,el_stop] <;> rfl)
theorem ok19_0 {ce:CallE}:LoopOK c19 ce [] 19 0 (sub [1,0,1,0,0] (body Tryz.f19)):=by
 intro m hm st k r h
 obtain rfl:l19_0=m:=Option.some.inj hm
 unfold l19_0 at h
 split at h
 ·rename_i t1 g0 t9 t10 t11
  obtain ⟨hg,h⟩:=bif_some h
  have q0:=hg
  obtain rfl:=cE q0
  refine ⟨((t10 - t11:Int).toNat+1),?_⟩
  rw [← h]
  exact loop_run (E19_0 t1 t9 t10) (K19_0 t1 t9 t10 k) (st19_0 t1 t9 t10 ce k) _ t11
 ·cases h
def q19 (xa xb xc:List AV) (a1:Int):Bool:=(ro (runW (R19_0 a1 xc (xc.length:Int)) (((xc.length:Int) - 0:Int).toNat+1) 0) false (sumE (fun _=>true) (fun p81=>true)))
def v19_0 (xa xb xc:List AV) (a1:Int):Int:=(ro (runW (R19_0 a1 xc (xc.length:Int)) (((xc.length:Int) - 0:Int).toNat+1) 0) 0 (sumE (fun _=>0) (fun p81=>p81.1)))
def v19_1 (xa xb xc:List AV) (a1:Int):Bool:=(ro (runW (R19_0 a1 xc (xc.length:Int)) (((xc.length:Int) - 0:Int).toNat+1) 0) false (sumE (fun _=>false) (fun p81=>true)))
theorem e19 (xa xb xc:List AV) (a1:Int):funA c19 0 19 [AV.agg [AV.sl [.int .i64] xa,AV.sl [.int .i64] xb,AV.sl [.int .i64,.int .i64] xc],Ai a1]=(ro (runW (R19_0 a1 xc (xc.length:Int)) (((xc.length:Int) - 0:Int).toNat+1) 0) none (sumE (fun _=>some (AV.tup [Ai 0,AV.bool false])) (fun p81=>some (AV.tup [Ai p81.1,AV.bool true])))):=by kernel_rfl
def m19:TModel
 | [.agg [.sl g0 xa,.sl g1 xb,.sl g2 xc],.int .i64 a1]=>bif ctsEq g0 ([.int .i64]) && ctsEq g1 ([.int .i64]) && ctsEq g2 ([.int .i64,.int .i64]) then some (q19 xa xb xc a1,AV.tup [AV.int .i64 (v19_0 xa xb xc a1),AV.bool (v19_1 xa xb xc a1)]) else none
 | _=>none
theorem k19:Known Tryz.prog 19:=⟨Tryz.f19,Tryz.func19,by kernel_rfl,by kernel_rfl⟩
theorem meets19:Meets Tryz.prog 19 m19:=by
 refine mt (lvl:=0) (cf:=c19) rfl mixed k19 Tryz.func19 (by kernel_rfl) (loops_cons ok19_0 noLoop) allT_nil allM_nil noI fun xs r h=>?_
 unfold m19 at h
 split at h
 ·rename_i g0 xa g1 xb g2 xc a1
  obtain ⟨hg,h⟩:=bif_pair h
  simp only [Bool.and_eq_true] at hg
  obtain ⟨⟨q0,q1⟩,q2⟩:=hg
  obtain rfl:=cE q0
  obtain rfl:=cE q1
  obtain rfl:=cE q2
  obtain ⟨h1,rfl⟩:=pair_inj h
  exact (e19 xa xb xc a1).trans ((brO (fun o:Option (Unit ⊕ (Int × Int × Int))=>some (AV.tup [Ai (ro o 0 (sumE (fun _=>0) (fun p81=>p81.1))),AV.bool (ro o false (sumE (fun _=>false) (fun p81=>true)))])) (brS (fun o:Unit ⊕ (Int × Int × Int)=>some (AV.tup [Ai ((sumE (fun _=>0) (fun p81=>p81.1)) o),AV.bool ((sumE (fun _=>false) (fun p81=>true)) o)])) (fun _=>(fun _=>rfl)) (fun p81=>(fun _=>rfl)))) h1)
 ·cases h
noncomputable def c143:Cfg:=cfg Tryz.prog [(143,999,[4])] [(19,m19)] [] [] []
def q143 (xa xb xc:List AV) (a1:Int):Bool:=q19 xa xb xc a1
def v143_0 (xa xb xc:List AV) (a1:Int):Bool:=(v19_1 xa xb xc a1)
theorem e143 (xa xb xc:List AV) (a1:Int):funA c143 0 143 [AV.agg [AV.sl [.int .i64] xa,AV.sl [.int .i64] xb,AV.sl [.int .i64,.int .i64] xc],Ai a1]=(bif q19 xa xb xc a1 then some (AV.bool (v19_1 xa xb xc a1))
 else none):=by kernel_rfl
def m143:TModel
 | [.agg [.sl g0 xa,.sl g1 xb,.sl g2 xc],.int .i64 a1]=>bif ctsEq g0 ([.int .i64]) && ctsEq g1 ([.int .i64]) && ctsEq g2 ([.int .i64,.int .i64]) then some (q143 xa xb xc a1,AV.bool (v143_0 xa xb xc a1)) else none
 | _=>none
theorem k143:Known Tryz.prog 143:=⟨Tryz.f143,Tryz.func143,by kernel_rfl,by kernel_rfl⟩
theorem meets143:Meets Tryz.prog 143 m143:=by
 refine mt (lvl:=0) (cf:=c143) rfl mixed k143 Tryz.func143 (by kernel_rfl) noLoop (allT_cons meets19 allT_nil) allM_nil noI fun xs r h=>?_
 unfold m143 at h
 split at h
 ·rename_i g0 xa g1 xb g2 xc a1
  obtain ⟨hg,h⟩:=bif_pair h
  simp only [Bool.and_eq_true] at hg
  obtain ⟨⟨q0,q1⟩,q2⟩:=hg
  obtain rfl:=cE q0
  obtain rfl:=cE q1
  obtain rfl:=cE q2
  obtain ⟨h1,rfl⟩:=pair_inj h
  exact (e143 xa xb xc a1).trans ((brL1 (fun _=>rfl)) h1)
 ·cases h
def G144_0 {β:Type} (t1:Int) (t7:Int) (t14:List AV) (t15:Int) (t6:Int) (t16:Int) (N:((Int × Int))→β) (K:(Int ⊕ (Int × Int × Int × Int))→β) (d:β):β:=(bif decide (t16<t15) then (bif (decide (0≤t16) && decide (t16<(t14.length:Int))) then (bif decide (fI (t14.getD t16.toNat .undef) 0≤t1) then (bif decide (fI (t14.getD t16.toNat .undef) 0 ≥ t1) then K (.inr (fI (t14.getD t16.toNat .undef) 1,fI (t14.getD t16.toNat .undef) 1,fI (t14.getD t16.toNat .undef) 0,fI (t14.getD t16.toNat .undef) 1))
 else N (fI (t14.getD t16.toNat .undef) 1,IntKind.i64.wrap (t16+1)))
 else (bif decide (fI (t14.getD t16.toNat .undef) 0 ≥ t1) then K (.inr (t6,fI (t14.getD t16.toNat .undef) 1,fI (t14.getD t16.toNat .undef) 0,fI (t14.getD t16.toNat .undef) 1))
 else N (t6,IntKind.i64.wrap (t16+1))))
 else d)
 else K (.inl t6))
def F144_0 (t1 t7:Int) (t14:List AV) (t15 t6 t16:Int):Out ((Int × Int)) (Int ⊕ (Int × Int × Int × Int)):=G144_0 t1 t7 t14 t15 t6 t16 .next .stop .fail
def R144_0 (t1 t7:Int) (t14:List AV) (t15:Int):((Int × Int))→Out ((Int × Int)) (Int ⊕ (Int × Int × Int × Int)):=fun s:Int × Int=>F144_0 t1 t7 t14 t15 s.1 s.2
def E144_0 (t1 t7:Int) (t14:List AV) (t15:Int):((Int × Int))→St:=fun s:Int × Int=>⟨[(1,Ai t1),(6,Ai s.1),(7,Ai t7),(14,AV.sl [.int .i64,.int .i64] t14),(15,Ai t15),(16,Ai s.2)],[]⟩
def K144_0 (t1 t7:Int) (t14:List AV) (t15:Int) (k:Kont):(Int ⊕ (Int × Int × Int × Int))→Option AV:=sumE (fun p:Int=>k (.exit 0) ⟨[(6,Ai p),(7,Ai t7)],[]⟩) (fun p:Int × Int × Int × Int=>k .ret ⟨[(4,Ai p.1),(5,Ai p.2.1)],[([1,9],⟨true,[],[AV.agg [Ai p.2.2.1,Ai p.2.2.2]]⟩)]⟩)
def l144_0:LModel:=fun _ _ st k=>match st with
 | ⟨[(1,.int .i64 t1),(6,.int .i64 t6),(7,.int .i64 t7),(14,.sl g0 t14),(15,.int .i64 t15),(16,.int .i64 t16)],[]⟩=>bif ctsEq g0 ([.int .i64,.int .i64]) then ro (runW (R144_0 t1 t7 t14 t15) ((t15 - t16:Int).toNat+1) (t6,t16)) none (K144_0 t1 t7 t14 t15 k) else none
 | _=>none
noncomputable def c144:Cfg:=cfg Tryz.prog [(144,0,[1,6,7,14,15,16]),(144,999,[4,5]),(144,1000,[6,7]),(144,1001,[1,6,7,14,15,16])] [] [] [] [(144,0,l144_0)]
theorem s144_0 (t1 t7:Int) (t14:List AV) (t15:Int) (ce:CallE) (k:Kont) (s:Int × Int) (next:St→Option AV):stepA (codeA c144 ce [] 144 0 (sub [1,1,0,1,0,0] (body Tryz.f144))) (normA [] [1,6,7,14,15,16]) next ((E144_0 t1 t7 t14 t15) s) k=G144_0 t1 t7 t14 t15 s.1 s.2 (fun s=>next ((E144_0 t1 t7 t14 t15) s)) (K144_0 t1 t7 t14 t15 k) none:=by kernel_rfl
theorem st144_0 (t1 t7:Int) (t14:List AV) (t15:Int) (ce:CallE) (k:Kont) (s:(Int × Int)) (next:St→Option AV):stepA (codeA c144 ce [] 144 0 (sub [1,1,0,1,0,0] (body Tryz.f144))) (normA [] [1,6,7,14,15,16]) next ((E144_0 t1 t7 t14 t15) s) k=(R144_0 t1 t7 t14 t15 s).el none (fun s=>next ((E144_0 t1 t7 t14 t15) s)) (K144_0 t1 t7 t14 t15 k):=(s144_0 t1 t7 t14 t15 ce k s next).trans (by unfold R144_0;unfold F144_0 G144_0;simp only [el_cond,el_ro,el_sum,el_fail,el_next,el_stop] <;> rfl)
theorem ok144_0 {ce:CallE}:LoopOK c144 ce [] 144 0 (sub [1,1,0,1,0,0] (body Tryz.f144)):=by
 intro m hm st k r h
 obtain rfl:l144_0=m:=Option.some.inj hm
 unfold l144_0 at h
 split at h
 ·rename_i t1 t6 t7 g0 t14 t15 t16
  obtain ⟨hg,h⟩:=bif_some h
  have q0:=hg
  obtain rfl:=cE q0
  refine ⟨((t15 - t16:Int).toNat+1),?_⟩
  rw [← h]
  exact loop_run (E144_0 t1 t7 t14 t15) (K144_0 t1 t7 t14 t15 k) (st144_0 t1 t7 t14 t15 ce k) _ (t6,t16)
 ·cases h
def q144 (xa xb xc:List AV) (a1:Int):Bool:=(ro (runW (R144_0 a1 (xa.length:Int) xc (xc.length:Int)) (((xc.length:Int) - 0:Int).toNat+1) (0,0)) false (sumE (fun p82=>true) (fun p83=>true)))
def v144_0 (xa xb xc:List AV) (a1:Int):Int:=(ro (runW (R144_0 a1 (xa.length:Int) xc (xc.length:Int)) (((xc.length:Int) - 0:Int).toNat+1) (0,0)) 0 (sumE (fun p82=>p82) (fun p83=>p83.1)))
def v144_1 (xa xb xc:List AV) (a1:Int):Int:=(ro (runW (R144_0 a1 (xa.length:Int) xc (xc.length:Int)) (((xc.length:Int) - 0:Int).toNat+1) (0,0)) 0 (sumE (fun p82=>(xa.length:Int)) (fun p83=>p83.2.1)))
theorem e144 (xa xb xc:List AV) (a1:Int):funA c144 0 144 [AV.agg [AV.sl [.int .i64] xa,AV.sl [.int .i64] xb,AV.sl [.int .i64,.int .i64] xc],Ai a1]=(ro (runW (R144_0 a1 (xa.length:Int) xc (xc.length:Int)) (((xc.length:Int) - 0:Int).toNat+1) (0,0)) none (sumE (fun p82=>some (AV.tup [Ai p82,Ai (xa.length:Int)])) (fun p83=>some (AV.tup [Ai p83.1,Ai p83.2.1])))):=by kernel_rfl
def m144:TModel
 | [.agg [.sl g0 xa,.sl g1 xb,.sl g2 xc],.int .i64 a1]=>bif ctsEq g0 ([.int .i64]) && ctsEq g1 ([.int .i64]) && ctsEq g2 ([.int .i64,.int .i64]) then some (q144 xa xb xc a1,AV.tup [AV.int .i64 (v144_0 xa xb xc a1),AV.int .i64 (v144_1 xa xb xc a1)]) else none
 | _=>none
theorem k144:Known Tryz.prog 144:=⟨Tryz.f144,Tryz.func144,by kernel_rfl,by kernel_rfl⟩
theorem meets144:Meets Tryz.prog 144 m144:=by
 refine mt (lvl:=0) (cf:=c144) rfl mixed k144 Tryz.func144 (by kernel_rfl) (loops_cons ok144_0 noLoop) allT_nil allM_nil noI fun xs r h=>?_
 unfold m144 at h
 split at h
 ·rename_i g0 xa g1 xb g2 xc a1
  obtain ⟨hg,h⟩:=bif_pair h
  simp only [Bool.and_eq_true] at hg
  obtain ⟨⟨q0,q1⟩,q2⟩:=hg
  obtain rfl:=cE q0
  obtain rfl:=cE q1
  obtain rfl:=cE q2
  obtain ⟨h1,rfl⟩:=pair_inj h
  exact (e144 xa xb xc a1).trans ((brO (fun o:Option (Int ⊕ (Int × Int × Int × Int))=>some (AV.tup [Ai (ro o 0 (sumE (fun p82=>p82) (fun p83=>p83.1))),Ai (ro o 0 (sumE (fun p82=>(xa.length:Int)) (fun p83=>p83.2.1)))])) (brS (fun o:Int ⊕ (Int × Int × Int × Int)=>some (AV.tup [Ai ((sumE (fun p82=>p82) (fun p83=>p83.1)) o),Ai ((sumE (fun p82=>(xa.length:Int)) (fun p83=>p83.2.1)) o)])) (fun p82=>(fun _=>rfl)) (fun p83=>(fun _=>rfl)))) h1)
 ·cases h
def G69_0 {β:Type} (t5:Int) (t7:Int) (h0_0:List AV) (h0_1:List AV) (h0_2:List AV) (h1_0:List AV) (h1_1:Int) (h1_2:Bool) (h1_3:Int) (h1_4:Int) (h1_5:Int) (h1_6:Int) (h1_7:Int) (h1_8:Int) (t8:Int) (N:(Int)→β) (K:(Unit ⊕ Unit)→β) (d:β):β:=(bif decide (t8<t7) then (bif decide (t8<h1_5) then (bif (decide (0≤t8) && decide (t8<(h0_0.length:Int))) then (bif decide (fI (h0_0.getD t8.toNat .undef) 0 ≥ t5) then K (.inr ())
 else (bif decide (t8 > h1_6) then (bif (decide (0≤t8) && decide (t8<(h0_0.length:Int))) then (bif decide (fI (h0_0.getD t8.toNat .undef) 0<t5) then K (.inr ())
 else N (IntKind.i64.wrap (t8+1)))
 else d)
 else N (IntKind.i64.wrap (t8+1))))
 else d)
 else (bif decide (t8 > h1_6) then (bif (decide (0≤t8) && decide (t8<(h0_0.length:Int))) then (bif decide (fI (h0_0.getD t8.toNat .undef) 0<t5) then K (.inr ())
 else N (IntKind.i64.wrap (t8+1)))
 else d)
 else N (IntKind.i64.wrap (t8+1))))
 else K (.inl ()))
def F69_0 (t5 t7:Int) (h0_0 h0_1 h0_2 h1_0:List AV) (h1_1:Int) (h1_2:Bool) (h1_3 h1_4 h1_5 h1_6 h1_7 h1_8 t8:Int):Out (Int) (Unit ⊕ Unit):=G69_0 t5 t7 h0_0 h0_1 h0_2 h1_0 h1_1 h1_2 h1_3 h1_4 h1_5 h1_6 h1_7 h1_8 t8 .next .stop .fail
def R69_0 (t5 t7:Int) (h0_0 h0_1 h0_2 h1_0:List AV) (h1_1:Int) (h1_2:Bool) (h1_3 h1_4 h1_5 h1_6 h1_7 h1_8:Int):(Int)→Out (Int) (Unit ⊕ Unit):=fun s:Int=>F69_0 t5 t7 h0_0 h0_1 h0_2 h1_0 h1_1 h1_2 h1_3 h1_4 h1_5 h1_6 h1_7 h1_8 s
def E69_0 (t5 t7:Int) (h0_0 h0_1 h0_2 h1_0:List AV) (h1_1:Int) (h1_2:Bool) (h1_3 h1_4 h1_5 h1_6 h1_7 h1_8:Int):(Int)→St:=fun s:Int=>⟨[(2,AV.ptr [0,2] 0 0),(3,AV.ptr [0,3] 0 0),(5,Ai t5),(7,Ai t7),(8,Ai s)],[([0,2],⟨true,[],[AV.agg [AV.sl [.int .i64] h0_0,AV.sl [.int .i64] h0_1,AV.sl [.int .i64,.int .i64] h0_2]]⟩),([0,3],⟨true,[],[AV.agg [AV.sl [.int .i64] h1_0,Ai h1_1,AV.bool h1_2,Ai h1_3,Ai h1_4,Ai h1_5,Ai h1_6,Ai h1_7,Ai h1_8]]⟩)]⟩
def K69_0 (t5 t7:Int) (h0_0 h0_1 h0_2 h1_0:List AV) (h1_1:Int) (h1_2:Bool) (h1_3 h1_4 h1_5 h1_6 h1_7 h1_8:Int) (k:Kont):(Unit ⊕ Unit)→Option AV:=sumE (fun _:Unit=>k (.exit 0) ⟨[],[([0,2],⟨true,[],[AV.agg [AV.sl [.int .i64] h0_0,AV.sl [.int .i64] h0_1,AV.sl [.int .i64,.int .i64] h0_2]]⟩),([0,3],⟨true,[],[AV.agg [AV.sl [.int .i64] h1_0,Ai h1_1,AV.bool h1_2,Ai h1_3,Ai h1_4,Ai h1_5,Ai h1_6,Ai h1_7,Ai h1_8]]⟩)]⟩) (fun _:Unit=>k .ret ⟨[(4,AV.bool false)],[([0,2],⟨true,[],[AV.agg [AV.sl [.int .i64] h0_0,AV.sl [.int .i64] h0_1,AV.sl [.int .i64,.int .i64] h0_2]]⟩),([0,3],⟨true,[],[AV.agg [AV.sl [.int .i64] h1_0,Ai h1_1,AV.bool h1_2,Ai h1_3,Ai h1_4,Ai h1_5,Ai h1_6,Ai h1_7,Ai h1_8]]⟩)]⟩)
def l69_0:LModel:=fun _ _ st k=>match st with
 | ⟨[(2,.ptr g0 g1 g2),(3,.ptr g3 g4 g5),(5,.int .i64 t5),(7,.int .i64 t7),(8,.int .i64 t8)],[(g6,⟨true,[],[.agg [.sl g7 h0_0,.sl g8 h0_1,.sl g9 h0_2]]⟩),(g10,⟨true,[],[.agg [.sl g11 h1_0,.int .i64 h1_1,.bool h1_2,.int .i64 h1_3,.int .i64 h1_4,.int .i64 h1_5,.int .i64 h1_6,.int .i64 h1_7,.int .i64 h1_8]]⟩)]⟩=>bif nmEq g0 ([0,2]) && Nat.beq g1 0 && Nat.beq g2 0 && nmEq g3 ([0,3]) && Nat.beq g4 0 && Nat.beq g5 0 && nmEq g6 ([0,2]) && ctsEq g7 ([.int .i64]) && ctsEq g8 ([.int .i64]) && ctsEq g9 ([.int .i64,.int .i64]) && nmEq g10 ([0,3]) && ctsEq g11 ([.int .i64]) then ro (runW (R69_0 t5 t7 h0_0 h0_1 h0_2 h1_0 h1_1 h1_2 h1_3 h1_4 h1_5 h1_6 h1_7 h1_8) ((t7 - t8:Int).toNat+1) t8) none (K69_0 t5 t7 h0_0 h0_1 h0_2 h1_0 h1_1 h1_2 h1_3 h1_4 h1_5 h1_6 h1_7 h1_8 k) else none
 | _=>none
noncomputable def c69:Cfg:=cfg Tryz.prog [(69,0,[2,3,5,7,8]),(69,999,[4]),(69,1000,[]),(69,1001,[2,3,5,7,8])] [(142,m142),(143,m143),(144,m144)] [] [] [(69,0,l69_0)]
theorem s69_0 (t5 t7:Int) (h0_0 h0_1 h0_2 h1_0:List AV) (h1_1:Int) (h1_2:Bool) (h1_3 h1_4 h1_5 h1_6 h1_7 h1_8:Int) (ce:CallE) (k:Kont) (s:Int) (next:St→Option AV):stepA (codeA c69 ce [] 69 0 (sub [1,1,1,1,1,1,1,0,1,0,0] (body Tryz.f69))) (normA [] [2,3,5,7,8]) next ((E69_0 t5 t7 h0_0 h0_1 h0_2 h1_0 h1_1 h1_2 h1_3 h1_4 h1_5 h1_6 h1_7 h1_8) s) k=G69_0 t5 t7 h0_0 h0_1 h0_2 h1_0 h1_1 h1_2 h1_3 h1_4 h1_5 h1_6 h1_7 h1_8 s (fun s=>next ((E69_0 t5 t7 h0_0 h0_1 h0_2 h1_0 h1_1 h1_2 h1_3 h1_4 h1_5 h1_6 h1_7 h1_8) s)) (K69_0 t5 t7 h0_0 h0_1 h0_2 h1_0 h1_1 h1_2 h1_3 h1_4 h1_5 h1_6 h1_7 h1_8 k) none:=by kernel_rfl
theorem st69_0 (t5 t7:Int) (h0_0 h0_1 h0_2 h1_0:List AV) (h1_1:Int) (h1_2:Bool) (h1_3 h1_4 h1_5 h1_6 h1_7 h1_8:Int) (ce:CallE) (k:Kont) (s:Int) (next:St→Option AV):stepA (codeA c69 ce [] 69 0 (sub [1,1,1,1,1,1,1,0,1,0,0] (body Tryz.f69))) (normA [] [2,3,5,7,8]) next ((E69_0 t5 t7 h0_0 h0_1 h0_2 h1_0 h1_1 h1_2 h1_3 h1_4 h1_5 h1_6 h1_7 h1_8) s) k=(R69_0 t5 t7 h0_0 h0_1 h0_2 h1_0 h1_1 h1_2 h1_3 h1_4 h1_5 h1_6 h1_7 h1_8 s).el none (fun s=>next ((E69_0 t5 t7 h0_0 h0_1 h0_2 h1_0 h1_1 h1_2 h1_3 h1_4 h1_5 h1_6 h1_7 h1_8) s)) (K69_0 t5 t7 h0_0 h0_1 h0_2 h1_0 h1_1 h1_2 h1_3 h1_4 h1_5 h1_6 h1_7 h1_8 k):=(s69_0 t5 t7 h0_0 h0_1 h0_2 h1_0 h1_1 h1_2 h1_3 h1_4 h1_5 h1_6 h1_7 h1_8 ce k s next).trans (by unfold R69_0;unfold F69_0 G69_0;simp only [el_cond,el_ro,el_sum,el_fail,el_next,el_stop] <;> rfl)
theorem ok69_0 {ce:CallE}:LoopOK c69 ce [] 69 0 (sub [1,1,1,1,1,1,1,0,1,0,0] (body Tryz.f69)):=by
 intro m hm st k r h
 obtain rfl:l69_0=m:=Option.some.inj hm
 unfold l69_0 at h
 split at h
 ·rename_i g0 g1 g2 g3 g4 g5 t5 t7 t8 g6 g7 h0_0 g8 h0_1 g9 h0_2 g10 g11 h1_0 h1_1 h1_2 h1_3 h1_4 h1_5 h1_6 h1_7 h1_8
  obtain ⟨hg,h⟩:=bif_some h
  simp only [Bool.and_eq_true] at hg
  obtain ⟨⟨⟨⟨⟨⟨⟨⟨⟨⟨⟨q0,q1⟩,q2⟩,q3⟩,q4⟩,q5⟩,q6⟩,q7⟩,q8⟩,q9⟩,q10⟩,q11⟩:=hg
  obtain rfl:=nE q0
  obtain rfl:=bE q1
  obtain rfl:=bE q2
  obtain rfl:=nE q3
  obtain rfl:=bE q4
  obtain rfl:=bE q5
  obtain rfl:=nE q6
  obtain rfl:=cE q7
  obtain rfl:=cE q8
  obtain rfl:=cE q9
  obtain rfl:=nE q10
  obtain rfl:=cE q11
  refine ⟨((t7 - t8:Int).toNat+1),?_⟩
  rw [← h]
  exact loop_run (E69_0 t5 t7 h0_0 h0_1 h0_2 h1_0 h1_1 h1_2 h1_3 h1_4 h1_5 h1_6 h1_7 h1_8) (K69_0 t5 t7 h0_0 h0_1 h0_2 h1_0 h1_1 h1_2 h1_3 h1_4 h1_5 h1_6 h1_7 h1_8 k) (st69_0 t5 t7 h0_0 h0_1 h0_2 h1_0 h1_1 h1_2 h1_3 h1_4 h1_5 h1_6 h1_7 h1_8 ce k) _ t8
 ·cases h
def q69 (xa xb xc ya:List AV) (yb:Int) (yc:Bool) (yd ye yf yg yh yi:Int):Bool:=(bif decide ((ya.length:Int) > 6) then true else (q142 ya && (bif !(v142_0 ya) then true else (bif decide (yb<0) then true else (bif decide (yb > (ya.length:Int)) then true else (bif decide (yh<0) then true else (bif decide (yh > 100000) then true else (bif decide (yi<0) then true else (bif decide (yi > 100000) then true else (bif !yc then true else (bif decide (yb=(ya.length:Int)) then true else ((decide (0≤yb) && decide (yb<(ya.length:Int))) && (q143 xa xb xc (fI (ya.getD yb.toNat .undef) 0) && (bif (v143_0 xa xb xc (fI (ya.getD yb.toNat .undef) 0)) then true else ((decide (0≤yb) && decide (yb<(ya.length:Int))) && (q144 xa xb xc (fI (ya.getD yb.toNat .undef) 0) && (bif !decide (yd=(v144_0 xa xb xc (fI (ya.getD yb.toNat .undef) 0))) then true else (bif !decide (ye=(v144_1 xa xb xc (fI (ya.getD yb.toNat .undef) 0))) then true else (bif decide (yf<(v144_0 xa xb xc (fI (ya.getD yb.toNat .undef) 0))) then true else (bif decide (yg ≥ (v144_1 xa xb xc (fI (ya.getD yb.toNat .undef) 0))) then true else (bif decide (IntKind.i64.wrap (yf - 1) > yg) then true else (ro (runW (R69_0 (fI (ya.getD yb.toNat .undef) 0) (v144_1 xa xb xc (fI (ya.getD yb.toNat .undef) 0)) xa xb xc ya yb yc yd ye yf yg yh yi) (((v144_1 xa xb xc (fI (ya.getD yb.toNat .undef) 0)) - (v144_0 xa xb xc (fI (ya.getD yb.toNat .undef) 0)):Int).toNat+1) (v144_0 xa xb xc (fI (ya.getD yb.toNat .undef) 0))) false (sumE (fun _=>true) (fun _=>true))))))))))))))))))))))))
def v69_0 (xa xb xc ya:List AV) (yb:Int) (yc:Bool) (yd ye yf yg yh yi:Int):Bool:=(bif decide ((ya.length:Int) > 6) then false else (bif !(v142_0 ya) then false else (bif decide (yb<0) then false else (bif decide (yb > (ya.length:Int)) then false else (bif decide (yh<0) then false else (bif decide (yh > 100000) then false else (bif decide (yi<0) then false else (bif decide (yi > 100000) then false else (bif !yc then (bif decide (yd=0) then (bif decide (ye=0) then (bif decide (yf=0) then decide (yg=0) else false) else false) else false) else (bif decide (yb=(ya.length:Int)) then false else (bif (v143_0 xa xb xc (fI (ya.getD yb.toNat .undef) 0)) then false else (bif !decide (yd=(v144_0 xa xb xc (fI (ya.getD yb.toNat .undef) 0))) then false else (bif !decide (ye=(v144_1 xa xb xc (fI (ya.getD yb.toNat .undef) 0))) then false else (bif decide (yf<(v144_0 xa xb xc (fI (ya.getD yb.toNat .undef) 0))) then false else (bif decide (yg ≥ (v144_1 xa xb xc (fI (ya.getD yb.toNat .undef) 0))) then false else (bif decide (IntKind.i64.wrap (yf - 1) > yg) then false else (ro (runW (R69_0 (fI (ya.getD yb.toNat .undef) 0) (v144_1 xa xb xc (fI (ya.getD yb.toNat .undef) 0)) xa xb xc ya yb yc yd ye yf yg yh yi) (((v144_1 xa xb xc (fI (ya.getD yb.toNat .undef) 0)) - (v144_0 xa xb xc (fI (ya.getD yb.toNat .undef) 0)):Int).toNat+1) (v144_0 xa xb xc (fI (ya.getD yb.toNat .undef) 0))) false (sumE (fun _=>true) (fun _=>false)))))))))))))))))))
theorem e69 (xa xb xc ya:List AV) (yb:Int) (yc:Bool) (yd ye yf yg yh yi:Int):funA c69 0 69 [AV.agg [AV.sl [.int .i64] xa,AV.sl [.int .i64] xb,AV.sl [.int .i64,.int .i64] xc],AV.agg [AV.sl [.int .i64] ya,Ai yb,AV.bool yc,Ai yd,Ai ye,Ai yf,Ai yg,Ai yh,Ai yi]]=((fun (x1:Int) (x2:Int)=>(bif decide ((ya.length:Int) > 6) then some (AV.bool false)
 else (bif q142 ya then (bif !(v142_0 ya) then some (AV.bool false)
 else (bif decide (yb<0) then some (AV.bool false)
 else (bif decide (yb > (ya.length:Int)) then some (AV.bool false)
 else (bif decide (yh<0) then some (AV.bool false)
 else (bif decide (yh > 100000) then some (AV.bool false)
 else (bif decide (yi<0) then some (AV.bool false)
 else (bif decide (yi > 100000) then some (AV.bool false)
 else (bif !yc then (bif decide (yd=0) then (bif decide (ye=0) then (bif decide (yf=0) then some (AV.bool (decide (yg=0)))
 else some (AV.bool false))
 else some (AV.bool false))
 else some (AV.bool false))
 else (bif decide (yb=(ya.length:Int)) then some (AV.bool false)
 else (bif (decide (0≤yb) && decide (yb<(ya.length:Int))) then (bif q143 xa xb xc (fI (ya.getD yb.toNat .undef) 0) then (bif (v143_0 xa xb xc (fI (ya.getD yb.toNat .undef) 0)) then some (AV.bool false)
 else (bif (decide (0≤yb) && decide (yb<(ya.length:Int))) then (bif q144 xa xb xc (fI (ya.getD yb.toNat .undef) 0) then (bif !decide (yd=x1) then some (AV.bool false)
 else (bif !decide (ye=x2) then some (AV.bool false)
 else (bif decide (yf<x1) then some (AV.bool false)
 else (bif decide (yg ≥ x2) then some (AV.bool false)
 else (bif decide (IntKind.i64.wrap (yf - 1) > yg) then some (AV.bool false)
 else (ro (runW (R69_0 (fI (ya.getD yb.toNat .undef) 0) x2 xa xb xc ya yb yc yd ye yf yg yh yi) ((x2 - x1:Int).toNat+1) x1) none (sumE (fun _=>some (AV.bool true)) (fun _=>some (AV.bool false)))))))))
 else none)
 else none))
 else none)
 else none))))))))))
 else none))) (v144_0 xa xb xc (fI (ya.getD yb.toNat .undef) 0)) (v144_1 xa xb xc (fI (ya.getD yb.toNat .undef) 0))):=by kernel_rfl
theorem r69 (xa xb xc ya:List AV) (yb:Int) (yc:Bool) (yd ye yf yg yh yi:Int) (h:q69 xa xb xc ya yb yc yd ye yf yg yh yi=true):funA c69 0 69 [AV.agg [AV.sl [.int .i64] xa,AV.sl [.int .i64] xb,AV.sl [.int .i64,.int .i64] xc],AV.agg [AV.sl [.int .i64] ya,AV.int .i64 yb,AV.bool yc,AV.int .i64 yd,AV.int .i64 ye,AV.int .i64 yf,AV.int .i64 yg,AV.int .i64 yh,AV.int .i64 yi]]=some (AV.bool (v69_0 xa xb xc ya yb yc yd ye yf yg yh yi)):=by
 refine (e69 xa xb xc ya yb yc yd ye yf yg yh yi).trans ?_
 unfold q69 at h
 unfold v69_0
 refine ifG (fun hc=>?_) (fun hc=>?_) <;> first|rw [hc] at h ⊢|rw [hc] at h|rw [hc]|skip
 ·rfl
 ·refine ifG (fun hc=>?_) (fun hc=>?_) <;> first|rw [hc] at h ⊢|rw [hc] at h|rw [hc]|skip
  ·refine ifG (fun hc=>?_) (fun hc=>?_) <;> first|rw [hc] at h ⊢|rw [hc] at h|rw [hc]|skip
   ·rfl
   ·refine ifG (fun hc=>?_) (fun hc=>?_) <;> first|rw [hc] at h ⊢|rw [hc] at h|rw [hc]|skip
    ·rfl
    ·refine ifG (fun hc=>?_) (fun hc=>?_) <;> first|rw [hc] at h ⊢|rw [hc] at h|rw [hc]|skip
     ·rfl
     ·refine ifG (fun hc=>?_) (fun hc=>?_) <;> first|rw [hc] at h ⊢|rw [hc] at h|rw [hc]|skip
      ·rfl
      ·refine ifG (fun hc=>?_) (fun hc=>?_) <;> first|rw [hc] at h ⊢|rw [hc] at h|rw [hc]|skip
       ·rfl
       ·refine ifG (fun hc=>?_) (fun hc=>?_) <;> first|rw [hc] at h ⊢|rw [hc] at h|rw [hc]|skip
        ·rfl
        ·refine ifG (fun hc=>?_) (fun hc=>?_) <;> first|rw [hc] at h ⊢|rw [hc] at h|rw [hc]|skip
         ·rfl
         ·refine ifG (fun hc=>?_) (fun hc=>?_) <;> first|rw [hc] at h ⊢|rw [hc] at h|rw [hc]|skip
          ·refine ifG (fun hc=>?_) (fun hc=>?_) <;> first|rw [hc] at h ⊢|rw [hc] at h|rw [hc]|skip
           ·refine ifG (fun hc=>?_) (fun hc=>?_) <;> first|rw [hc] at h ⊢|rw [hc] at h|rw [hc]|skip
            ·refine ifG (fun hc=>?_) (fun hc=>?_) <;> first|rw [hc] at h ⊢|rw [hc] at h|rw [hc]|skip
             ·rfl
             ·rfl
            ·rfl
           ·rfl
          ·refine ifG (fun hc=>?_) (fun hc=>?_) <;> first|rw [hc] at h ⊢|rw [hc] at h|rw [hc]|skip
           ·rfl
           ·refine ifG (fun hc=>?_) (fun hc=>?_) <;> first|rw [hc] at h ⊢|rw [hc] at h|rw [hc]|skip
            ·refine ifG (fun hc=>?_) (fun hc=>?_) <;> first|rw [hc] at h ⊢|rw [hc] at h|rw [hc]|skip
             ·refine ifG (fun hc=>?_) (fun hc=>?_) <;> first|rw [hc] at h ⊢|rw [hc] at h|rw [hc]|skip
              ·rfl
              ·refine ifT ?_
               refine ifG (fun hc=>?_) (fun hc=>?_) <;> first|rw [hc] at h ⊢|rw [hc] at h|rw [hc]|skip
               ·refine ifG (fun hc=>?_) (fun hc=>?_) <;> first|rw [hc] at h ⊢|rw [hc] at h|rw [hc]|skip
                ·rfl
                ·refine ifG (fun hc=>?_) (fun hc=>?_) <;> first|rw [hc] at h ⊢|rw [hc] at h|rw [hc]|skip
                 ·rfl
                 ·refine ifG (fun hc=>?_) (fun hc=>?_) <;> first|rw [hc] at h ⊢|rw [hc] at h|rw [hc]|skip
                  ·rfl
                  ·refine ifG (fun hc=>?_) (fun hc=>?_) <;> first|rw [hc] at h ⊢|rw [hc] at h|rw [hc]|skip
                   ·rfl
                   ·refine ifG (fun hc=>?_) (fun hc=>?_) <;> first|rw [hc] at h ⊢|rw [hc] at h|rw [hc]|skip
                    ·rfl
                    ·refine roG (fun hc=>?_) (fun r hc=>?_) <;> first|rw [hc] at h ⊢|rw [hc] at h|rw [hc]|skip
                     ·exact Bool.noConfusion h
                     ·try simp only [ro] at h ⊢
                      cases r with
                      | inl _ =>
                       try simp only [sumE] at h ⊢
                       rfl
                      | inr _ =>
                       try simp only [sumE] at h ⊢
                       rfl
               ·first|exact Bool.noConfusion h|exact Bool.noConfusion hc
             ·first|exact Bool.noConfusion h|exact Bool.noConfusion hc
            ·first|exact Bool.noConfusion h|exact Bool.noConfusion hc
  ·first|exact Bool.noConfusion h|exact Bool.noConfusion hc
def m69:TModel
 | [.agg [.sl g0 xa,.sl g1 xb,.sl g2 xc],.agg [.sl g3 ya,.int .i64 yb,.bool yc,.int .i64 yd,.int .i64 ye,.int .i64 yf,.int .i64 yg,.int .i64 yh,.int .i64 yi]]=>bif ctsEq g0 ([.int .i64]) && ctsEq g1 ([.int .i64]) && ctsEq g2 ([.int .i64,.int .i64]) && ctsEq g3 ([.int .i64]) then some (q69 xa xb xc ya yb yc yd ye yf yg yh yi,AV.bool (v69_0 xa xb xc ya yb yc yd ye yf yg yh yi)) else none
 | _=>none
theorem k69:Known Tryz.prog 69:=⟨Tryz.f69,Tryz.func69,by kernel_rfl,by kernel_rfl⟩
theorem meets69:Meets Tryz.prog 69 m69:=by
 refine mt (lvl:=0) (cf:=c69) rfl mixed k69 Tryz.func69 (by kernel_rfl) (loops_cons ok69_0 noLoop) (allT_cons meets142 (allT_cons meets143 (allT_cons meets144 allT_nil))) allM_nil noI fun xs r h=>?_
 unfold m69 at h
 split at h
 ·rename_i g0 xa g1 xb g2 xc g3 ya yb yc yd ye yf yg yh yi
  obtain ⟨hg,h⟩:=bif_pair h
  simp only [Bool.and_eq_true] at hg
  obtain ⟨⟨⟨q0,q1⟩,q2⟩,q3⟩:=hg
  obtain rfl:=cE q0
  obtain rfl:=cE q1
  obtain rfl:=cE q2
  obtain rfl:=cE q3
  obtain ⟨h1,rfl⟩:=pair_inj h
  exact r69 xa xb xc ya yb yc yd ye yf yg yh yi h1
 ·cases h
noncomputable def c70:Cfg:=cfg Tryz.prog [(70,999,[8])] [] [] [] []
def v70_0 (a0 a1 a2 a3:Int):Bool:=(bif decide ((if a2 > a0 then a2 else a0)<(if a3<a1 then a3 else a1)) then true else (bif decide (a0=a2) then decide (a1=a3) else false))
theorem e70 (a0 a1 a2 a3:Int):funA c70 0 70 [Ai a0,Ai a1,Ai a2,Ai a3]=(bif decide ((if a2 > a0 then a2 else a0)<(if a3<a1 then a3 else a1)) then some (AV.bool true)
 else (bif decide (a0=a2) then some (AV.bool (decide (a1=a3)))
 else some (AV.bool false))):=by kernel_rfl
def m70:TModel
 | [.int .i64 a0,.int .i64 a1,.int .i64 a2,.int .i64 a3]=>some (true,AV.bool (v70_0 a0 a1 a2 a3))
 | _=>none
theorem k70:Known Tryz.prog 70:=⟨Tryz.f70,Tryz.func70,by kernel_rfl,by kernel_rfl⟩
theorem meets70:Meets Tryz.prog 70 m70:=by
 refine mt (lvl:=0) (cf:=c70) rfl mixed k70 Tryz.func70 (by kernel_rfl) noLoop allT_nil allM_nil noI fun xs r h=>?_
 unfold m70 at h
 split at h
 ·rename_i a0 a1 a2 a3
  obtain ⟨h1,rfl⟩:=pair_inj h
  exact (e70 a0 a1 a2 a3).trans (of_tt (brT (fun b=>some (AV.bool (bif b then true else (bif decide (a0=a2) then decide (a1=a3) else false)))) (fun _=>rfl) (brT (fun b=>some (AV.bool (bif b then decide (a1=a3) else false))) (fun _=>rfl) (fun _=>rfl))))
 ·cases h
def G12_2 {β:Type} (t34:List AV) (t35:Int) (t36:Int) (t49:List AV) (t50:Int) (h0_0:List AV) (h0_1:List AV) (h0_2:List AV) (h0_3:List AV) (h0_4:Int) (h1_0:List AV) (h1_1:Int) (h1_2:Bool) (h1_3:Int) (h1_4:Int) (h1_5:Int) (h1_6:Int) (h1_7:Int) (h1_8:Int) (t51:Int) (N:(Int)→β) (K:(Unit ⊕ ((List AV) × Int × Bool × Int × Int × Int × Int × Int × Int))→β) (d:β):β:=(bif decide (t51<t50) then (bif (decide (0≤t51) && decide (t51<(t49.length:Int))) then (bif h1_2 then (bif fB (t49.getD t51.toNat .undef) 2 then (bif (v70_0 h1_3 h1_4 (fI (t49.getD t51.toNat .undef) 3) (fI (t49.getD t51.toNat .undef) 4)) then K (.inr (fL (t49.getD t51.toNat .undef) 0,fI (t49.getD t51.toNat .undef) 1,fB (t49.getD t51.toNat .undef) 2,fI (t49.getD t51.toNat .undef) 3,fI (t49.getD t51.toNat .undef) 4,fI (t49.getD t51.toNat .undef) 5,fI (t49.getD t51.toNat .undef) 6,fI (t49.getD t51.toNat .undef) 7,fI (t49.getD t51.toNat .undef) 8))
 else N (IntKind.i64.wrap (t51+1)))
 else N (IntKind.i64.wrap (t51+1)))
 else N (IntKind.i64.wrap (t51+1)))
 else d)
 else K (.inl ()))
def F12_2 (t34:List AV) (t35 t36:Int) (t49:List AV) (t50:Int) (h0_0 h0_1 h0_2 h0_3:List AV) (h0_4:Int) (h1_0:List AV) (h1_1:Int) (h1_2:Bool) (h1_3 h1_4 h1_5 h1_6 h1_7 h1_8 t51:Int):Out (Int) (Unit ⊕ ((List AV) × Int × Bool × Int × Int × Int × Int × Int × Int)):=G12_2 t34 t35 t36 t49 t50 h0_0 h0_1 h0_2 h0_3 h0_4 h1_0 h1_1 h1_2 h1_3 h1_4 h1_5 h1_6 h1_7 h1_8 t51 .next .stop .fail
def R12_2 (t34:List AV) (t35 t36:Int) (t49:List AV) (t50:Int) (h0_0 h0_1 h0_2 h0_3:List AV) (h0_4:Int) (h1_0:List AV) (h1_1:Int) (h1_2:Bool) (h1_3 h1_4 h1_5 h1_6 h1_7 h1_8:Int):(Int)→Out (Int) (Unit ⊕ ((List AV) × Int × Bool × Int × Int × Int × Int × Int × Int)):=fun s:Int=>F12_2 t34 t35 t36 t49 t50 h0_0 h0_1 h0_2 h0_3 h0_4 h1_0 h1_1 h1_2 h1_3 h1_4 h1_5 h1_6 h1_7 h1_8 s
def E12_2 (t34:List AV) (t35 t36:Int) (t49:List AV) (t50:Int) (h0_0 h0_1 h0_2 h0_3:List AV) (h0_4:Int) (h1_0:List AV) (h1_1:Int) (h1_2:Bool) (h1_3 h1_4 h1_5 h1_6 h1_7 h1_8:Int):(Int)→St:=fun s:Int=>⟨[(1,AV.ptr [0,1] 0 0),(4,AV.ptr [0,4] 0 0),(34,AV.sl [.sl [.int .i64],.int .i64,.bool,.int .i64,.int .i64,.int .i64,.int .i64,.int .i64,.int .i64] t34),(35,Ai t35),(36,Ai t36),(49,AV.sl [.sl [.int .i64],.int .i64,.bool,.int .i64,.int .i64,.int .i64,.int .i64,.int .i64,.int .i64] t49),(50,Ai t50),(51,Ai s)],[([0,1],⟨true,[],[AV.agg [AV.sl [.int .i64] h0_0,AV.sl [.int .i64] h0_1,AV.sl [.int .i64,.int .i64] h0_2,AV.sl [.sl [.int .i64],.int .i64,.bool,.int .i64,.int .i64,.int .i64,.int .i64,.int .i64,.int .i64] h0_3,Ai h0_4]]⟩),([0,4],⟨true,[],[AV.agg [AV.sl [.int .i64] h1_0,Ai h1_1,AV.bool h1_2,Ai h1_3,Ai h1_4,Ai h1_5,Ai h1_6,Ai h1_7,Ai h1_8]]⟩)]⟩
def K12_2 (t34:List AV) (t35 t36:Int) (t49:List AV) (t50:Int) (h0_0 h0_1 h0_2 h0_3:List AV) (h0_4:Int) (h1_0:List AV) (h1_1:Int) (h1_2:Bool) (h1_3 h1_4 h1_5 h1_6 h1_7 h1_8:Int) (k:Kont):(Unit ⊕ ((List AV) × Int × Bool × Int × Int × Int × Int × Int × Int))→Option AV:=sumE (fun _:Unit=>k (.exit 2) ⟨[(1,AV.ptr [0,1] 0 0),(34,AV.sl [.sl [.int .i64],.int .i64,.bool,.int .i64,.int .i64,.int .i64,.int .i64,.int .i64,.int .i64] t34),(35,Ai t35),(36,Ai t36)],[([0,1],⟨true,[],[AV.agg [AV.sl [.int .i64] h0_0,AV.sl [.int .i64] h0_1,AV.sl [.int .i64,.int .i64] h0_2,AV.sl [.sl [.int .i64],.int .i64,.bool,.int .i64,.int .i64,.int .i64,.int .i64,.int .i64,.int .i64] h0_3,Ai h0_4]]⟩),([0,4],⟨true,[],[AV.agg [AV.sl [.int .i64] h1_0,Ai h1_1,AV.bool h1_2,Ai h1_3,Ai h1_4,Ai h1_5,Ai h1_6,Ai h1_7,Ai h1_8]]⟩)]⟩) (fun p:(List AV) × Int × Bool × Int × Int × Int × Int × Int × Int=>k .ret ⟨[(2,AV.bool false)],[([0,1],⟨true,[],[AV.agg [AV.sl [.int .i64] h0_0,AV.sl [.int .i64] h0_1,AV.sl [.int .i64,.int .i64] h0_2,AV.sl [.sl [.int .i64],.int .i64,.bool,.int .i64,.int .i64,.int .i64,.int .i64,.int .i64,.int .i64] h0_3,Ai h0_4]]⟩),([0,4],⟨true,[],[AV.agg [AV.sl [.int .i64] h1_0,Ai h1_1,AV.bool h1_2,Ai h1_3,Ai h1_4,Ai h1_5,Ai h1_6,Ai h1_7,Ai h1_8]]⟩),([1,6],⟨true,[],[AV.agg [AV.sl [.int .i64] p.1,Ai p.2.1,AV.bool p.2.2.1,Ai p.2.2.2.1,Ai p.2.2.2.2.1,Ai p.2.2.2.2.2.1,Ai p.2.2.2.2.2.2.1,Ai p.2.2.2.2.2.2.2.1,Ai p.2.2.2.2.2.2.2.2]]⟩)]⟩)
def l12_2:LModel:=fun _ _ st k=>match st with
 | ⟨[(1,.ptr g0 g1 g2),(4,.ptr g3 g4 g5),(34,.sl g6 t34),(35,.int .i64 t35),(36,.int .i64 t36),(49,.sl g7 t49),(50,.int .i64 t50),(51,.int .i64 t51)],[(g8,⟨true,[],[.agg [.sl g9 h0_0,.sl g10 h0_1,.sl g11 h0_2,.sl g12 h0_3,.int .i64 h0_4]]⟩),(g13,⟨true,[],[.agg [.sl g14 h1_0,.int .i64 h1_1,.bool h1_2,.int .i64 h1_3,.int .i64 h1_4,.int .i64 h1_5,.int .i64 h1_6,.int .i64 h1_7,.int .i64 h1_8]]⟩)]⟩=>bif nmEq g0 ([0,1]) && Nat.beq g1 0 && Nat.beq g2 0 && nmEq g3 ([0,4]) && Nat.beq g4 0 && Nat.beq g5 0 && ctsEq g6 ([.sl [.int .i64],.int .i64,.bool,.int .i64,.int .i64,.int .i64,.int .i64,.int .i64,.int .i64]) && ctsEq g7 ([.sl [.int .i64],.int .i64,.bool,.int .i64,.int .i64,.int .i64,.int .i64,.int .i64,.int .i64]) && nmEq g8 ([0,1]) && ctsEq g9 ([.int .i64]) && ctsEq g10 ([.int .i64]) && ctsEq g11 ([.int .i64,.int .i64]) && ctsEq g12 ([.sl [.int .i64],.int .i64,.bool,.int .i64,.int .i64,.int .i64,.int .i64,.int .i64,.int .i64]) && nmEq g13 ([0,4]) && ctsEq g14 ([.int .i64]) then ro (runW (R12_2 t34 t35 t36 t49 t50 h0_0 h0_1 h0_2 h0_3 h0_4 h1_0 h1_1 h1_2 h1_3 h1_4 h1_5 h1_6 h1_7 h1_8) ((t50 - t51:Int).toNat+1) t51) none (K12_2 t34 t35 t36 t49 t50 h0_0 h0_1 h0_2 h0_3 h0_4 h1_0 h1_1 h1_2 h1_3 h1_4 h1_5 h1_6 h1_7 h1_8 k) else none
 | _=>none
def G12_0 {β:Type} (t34:List AV) (t35:Int) (h0_0:List AV) (h0_1:List AV) (h0_2:List AV) (h0_3:List AV) (h0_4:Int) (t36:Int) (N:(Int)→β) (K:(Unit ⊕ ((List AV) × Int × Bool × Int × Int × Int × Int × Int × Int) ⊕ ((List AV) × Int × Bool × Int × Int × Int × Int × Int × Int × (List AV) × Int × Bool × Int × Int × Int × Int × Int × Int))→β) (d:β):β:=(bif decide (t36<t35) then (bif (decide (0≤t36) && decide (t36<(t34.length:Int))) then (bif q69 h0_0 h0_1 h0_2 (fL (t34.getD t36.toNat .undef) 0) (fI (t34.getD t36.toNat .undef) 1) (fB (t34.getD t36.toNat .undef) 2) (fI (t34.getD t36.toNat .undef) 3) (fI (t34.getD t36.toNat .undef) 4) (fI (t34.getD t36.toNat .undef) 5) (fI (t34.getD t36.toNat .undef) 6) (fI (t34.getD t36.toNat .undef) 7) (fI (t34.getD t36.toNat .undef) 8) then (bif !(v69_0 h0_0 h0_1 h0_2 (fL (t34.getD t36.toNat .undef) 0) (fI (t34.getD t36.toNat .undef) 1) (fB (t34.getD t36.toNat .undef) 2) (fI (t34.getD t36.toNat .undef) 3) (fI (t34.getD t36.toNat .undef) 4) (fI (t34.getD t36.toNat .undef) 5) (fI (t34.getD t36.toNat .undef) 6) (fI (t34.getD t36.toNat .undef) 7) (fI (t34.getD t36.toNat .undef) 8)) then K (.inr (.inl (fL (t34.getD t36.toNat .undef) 0,fI (t34.getD t36.toNat .undef) 1,fB (t34.getD t36.toNat .undef) 2,fI (t34.getD t36.toNat .undef) 3,fI (t34.getD t36.toNat .undef) 4,fI (t34.getD t36.toNat .undef) 5,fI (t34.getD t36.toNat .undef) 6,fI (t34.getD t36.toNat .undef) 7,fI (t34.getD t36.toNat .undef) 8)))
 else (bif (decide (0≤0) && decide (0≤t36) && decide (t36≤(h0_3.length:Int))) then (ro (runW (R12_2 t34 t35 t36 ((h0_3.take (Int.toNat t36)).drop (Int.toNat 0)) (((h0_3.take (Int.toNat t36)).drop (Int.toNat 0)).length:Int) h0_0 h0_1 h0_2 h0_3 h0_4 (fL (t34.getD t36.toNat .undef) 0) (fI (t34.getD t36.toNat .undef) 1) (fB (t34.getD t36.toNat .undef) 2) (fI (t34.getD t36.toNat .undef) 3) (fI (t34.getD t36.toNat .undef) 4) (fI (t34.getD t36.toNat .undef) 5) (fI (t34.getD t36.toNat .undef) 6) (fI (t34.getD t36.toNat .undef) 7) (fI (t34.getD t36.toNat .undef) 8)) (((((h0_3.take (Int.toNat t36)).drop (Int.toNat 0)).length:Int) - 0:Int).toNat+1) 0) d (sumE (fun _=>N (IntKind.i64.wrap (t36+1))) (fun p87=>K (.inr (.inr (fL (t34.getD t36.toNat .undef) 0,fI (t34.getD t36.toNat .undef) 1,fB (t34.getD t36.toNat .undef) 2,fI (t34.getD t36.toNat .undef) 3,fI (t34.getD t36.toNat .undef) 4,fI (t34.getD t36.toNat .undef) 5,fI (t34.getD t36.toNat .undef) 6,fI (t34.getD t36.toNat .undef) 7,fI (t34.getD t36.toNat .undef) 8,p87.1,p87.2.1,p87.2.2.1,p87.2.2.2.1,p87.2.2.2.2.1,p87.2.2.2.2.2.1,p87.2.2.2.2.2.2.1,p87.2.2.2.2.2.2.2.1,p87.2.2.2.2.2.2.2.2))))))
 else d))
 else d)
 else d)
 else K (.inl ()))
def F12_0 (t34:List AV) (t35:Int) (h0_0 h0_1 h0_2 h0_3:List AV) (h0_4 t36:Int):Out (Int) (Unit ⊕ ((List AV) × Int × Bool × Int × Int × Int × Int × Int × Int) ⊕ ((List AV) × Int × Bool × Int × Int × Int × Int × Int × Int × (List AV) × Int × Bool × Int × Int × Int × Int × Int × Int)):=G12_0 t34 t35 h0_0 h0_1 h0_2 h0_3 h0_4 t36 .next .stop .fail
def R12_0 (t34:List AV) (t35:Int) (h0_0 h0_1 h0_2 h0_3:List AV) (h0_4:Int):(Int)→Out (Int) (Unit ⊕ ((List AV) × Int × Bool × Int × Int × Int × Int × Int × Int) ⊕ ((List AV) × Int × Bool × Int × Int × Int × Int × Int × Int × (List AV) × Int × Bool × Int × Int × Int × Int × Int × Int)):=fun s:Int=>F12_0 t34 t35 h0_0 h0_1 h0_2 h0_3 h0_4 s
def E12_0 (t34:List AV) (t35:Int) (h0_0 h0_1 h0_2 h0_3:List AV) (h0_4:Int):(Int)→St:=fun s:Int=>⟨[(1,AV.ptr [0,1] 0 0),(34,AV.sl [.sl [.int .i64],.int .i64,.bool,.int .i64,.int .i64,.int .i64,.int .i64,.int .i64,.int .i64] t34),(35,Ai t35),(36,Ai s)],[([0,1],⟨true,[],[AV.agg [AV.sl [.int .i64] h0_0,AV.sl [.int .i64] h0_1,AV.sl [.int .i64,.int .i64] h0_2,AV.sl [.sl [.int .i64],.int .i64,.bool,.int .i64,.int .i64,.int .i64,.int .i64,.int .i64,.int .i64] h0_3,Ai h0_4]]⟩)]⟩
def K12_0 (t34:List AV) (t35:Int) (h0_0 h0_1 h0_2 h0_3:List AV) (h0_4:Int) (k:Kont):(Unit ⊕ ((List AV) × Int × Bool × Int × Int × Int × Int × Int × Int) ⊕ ((List AV) × Int × Bool × Int × Int × Int × Int × Int × Int × (List AV) × Int × Bool × Int × Int × Int × Int × Int × Int))→Option AV:=sumE (fun _:Unit=>k (.exit 0) ⟨[],[([0,1],⟨true,[],[AV.agg [AV.sl [.int .i64] h0_0,AV.sl [.int .i64] h0_1,AV.sl [.int .i64,.int .i64] h0_2,AV.sl [.sl [.int .i64],.int .i64,.bool,.int .i64,.int .i64,.int .i64,.int .i64,.int .i64,.int .i64] h0_3,Ai h0_4]]⟩)]⟩) (sumE (fun p:(List AV) × Int × Bool × Int × Int × Int × Int × Int × Int=>k .ret ⟨[(2,AV.bool false)],[([0,1],⟨true,[],[AV.agg [AV.sl [.int .i64] h0_0,AV.sl [.int .i64] h0_1,AV.sl [.int .i64,.int .i64] h0_2,AV.sl [.sl [.int .i64],.int .i64,.bool,.int .i64,.int .i64,.int .i64,.int .i64,.int .i64,.int .i64] h0_3,Ai h0_4]]⟩),([1,4],⟨true,[],[AV.agg [AV.sl [.int .i64] p.1,Ai p.2.1,AV.bool p.2.2.1,Ai p.2.2.2.1,Ai p.2.2.2.2.1,Ai p.2.2.2.2.2.1,Ai p.2.2.2.2.2.2.1,Ai p.2.2.2.2.2.2.2.1,Ai p.2.2.2.2.2.2.2.2]]⟩)]⟩) (fun p:(List AV) × Int × Bool × Int × Int × Int × Int × Int × Int × (List AV) × Int × Bool × Int × Int × Int × Int × Int × Int=>k .ret ⟨[(2,AV.bool false)],[([0,1],⟨true,[],[AV.agg [AV.sl [.int .i64] h0_0,AV.sl [.int .i64] h0_1,AV.sl [.int .i64,.int .i64] h0_2,AV.sl [.sl [.int .i64],.int .i64,.bool,.int .i64,.int .i64,.int .i64,.int .i64,.int .i64,.int .i64] h0_3,Ai h0_4]]⟩),([0,4],⟨true,[],[AV.agg [AV.sl [.int .i64] p.1,Ai p.2.1,AV.bool p.2.2.1,Ai p.2.2.2.1,Ai p.2.2.2.2.1,Ai p.2.2.2.2.2.1,Ai p.2.2.2.2.2.2.1,Ai p.2.2.2.2.2.2.2.1,Ai p.2.2.2.2.2.2.2.2.1]]⟩),([1,6],⟨true,[],[AV.agg [AV.sl [.int .i64] p.2.2.2.2.2.2.2.2.2.1,Ai p.2.2.2.2.2.2.2.2.2.2.1,AV.bool p.2.2.2.2.2.2.2.2.2.2.2.1,Ai p.2.2.2.2.2.2.2.2.2.2.2.2.1,Ai p.2.2.2.2.2.2.2.2.2.2.2.2.2.1,Ai p.2.2.2.2.2.2.2.2.2.2.2.2.2.2.1,Ai p.2.2.2.2.2.2.2.2.2.2.2.2.2.2.2.1,Ai p.2.2.2.2.2.2.2.2.2.2.2.2.2.2.2.2.1,Ai p.2.2.2.2.2.2.2.2.2.2.2.2.2.2.2.2.2]]⟩)]⟩))
def l12_0:LModel:=fun _ _ st k=>match st with
 | ⟨[(1,.ptr g0 g1 g2),(34,.sl g3 t34),(35,.int .i64 t35),(36,.int .i64 t36)],[(g4,⟨true,[],[.agg [.sl g5 h0_0,.sl g6 h0_1,.sl g7 h0_2,.sl g8 h0_3,.int .i64 h0_4]]⟩)]⟩=>bif nmEq g0 ([0,1]) && Nat.beq g1 0 && Nat.beq g2 0 && ctsEq g3 ([.sl [.int .i64],.int .i64,.bool,.int .i64,.int .i64,.int .i64,.int .i64,.int .i64,.int .i64]) && nmEq g4 ([0,1]) && ctsEq g5 ([.int .i64]) && ctsEq g6 ([.int .i64]) && ctsEq g7 ([.int .i64,.int .i64]) && ctsEq g8 ([.sl [.int .i64],.int .i64,.bool,.int .i64,.int .i64,.int .i64,.int .i64,.int .i64,.int .i64]) then ro (runW (R12_0 t34 t35 h0_0 h0_1 h0_2 h0_3 h0_4) ((t35 - t36:Int).toNat+1) t36) none (K12_0 t34 t35 h0_0 h0_1 h0_2 h0_3 h0_4 k) else none
 | _=>none
noncomputable def c12:Cfg:=cfg Tryz.prog [(12,0,[1,34,35,36]),(12,2,[1,4,34,35,36,49,50,51]),(12,999,[2]),(12,1000,[]),(12,1001,[1,34,35,36]),(12,1002,[1,34,35,36]),(12,1003,[1,4,34,35,36,49,50,51])] [(39,m39),(69,m69),(70,m70)] [] [] [(12,0,l12_0),(12,2,l12_2)]
theorem s12_2 (t34:List AV) (t35 t36:Int) (t49:List AV) (t50:Int) (h0_0 h0_1 h0_2 h0_3:List AV) (h0_4:Int) (h1_0:List AV) (h1_1:Int) (h1_2:Bool) (h1_3 h1_4 h1_5 h1_6 h1_7 h1_8:Int) (ce:CallE) (k:Kont) (s:Int) (next:St→Option AV):stepA (codeA c12 ce [] 12 2 (sub [1,1,0,1,0,0,1,1,0,0,1,1,1,0,0] (body Tryz.f12))) (normA [] [1,4,34,35,36,49,50,51]) next ((E12_2 t34 t35 t36 t49 t50 h0_0 h0_1 h0_2 h0_3 h0_4 h1_0 h1_1 h1_2 h1_3 h1_4 h1_5 h1_6 h1_7 h1_8) s) k=G12_2 t34 t35 t36 t49 t50 h0_0 h0_1 h0_2 h0_3 h0_4 h1_0 h1_1 h1_2 h1_3 h1_4 h1_5 h1_6 h1_7 h1_8 s (fun s=>next ((E12_2 t34 t35 t36 t49 t50 h0_0 h0_1 h0_2 h0_3 h0_4 h1_0 h1_1 h1_2 h1_3 h1_4 h1_5 h1_6 h1_7 h1_8) s)) (K12_2 t34 t35 t36 t49 t50 h0_0 h0_1 h0_2 h0_3 h0_4 h1_0 h1_1 h1_2 h1_3 h1_4 h1_5 h1_6 h1_7 h1_8 k) none:=by kernel_rfl
theorem st12_2 (t34:List AV) (t35 t36:Int) (t49:List AV) (t50:Int) (h0_0 h0_1 h0_2 h0_3:List AV) (h0_4:Int) (h1_0:List AV) (h1_1:Int) (h1_2:Bool) (h1_3 h1_4 h1_5 h1_6 h1_7 h1_8:Int) (ce:CallE) (k:Kont) (s:Int) (next:St→Option AV):stepA (codeA c12 ce [] 12 2 (sub [1,1,0,1,0,0,1,1,0,0,1,1,1,0,0] (body Tryz.f12))) (normA [] [1,4,34,35,36,49,50,51]) next ((E12_2 t34 t35 t36 t49 t50 h0_0 h0_1 h0_2 h0_3 h0_4 h1_0 h1_1 h1_2 h1_3 h1_4 h1_5 h1_6 h1_7 h1_8) s) k=(R12_2 t34 t35 t36 t49 t50 h0_0 h0_1 h0_2 h0_3 h0_4 h1_0 h1_1 h1_2 h1_3 h1_4 h1_5 h1_6 h1_7 h1_8 s).el none (fun s=>next ((E12_2 t34 t35 t36 t49 t50 h0_0 h0_1 h0_2 h0_3 h0_4 h1_0 h1_1 h1_2 h1_3 h1_4 h1_5 h1_6 h1_7 h1_8) s)) (K12_2 t34 t35 t36 t49 t50 h0_0 h0_1 h0_2 h0_3 h0_4 h1_0 h1_1 h1_2 h1_3 h1_4 h1_5 h1_6 h1_7 h1_8 k):=(s12_2 t34 t35 t36 t49 t50 h0_0 h0_1 h0_2 h0_3 h0_4 h1_0 h1_1 h1_2 h1_3 h1_4 h1_5 h1_6 h1_7 h1_8 ce k s next).trans (by unfold R12_2;unfold F12_2 G12_2;simp only [el_cond,el_ro,el_sum,el_fail,el_next,el_stop] <;> rfl)
theorem ok12_2 {ce:CallE}:LoopOK c12 ce [] 12 2 (sub [1,1,0,1,0,0,1,1,0,0,1,1,1,0,0] (body Tryz.f12)):=by
 intro m hm st k r h
 obtain rfl:l12_2=m:=Option.some.inj hm
 unfold l12_2 at h
 split at h
 ·rename_i g0 g1 g2 g3 g4 g5 g6 t34 t35 t36 g7 t49 t50 t51 g8 g9 h0_0 g10 h0_1 g11 h0_2 g12 h0_3 h0_4 g13 g14 h1_0 h1_1 h1_2 h1_3 h1_4 h1_5 h1_6 h1_7 h1_8
  obtain ⟨hg,h⟩:=bif_some h
  simp only [Bool.and_eq_true] at hg
  obtain ⟨⟨⟨⟨⟨⟨⟨⟨⟨⟨⟨⟨⟨⟨q0,q1⟩,q2⟩,q3⟩,q4⟩,q5⟩,q6⟩,q7⟩,q8⟩,q9⟩,q10⟩,q11⟩,q12⟩,q13⟩,q14⟩:=hg
  obtain rfl:=nE q0
  obtain rfl:=bE q1
  obtain rfl:=bE q2
  obtain rfl:=nE q3
  obtain rfl:=bE q4
  obtain rfl:=bE q5
  obtain rfl:=cE q6
  obtain rfl:=cE q7
  obtain rfl:=nE q8
  obtain rfl:=cE q9
  obtain rfl:=cE q10
  obtain rfl:=cE q11
  obtain rfl:=cE q12
  obtain rfl:=nE q13
  obtain rfl:=cE q14
  refine ⟨((t50 - t51:Int).toNat+1),?_⟩
  rw [← h]
  exact loop_run (E12_2 t34 t35 t36 t49 t50 h0_0 h0_1 h0_2 h0_3 h0_4 h1_0 h1_1 h1_2 h1_3 h1_4 h1_5 h1_6 h1_7 h1_8) (K12_2 t34 t35 t36 t49 t50 h0_0 h0_1 h0_2 h0_3 h0_4 h1_0 h1_1 h1_2 h1_3 h1_4 h1_5 h1_6 h1_7 h1_8 k) (st12_2 t34 t35 t36 t49 t50 h0_0 h0_1 h0_2 h0_3 h0_4 h1_0 h1_1 h1_2 h1_3 h1_4 h1_5 h1_6 h1_7 h1_8 ce k) _ t51
 ·cases h
theorem s12_0 (t34:List AV) (t35:Int) (h0_0 h0_1 h0_2 h0_3:List AV) (h0_4:Int) (ce:CallE) (k:Kont) (s:Int) (next:St→Option AV):stepA (codeA c12 ce [] 12 0 (sub [1,1,0,1,0,0] (body Tryz.f12))) (normA [] [1,34,35,36]) next ((E12_0 t34 t35 h0_0 h0_1 h0_2 h0_3 h0_4) s) k=G12_0 t34 t35 h0_0 h0_1 h0_2 h0_3 h0_4 s (fun s=>next ((E12_0 t34 t35 h0_0 h0_1 h0_2 h0_3 h0_4) s)) (K12_0 t34 t35 h0_0 h0_1 h0_2 h0_3 h0_4 k) none:=by kernel_rfl
theorem st12_0 (t34:List AV) (t35:Int) (h0_0 h0_1 h0_2 h0_3:List AV) (h0_4:Int) (ce:CallE) (k:Kont) (s:Int) (next:St→Option AV):stepA (codeA c12 ce [] 12 0 (sub [1,1,0,1,0,0] (body Tryz.f12))) (normA [] [1,34,35,36]) next ((E12_0 t34 t35 h0_0 h0_1 h0_2 h0_3 h0_4) s) k=(R12_0 t34 t35 h0_0 h0_1 h0_2 h0_3 h0_4 s).el none (fun s=>next ((E12_0 t34 t35 h0_0 h0_1 h0_2 h0_3 h0_4) s)) (K12_0 t34 t35 h0_0 h0_1 h0_2 h0_3 h0_4 k):=(s12_0 t34 t35 h0_0 h0_1 h0_2 h0_3 h0_4 ce k s next).trans (by unfold R12_0;unfold F12_0 G12_0;simp only [el_cond,el_ro,el_sum,el_fail,el_next,el_stop] <;> rfl)
theorem ok12_0 {ce:CallE}:LoopOK c12 ce [] 12 0 (sub [1,1,0,1,0,0] (body Tryz.f12)):=by
 intro m hm st k r h
 obtain rfl:l12_0=m:=Option.some.inj hm
 unfold l12_0 at h
 split at h
 ·rename_i g0 g1 g2 g3 t34 t35 t36 g4 g5 h0_0 g6 h0_1 g7 h0_2 g8 h0_3 h0_4
  obtain ⟨hg,h⟩:=bif_some h
  simp only [Bool.and_eq_true] at hg
  obtain ⟨⟨⟨⟨⟨⟨⟨⟨q0,q1⟩,q2⟩,q3⟩,q4⟩,q5⟩,q6⟩,q7⟩,q8⟩:=hg
  obtain rfl:=nE q0
  obtain rfl:=bE q1
  obtain rfl:=bE q2
  obtain rfl:=cE q3
  obtain rfl:=nE q4
  obtain rfl:=cE q5
  obtain rfl:=cE q6
  obtain rfl:=cE q7
  obtain rfl:=cE q8
  refine ⟨((t35 - t36:Int).toNat+1),?_⟩
  rw [← h]
  exact loop_run (E12_0 t34 t35 h0_0 h0_1 h0_2 h0_3 h0_4) (K12_0 t34 t35 h0_0 h0_1 h0_2 h0_3 h0_4 k) (st12_0 t34 t35 h0_0 h0_1 h0_2 h0_3 h0_4 ce k) _ t36
 ·cases h
def q12 (xa xb xc xd:List AV) (xe:Int):Bool:=(q39 xa xb xc && (bif !(v39_0 xa xb xc) then true else (bif decide ((xd.length:Int)<1) then true else (bif decide ((xd.length:Int) > 3) then true else (bif decide (xe<0) then true else (bif decide (xe > 100000) then true else (ro (runW (R12_0 xd (xd.length:Int) xa xb xc xd xe) (((xd.length:Int) - 0:Int).toNat+1) 0) false (sumE (fun _=>true) (sumE (fun p89=>true) (fun p90=>true))))))))))
def v12_0 (xa xb xc xd:List AV) (xe:Int):Bool:=(bif !(v39_0 xa xb xc) then false else (bif decide ((xd.length:Int)<1) then false else (bif decide ((xd.length:Int) > 3) then false else (bif decide (xe<0) then false else (bif decide (xe > 100000) then false else (ro (runW (R12_0 xd (xd.length:Int) xa xb xc xd xe) (((xd.length:Int) - 0:Int).toNat+1) 0) false (sumE (fun _=>true) (sumE (fun p89=>false) (fun p90=>false)))))))))
theorem e12 (xa xb xc xd:List AV) (xe:Int):funA c12 0 12 [AV.agg [AV.sl [.int .i64] xa,AV.sl [.int .i64] xb,AV.sl [.int .i64,.int .i64] xc,AV.sl [.sl [.int .i64],.int .i64,.bool,.int .i64,.int .i64,.int .i64,.int .i64,.int .i64,.int .i64] xd,Ai xe]]=(bif q39 xa xb xc then (bif !(v39_0 xa xb xc) then some (AV.bool false)
 else (bif decide ((xd.length:Int)<1) then some (AV.bool false)
 else (bif decide ((xd.length:Int) > 3) then some (AV.bool false)
 else (bif decide (xe<0) then some (AV.bool false)
 else (bif decide (xe > 100000) then some (AV.bool false)
 else (ro (runW (R12_0 xd (xd.length:Int) xa xb xc xd xe) (((xd.length:Int) - 0:Int).toNat+1) 0) none (sumE (fun _=>some (AV.bool true)) (sumE (fun p89=>some (AV.bool false)) (fun p90=>some (AV.bool false))))))))))
 else none):=by kernel_rfl
theorem r12 (xa xb xc xd:List AV) (xe:Int) (h:q12 xa xb xc xd xe=true):funA c12 0 12 [AV.agg [AV.sl [.int .i64] xa,AV.sl [.int .i64] xb,AV.sl [.int .i64,.int .i64] xc,AV.sl [.sl [.int .i64],.int .i64,.bool,.int .i64,.int .i64,.int .i64,.int .i64,.int .i64,.int .i64] xd,AV.int .i64 xe]]=some (AV.bool (v12_0 xa xb xc xd xe)):=by
 refine (e12 xa xb xc xd xe).trans ?_
 unfold q12 at h
 unfold v12_0
 refine ifG (fun hc=>?_) (fun hc=>?_) <;> first|rw [hc] at h ⊢|rw [hc] at h|rw [hc]|skip
 ·refine ifG (fun hc=>?_) (fun hc=>?_) <;> first|rw [hc] at h ⊢|rw [hc] at h|rw [hc]|skip
  ·rfl
  ·refine ifG (fun hc=>?_) (fun hc=>?_) <;> first|rw [hc] at h ⊢|rw [hc] at h|rw [hc]|skip
   ·rfl
   ·refine ifG (fun hc=>?_) (fun hc=>?_) <;> first|rw [hc] at h ⊢|rw [hc] at h|rw [hc]|skip
    ·rfl
    ·refine ifG (fun hc=>?_) (fun hc=>?_) <;> first|rw [hc] at h ⊢|rw [hc] at h|rw [hc]|skip
     ·rfl
     ·refine ifG (fun hc=>?_) (fun hc=>?_) <;> first|rw [hc] at h ⊢|rw [hc] at h|rw [hc]|skip
      ·rfl
      ·refine roG (fun hc=>?_) (fun r hc=>?_) <;> first|rw [hc] at h ⊢|rw [hc] at h|rw [hc]|skip
       ·exact Bool.noConfusion h
       ·try simp only [ro] at h ⊢
        cases r with
        | inl _ =>
         try simp only [sumE] at h ⊢
         rfl
        | inr r =>
         try simp only [sumE] at h ⊢
         cases r with
         | inl p89 =>
          try simp only [sumE] at h ⊢
          rfl
         | inr p90 =>
          try simp only [sumE] at h ⊢
          rfl
 ·first|exact Bool.noConfusion h|exact Bool.noConfusion hc
def m12:TModel
 | [.agg [.sl g0 xa,.sl g1 xb,.sl g2 xc,.sl g3 xd,.int .i64 xe]]=>bif ctsEq g0 ([.int .i64]) && ctsEq g1 ([.int .i64]) && ctsEq g2 ([.int .i64,.int .i64]) && ctsEq g3 ([.sl [.int .i64],.int .i64,.bool,.int .i64,.int .i64,.int .i64,.int .i64,.int .i64,.int .i64]) then some (q12 xa xb xc xd xe,AV.bool (v12_0 xa xb xc xd xe)) else none
 | _=>none
theorem k12:Known Tryz.prog 12:=⟨Tryz.f12,Tryz.func12,by kernel_rfl,by kernel_rfl⟩
theorem meets12:Meets Tryz.prog 12 m12:=by
 refine mt (lvl:=0) (cf:=c12) rfl mixed k12 Tryz.func12 (by kernel_rfl) (loops_cons ok12_0 (loops_cons ok12_2 noLoop)) (allT_cons meets39 (allT_cons meets69 (allT_cons meets70 allT_nil))) allM_nil noI fun xs r h=>?_
 unfold m12 at h
 split at h
 ·rename_i g0 xa g1 xb g2 xc g3 xd xe
  obtain ⟨hg,h⟩:=bif_pair h
  simp only [Bool.and_eq_true] at hg
  obtain ⟨⟨⟨q0,q1⟩,q2⟩,q3⟩:=hg
  obtain rfl:=cE q0
  obtain rfl:=cE q1
  obtain rfl:=cE q2
  obtain rfl:=cE q3
  obtain ⟨h1,rfl⟩:=pair_inj h
  exact r12 xa xb xc xd xe h1
 ·cases h
def G23_0 {β:Type} (t12:List AV) (t13:Int) (t14:Int) (h0:List AV) (N:((Int × (List AV)))→β) (K:(((List AV)))→β) (d:β):β:=by
 refine (?f0:ByteArray→ByteArray→ByteArray→ByteArray→ByteArray→ByteArray→ByteArray→β) (v79_0 t14) (v79_0 (fI (t12.getD t14.toNat .undef) 1)) (v79_0 ((fL (t12.getD t14.toNat .undef) 0).length:Int)) (v79_0 (fI (t12.getD t14.toNat .undef) 7)) (v79_0 (fI (t12.getD t14.toNat .undef) 8)) (v79_0 (fI (t12.getD t14.toNat .undef) 3)) (v79_0 (fI (t12.getD t14.toNat .undef) 4));intro x1 x2 x3 x4 x5 x6 x7
 exact (bif decide (t14<t13) then (bif (decide (0≤t14) && decide (t14<(t12.length:Int))) then (bif q79 t14 then (bif decide (x1.size+(ByteArray.mk #[32,100,111,110,101,32]).size≤4611686018427387904) then (bif q79 (fI (t12.getD t14.toNat .undef) 1) then (bif decide ((x1++(ByteArray.mk #[32,100,111,110,101,32])).size+x2.size≤4611686018427387904) then (bif decide (((x1++(ByteArray.mk #[32,100,111,110,101,32]))++x2).size+(ByteArray.mk #[47]).size≤4611686018427387904) then (bif q79 ((fL (t12.getD t14.toNat .undef) 0).length:Int) then (bif decide ((((x1++(ByteArray.mk #[32,100,111,110,101,32]))++x2)++(ByteArray.mk #[47])).size+x3.size≤4611686018427387904) then (bif decide (((((x1++(ByteArray.mk #[32,100,111,110,101,32]))++x2)++(ByteArray.mk #[47]))++x3).size+(ByteArray.mk #[32,115,119,97,112,115,32]).size≤4611686018427387904) then (bif q79 (fI (t12.getD t14.toNat .undef) 7) then (bif decide ((((((x1++(ByteArray.mk #[32,100,111,110,101,32]))++x2)++(ByteArray.mk #[47]))++x3)++(ByteArray.mk #[32,115,119,97,112,115,32])).size+x4.size≤4611686018427387904) then (bif decide (((((((x1++(ByteArray.mk #[32,100,111,110,101,32]))++x2)++(ByteArray.mk #[47]))++x3)++(ByteArray.mk #[32,115,119,97,112,115,32]))++x4).size+(ByteArray.mk #[32,119,97,105,116,115,32]).size≤4611686018427387904) then (bif q79 (fI (t12.getD t14.toNat .undef) 8) then (bif decide ((((((((x1++(ByteArray.mk #[32,100,111,110,101,32]))++x2)++(ByteArray.mk #[47]))++x3)++(ByteArray.mk #[32,115,119,97,112,115,32]))++x4)++(ByteArray.mk #[32,119,97,105,116,115,32])).size+x5.size≤4611686018427387904) then (bif fB (t12.getD t14.toNat .undef) 2 then (bif q79 (fI (t12.getD t14.toNat .undef) 3) then (bif decide ((ByteArray.mk #[32,105,110,32]).size+x6.size≤4611686018427387904) then (bif decide (((ByteArray.mk #[32,105,110,32])++x6).size+(ByteArray.mk #[46,46]).size≤4611686018427387904) then (bif q79 (fI (t12.getD t14.toNat .undef) 4) then (bif decide ((((ByteArray.mk #[32,105,110,32])++x6)++(ByteArray.mk #[46,46])).size+x7.size≤4611686018427387904) then (bif decide (((((((((x1++(ByteArray.mk #[32,100,111,110,101,32]))++x2)++(ByteArray.mk #[47]))++x3)++(ByteArray.mk #[32,115,119,97,112,115,32]))++x4)++(ByteArray.mk #[32,119,97,105,116,115,32]))++x5).size+((((ByteArray.mk #[32,105,110,32])++x6)++(ByteArray.mk #[46,46]))++x7).size≤4611686018427387904) then (bif (decide ((h0.length+([AV.str (((((((((x1++(ByteArray.mk #[32,100,111,110,101,32]))++x2)++(ByteArray.mk #[47]))++x3)++(ByteArray.mk #[32,115,119,97,112,115,32]))++x4)++(ByteArray.mk #[32,119,97,105,116,115,32]))++x5)++((((ByteArray.mk #[32,105,110,32])++x6)++(ByteArray.mk #[46,46]))++x7))]).length)*16≤140737488355328) && decide ((h0.length+([AV.str (((((((((x1++(ByteArray.mk #[32,100,111,110,101,32]))++x2)++(ByteArray.mk #[47]))++x3)++(ByteArray.mk #[32,115,119,97,112,115,32]))++x4)++(ByteArray.mk #[32,119,97,105,116,115,32]))++x5)++((((ByteArray.mk #[32,105,110,32])++x6)++(ByteArray.mk #[46,46]))++x7))]).length)≤140737488355328)) then N (IntKind.i64.wrap (t14+1),h0++([AV.str (((((((((x1++(ByteArray.mk #[32,100,111,110,101,32]))++x2)++(ByteArray.mk #[47]))++x3)++(ByteArray.mk #[32,115,119,97,112,115,32]))++x4)++(ByteArray.mk #[32,119,97,105,116,115,32]))++x5)++((((ByteArray.mk #[32,105,110,32])++x6)++(ByteArray.mk #[46,46]))++x7))]))
 else d)
 else d)
 else d)
 else d)
 else d)
 else d)
 else d)
 else (bif (decide ((h0.length+([AV.str ((((((((x1++(ByteArray.mk #[32,100,111,110,101,32]))++x2)++(ByteArray.mk #[47]))++x3)++(ByteArray.mk #[32,115,119,97,112,115,32]))++x4)++(ByteArray.mk #[32,119,97,105,116,115,32]))++x5)]).length)*16≤140737488355328) && decide ((h0.length+([AV.str ((((((((x1++(ByteArray.mk #[32,100,111,110,101,32]))++x2)++(ByteArray.mk #[47]))++x3)++(ByteArray.mk #[32,115,119,97,112,115,32]))++x4)++(ByteArray.mk #[32,119,97,105,116,115,32]))++x5)]).length)≤140737488355328)) then N (IntKind.i64.wrap (t14+1),h0++([AV.str ((((((((x1++(ByteArray.mk #[32,100,111,110,101,32]))++x2)++(ByteArray.mk #[47]))++x3)++(ByteArray.mk #[32,115,119,97,112,115,32]))++x4)++(ByteArray.mk #[32,119,97,105,116,115,32]))++x5)]))
 else d))
 else d)
 else d)
 else d)
 else d)
 else d)
 else d)
 else d)
 else d)
 else d)
 else d)
 else d)
 else d)
 else d)
 else d)
 else K h0)
def F23_0 (t12:List AV) (t13 t14:Int) (h0:List AV):Out ((Int × (List AV))) (((List AV))):=G23_0 t12 t13 t14 h0 .next .stop .fail
def R23_0 (t12:List AV) (t13:Int):((Int × (List AV)))→Out ((Int × (List AV))) (((List AV))):=fun s:Int × (List AV)=>F23_0 t12 t13 s.1 s.2
def E23_0 (t12:List AV) (t13:Int):((Int × (List AV)))→St:=fun s:Int × (List AV)=>⟨[(3,AV.own [0,3]),(12,AV.sl [.sl [.int .i64],.int .i64,.bool,.int .i64,.int .i64,.int .i64,.int .i64,.int .i64,.int .i64] t12),(13,Ai t13),(14,Ai s.1)],[([0,3],⟨false,[.str],s.2⟩)]⟩
def K23_0 (t12:List AV) (t13:Int) (k:Kont):(((List AV)))→Option AV:=fun p:(List AV)=>k (.exit 0) ⟨[(3,AV.own [0,3])],[([0,3],⟨false,[.str],p⟩)]⟩
def l23_0:LModel:=fun _ _ st k=>match st with
 | ⟨[(3,.own g0),(12,.sl g1 t12),(13,.int .i64 t13),(14,.int .i64 t14)],[(g2,⟨false,g3,h0⟩)]⟩=>bif nmEq g0 ([0,3]) && ctsEq g1 ([.sl [.int .i64],.int .i64,.bool,.int .i64,.int .i64,.int .i64,.int .i64,.int .i64,.int .i64]) && nmEq g2 ([0,3]) && ctsEq g3 ([.str]) then ro (runW (R23_0 t12 t13) ((t13 - t14:Int).toNat+1) (t14,h0)) none (K23_0 t12 t13 k) else none
 | _=>none
noncomputable def c23:Cfg:=cfg Tryz.prog [(23,0,[3,12,13,14]),(23,999,[2]),(23,1000,[3]),(23,1001,[3,12,13,14])] [(12,m12),(79,m79)] [] [] [(23,0,l23_0)]
theorem s23_0 (t12:List AV) (t13:Int) (ce:CallE) (k:Kont) (s:Int × (List AV)) (next:St→Option AV):stepA (codeA c23 ce [] 23 0 (sub [1,1,1,0,1,0,0] (body Tryz.f23))) (normA [] [3,12,13,14]) next ((E23_0 t12 t13) s) k=G23_0 t12 t13 s.1 s.2 (fun s=>next ((E23_0 t12 t13) s)) (K23_0 t12 t13 k) none:=by kernel_rfl
theorem st23_0 (t12:List AV) (t13:Int) (ce:CallE) (k:Kont) (s:(Int × (List AV))) (next:St→Option AV):stepA (codeA c23 ce [] 23 0 (sub [1,1,1,0,1,0,0] (body Tryz.f23))) (normA [] [3,12,13,14]) next ((E23_0 t12 t13) s) k=(R23_0 t12 t13 s).el none (fun s=>next ((E23_0 t12 t13) s)) (K23_0 t12 t13 k):=(s23_0 t12 t13 ce k s next).trans (by unfold R23_0;unfold F23_0 G23_0;simp only [el_cond,el_ro,el_sum,el_fail,el_next,el_stop] <;> rfl)
theorem ok23_0 {ce:CallE}:LoopOK c23 ce [] 23 0 (sub [1,1,1,0,1,0,0] (body Tryz.f23)):=by
 intro m hm st k r h
 obtain rfl:l23_0=m:=Option.some.inj hm
 unfold l23_0 at h
 split at h
 ·rename_i g0 g1 t12 t13 t14 g2 g3 h0
  obtain ⟨hg,h⟩:=bif_some h
  simp only [Bool.and_eq_true] at hg
  obtain ⟨⟨⟨q0,q1⟩,q2⟩,q3⟩:=hg
  obtain rfl:=nE q0
  obtain rfl:=cE q1
  obtain rfl:=nE q2
  obtain rfl:=cE q3
  refine ⟨((t13 - t14:Int).toNat+1),?_⟩
  rw [← h]
  exact loop_run (E23_0 t12 t13) (K23_0 t12 t13 k) (st23_0 t12 t13 ce k) _ (t14,h0)
 ·cases h
def q23 (xa xb xc xd:List AV) (xe:Int):Bool:=(q12 xa xb xc xd xe && (bif !(v12_0 xa xb xc xd xe) then true else (ro (runW (R23_0 xd (xd.length:Int)) (((xd.length:Int) - 0:Int).toNat+1) (0,([]:List AV))) false (fun p91=>true))))
def v23_0 (xa xb xc xd:List AV) (xe:Int):List AV:=(bif !(v12_0 xa xb xc xd xe) then ([]:List AV) else (ro (runW (R23_0 xd (xd.length:Int)) (((xd.length:Int) - 0:Int).toNat+1) (0,([]:List AV))) [] (fun p91=>p91)))
theorem e23 (xa xb xc xd:List AV) (xe:Int):funA c23 0 23 [AV.agg [AV.sl [.int .i64] xa,AV.sl [.int .i64] xb,AV.sl [.int .i64,.int .i64] xc,AV.sl [.sl [.int .i64],.int .i64,.bool,.int .i64,.int .i64,.int .i64,.int .i64,.int .i64,.int .i64] xd,Ai xe]]=(bif q12 xa xb xc xd xe then (bif !(v12_0 xa xb xc xd xe) then some (AV.fl [.str] ([]:List AV))
 else (ro (runW (R23_0 xd (xd.length:Int)) (((xd.length:Int) - 0:Int).toNat+1) (0,([]:List AV))) none (fun p91=>some (AV.fl [.str] p91))))
 else none):=by kernel_rfl
def m23:TModel
 | [.agg [.sl g0 xa,.sl g1 xb,.sl g2 xc,.sl g3 xd,.int .i64 xe]]=>bif ctsEq g0 ([.int .i64]) && ctsEq g1 ([.int .i64]) && ctsEq g2 ([.int .i64,.int .i64]) && ctsEq g3 ([.sl [.int .i64],.int .i64,.bool,.int .i64,.int .i64,.int .i64,.int .i64,.int .i64,.int .i64]) then some (q23 xa xb xc xd xe,AV.fl [.str] (v23_0 xa xb xc xd xe)) else none
 | _=>none
theorem k23:Known Tryz.prog 23:=⟨Tryz.f23,Tryz.func23,by kernel_rfl,by kernel_rfl⟩
theorem meets23:Meets Tryz.prog 23 m23:=by
 refine mt (lvl:=0) (cf:=c23) rfl mixed k23 Tryz.func23 (by kernel_rfl) (loops_cons ok23_0 noLoop) (allT_cons meets12 (allT_cons meets79 allT_nil)) allM_nil noI fun xs r h=>?_
 unfold m23 at h
 split at h
 ·rename_i g0 xa g1 xb g2 xc g3 xd xe
  obtain ⟨hg,h⟩:=bif_pair h
  simp only [Bool.and_eq_true] at hg
  obtain ⟨⟨⟨q0,q1⟩,q2⟩,q3⟩:=hg
  obtain rfl:=cE q0
  obtain rfl:=cE q1
  obtain rfl:=cE q2
  obtain rfl:=cE q3
  obtain ⟨h1,rfl⟩:=pair_inj h
  exact (e23 xa xb xc xd xe).trans ((brL (br (fun b=>some (AV.fl [.str] (bif b then ([]:List AV) else (ro (runW (R23_0 xd (xd.length:Int)) (((xd.length:Int) - 0:Int).toNat+1) (0,([]:List AV))) [] (fun p91=>p91))))) (fun _=>rfl) (brO (fun o:Option (((List AV)))=>some (AV.fl [.str] (ro o [] (fun p91=>p91)))) (fun p91=>(fun _=>rfl))))) h1)
 ·cases h
end
end Go.Proofs.YtealoedecngaoaaGreatDoor

namespace Go.Proofs.YtealoedecngaoaaGreatDoor
open Go Go.Proofs.VE
set_option linter.unusedVariables false
set_option linter.unusedSimpArgs false
set_option maxRecDepth 100000
set_option maxHeartbeats 4000000
noncomputable section
def G31_0 {β:Type} (h0_0:List AV) (h0_1:List AV) (h0_2:List AV) (h0_3:List AV) (h0_4:Int) (t4:Int) (h1:List AV) (N:((Int × (List AV)))→β) (K:(((List AV)))→β) (d:β):β:=by
 refine (?f0:ByteArray→ByteArray→ByteArray→ByteArray→ByteArray→ByteArray→ByteArray→β) (v86_0 t4) (v86_0 (fI (h0_3.getD t4.toNat .undef) 1)) (v86_0 ((fL (h0_3.getD t4.toNat .undef) 0).length:Int)) (v86_0 (fI (h0_3.getD t4.toNat .undef) 7)) (v86_0 (fI (h0_3.getD t4.toNat .undef) 8)) (v86_0 (fI (h0_3.getD t4.toNat .undef) 3)) (v86_0 (fI (h0_3.getD t4.toNat .undef) 4));intro x1 x2 x3 x4 x5 x6 x7
 exact (bif decide (t4<(h0_3.length:Int)) then (bif q13 h0_0 h0_1 h0_2 h0_3 h0_4 then (bif (v13_0 h0_0 h0_1 h0_2 h0_3 h0_4) then (bif (decide (0≤t4) && decide (t4<(h0_3.length:Int))) then (bif q86 t4 then (bif decide (x1.size+(ByteArray.mk #[32,100,111,110,101,32]).size≤4611686018427387904) then (bif q86 (fI (h0_3.getD t4.toNat .undef) 1) then (bif decide ((x1++(ByteArray.mk #[32,100,111,110,101,32])).size+x2.size≤4611686018427387904) then (bif decide (((x1++(ByteArray.mk #[32,100,111,110,101,32]))++x2).size+(ByteArray.mk #[47]).size≤4611686018427387904) then (bif q86 ((fL (h0_3.getD t4.toNat .undef) 0).length:Int) then (bif decide ((((x1++(ByteArray.mk #[32,100,111,110,101,32]))++x2)++(ByteArray.mk #[47])).size+x3.size≤4611686018427387904) then (bif decide (((((x1++(ByteArray.mk #[32,100,111,110,101,32]))++x2)++(ByteArray.mk #[47]))++x3).size+(ByteArray.mk #[32,115,119,97,112,115,32]).size≤4611686018427387904) then (bif q86 (fI (h0_3.getD t4.toNat .undef) 7) then (bif decide ((((((x1++(ByteArray.mk #[32,100,111,110,101,32]))++x2)++(ByteArray.mk #[47]))++x3)++(ByteArray.mk #[32,115,119,97,112,115,32])).size+x4.size≤4611686018427387904) then (bif decide (((((((x1++(ByteArray.mk #[32,100,111,110,101,32]))++x2)++(ByteArray.mk #[47]))++x3)++(ByteArray.mk #[32,115,119,97,112,115,32]))++x4).size+(ByteArray.mk #[32,119,97,105,116,115,32]).size≤4611686018427387904) then (bif q86 (fI (h0_3.getD t4.toNat .undef) 8) then (bif decide ((((((((x1++(ByteArray.mk #[32,100,111,110,101,32]))++x2)++(ByteArray.mk #[47]))++x3)++(ByteArray.mk #[32,115,119,97,112,115,32]))++x4)++(ByteArray.mk #[32,119,97,105,116,115,32])).size+x5.size≤4611686018427387904) then (bif fB (h0_3.getD t4.toNat .undef) 2 then (bif decide (((((((((x1++(ByteArray.mk #[32,100,111,110,101,32]))++x2)++(ByteArray.mk #[47]))++x3)++(ByteArray.mk #[32,115,119,97,112,115,32]))++x4)++(ByteArray.mk #[32,119,97,105,116,115,32]))++x5).size+(ByteArray.mk #[32,105,110,32]).size≤4611686018427387904) then (bif q86 (fI (h0_3.getD t4.toNat .undef) 3) then (bif decide ((((((((((x1++(ByteArray.mk #[32,100,111,110,101,32]))++x2)++(ByteArray.mk #[47]))++x3)++(ByteArray.mk #[32,115,119,97,112,115,32]))++x4)++(ByteArray.mk #[32,119,97,105,116,115,32]))++x5)++(ByteArray.mk #[32,105,110,32])).size+x6.size≤4611686018427387904) then (bif decide (((((((((((x1++(ByteArray.mk #[32,100,111,110,101,32]))++x2)++(ByteArray.mk #[47]))++x3)++(ByteArray.mk #[32,115,119,97,112,115,32]))++x4)++(ByteArray.mk #[32,119,97,105,116,115,32]))++x5)++(ByteArray.mk #[32,105,110,32]))++x6).size+(ByteArray.mk #[46,46]).size≤4611686018427387904) then (bif q86 (fI (h0_3.getD t4.toNat .undef) 4) then (bif decide ((((((((((((x1++(ByteArray.mk #[32,100,111,110,101,32]))++x2)++(ByteArray.mk #[47]))++x3)++(ByteArray.mk #[32,115,119,97,112,115,32]))++x4)++(ByteArray.mk #[32,119,97,105,116,115,32]))++x5)++(ByteArray.mk #[32,105,110,32]))++x6)++(ByteArray.mk #[46,46])).size+x7.size≤4611686018427387904) then (bif (decide ((h1.length+([AV.str ((((((((((((x1++(ByteArray.mk #[32,100,111,110,101,32]))++x2)++(ByteArray.mk #[47]))++x3)++(ByteArray.mk #[32,115,119,97,112,115,32]))++x4)++(ByteArray.mk #[32,119,97,105,116,115,32]))++x5)++(ByteArray.mk #[32,105,110,32]))++x6)++(ByteArray.mk #[46,46]))++x7)]).length)*16≤140737488355328) && decide ((h1.length+([AV.str ((((((((((((x1++(ByteArray.mk #[32,100,111,110,101,32]))++x2)++(ByteArray.mk #[47]))++x3)++(ByteArray.mk #[32,115,119,97,112,115,32]))++x4)++(ByteArray.mk #[32,119,97,105,116,115,32]))++x5)++(ByteArray.mk #[32,105,110,32]))++x6)++(ByteArray.mk #[46,46]))++x7)]).length)≤140737488355328)) then N (IntKind.i64.wrap (t4+1),h1++([AV.str ((((((((((((x1++(ByteArray.mk #[32,100,111,110,101,32]))++x2)++(ByteArray.mk #[47]))++x3)++(ByteArray.mk #[32,115,119,97,112,115,32]))++x4)++(ByteArray.mk #[32,119,97,105,116,115,32]))++x5)++(ByteArray.mk #[32,105,110,32]))++x6)++(ByteArray.mk #[46,46]))++x7)]))
 else d)
 else d)
 else d)
 else d)
 else d)
 else d)
 else d)
 else (bif (decide ((h1.length+([AV.str ((((((((x1++(ByteArray.mk #[32,100,111,110,101,32]))++x2)++(ByteArray.mk #[47]))++x3)++(ByteArray.mk #[32,115,119,97,112,115,32]))++x4)++(ByteArray.mk #[32,119,97,105,116,115,32]))++x5)]).length)*16≤140737488355328) && decide ((h1.length+([AV.str ((((((((x1++(ByteArray.mk #[32,100,111,110,101,32]))++x2)++(ByteArray.mk #[47]))++x3)++(ByteArray.mk #[32,115,119,97,112,115,32]))++x4)++(ByteArray.mk #[32,119,97,105,116,115,32]))++x5)]).length)≤140737488355328)) then N (IntKind.i64.wrap (t4+1),h1++([AV.str ((((((((x1++(ByteArray.mk #[32,100,111,110,101,32]))++x2)++(ByteArray.mk #[47]))++x3)++(ByteArray.mk #[32,115,119,97,112,115,32]))++x4)++(ByteArray.mk #[32,119,97,105,116,115,32]))++x5)]))
 else d))
 else d)
 else d)
 else d)
 else d)
 else d)
 else d)
 else d)
 else d)
 else d)
 else d)
 else d)
 else d)
 else d)
 else d)
 else K h1)
 else d)
 else K h1)
def F31_0 (h0_0 h0_1 h0_2 h0_3:List AV) (h0_4 t4:Int) (h1:List AV):Out ((Int × (List AV))) (((List AV))):=G31_0 h0_0 h0_1 h0_2 h0_3 h0_4 t4 h1 .next .stop .fail
def R31_0 (h0_0 h0_1 h0_2 h0_3:List AV) (h0_4:Int):((Int × (List AV)))→Out ((Int × (List AV))) (((List AV))):=fun s:Int × (List AV)=>F31_0 h0_0 h0_1 h0_2 h0_3 h0_4 s.1 s.2
def E31_0 (h0_0 h0_1 h0_2 h0_3:List AV) (h0_4:Int):((Int × (List AV)))→St:=fun s:Int × (List AV)=>⟨[(1,AV.ptr [0,1] 0 0),(3,AV.own [0,3]),(4,Ai s.1)],[([0,1],⟨true,[],[AV.agg [AV.sl [.int .i64] h0_0,AV.sl [.int .i64] h0_1,AV.sl [.int .i64,.int .i64] h0_2,AV.sl [.sl [.int .i64],.int .i64,.bool,.int .i64,.int .i64,.int .i64,.int .i64,.int .i64,.int .i64] h0_3,Ai h0_4]]⟩),([0,3],⟨false,[.str],s.2⟩)]⟩
def K31_0 (h0_0 h0_1 h0_2 h0_3:List AV) (h0_4:Int) (k:Kont):(((List AV)))→Option AV:=fun p:(List AV)=>k (.exit 0) ⟨[(3,AV.own [0,3])],[([0,1],⟨true,[],[AV.agg [AV.sl [.int .i64] h0_0,AV.sl [.int .i64] h0_1,AV.sl [.int .i64,.int .i64] h0_2,AV.sl [.sl [.int .i64],.int .i64,.bool,.int .i64,.int .i64,.int .i64,.int .i64,.int .i64,.int .i64] h0_3,Ai h0_4]]⟩),([0,3],⟨false,[.str],p⟩)]⟩
def l31_0:LModel:=fun _ _ st k=>match st with
 | ⟨[(1,.ptr g0 g1 g2),(3,.own g3),(4,.int .i64 t4)],[(g4,⟨true,[],[.agg [.sl g5 h0_0,.sl g6 h0_1,.sl g7 h0_2,.sl g8 h0_3,.int .i64 h0_4]]⟩),(g9,⟨false,g10,h1⟩)]⟩=>bif nmEq g0 ([0,1]) && Nat.beq g1 0 && Nat.beq g2 0 && nmEq g3 ([0,3]) && nmEq g4 ([0,1]) && ctsEq g5 ([.int .i64]) && ctsEq g6 ([.int .i64]) && ctsEq g7 ([.int .i64,.int .i64]) && ctsEq g8 ([.sl [.int .i64],.int .i64,.bool,.int .i64,.int .i64,.int .i64,.int .i64,.int .i64,.int .i64]) && nmEq g9 ([0,3]) && ctsEq g10 ([.str]) then ro (runW (R31_0 h0_0 h0_1 h0_2 h0_3 h0_4) (((h0_3.length:Int) - t4:Int).toNat+1) (t4,h1)) none (K31_0 h0_0 h0_1 h0_2 h0_3 h0_4 k) else none
 | _=>none
noncomputable def c31:Cfg:=cfg Tryz.prog [(31,0,[1,3,4]),(31,999,[2]),(31,1000,[3]),(31,1001,[1,3,4])] [(13,m13),(86,m86)] [] [] [(31,0,l31_0)]
theorem s31_0 (h0_0 h0_1 h0_2 h0_3:List AV) (h0_4:Int) (ce:CallE) (k:Kont) (s:Int × (List AV)) (next:St→Option AV):stepA (codeA c31 ce [] 31 0 (sub [1,1,0,1,0,0] (body Tryz.f31))) (normA [] [1,3,4]) next ((E31_0 h0_0 h0_1 h0_2 h0_3 h0_4) s) k=G31_0 h0_0 h0_1 h0_2 h0_3 h0_4 s.1 s.2 (fun s=>next ((E31_0 h0_0 h0_1 h0_2 h0_3 h0_4) s)) (K31_0 h0_0 h0_1 h0_2 h0_3 h0_4 k) none:=by kernel_rfl
theorem st31_0 (h0_0 h0_1 h0_2 h0_3:List AV) (h0_4:Int) (ce:CallE) (k:Kont) (s:(Int × (List AV))) (next:St→Option AV):stepA (codeA c31 ce [] 31 0 (sub [1,1,0,1,0,0] (body Tryz.f31))) (normA [] [1,3,4]) next ((E31_0 h0_0 h0_1 h0_2 h0_3 h0_4) s) k=(R31_0 h0_0 h0_1 h0_2 h0_3 h0_4 s).el none (fun s=>next ((E31_0 h0_0 h0_1 h0_2 h0_3 h0_4) s)) (K31_0 h0_0 h0_1 h0_2 h0_3 h0_4 k):=(s31_0 h0_0 h0_1 h0_2 h0_3 h0_4 ce k s next).trans (by unfold R31_0;unfold F31_0 G31_0;simp only [el_cond,el_ro,el_sum,el_fail,el_next,el_stop] <;> rfl)
theorem ok31_0 {ce:CallE}:LoopOK c31 ce [] 31 0 (sub [1,1,0,1,0,0] (body Tryz.f31)):=by
 intro m hm st k r h
 obtain rfl:l31_0=m:=Option.some.inj hm
 unfold l31_0 at h
 split at h
 ·rename_i g0 g1 g2 g3 t4 g4 g5 h0_0 g6 h0_1 g7 h0_2 g8 h0_3 h0_4 g9 g10 h1
  obtain ⟨hg,h⟩:=bif_some h
  simp only [Bool.and_eq_true] at hg
  obtain ⟨⟨⟨⟨⟨⟨⟨⟨⟨⟨q0,q1⟩,q2⟩,q3⟩,q4⟩,q5⟩,q6⟩,q7⟩,q8⟩,q9⟩,q10⟩:=hg
  obtain rfl:=nE q0
  obtain rfl:=bE q1
  obtain rfl:=bE q2
  obtain rfl:=nE q3
  obtain rfl:=nE q4
  obtain rfl:=cE q5
  obtain rfl:=cE q6
  obtain rfl:=cE q7
  obtain rfl:=cE q8
  obtain rfl:=nE q9
  obtain rfl:=cE q10
  refine ⟨(((h0_3.length:Int) - t4:Int).toNat+1),?_⟩
  rw [← h]
  exact loop_run (E31_0 h0_0 h0_1 h0_2 h0_3 h0_4) (K31_0 h0_0 h0_1 h0_2 h0_3 h0_4 k) (st31_0 h0_0 h0_1 h0_2 h0_3 h0_4 ce k) _ (t4,h1)
 ·cases h
def q31 (xa xb xc xd:List AV) (xe:Int):Bool:=(ro (runW (R31_0 xa xb xc xd xe) (((xd.length:Int) - 0:Int).toNat+1) (0,([]:List AV))) false (fun p92=>true))
def v31_0 (xa xb xc xd:List AV) (xe:Int):List AV:=(ro (runW (R31_0 xa xb xc xd xe) (((xd.length:Int) - 0:Int).toNat+1) (0,([]:List AV))) [] (fun p92=>p92))
theorem e31 (xa xb xc xd:List AV) (xe:Int):funA c31 0 31 [AV.agg [AV.sl [.int .i64] xa,AV.sl [.int .i64] xb,AV.sl [.int .i64,.int .i64] xc,AV.sl [.sl [.int .i64],.int .i64,.bool,.int .i64,.int .i64,.int .i64,.int .i64,.int .i64,.int .i64] xd,Ai xe]]=(ro (runW (R31_0 xa xb xc xd xe) (((xd.length:Int) - 0:Int).toNat+1) (0,([]:List AV))) none (fun p92=>some (AV.fl [.str] p92))):=by kernel_rfl
def m31:TModel
 | [.agg [.sl g0 xa,.sl g1 xb,.sl g2 xc,.sl g3 xd,.int .i64 xe]]=>bif ctsEq g0 ([.int .i64]) && ctsEq g1 ([.int .i64]) && ctsEq g2 ([.int .i64,.int .i64]) && ctsEq g3 ([.sl [.int .i64],.int .i64,.bool,.int .i64,.int .i64,.int .i64,.int .i64,.int .i64,.int .i64]) then some (q31 xa xb xc xd xe,AV.fl [.str] (v31_0 xa xb xc xd xe)) else none
 | _=>none
theorem k31:Known Tryz.prog 31:=⟨Tryz.f31,Tryz.func31,by kernel_rfl,by kernel_rfl⟩
theorem meets31:Meets Tryz.prog 31 m31:=by
 refine mt (lvl:=0) (cf:=c31) rfl mixed k31 Tryz.func31 (by kernel_rfl) (loops_cons ok31_0 noLoop) (allT_cons meets13 (allT_cons meets86 allT_nil)) allM_nil noI fun xs r h=>?_
 unfold m31 at h
 split at h
 ·rename_i g0 xa g1 xb g2 xc g3 xd xe
  obtain ⟨hg,h⟩:=bif_pair h
  simp only [Bool.and_eq_true] at hg
  obtain ⟨⟨⟨q0,q1⟩,q2⟩,q3⟩:=hg
  obtain rfl:=cE q0
  obtain rfl:=cE q1
  obtain rfl:=cE q2
  obtain rfl:=cE q3
  obtain ⟨h1,rfl⟩:=pair_inj h
  exact (e31 xa xb xc xd xe).trans ((brO (fun o:Option (((List AV)))=>some (AV.fl [.str] (ro o [] (fun p92=>p92)))) (fun p92=>(fun _=>rfl))) h1)
 ·cases h
def G32_0 {β:Type} (t0:List AV) (t10:List AV) (t11:Int) (t3:ByteArray) (t12:Int) (N:((ByteArray × Int))→β) (K:(ByteArray)→β) (d:β):β:=(bif decide (t12<t11) then (bif (decide (0≤t12) && decide (t12<(t10.length:Int))) then (bif q79 (fI (t10.getD t12.toNat .undef) 0) then (bif decide ((v79_0 (fI (t10.getD t12.toNat .undef) 0)).size+(ByteArray.mk #[32]).size≤4611686018427387904) then (bif decide (t3.size+((v79_0 (fI (t10.getD t12.toNat .undef) 0))++(ByteArray.mk #[32])).size≤4611686018427387904) then N (t3++((v79_0 (fI (t10.getD t12.toNat .undef) 0))++(ByteArray.mk #[32])),IntKind.i64.wrap (t12+1))
 else d)
 else d)
 else d)
 else d)
 else K t3)
def F32_0 (t0 t10:List AV) (t11:Int) (t3:ByteArray) (t12:Int):Out ((ByteArray × Int)) (ByteArray):=G32_0 t0 t10 t11 t3 t12 .next .stop .fail
def R32_0 (t0 t10:List AV) (t11:Int):((ByteArray × Int))→Out ((ByteArray × Int)) (ByteArray):=fun s:ByteArray × Int=>F32_0 t0 t10 t11 s.1 s.2
def E32_0 (t0 t10:List AV) (t11:Int):((ByteArray × Int))→St:=fun s:ByteArray × Int=>⟨[(0,AV.sl [.int .i64] t0),(3,AV.str s.1),(10,AV.sl [.int .i64] t10),(11,Ai t11),(12,Ai s.2)],[]⟩
def K32_0 (t0 t10:List AV) (t11:Int) (k:Kont):(ByteArray)→Option AV:=fun p:ByteArray=>k (.exit 0) ⟨[(0,AV.sl [.int .i64] t0),(3,AV.str p)],[]⟩
def l32_0:LModel:=fun _ _ st k=>match st with
 | ⟨[(0,.sl g0 t0),(3,.str t3),(10,.sl g1 t10),(11,.int .i64 t11),(12,.int .i64 t12)],[]⟩=>bif ctsEq g0 ([.int .i64]) && ctsEq g1 ([.int .i64]) then ro (runW (R32_0 t0 t10 t11) ((t11 - t12:Int).toNat+1) (t3,t12)) none (K32_0 t0 t10 t11 k) else none
 | _=>none
noncomputable def c32:Cfg:=cfg Tryz.prog [(32,0,[0,3,10,11,12]),(32,999,[2]),(32,1000,[0,3]),(32,1001,[0,3,10,11,12])] [(79,m79),(92,m92)] [] [] [(32,0,l32_0)]
theorem s32_0 (t0 t10:List AV) (t11:Int) (ce:CallE) (k:Kont) (s:ByteArray × Int) (next:St→Option AV):stepA (codeA c32 ce [] 32 0 (sub [1,1,0,1,0,0] (body Tryz.f32))) (normA [] [0,3,10,11,12]) next ((E32_0 t0 t10 t11) s) k=G32_0 t0 t10 t11 s.1 s.2 (fun s=>next ((E32_0 t0 t10 t11) s)) (K32_0 t0 t10 t11 k) none:=by kernel_rfl
theorem st32_0 (t0 t10:List AV) (t11:Int) (ce:CallE) (k:Kont) (s:(ByteArray × Int)) (next:St→Option AV):stepA (codeA c32 ce [] 32 0 (sub [1,1,0,1,0,0] (body Tryz.f32))) (normA [] [0,3,10,11,12]) next ((E32_0 t0 t10 t11) s) k=(R32_0 t0 t10 t11 s).el none (fun s=>next ((E32_0 t0 t10 t11) s)) (K32_0 t0 t10 t11 k):=(s32_0 t0 t10 t11 ce k s next).trans (by unfold R32_0;unfold F32_0 G32_0;simp only [el_cond,el_ro,el_sum,el_fail,el_next,el_stop] <;> rfl)
theorem ok32_0 {ce:CallE}:LoopOK c32 ce [] 32 0 (sub [1,1,0,1,0,0] (body Tryz.f32)):=by
 intro m hm st k r h
 obtain rfl:l32_0=m:=Option.some.inj hm
 unfold l32_0 at h
 split at h
 ·rename_i g0 t0 t3 g1 t10 t11 t12
  obtain ⟨hg,h⟩:=bif_some h
  simp only [Bool.and_eq_true] at hg
  obtain ⟨q0,q1⟩:=hg
  obtain rfl:=cE q0
  obtain rfl:=cE q1
  refine ⟨((t11 - t12:Int).toNat+1),?_⟩
  rw [← h]
  exact loop_run (E32_0 t0 t10 t11) (K32_0 t0 t10 t11 k) (st32_0 t0 t10 t11 ce k) _ (t3,t12)
 ·cases h
def q32 (a0:List AV):Bool:=((decide (0≤0) && decide (0≤(if (a0.length:Int)<30 then (a0.length:Int) else 30)) && decide ((if (a0.length:Int)<30 then (a0.length:Int) else 30)≤(a0.length:Int))) && (ro (runW (R32_0 a0 ((a0.take (Int.toNat (if (a0.length:Int)<30 then (a0.length:Int) else 30))).drop (Int.toNat 0)) (((a0.take (Int.toNat (if (a0.length:Int)<30 then (a0.length:Int) else 30))).drop (Int.toNat 0)).length:Int)) (((((a0.take (Int.toNat (if (a0.length:Int)<30 then (a0.length:Int) else 30))).drop (Int.toNat 0)).length:Int) - 0:Int).toNat+1) (ByteArray.empty,0)) false (fun p94=>(decide (p94.size+(ByteArray.mk #[116,111,116,97,108,32]).size≤4611686018427387904) && (q92 a0 && (q79 (v92_0 a0) && decide ((p94++(ByteArray.mk #[116,111,116,97,108,32])).size+(v79_0 (v92_0 a0)).size≤4611686018427387904)))))))
def v32_0 (a0:List AV):ByteArray:=(ro (runW (R32_0 a0 ((a0.take (Int.toNat (if (a0.length:Int)<30 then (a0.length:Int) else 30))).drop (Int.toNat 0)) (((a0.take (Int.toNat (if (a0.length:Int)<30 then (a0.length:Int) else 30))).drop (Int.toNat 0)).length:Int)) (((((a0.take (Int.toNat (if (a0.length:Int)<30 then (a0.length:Int) else 30))).drop (Int.toNat 0)).length:Int) - 0:Int).toNat+1) (ByteArray.empty,0)) ByteArray.empty (fun p94=>(p94++(ByteArray.mk #[116,111,116,97,108,32]))++(v79_0 (v92_0 a0))))
theorem e32 (a0:List AV):funA c32 0 32 [AV.sl [.int .i64] a0]=(bif (decide (0≤0) && decide (0≤(if (a0.length:Int)<30 then (a0.length:Int) else 30)) && decide ((if (a0.length:Int)<30 then (a0.length:Int) else 30)≤(a0.length:Int))) then (ro (runW (R32_0 a0 ((a0.take (Int.toNat (if (a0.length:Int)<30 then (a0.length:Int) else 30))).drop (Int.toNat 0)) (((a0.take (Int.toNat (if (a0.length:Int)<30 then (a0.length:Int) else 30))).drop (Int.toNat 0)).length:Int)) (((((a0.take (Int.toNat (if (a0.length:Int)<30 then (a0.length:Int) else 30))).drop (Int.toNat 0)).length:Int) - 0:Int).toNat+1) (ByteArray.empty,0)) none (fun p94=>(bif decide (p94.size+(ByteArray.mk #[116,111,116,97,108,32]).size≤4611686018427387904) then (bif q92 a0 then (bif q79 (v92_0 a0) then (bif decide ((p94++(ByteArray.mk #[116,111,116,97,108,32])).size+(v79_0 (v92_0 a0)).size≤4611686018427387904) then some (AV.str ((p94++(ByteArray.mk #[116,111,116,97,108,32]))++(v79_0 (v92_0 a0))))
 else none)
 else none)
 else none)
 else none)))
 else none):=by kernel_rfl
def m32:TModel
 | [.sl g0 a0]=>bif ctsEq g0 ([.int .i64]) then some (q32 a0,AV.str (v32_0 a0)) else none
 | _=>none
theorem k32:Known Tryz.prog 32:=⟨Tryz.f32,Tryz.func32,by kernel_rfl,by kernel_rfl⟩
theorem meets32:Meets Tryz.prog 32 m32:=by
 refine mt (lvl:=0) (cf:=c32) rfl mixed k32 Tryz.func32 (by kernel_rfl) (loops_cons ok32_0 noLoop) (allT_cons meets79 (allT_cons meets92 allT_nil)) allM_nil noI fun xs r h=>?_
 unfold m32 at h
 split at h
 ·rename_i g0 a0
  obtain ⟨hg,h⟩:=bif_pair h
  have q0:=hg
  obtain rfl:=cE q0
  obtain ⟨h1,rfl⟩:=pair_inj h
  exact (e32 a0).trans ((brL (brO (fun o:Option (ByteArray)=>some (AV.str (ro o ByteArray.empty (fun p94=>(p94++(ByteArray.mk #[116,111,116,97,108,32]))++(v79_0 (v92_0 a0)))))) (fun p94=>(brL (brL (brL (brL1 (fun _=>rfl)))))))) h1)
 ·cases h
def G93_0 {β:Type} (t0:List AV) (t3:Int) (t4:Int) (N:((Int × Int))→β) (K:(Int)→β) (d:β):β:=(bif decide (t4<(t0.length:Int)) then (bif (decide (0≤t4) && decide (t4<(t0.length:Int))) then N (IntKind.i64.wrap (t3+fI (t0.getD t4.toNat .undef) 0),IntKind.i64.wrap (t4+1))
 else d)
 else K t3)
def F93_0 (t0:List AV) (t3 t4:Int):Out ((Int × Int)) (Int):=G93_0 t0 t3 t4 .next .stop .fail
def R93_0 (t0:List AV):((Int × Int))→Out ((Int × Int)) (Int):=fun s:Int × Int=>F93_0 t0 s.1 s.2
def E93_0 (t0:List AV):((Int × Int))→St:=fun s:Int × Int=>⟨[(0,AV.sl [.int .i64] t0),(3,Ai s.1),(4,Ai s.2)],[]⟩
def K93_0 (t0:List AV) (k:Kont):(Int)→Option AV:=fun p:Int=>k (.exit 0) ⟨[(3,Ai p)],[]⟩
def l93_0:LModel:=fun _ _ st k=>match st with
 | ⟨[(0,.sl g0 t0),(3,.int .i64 t3),(4,.int .i64 t4)],[]⟩=>bif ctsEq g0 ([.int .i64]) then ro (runW (R93_0 t0) (((t0.length:Int) - t4:Int).toNat+1) (t3,t4)) none (K93_0 t0 k) else none
 | _=>none
noncomputable def c93:Cfg:=cfg Tryz.prog [(93,0,[0,3,4]),(93,999,[2]),(93,1000,[3]),(93,1001,[0,3,4])] [] [] [] [(93,0,l93_0)]
theorem s93_0 (t0:List AV) (ce:CallE) (k:Kont) (s:Int × Int) (next:St→Option AV):stepA (codeA c93 ce [] 93 0 (sub [1,1,0,1,0,0] (body Tryz.f93))) (normA [] [0,3,4]) next ((E93_0 t0) s) k=G93_0 t0 s.1 s.2 (fun s=>next ((E93_0 t0) s)) (K93_0 t0 k) none:=by kernel_rfl
theorem st93_0 (t0:List AV) (ce:CallE) (k:Kont) (s:(Int × Int)) (next:St→Option AV):stepA (codeA c93 ce [] 93 0 (sub [1,1,0,1,0,0] (body Tryz.f93))) (normA [] [0,3,4]) next ((E93_0 t0) s) k=(R93_0 t0 s).el none (fun s=>next ((E93_0 t0) s)) (K93_0 t0 k):=(s93_0 t0 ce k s next).trans (by unfold R93_0;unfold F93_0 G93_0;simp only [el_cond,el_ro,el_sum,el_fail,el_next,el_stop] <;> rfl)
theorem ok93_0 {ce:CallE}:LoopOK c93 ce [] 93 0 (sub [1,1,0,1,0,0] (body Tryz.f93)):=by
 intro m hm st k r h
 obtain rfl:l93_0=m:=Option.some.inj hm
 unfold l93_0 at h
 split at h
 ·rename_i g0 t0 t3 t4
  obtain ⟨hg,h⟩:=bif_some h
  have q0:=hg
  obtain rfl:=cE q0
  refine ⟨(((t0.length:Int) - t4:Int).toNat+1),?_⟩
  rw [← h]
  exact loop_run (E93_0 t0) (K93_0 t0 k) (st93_0 t0 ce k) _ (t3,t4)
 ·cases h
def q93 (a0:List AV):Bool:=(ro (runW (R93_0 a0) (((a0.length:Int) - 0:Int).toNat+1) (0,0)) false (fun p96=>true))
def v93_0 (a0:List AV):Int:=(ro (runW (R93_0 a0) (((a0.length:Int) - 0:Int).toNat+1) (0,0)) 0 (fun p96=>p96))
theorem e93 (a0:List AV):funA c93 0 93 [AV.sl [.int .i64] a0]=(ro (runW (R93_0 a0) (((a0.length:Int) - 0:Int).toNat+1) (0,0)) none (fun p96=>some (Ai p96))):=by kernel_rfl
def m93:TModel
 | [.sl g0 a0]=>bif ctsEq g0 ([.int .i64]) then some (q93 a0,AV.int .i64 (v93_0 a0)) else none
 | _=>none
theorem k93:Known Tryz.prog 93:=⟨Tryz.f93,Tryz.func93,by kernel_rfl,by kernel_rfl⟩
theorem meets93:Meets Tryz.prog 93 m93:=by
 refine mt (lvl:=0) (cf:=c93) rfl mixed k93 Tryz.func93 (by kernel_rfl) (loops_cons ok93_0 noLoop) allT_nil allM_nil noI fun xs r h=>?_
 unfold m93 at h
 split at h
 ·rename_i g0 a0
  obtain ⟨hg,h⟩:=bif_pair h
  have q0:=hg
  obtain rfl:=cE q0
  obtain ⟨h1,rfl⟩:=pair_inj h
  exact (e93 a0).trans ((brO (fun o:Option (Int)=>some (Ai (ro o 0 (fun p96=>p96)))) (fun p96=>(fun _=>rfl))) h1)
 ·cases h
def G33_0 {β:Type} (t0:List AV) (t3:ByteArray) (t4:Int) (N:((ByteArray × Int))→β) (K:(ByteArray)→β) (d:β):β:=(bif decide (t4<(t0.length:Int)) then (bif decide (t4<30) then (bif (decide (0≤t4) && decide (t4<(t0.length:Int))) then (bif q86 (fI (t0.getD t4.toNat .undef) 0) then (bif decide (t3.size+(v86_0 (fI (t0.getD t4.toNat .undef) 0)).size≤4611686018427387904) then (bif decide ((t3++(v86_0 (fI (t0.getD t4.toNat .undef) 0))).size+(ByteArray.mk #[32]).size≤4611686018427387904) then N ((t3++(v86_0 (fI (t0.getD t4.toNat .undef) 0)))++(ByteArray.mk #[32]),IntKind.i64.wrap (t4+1))
 else d)
 else d)
 else d)
 else d)
 else K t3)
 else K t3)
def F33_0 (t0:List AV) (t3:ByteArray) (t4:Int):Out ((ByteArray × Int)) (ByteArray):=G33_0 t0 t3 t4 .next .stop .fail
def R33_0 (t0:List AV):((ByteArray × Int))→Out ((ByteArray × Int)) (ByteArray):=fun s:ByteArray × Int=>F33_0 t0 s.1 s.2
def E33_0 (t0:List AV):((ByteArray × Int))→St:=fun s:ByteArray × Int=>⟨[(0,AV.sl [.int .i64] t0),(3,AV.str s.1),(4,Ai s.2)],[]⟩
def K33_0 (t0:List AV) (k:Kont):(ByteArray)→Option AV:=fun p:ByteArray=>k (.exit 0) ⟨[(0,AV.sl [.int .i64] t0),(3,AV.str p)],[]⟩
def l33_0:LModel:=fun _ _ st k=>match st with
 | ⟨[(0,.sl g0 t0),(3,.str t3),(4,.int .i64 t4)],[]⟩=>bif ctsEq g0 ([.int .i64]) then ro (runW (R33_0 t0) (((t0.length:Int) - t4:Int).toNat+1) (t3,t4)) none (K33_0 t0 k) else none
 | _=>none
noncomputable def c33:Cfg:=cfg Tryz.prog [(33,0,[0,3,4]),(33,999,[2]),(33,1000,[0,3]),(33,1001,[0,3,4])] [(86,m86),(93,m93)] [] [] [(33,0,l33_0)]
theorem s33_0 (t0:List AV) (ce:CallE) (k:Kont) (s:ByteArray × Int) (next:St→Option AV):stepA (codeA c33 ce [] 33 0 (sub [1,1,0,1,0,0] (body Tryz.f33))) (normA [] [0,3,4]) next ((E33_0 t0) s) k=G33_0 t0 s.1 s.2 (fun s=>next ((E33_0 t0) s)) (K33_0 t0 k) none:=by kernel_rfl
theorem st33_0 (t0:List AV) (ce:CallE) (k:Kont) (s:(ByteArray × Int)) (next:St→Option AV):stepA (codeA c33 ce [] 33 0 (sub [1,1,0,1,0,0] (body Tryz.f33))) (normA [] [0,3,4]) next ((E33_0 t0) s) k=(R33_0 t0 s).el none (fun s=>next ((E33_0 t0) s)) (K33_0 t0 k):=(s33_0 t0 ce k s next).trans (by unfold R33_0;unfold F33_0 G33_0;simp only [el_cond,el_ro,el_sum,el_fail,el_next,el_stop] <;> rfl)
theorem ok33_0 {ce:CallE}:LoopOK c33 ce [] 33 0 (sub [1,1,0,1,0,0] (body Tryz.f33)):=by
 intro m hm st k r h
 obtain rfl:l33_0=m:=Option.some.inj hm
 unfold l33_0 at h
 split at h
 ·rename_i g0 t0 t3 t4
  obtain ⟨hg,h⟩:=bif_some h
  have q0:=hg
  obtain rfl:=cE q0
  refine ⟨(((t0.length:Int) - t4:Int).toNat+1),?_⟩
  rw [← h]
  exact loop_run (E33_0 t0) (K33_0 t0 k) (st33_0 t0 ce k) _ (t3,t4)
 ·cases h
def q33 (a0:List AV):Bool:=(ro (runW (R33_0 a0) (((a0.length:Int) - 0:Int).toNat+1) (ByteArray.empty,0)) false (fun p95=>(decide (p95.size+(ByteArray.mk #[116,111,116,97,108,32]).size≤4611686018427387904) && (q93 a0 && (q86 (v93_0 a0) && decide ((p95++(ByteArray.mk #[116,111,116,97,108,32])).size+(v86_0 (v93_0 a0)).size≤4611686018427387904))))))
def v33_0 (a0:List AV):ByteArray:=(ro (runW (R33_0 a0) (((a0.length:Int) - 0:Int).toNat+1) (ByteArray.empty,0)) ByteArray.empty (fun p95=>(p95++(ByteArray.mk #[116,111,116,97,108,32]))++(v86_0 (v93_0 a0))))
theorem e33 (a0:List AV):funA c33 0 33 [AV.sl [.int .i64] a0]=(ro (runW (R33_0 a0) (((a0.length:Int) - 0:Int).toNat+1) (ByteArray.empty,0)) none (fun p95=>(bif decide (p95.size+(ByteArray.mk #[116,111,116,97,108,32]).size≤4611686018427387904) then (bif q93 a0 then (bif q86 (v93_0 a0) then (bif decide ((p95++(ByteArray.mk #[116,111,116,97,108,32])).size+(v86_0 (v93_0 a0)).size≤4611686018427387904) then some (AV.str ((p95++(ByteArray.mk #[116,111,116,97,108,32]))++(v86_0 (v93_0 a0))))
 else none)
 else none)
 else none)
 else none))):=by kernel_rfl
def m33:TModel
 | [.sl g0 a0]=>bif ctsEq g0 ([.int .i64]) then some (q33 a0,AV.str (v33_0 a0)) else none
 | _=>none
theorem k33:Known Tryz.prog 33:=⟨Tryz.f33,Tryz.func33,by kernel_rfl,by kernel_rfl⟩
theorem meets33:Meets Tryz.prog 33 m33:=by
 refine mt (lvl:=0) (cf:=c33) rfl mixed k33 Tryz.func33 (by kernel_rfl) (loops_cons ok33_0 noLoop) (allT_cons meets86 (allT_cons meets93 allT_nil)) allM_nil noI fun xs r h=>?_
 unfold m33 at h
 split at h
 ·rename_i g0 a0
  obtain ⟨hg,h⟩:=bif_pair h
  have q0:=hg
  obtain rfl:=cE q0
  obtain ⟨h1,rfl⟩:=pair_inj h
  exact (e33 a0).trans ((brO (fun o:Option (ByteArray)=>some (AV.str (ro o ByteArray.empty (fun p95=>(p95++(ByteArray.mk #[116,111,116,97,108,32]))++(v86_0 (v93_0 a0)))))) (fun p95=>(brL (brL (brL (brL1 (fun _=>rfl))))))) h1)
 ·cases h
def G34_0 {β:Type} (h0_0:List AV) (h0_1:List AV) (h0_2:List AV) (h1:List AV) (t3:Int) (t4:Int) (t6:Int) (N:((Int × Int × Int))→β) (K:(Int)→β) (d:β):β:=(bif decide (t6<(h1.length:Int)) then (bif q71 h0_0 h0_1 h0_2 then (bif (v71_0 h0_0 h0_1 h0_2) then (bif (decide (0≤t6) && decide (t6<(h1.length:Int))) then (bif decide (fI (h1.getD t6.toNat .undef) 0 > t4) then (bif (decide (0≤t6) && decide (t6<(h1.length:Int))) then N (IntKind.i64.wrap (t3+1),fI (h1.getD t6.toNat .undef) 0,IntKind.i64.wrap (t6+1))
 else d)
 else (bif (decide (0≤t6) && decide (t6<(h1.length:Int))) then N (t3,fI (h1.getD t6.toNat .undef) 0,IntKind.i64.wrap (t6+1))
 else d))
 else d)
 else K t3)
 else d)
 else K t3)
def F34_0 (h0_0 h0_1 h0_2 h1:List AV) (t3 t4 t6:Int):Out ((Int × Int × Int)) (Int):=G34_0 h0_0 h0_1 h0_2 h1 t3 t4 t6 .next .stop .fail
def R34_0 (h0_0 h0_1 h0_2 h1:List AV):((Int × Int × Int))→Out ((Int × Int × Int)) (Int):=fun s:Int × Int × Int=>F34_0 h0_0 h0_1 h0_2 h1 s.1 s.2.1 s.2.2
def E34_0 (h0_0 h0_1 h0_2 h1:List AV):((Int × Int × Int))→St:=fun s:Int × Int × Int=>⟨[(1,AV.ptr [0,1] 0 0),(3,Ai s.1),(4,Ai s.2.1),(5,AV.own [0,5]),(6,Ai s.2.2)],[([0,1],⟨true,[],[AV.agg [AV.sl [.int .i64] h0_0,AV.sl [.int .i64] h0_1,AV.sl [.int .i64,.int .i64] h0_2]]⟩),([0,5],⟨false,[.int .i64],h1⟩)]⟩
def K34_0 (h0_0 h0_1 h0_2 h1:List AV) (k:Kont):(Int)→Option AV:=fun p:Int=>k (.exit 0) ⟨[(3,Ai p)],[([0,1],⟨true,[],[AV.agg [AV.sl [.int .i64] h0_0,AV.sl [.int .i64] h0_1,AV.sl [.int .i64,.int .i64] h0_2]]⟩),([0,5],⟨false,[.int .i64],h1⟩)]⟩
def l34_0:LModel:=fun _ _ st k=>match st with
 | ⟨[(1,.ptr g0 g1 g2),(3,.int .i64 t3),(4,.int .i64 t4),(5,.own g3),(6,.int .i64 t6)],[(g4,⟨true,[],[.agg [.sl g5 h0_0,.sl g6 h0_1,.sl g7 h0_2]]⟩),(g8,⟨false,g9,h1⟩)]⟩=>bif nmEq g0 ([0,1]) && Nat.beq g1 0 && Nat.beq g2 0 && nmEq g3 ([0,5]) && nmEq g4 ([0,1]) && ctsEq g5 ([.int .i64]) && ctsEq g6 ([.int .i64]) && ctsEq g7 ([.int .i64,.int .i64]) && nmEq g8 ([0,5]) && ctsEq g9 ([.int .i64]) then ro (runW (R34_0 h0_0 h0_1 h0_2 h1) (((h1.length:Int) - t6:Int).toNat+1) (t3,t4,t6)) none (K34_0 h0_0 h0_1 h0_2 h1 k) else none
 | _=>none
noncomputable def c34:Cfg:=cfg Tryz.prog [(34,0,[1,3,4,5,6]),(34,999,[2]),(34,1000,[3]),(34,1001,[1,3,4,5,6])] [(71,m71),(85,m85)] [] [] [(34,0,l34_0)]
theorem s34_0 (h0_0 h0_1 h0_2 h1:List AV) (ce:CallE) (k:Kont) (s:Int × Int × Int) (next:St→Option AV):stepA (codeA c34 ce [] 34 0 (sub [1,1,1,1,0,1,0,0] (body Tryz.f34))) (normA [] [1,3,4,5,6]) next ((E34_0 h0_0 h0_1 h0_2 h1) s) k=G34_0 h0_0 h0_1 h0_2 h1 s.1 s.2.1 s.2.2 (fun s=>next ((E34_0 h0_0 h0_1 h0_2 h1) s)) (K34_0 h0_0 h0_1 h0_2 h1 k) none:=by kernel_rfl
theorem st34_0 (h0_0 h0_1 h0_2 h1:List AV) (ce:CallE) (k:Kont) (s:(Int × Int × Int)) (next:St→Option AV):stepA (codeA c34 ce [] 34 0 (sub [1,1,1,1,0,1,0,0] (body Tryz.f34))) (normA [] [1,3,4,5,6]) next ((E34_0 h0_0 h0_1 h0_2 h1) s) k=(R34_0 h0_0 h0_1 h0_2 h1 s).el none (fun s=>next ((E34_0 h0_0 h0_1 h0_2 h1) s)) (K34_0 h0_0 h0_1 h0_2 h1 k):=(s34_0 h0_0 h0_1 h0_2 h1 ce k s next).trans (by unfold R34_0;unfold F34_0 G34_0;simp only [el_cond,el_ro,el_sum,el_fail,el_next,el_stop] <;> rfl)
theorem ok34_0 {ce:CallE}:LoopOK c34 ce [] 34 0 (sub [1,1,1,1,0,1,0,0] (body Tryz.f34)):=by
 intro m hm st k r h
 obtain rfl:l34_0=m:=Option.some.inj hm
 unfold l34_0 at h
 split at h
 ·rename_i g0 g1 g2 t3 t4 g3 t6 g4 g5 h0_0 g6 h0_1 g7 h0_2 g8 g9 h1
  obtain ⟨hg,h⟩:=bif_some h
  simp only [Bool.and_eq_true] at hg
  obtain ⟨⟨⟨⟨⟨⟨⟨⟨⟨q0,q1⟩,q2⟩,q3⟩,q4⟩,q5⟩,q6⟩,q7⟩,q8⟩,q9⟩:=hg
  obtain rfl:=nE q0
  obtain rfl:=bE q1
  obtain rfl:=bE q2
  obtain rfl:=nE q3
  obtain rfl:=nE q4
  obtain rfl:=cE q5
  obtain rfl:=cE q6
  obtain rfl:=cE q7
  obtain rfl:=nE q8
  obtain rfl:=cE q9
  refine ⟨(((h1.length:Int) - t6:Int).toNat+1),?_⟩
  rw [← h]
  exact loop_run (E34_0 h0_0 h0_1 h0_2 h1) (K34_0 h0_0 h0_1 h0_2 h1 k) (st34_0 h0_0 h0_1 h0_2 h1 ce k) _ (t3,t4,t6)
 ·cases h
def q34 (xa xb xc:List AV):Bool:=(q85 xa xb xc && (ro (runW (R34_0 xa xb xc (v85_0 xa xb xc)) ((((v85_0 xa xb xc).length:Int) - 0:Int).toNat+1) (0,0,0)) false (fun p97=>true)))
def v34_0 (xa xb xc:List AV):Int:=(ro (runW (R34_0 xa xb xc (v85_0 xa xb xc)) ((((v85_0 xa xb xc).length:Int) - 0:Int).toNat+1) (0,0,0)) 0 (fun p97=>p97))
theorem e34 (xa xb xc:List AV):funA c34 0 34 [AV.agg [AV.sl [.int .i64] xa,AV.sl [.int .i64] xb,AV.sl [.int .i64,.int .i64] xc]]=(bif q85 xa xb xc then (ro (runW (R34_0 xa xb xc (v85_0 xa xb xc)) ((((v85_0 xa xb xc).length:Int) - 0:Int).toNat+1) (0,0,0)) none (fun p97=>some (Ai p97)))
 else none):=by kernel_rfl
def m34:TModel
 | [.agg [.sl g0 xa,.sl g1 xb,.sl g2 xc]]=>bif ctsEq g0 ([.int .i64]) && ctsEq g1 ([.int .i64]) && ctsEq g2 ([.int .i64,.int .i64]) then some (q34 xa xb xc,AV.int .i64 (v34_0 xa xb xc)) else none
 | _=>none
theorem k34:Known Tryz.prog 34:=⟨Tryz.f34,Tryz.func34,by kernel_rfl,by kernel_rfl⟩
theorem meets34:Meets Tryz.prog 34 m34:=by
 refine mt (lvl:=0) (cf:=c34) rfl mixed k34 Tryz.func34 (by kernel_rfl) (loops_cons ok34_0 noLoop) (allT_cons meets71 (allT_cons meets85 allT_nil)) allM_nil noI fun xs r h=>?_
 unfold m34 at h
 split at h
 ·rename_i g0 xa g1 xb g2 xc
  obtain ⟨hg,h⟩:=bif_pair h
  simp only [Bool.and_eq_true] at hg
  obtain ⟨⟨q0,q1⟩,q2⟩:=hg
  obtain rfl:=cE q0
  obtain rfl:=cE q1
  obtain rfl:=cE q2
  obtain ⟨h1,rfl⟩:=pair_inj h
  exact (e34 xa xb xc).trans ((brL (brO (fun o:Option (Int)=>some (Ai (ro o 0 (fun p97=>p97)))) (fun p97=>(fun _=>rfl)))) h1)
 ·cases h
def G4_2 {β:Type} (h0:List AV) (h1:List AV) (h2:List AV) (h4:List AV) (h5:List AV) (h6:List AV) (h7:List AV) (t11:Int) (N:(Int)→β) (K:(Unit ⊕ Unit)→β) (d:β):β:=(bif decide (t11<(h6.length:Int)) then (bif !decide ((h6.length:Int)=(h7.length:Int)) then K (.inr ())
 else (bif (decide (0≤t11) && decide (t11<(h6.length:Int))) then (bif (decide (0≤t11) && decide (t11<(h7.length:Int))) then (bif !((fS (h6.getD t11.toNat .undef) 0).toList == (fS (h7.getD t11.toNat .undef) 0).toList) then K (.inr ())
 else N (IntKind.i64.wrap (t11+1)))
 else d)
 else d))
 else K (.inl ()))
def F4_2 (h0 h1 h2 h4 h5 h6 h7:List AV) (t11:Int):Out (Int) (Unit ⊕ Unit):=G4_2 h0 h1 h2 h4 h5 h6 h7 t11 .next .stop .fail
def R4_2 (h0 h1 h2 h4 h5 h6 h7:List AV):(Int)→Out (Int) (Unit ⊕ Unit):=fun s:Int=>F4_2 h0 h1 h2 h4 h5 h6 h7 s
def E4_2 (h0 h1 h2 h4 h5 h6 h7:List AV):(Int)→St:=fun s:Int=>⟨[(3,AV.ptr [0,3] 0 0),(4,AV.own [0,4]),(7,AV.own [0,7]),(9,AV.own [0,9]),(10,AV.own [0,10]),(11,Ai s)],[([0,0,3],⟨false,[.int .i64],h0⟩),([0,1,3],⟨false,[.int .i64],h1⟩),([0,2,3],⟨false,[.int .i64,.int .i64],h2⟩),([0,3],⟨true,[],[AV.agg [AV.own [0,0,3],AV.own [0,1,3],AV.own [0,2,3]]]⟩),([0,4],⟨false,[.str],h4⟩),([0,7],⟨false,[.int .i64],h5⟩),([0,9],⟨false,[.str],h6⟩),([0,10],⟨false,[.str],h7⟩)]⟩
def K4_2 (h0 h1 h2 h4 h5 h6 h7:List AV) (k:Kont):(Unit ⊕ Unit)→Option AV:=sumE (fun _:Unit=>k (.exit 2) ⟨[(3,AV.ptr [0,3] 0 0),(4,AV.own [0,4]),(7,AV.own [0,7]),(9,AV.own [0,9]),(10,AV.own [0,10])],[([0,0,3],⟨false,[.int .i64],h0⟩),([0,1,3],⟨false,[.int .i64],h1⟩),([0,2,3],⟨false,[.int .i64,.int .i64],h2⟩),([0,3],⟨true,[],[AV.agg [AV.own [0,0,3],AV.own [0,1,3],AV.own [0,2,3]]]⟩),([0,4],⟨false,[.str],h4⟩),([0,7],⟨false,[.int .i64],h5⟩),([0,9],⟨false,[.str],h6⟩),([0,10],⟨false,[.str],h7⟩)]⟩) (fun _:Unit=>k .ret ⟨[(2,AV.bool false)],[([0,0,3],⟨false,[.int .i64],h0⟩),([0,1,3],⟨false,[.int .i64],h1⟩),([0,2,3],⟨false,[.int .i64,.int .i64],h2⟩),([0,3],⟨true,[],[AV.agg [AV.own [0,0,3],AV.own [0,1,3],AV.own [0,2,3]]]⟩),([0,4],⟨false,[.str],h4⟩),([0,7],⟨false,[.int .i64],h5⟩),([0,9],⟨false,[.str],h6⟩),([0,10],⟨false,[.str],h7⟩)]⟩)
def l4_2:LModel:=fun _ _ st k=>match st with
 | ⟨[(3,.ptr g0 g1 g2),(4,.own g3),(7,.own g4),(9,.own g5),(10,.own g6),(11,.int .i64 t11)],[(g7,⟨false,g8,h0⟩),(g9,⟨false,g10,h1⟩),(g11,⟨false,g12,h2⟩),(g13,⟨true,[],[.agg [.own g14,.own g15,.own g16]]⟩),(g17,⟨false,g18,h4⟩),(g19,⟨false,g20,h5⟩),(g21,⟨false,g22,h6⟩),(g23,⟨false,g24,h7⟩)]⟩=>bif nmEq g0 ([0,3]) && Nat.beq g1 0 && Nat.beq g2 0 && nmEq g3 ([0,4]) && nmEq g4 ([0,7]) && nmEq g5 ([0,9]) && nmEq g6 ([0,10]) && nmEq g7 ([0,0,3]) && ctsEq g8 ([.int .i64]) && nmEq g9 ([0,1,3]) && ctsEq g10 ([.int .i64]) && nmEq g11 ([0,2,3]) && ctsEq g12 ([.int .i64,.int .i64]) && nmEq g13 ([0,3]) && nmEq g14 ([0,0,3]) && nmEq g15 ([0,1,3]) && nmEq g16 ([0,2,3]) && nmEq g17 ([0,4]) && ctsEq g18 ([.str]) && nmEq g19 ([0,7]) && ctsEq g20 ([.int .i64]) && nmEq g21 ([0,9]) && ctsEq g22 ([.str]) && nmEq g23 ([0,10]) && ctsEq g24 ([.str]) then ro (runW (R4_2 h0 h1 h2 h4 h5 h6 h7) (((h6.length:Int) - t11:Int).toNat+1) t11) none (K4_2 h0 h1 h2 h4 h5 h6 h7 k) else none
 | _=>none
def G4_0 {β:Type} (t0:List AV) (h0:List AV) (h1:List AV) (h2:List AV) (h4:List AV) (h5:List AV) (t6:Int) (N:(Int)→β) (K:(Unit ⊕ Unit)→β) (d:β):β:=(bif decide (t6<(h4.length:Int)) then (bif (decide (0≤t6) && decide (t6<(h4.length:Int))) then (bif (decide (0≤t6) && decide (t6<(h5.length:Int))) then (bif !((fS (h4.getD t6.toNat .undef) 0).toList == (fS (h5.getD t6.toNat .undef) 0).toList) then K (.inr ())
 else N (IntKind.i64.wrap (t6+1)))
 else d)
 else d)
 else K (.inl ()))
def F4_0 (t0 h0 h1 h2 h4 h5:List AV) (t6:Int):Out (Int) (Unit ⊕ Unit):=G4_0 t0 h0 h1 h2 h4 h5 t6 .next .stop .fail
def R4_0 (t0 h0 h1 h2 h4 h5:List AV):(Int)→Out (Int) (Unit ⊕ Unit):=fun s:Int=>F4_0 t0 h0 h1 h2 h4 h5 s
def E4_0 (t0 h0 h1 h2 h4 h5:List AV):(Int)→St:=fun s:Int=>⟨[(0,AV.sl [.int .u8] t0),(3,AV.ptr [0,3] 0 0),(4,AV.own [0,4]),(5,AV.own [0,5]),(6,Ai s)],[([0,0,3],⟨false,[.int .i64],h0⟩),([0,1,3],⟨false,[.int .i64],h1⟩),([0,2,3],⟨false,[.int .i64,.int .i64],h2⟩),([0,3],⟨true,[],[AV.agg [AV.own [0,0,3],AV.own [0,1,3],AV.own [0,2,3]]]⟩),([0,4],⟨false,[.str],h4⟩),([0,5],⟨false,[.str],h5⟩)]⟩
def K4_0 (t0 h0 h1 h2 h4 h5:List AV) (k:Kont):(Unit ⊕ Unit)→Option AV:=sumE (fun _:Unit=>k (.exit 0) ⟨[(0,AV.sl [.int .u8] t0),(3,AV.ptr [0,3] 0 0),(4,AV.own [0,4])],[([0,0,3],⟨false,[.int .i64],h0⟩),([0,1,3],⟨false,[.int .i64],h1⟩),([0,2,3],⟨false,[.int .i64,.int .i64],h2⟩),([0,3],⟨true,[],[AV.agg [AV.own [0,0,3],AV.own [0,1,3],AV.own [0,2,3]]]⟩),([0,4],⟨false,[.str],h4⟩),([0,5],⟨false,[.str],h5⟩)]⟩) (fun _:Unit=>k .ret ⟨[(2,AV.bool false)],[([0,0,3],⟨false,[.int .i64],h0⟩),([0,1,3],⟨false,[.int .i64],h1⟩),([0,2,3],⟨false,[.int .i64,.int .i64],h2⟩),([0,3],⟨true,[],[AV.agg [AV.own [0,0,3],AV.own [0,1,3],AV.own [0,2,3]]]⟩),([0,4],⟨false,[.str],h4⟩),([0,5],⟨false,[.str],h5⟩)]⟩)
def l4_0:LModel:=fun _ _ st k=>match st with
 | ⟨[(0,.sl g0 t0),(3,.ptr g1 g2 g3),(4,.own g4),(5,.own g5),(6,.int .i64 t6)],[(g6,⟨false,g7,h0⟩),(g8,⟨false,g9,h1⟩),(g10,⟨false,g11,h2⟩),(g12,⟨true,[],[.agg [.own g13,.own g14,.own g15]]⟩),(g16,⟨false,g17,h4⟩),(g18,⟨false,g19,h5⟩)]⟩=>bif ctsEq g0 ([.int .u8]) && nmEq g1 ([0,3]) && Nat.beq g2 0 && Nat.beq g3 0 && nmEq g4 ([0,4]) && nmEq g5 ([0,5]) && nmEq g6 ([0,0,3]) && ctsEq g7 ([.int .i64]) && nmEq g8 ([0,1,3]) && ctsEq g9 ([.int .i64]) && nmEq g10 ([0,2,3]) && ctsEq g11 ([.int .i64,.int .i64]) && nmEq g12 ([0,3]) && nmEq g13 ([0,0,3]) && nmEq g14 ([0,1,3]) && nmEq g15 ([0,2,3]) && nmEq g16 ([0,4]) && ctsEq g17 ([.str]) && nmEq g18 ([0,5]) && ctsEq g19 ([.str]) then ro (runW (R4_0 t0 h0 h1 h2 h4 h5) (((h4.length:Int) - t6:Int).toNat+1) t6) none (K4_0 t0 h0 h1 h2 h4 h5 k) else none
 | _=>none
noncomputable def c4:Cfg:=cfg Tryz.prog [(4,0,[0,3,4,5,6]),(4,2,[3,4,7,9,10,11]),(4,999,[2]),(4,1000,[0,3,4]),(4,1001,[0,3,4,5,6]),(4,1002,[3,4,7,9,10]),(4,1003,[3,4,7,9,10,11])] [(7,m7),(23,m23),(24,m24),(25,m25),(26,m26),(27,m27),(28,m28),(29,m29),(30,m30),(31,m31),(32,m32),(33,m33),(34,m34)] [] [] [(4,0,l4_0),(4,2,l4_2)]
theorem s4_2 (h0 h1 h2 h4 h5 h6 h7:List AV) (ce:CallE) (k:Kont) (s:Int) (next:St→Option AV):stepA (codeA c4 ce [] 4 2 (sub [1,1,1,1,1,1,1,1,1,1,1,0,1,0,0] (body Tryz.f4))) (normA [] [3,4,7,9,10,11]) next ((E4_2 h0 h1 h2 h4 h5 h6 h7) s) k=G4_2 h0 h1 h2 h4 h5 h6 h7 s (fun s=>next ((E4_2 h0 h1 h2 h4 h5 h6 h7) s)) (K4_2 h0 h1 h2 h4 h5 h6 h7 k) none:=by kernel_rfl
theorem st4_2 (h0 h1 h2 h4 h5 h6 h7:List AV) (ce:CallE) (k:Kont) (s:Int) (next:St→Option AV):stepA (codeA c4 ce [] 4 2 (sub [1,1,1,1,1,1,1,1,1,1,1,0,1,0,0] (body Tryz.f4))) (normA [] [3,4,7,9,10,11]) next ((E4_2 h0 h1 h2 h4 h5 h6 h7) s) k=(R4_2 h0 h1 h2 h4 h5 h6 h7 s).el none (fun s=>next ((E4_2 h0 h1 h2 h4 h5 h6 h7) s)) (K4_2 h0 h1 h2 h4 h5 h6 h7 k):=(s4_2 h0 h1 h2 h4 h5 h6 h7 ce k s next).trans (by unfold R4_2;unfold F4_2 G4_2;simp only [el_cond,el_ro,el_sum,el_fail,el_next,el_stop] <;> rfl)
theorem ok4_2 {ce:CallE}:LoopOK c4 ce [] 4 2 (sub [1,1,1,1,1,1,1,1,1,1,1,0,1,0,0] (body Tryz.f4)):=by
 intro m hm st k r h
 obtain rfl:l4_2=m:=Option.some.inj hm
 unfold l4_2 at h
 split at h
 ·rename_i g0 g1 g2 g3 g4 g5 g6 t11 g7 g8 h0 g9 g10 h1 g11 g12 h2 g13 g14 g15 g16 g17 g18 h4 g19 g20 h5 g21 g22 h6 g23 g24 h7
  obtain ⟨hg,h⟩:=bif_some h
  simp only [Bool.and_eq_true] at hg
  obtain ⟨⟨⟨⟨⟨⟨⟨⟨⟨⟨⟨⟨⟨⟨⟨⟨⟨⟨⟨⟨⟨⟨⟨⟨q0,q1⟩,q2⟩,q3⟩,q4⟩,q5⟩,q6⟩,q7⟩,q8⟩,q9⟩,q10⟩,q11⟩,q12⟩,q13⟩,q14⟩,q15⟩,q16⟩,q17⟩,q18⟩,q19⟩,q20⟩,q21⟩,q22⟩,q23⟩,q24⟩:=hg
  obtain rfl:=nE q0
  obtain rfl:=bE q1
  obtain rfl:=bE q2
  obtain rfl:=nE q3
  obtain rfl:=nE q4
  obtain rfl:=nE q5
  obtain rfl:=nE q6
  obtain rfl:=nE q7
  obtain rfl:=cE q8
  obtain rfl:=nE q9
  obtain rfl:=cE q10
  obtain rfl:=nE q11
  obtain rfl:=cE q12
  obtain rfl:=nE q13
  obtain rfl:=nE q14
  obtain rfl:=nE q15
  obtain rfl:=nE q16
  obtain rfl:=nE q17
  obtain rfl:=cE q18
  obtain rfl:=nE q19
  obtain rfl:=cE q20
  obtain rfl:=nE q21
  obtain rfl:=cE q22
  obtain rfl:=nE q23
  obtain rfl:=cE q24
  refine ⟨(((h6.length:Int) - t11:Int).toNat+1),?_⟩
  rw [← h]
  exact loop_run (E4_2 h0 h1 h2 h4 h5 h6 h7) (K4_2 h0 h1 h2 h4 h5 h6 h7 k) (st4_2 h0 h1 h2 h4 h5 h6 h7 ce k) _ t11
 ·cases h
theorem s4_0 (t0 h0 h1 h2 h4 h5:List AV) (ce:CallE) (k:Kont) (s:Int) (next:St→Option AV):stepA (codeA c4 ce [] 4 0 (sub [1,1,1,1,1,1,0,1,0,0] (body Tryz.f4))) (normA [] [0,3,4,5,6]) next ((E4_0 t0 h0 h1 h2 h4 h5) s) k=G4_0 t0 h0 h1 h2 h4 h5 s (fun s=>next ((E4_0 t0 h0 h1 h2 h4 h5) s)) (K4_0 t0 h0 h1 h2 h4 h5 k) none:=by kernel_rfl
theorem st4_0 (t0 h0 h1 h2 h4 h5:List AV) (ce:CallE) (k:Kont) (s:Int) (next:St→Option AV):stepA (codeA c4 ce [] 4 0 (sub [1,1,1,1,1,1,0,1,0,0] (body Tryz.f4))) (normA [] [0,3,4,5,6]) next ((E4_0 t0 h0 h1 h2 h4 h5) s) k=(R4_0 t0 h0 h1 h2 h4 h5 s).el none (fun s=>next ((E4_0 t0 h0 h1 h2 h4 h5) s)) (K4_0 t0 h0 h1 h2 h4 h5 k):=(s4_0 t0 h0 h1 h2 h4 h5 ce k s next).trans (by unfold R4_0;unfold F4_0 G4_0;simp only [el_cond,el_ro,el_sum,el_fail,el_next,el_stop] <;> rfl)
theorem ok4_0 {ce:CallE}:LoopOK c4 ce [] 4 0 (sub [1,1,1,1,1,1,0,1,0,0] (body Tryz.f4)):=by
 intro m hm st k r h
 obtain rfl:l4_0=m:=Option.some.inj hm
 unfold l4_0 at h
 split at h
 ·rename_i g0 t0 g1 g2 g3 g4 g5 t6 g6 g7 h0 g8 g9 h1 g10 g11 h2 g12 g13 g14 g15 g16 g17 h4 g18 g19 h5
  obtain ⟨hg,h⟩:=bif_some h
  simp only [Bool.and_eq_true] at hg
  obtain ⟨⟨⟨⟨⟨⟨⟨⟨⟨⟨⟨⟨⟨⟨⟨⟨⟨⟨⟨q0,q1⟩,q2⟩,q3⟩,q4⟩,q5⟩,q6⟩,q7⟩,q8⟩,q9⟩,q10⟩,q11⟩,q12⟩,q13⟩,q14⟩,q15⟩,q16⟩,q17⟩,q18⟩,q19⟩:=hg
  obtain rfl:=cE q0
  obtain rfl:=nE q1
  obtain rfl:=bE q2
  obtain rfl:=bE q3
  obtain rfl:=nE q4
  obtain rfl:=nE q5
  obtain rfl:=nE q6
  obtain rfl:=cE q7
  obtain rfl:=nE q8
  obtain rfl:=cE q9
  obtain rfl:=nE q10
  obtain rfl:=cE q11
  obtain rfl:=nE q12
  obtain rfl:=nE q13
  obtain rfl:=nE q14
  obtain rfl:=nE q15
  obtain rfl:=nE q16
  obtain rfl:=cE q17
  obtain rfl:=nE q18
  obtain rfl:=cE q19
  refine ⟨(((h4.length:Int) - t6:Int).toNat+1),?_⟩
  rw [← h]
  exact loop_run (E4_0 t0 h0 h1 h2 h4 h5) (K4_0 t0 h0 h1 h2 h4 h5 k) (st4_0 t0 h0 h1 h2 h4 h5 ce k) _ t6
 ·cases h
def raw4 (a0:List AV):Option AV:=by
 refine (?f0:(List AV)→(List AV)→(List AV)→(List AV)→(List AV)→(List AV)→(List AV)→Int→(Option AV)) (v24_0 a0) (v24_1 a0) (v24_2 a0) (v30_0 a0) (v30_1 a0) (v30_2 a0) (v30_3 a0) (v30_4 a0);intro x1 x2 x3 x4 x5 x6 x7 x8
 exact (bif (v7_0 a0) then some (AV.bool true)
 else (bif q24 a0 then (bif q25 x1 x2 x3 then (bif q26 x1 x2 x3 then (bif !decide (((v25_0 x1 x2 x3).length:Int)=((v26_0 x1 x2 x3).length:Int)) then some (AV.bool false)
 else (bif q27 x1 x2 x3 then (bif q28 x1 x2 x3 then (bif !((v27_0 x1 x2 x3).toList == (v28_0 x1 x2 x3).toList) then some (AV.bool false)
 else (ro (runW (R4_0 a0 x1 x2 x3 (v25_0 x1 x2 x3) (v26_0 x1 x2 x3)) ((((v25_0 x1 x2 x3).length:Int) - 0:Int).toNat+1) 0) none (sumE (fun _=>(bif q29 a0 then (bif q30 a0 then (bif q23 x4 x5 x6 x7 x8 then (bif q31 x4 x5 x6 x7 x8 then (ro (runW (R4_2 x1 x2 x3 (v25_0 x1 x2 x3) (v29_0 a0) (v23_0 x4 x5 x6 x7 x8) (v31_0 x4 x5 x6 x7 x8)) ((((v23_0 x4 x5 x6 x7 x8).length:Int) - 0:Int).toNat+1) 0) none (sumE (fun _=>(bif q32 (v29_0 a0) then (bif q33 (v29_0 a0) then (bif ((v32_0 (v29_0 a0)).toList == (v33_0 (v29_0 a0)).toList) then (bif decide (((v23_0 x4 x5 x6 x7 x8).length:Int)=((v31_0 x4 x5 x6 x7 x8).length:Int)) then (bif q34 x1 x2 x3 then some (AV.bool (decide (((v25_0 x1 x2 x3).length:Int)=(v34_0 x1 x2 x3))))
 else none)
 else some (AV.bool false))
 else some (AV.bool false))
 else none)
 else none)) (fun _=>some (AV.bool false))))
 else none)
 else none)
 else none)
 else none)) (fun _=>some (AV.bool false)))))
 else none)
 else none))
 else none)
 else none)
 else none))
theorem e4 (a0:List AV):funA c4 0 4 [AV.sl [.int .u8] a0]=raw4 a0:=by kernel_rfl
def m4:TModel
 | [.sl g0 a0]=>bif ctsEq g0 ([.int .u8]) then (raw4 a0).map fun r=>(true,r) else none
 | _=>none
theorem k4:Known Tryz.prog 4:=⟨Tryz.f4,Tryz.func4,by kernel_rfl,by kernel_rfl⟩
theorem meets4:Meets Tryz.prog 4 m4:=by
 refine mt (lvl:=0) (cf:=c4) rfl mixed k4 Tryz.func4 (by kernel_rfl) (loops_cons ok4_0 (loops_cons ok4_2 noLoop)) (allT_cons meets7 (allT_cons meets23 (allT_cons meets24 (allT_cons meets25 (allT_cons meets26 (allT_cons meets27 (allT_cons meets28 (allT_cons meets29 (allT_cons meets30 (allT_cons meets31 (allT_cons meets32 (allT_cons meets33 (allT_cons meets34 allT_nil))))))))))))) allM_nil noI fun xs r h=>?_
 unfold m4 at h
 split at h
 ·rename_i g0 a0
  obtain ⟨hg,h⟩:=bif_pair h
  have q0:=hg
  obtain rfl:=cE q0
  obtain ⟨r',h1,h2⟩:=Option.map_eq_some_iff.1 h
  obtain ⟨_,rfl⟩:=Prod.mk.inj h2
  exact (e4 a0).trans h1
 ·cases h
end
end Go.Proofs.YtealoedecngaoaaGreatDoor
