import Derived.Test.YtmcnplggcedihaaGreatOFm
namespace Go.Proofs.YtmcnplggcedihaaGreat
open Go Go.Proofs.VE
set_option linter.unusedVariables false
set_option linter.unusedSimpArgs false
theorem raw4_true (xs:List AV) (p t s:Int) (qs:List AV) (a1:xs.length≤9223372036854775807) (a2:qs.length≤9223372036854775807):raw4 xs p t s qs=some (.bool true):=by
 unfold raw4
 by_cases c1:(xs.length:Int) > 1048576
 ·rw [decide_eq_true c1]
  rfl
 rw [decide_eq_false c1,P7 a2 (by omega) (by omega)]
 by_cases c2:(1048576:Int)<qs.length
 ·rw [if_pos c2]
  rfl
 rw [if_neg c2,decide_eq_false (by omega:¬ (1048576:Int) - (qs.length:Int)<0)]
 obtain ⟨t1,t2⟩:=P9 xs (by omega)
 obtain ⟨u1,u2⟩:=P10 qs (by omega)
 have l1:(xs.map cp9).length≤1048576:=by rw [List.length_map];omega
 have l2:(qs.map cp10).length≤1048576:=by rw [List.length_map];omega
 rw [t1,t2,u1,u2]
 generalize xs.map cp9=xs' at *
 generalize qs.map cp10=qs' at *
 obtain ⟨x1,x2,y0,y1,y2,y3,y4,y5⟩:=outcome_both xs' qs' (v15_0 p t s) (v15_1 p t s) (v15_2 p t s) l1 l2
 rw [x1,x2,y0,y1,y2,y3,y4,y5,(P12s xs' l1).1,(P12s xs' l1).2,(P13 qs' qs' l2).1,(P13 qs' qs' l2).2,eqL_self ee2_self qs']
 simp only [v17_0,decide_true,beq_self_eq_true,Bool.not_true,cond_false,cond_true]
theorem law4 {x0 x1 x2:AV} (t0:TA Tryz.prog 22 x0) (t1:TA Tryz.prog 33 x1) (t2:TA Tryz.prog 23 x2):m4 [x0,x1,x2]=some (true,.bool true):=by
 obtain ⟨xs,rfl,a1,_⟩:=tw_sl (ta_one (ct := .sl [.int .i64]) t0 (by kernel_rfl) (by kernel_rfl))
 obtain ⟨cs,rfl,h⟩:=ta_agg (cts:=[.int .i64,.int .i64,.int .i64]) t1 (by kernel_rfl) (by kernel_rfl)
 obtain ⟨_,_,rfl,y0,h⟩:=tws_cons h
 obtain ⟨_,_,rfl,y1,h⟩:=tws_cons h
 obtain ⟨_,_,rfl,y2,h⟩:=tws_cons h
 obtain rfl:=tws_nil h
 obtain ⟨p,rfl,_⟩:=tw_int y0
 obtain ⟨t,rfl,_⟩:=tw_int y1
 obtain ⟨s,rfl,_⟩:=tw_int y2
 obtain ⟨qs,rfl,a2,_⟩:=tw_sl (ta_one (ct := .sl [.int .i64,.int .i64]) t2 (by kernel_rfl) (by kernel_rfl))
 show (raw4 xs p t s qs).map (fun r=>(true,r))=_
 rw [raw4_true xs p t s qs a1 a2]
 rfl
end Go.Proofs.YtmcnplggcedihaaGreat
