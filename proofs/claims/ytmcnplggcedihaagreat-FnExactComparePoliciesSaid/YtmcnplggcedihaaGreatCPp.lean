import Derived.Test.YtmcnplggcedihaaGreatCPm
namespace Go.Proofs.YtmcnplggcedihaaGreat
open Go Go.Proofs.VE
set_option linter.unusedVariables false
set_option linter.unusedSimpArgs false
theorem raw6_true (xs:List AV) (t s:Int) (qs:List AV) (a1:xs.length≤9223372036854775807) (a2:qs.length≤9223372036854775807):raw6 xs t s qs=some (.bool true):=by
 unfold raw6
 by_cases c1:(xs.length:Int) > 1048576
 ·rw [decide_eq_true c1]
  rfl
 rw [decide_eq_false c1,P7 a2 (by omega) (by omega)]
 by_cases c2:(1048576:Int)<qs.length
 ·rw [if_pos c2]
  rfl
 rw [if_neg c2,decide_eq_false (by omega:¬ (1048576:Int) - (qs.length:Int)<0)]
 obtain ⟨t1,t2⟩:=P9 xs (by omega)
 obtain ⟨u1,u2⟩:=P10 qs (by omega)
 have l1:(xs.map cp9).length≤1048576:=by rw [List.length_map];omega
 have l2:(qs.map cp10).length≤1048576:=by rw [List.length_map];omega
 rw [t1,t2,u1,u2]
 generalize xs.map cp9=xs' at *
 generalize qs.map cp10=qs' at *
 obtain ⟨x1,x2,y0,y1⟩:=cmp_both xs' qs' t s l1 l2
 have l3:(v20_0 xs' t s qs').length≤1048576:=by
  rcases y1 with y1|⟨_,y1⟩
  ·rw [y1];decide
  ·rw [y1];show 3≤1048576;decide
 rw [x1,x2,y0]
 generalize v20_0 xs' t s qs'=L at *
 obtain ⟨zs,m1,m2,m3,m4,m5⟩:=P23 xs' 1 l1 (by decide) (by decide)
 obtain ⟨zs',n1,n2,n3,n4,n5⟩:=P24 qs' (1+1*xs'.length) l2 (by omega) (by omega)
 obtain ⟨ys,o1,o2,o3,o4,o5⟩:=P25 L 1 l3 (by decide) (by decide)
 obtain ⟨h1,h2⟩:=P26 ys 1 (by omega) (by decide) (by decide) (by rw [o4];exact o5)
 rw [(P12s xs' l1).1,(P12s xs' l1).2,(P13 qs' qs' l2).1,(P13 qs' qs' l2).2,eqL_self ee2_self qs',(P22 L L l3).1,(P22 L L l3).2,eqL_self ee5_self L,m1,m2,n1,n2,o1,o2,o3,h1,h2,o4,decide_eq_false (by omega:¬ (1+1*(xs'.length:Int)+2*(qs'.length:Int)<0)),decide_eq_false (by omega:¬ (1+5*(L.length:Int)<0))]
 simp only [decide_true,Bool.not_true,cond_false,cond_true]
theorem law6 {x0 x1 x2 x3:AV} (t0:TA Tryz.prog 22 x0) (t1:TA Tryz.prog 3 x1) (t2:TA Tryz.prog 3 x2) (t3:TA Tryz.prog 23 x3):m6 [x0,x1,x2,x3]=some (true,.bool true):=by
 obtain ⟨xs,rfl,a1,_⟩:=tw_sl (ta_one (ct := .sl [.int .i64]) t0 (by kernel_rfl) (by kernel_rfl))
 obtain ⟨t,rfl,_⟩:=tw_int (ta_one (ct := .int .i64) t1 (by kernel_rfl) (by kernel_rfl))
 obtain ⟨s,rfl,_⟩:=tw_int (ta_one (ct := .int .i64) t2 (by kernel_rfl) (by kernel_rfl))
 obtain ⟨qs,rfl,a2,_⟩:=tw_sl (ta_one (ct := .sl [.int .i64,.int .i64]) t3 (by kernel_rfl) (by kernel_rfl))
 show (raw6 xs t s qs).map (fun r=>(true,r))=_
 rw [raw6_true xs t s qs a1 a2]
 rfl
end Go.Proofs.YtmcnplggcedihaaGreat
