import Derived.Test.YtealoedecngaoaaGreatDoorP13
import Derived.Test.YtealoedecngaoaaGreatDoorProg
import Derived.KernelRfl
namespace Go.Proofs.YtealoedecngaoaaGreatDoor
open Go Go.Proofs.VE
set_option linter.unusedVariables false
set_option linter.unusedSimpArgs false
set_option maxRecDepth 100000
set_option maxHeartbeats 4000000
noncomputable section
noncomputable def c261:Cfg:=cfg Tryz.prog [(261,999,[2])] [(77,m77)] [] [] []
def q261 (a0:List AV):Bool:=(bif decide ((a0.length:Int)=0) then true else (bif decide ((a0.length:Int) > 64) then true else (q77 a0 && (!decide (2=0) && (decide (0≤IntKind.i64.wrap (Int.tdiv (IntKind.i64.wrap ((a0.length:Int) - 1)) 2)) && decide (IntKind.i64.wrap (Int.tdiv (IntKind.i64.wrap ((a0.length:Int) - 1)) 2)<((v77_0 a0).length:Int)))))))
def v261_0 (a0:List AV):Int:=(bif decide ((a0.length:Int)=0) then 0 else (bif decide ((a0.length:Int) > 64) then 0 else fI ((v77_0 a0).getD (IntKind.i64.wrap (Int.tdiv (IntKind.i64.wrap ((a0.length:Int) - 1)) 2)).toNat .undef) 0))
theorem e261 (a0:List AV):funA c261 0 261 [AV.sl [.int .i64] a0]=(bif decide ((a0.length:Int)=0) then some (Ai 0)
 else (bif decide ((a0.length:Int) > 64) then some (Ai 0)
 else (bif q77 a0 then (bif !decide (2=0) then (bif (decide (0≤IntKind.i64.wrap (Int.tdiv (IntKind.i64.wrap ((a0.length:Int) - 1)) 2)) && decide (IntKind.i64.wrap (Int.tdiv (IntKind.i64.wrap ((a0.length:Int) - 1)) 2)<((v77_0 a0).length:Int))) then some (Ai (fI ((v77_0 a0).getD (IntKind.i64.wrap (Int.tdiv (IntKind.i64.wrap ((a0.length:Int) - 1)) 2)).toNat .undef) 0))
 else none)
 else none)
 else none))):=by kernel_rfl
def m261:TModel
 | [.sl g0 a0]=>bif ctsEq g0 ([.int .i64]) then some (q261 a0,AV.int .i64 (v261_0 a0)) else none
 | _=>none
theorem k261:Known Tryz.prog 261:=⟨Tryz.f261,Tryz.func261,by kernel_rfl,by kernel_rfl⟩
theorem meets261:Meets Tryz.prog 261 m261:=by
 refine mt (lvl:=0) (cf:=c261) rfl mixed k261 Tryz.func261 (by kernel_rfl) noLoop (allT_cons meets77 allT_nil) allM_nil noI fun xs r h=>?_
 unfold m261 at h
 split at h
 ·rename_i g0 a0
  obtain ⟨hg,h⟩:=bif_pair h
  have q0:=hg
  obtain rfl:=cE q0
  obtain ⟨h1,rfl⟩:=pair_inj h
  exact (e261 a0).trans ((br (fun b=>some (Ai (bif b then 0 else (bif decide ((a0.length:Int) > 64) then 0 else fI ((v77_0 a0).getD (IntKind.i64.wrap (Int.tdiv (IntKind.i64.wrap ((a0.length:Int) - 1)) 2)).toNat .undef) 0)))) (fun _=>rfl) (br (fun b=>some (Ai (bif b then 0 else fI ((v77_0 a0).getD (IntKind.i64.wrap (Int.tdiv (IntKind.i64.wrap ((a0.length:Int) - 1)) 2)).toNat .undef) 0))) (fun _=>rfl) (brL (brL (brL1 (fun _=>rfl)))))) h1)
 ·cases h
noncomputable def c245:Cfg:=cfg Tryz.prog [(245,999,[8,9])] [(71,m71),(126,m126),(260,m260),(261,m261)] [] [] []
def q245 (xa xb xc:List AV) (ya yb yc a2 a3:Int):Bool:=(q71 xa xb xc && (bif !(v71_0 xa xb xc) then true else (bif !(v126_0 ya yb yc) then true else (bif decide (a2<0) then true else (bif decide (a2 ≥ a3) then true else (bif decide (a3 > (xa.length:Int)) then true else (bif decide (ya=2) then (q260 yc && (!decide (IntKind.i64.wrap (a3 - a2)=0) && (decide (0≤IntKind.i64.wrap (a2+Int.tmod (v260_0 yc) (IntKind.i64.wrap (a3 - a2)))) && decide (IntKind.i64.wrap (a2+Int.tmod (v260_0 yc) (IntKind.i64.wrap (a3 - a2)))<(xa.length:Int))))) else ((decide (0≤a2) && decide (a2≤a3) && decide (a3≤(xa.length:Int))) && q261 ((xa.take (Int.toNat a3)).drop (Int.toNat a2))))))))))
def v245_0 (xa xb xc:List AV) (ya yb yc a2 a3:Int):Int:=(bif !(v71_0 xa xb xc) then 0 else (bif !(v126_0 ya yb yc) then 0 else (bif decide (a2<0) then 0 else (bif decide (a2 ≥ a3) then 0 else (bif decide (a3 > (xa.length:Int)) then 0 else (bif decide (ya=2) then fI (xa.getD (IntKind.i64.wrap (a2+Int.tmod (v260_0 yc) (IntKind.i64.wrap (a3 - a2)))).toNat .undef) 0 else (v261_0 ((xa.take (Int.toNat a3)).drop (Int.toNat a2)))))))))
def v245_1 (xa xb xc:List AV) (ya yb yc a2 a3:Int):Int:=ya
def v245_2 (xa xb xc:List AV) (ya yb yc a2 a3:Int):Int:=yb
def v245_3 (xa xb xc:List AV) (ya yb yc a2 a3:Int):Int:=(bif !(v71_0 xa xb xc) then yc else (bif !(v126_0 ya yb yc) then yc else (bif decide (a2<0) then yc else (bif decide (a2 ≥ a3) then yc else (bif decide (a3 > (xa.length:Int)) then yc else (bif decide (ya=2) then (v260_0 yc) else yc))))))
theorem e245 (xa xb xc:List AV) (ya yb yc a2 a3:Int):funA c245 0 245 [AV.agg [AV.sl [.int .i64] xa,AV.sl [.int .i64] xb,AV.sl [.int .i64,.int .i64] xc],AV.agg [Ai ya,Ai yb,Ai yc],Ai a2,Ai a3]=(bif q71 xa xb xc then (bif !(v71_0 xa xb xc) then some (AV.tup [Ai 0,AV.agg [Ai ya,Ai yb,Ai yc]])
 else (bif !(v126_0 ya yb yc) then some (AV.tup [Ai 0,AV.agg [Ai ya,Ai yb,Ai yc]])
 else (bif decide (a2<0) then some (AV.tup [Ai 0,AV.agg [Ai ya,Ai yb,Ai yc]])
 else (bif decide (a2 ≥ a3) then some (AV.tup [Ai 0,AV.agg [Ai ya,Ai yb,Ai yc]])
 else (bif decide (a3 > (xa.length:Int)) then some (AV.tup [Ai 0,AV.agg [Ai ya,Ai yb,Ai yc]])
 else (bif decide (ya=2) then (bif q260 yc then (bif !decide (IntKind.i64.wrap (a3 - a2)=0) then (bif (decide (0≤IntKind.i64.wrap (a2+Int.tmod (v260_0 yc) (IntKind.i64.wrap (a3 - a2)))) && decide (IntKind.i64.wrap (a2+Int.tmod (v260_0 yc) (IntKind.i64.wrap (a3 - a2)))<(xa.length:Int))) then some (AV.tup [Ai (fI (xa.getD (IntKind.i64.wrap (a2+Int.tmod (v260_0 yc) (IntKind.i64.wrap (a3 - a2)))).toNat .undef) 0),AV.agg [Ai ya,Ai yb,Ai (v260_0 yc)]])
 else none)
 else none)
 else none)
 else (bif (decide (0≤a2) && decide (a2≤a3) && decide (a3≤(xa.length:Int))) then (bif q261 ((xa.take (Int.toNat a3)).drop (Int.toNat a2)) then some (AV.tup [Ai (v261_0 ((xa.take (Int.toNat a3)).drop (Int.toNat a2))),AV.agg [Ai ya,Ai yb,Ai yc]])
 else none)
 else none)))))))
 else none):=by kernel_rfl
theorem r245 (xa xb xc:List AV) (ya yb yc a2 a3:Int) (h:q245 xa xb xc ya yb yc a2 a3=true):funA c245 0 245 [AV.agg [AV.sl [.int .i64] xa,AV.sl [.int .i64] xb,AV.sl [.int .i64,.int .i64] xc],AV.agg [AV.int .i64 ya,AV.int .i64 yb,AV.int .i64 yc],AV.int .i64 a2,AV.int .i64 a3]=some (AV.tup [AV.int .i64 (v245_0 xa xb xc ya yb yc a2 a3),AV.agg [AV.int .i64 (v245_1 xa xb xc ya yb yc a2 a3),AV.int .i64 (v245_2 xa xb xc ya yb yc a2 a3),AV.int .i64 (v245_3 xa xb xc ya yb yc a2 a3)]]):=by
 refine (e245 xa xb xc ya yb yc a2 a3).trans ?_
 unfold q245 at h
 unfold v245_0 v245_1 v245_2 v245_3
 refine ifG (fun hc=>?_) (fun hc=>?_) <;> first|rw [hc] at h ⊢|rw [hc] at h|rw [hc]|skip
 ·refine ifG (fun hc=>?_) (fun hc=>?_) <;> first|rw [hc] at h ⊢|rw [hc] at h|rw [hc]|skip
  ·rfl
  ·refine ifG (fun hc=>?_) (fun hc=>?_) <;> first|rw [hc] at h ⊢|rw [hc] at h|rw [hc]|skip
   ·rfl
   ·refine ifG (fun hc=>?_) (fun hc=>?_) <;> first|rw [hc] at h ⊢|rw [hc] at h|rw [hc]|skip
    ·rfl
    ·refine ifG (fun hc=>?_) (fun hc=>?_) <;> first|rw [hc] at h ⊢|rw [hc] at h|rw [hc]|skip
     ·rfl
     ·refine ifG (fun hc=>?_) (fun hc=>?_) <;> first|rw [hc] at h ⊢|rw [hc] at h|rw [hc]|skip
      ·rfl
      ·refine ifG (fun hc=>?_) (fun hc=>?_) <;> first|rw [hc] at h ⊢|rw [hc] at h|rw [hc]|skip
       ·refine ifG (fun hc=>?_) (fun hc=>?_) <;> first|rw [hc] at h ⊢|rw [hc] at h|rw [hc]|skip
        ·refine ifG (fun hc=>?_) (fun hc=>?_) <;> first|rw [hc] at h ⊢|rw [hc] at h|rw [hc]|skip
         ·refine ifG (fun hc=>?_) (fun hc=>?_) <;> first|rw [hc] at h ⊢|rw [hc] at h|rw [hc]|skip
          ·rfl
          ·first|exact Bool.noConfusion h|exact Bool.noConfusion hc
         ·first|exact Bool.noConfusion h|exact Bool.noConfusion hc
        ·first|exact Bool.noConfusion h|exact Bool.noConfusion hc
       ·refine ifG (fun hc=>?_) (fun hc=>?_) <;> first|rw [hc] at h ⊢|rw [hc] at h|rw [hc]|skip
        ·refine ifG (fun hc=>?_) (fun hc=>?_) <;> first|rw [hc] at h ⊢|rw [hc] at h|rw [hc]|skip
         ·rfl
         ·first|exact Bool.noConfusion h|exact Bool.noConfusion hc
        ·first|exact Bool.noConfusion h|exact Bool.noConfusion hc
 ·first|exact Bool.noConfusion h|exact Bool.noConfusion hc
def m245:TModel
 | [.agg [.sl g0 xa,.sl g1 xb,.sl g2 xc],.agg [.int .i64 ya,.int .i64 yb,.int .i64 yc],.int .i64 a2,.int .i64 a3]=>bif ctsEq g0 ([.int .i64]) && ctsEq g1 ([.int .i64]) && ctsEq g2 ([.int .i64,.int .i64]) then some (q245 xa xb xc ya yb yc a2 a3,AV.tup [AV.int .i64 (v245_0 xa xb xc ya yb yc a2 a3),AV.agg [AV.int .i64 (v245_1 xa xb xc ya yb yc a2 a3),AV.int .i64 (v245_2 xa xb xc ya yb yc a2 a3),AV.int .i64 (v245_3 xa xb xc ya yb yc a2 a3)]]) else none
 | _=>none
theorem k245:Known Tryz.prog 245:=⟨Tryz.f245,Tryz.func245,by kernel_rfl,by kernel_rfl⟩
theorem meets245:Meets Tryz.prog 245 m245:=by
 refine mt (lvl:=0) (cf:=c245) rfl mixed k245 Tryz.func245 (by kernel_rfl) noLoop (allT_cons meets71 (allT_cons meets126 (allT_cons meets260 (allT_cons meets261 allT_nil)))) allM_nil noI fun xs r h=>?_
 unfold m245 at h
 split at h
 ·rename_i g0 xa g1 xb g2 xc ya yb yc a2 a3
  obtain ⟨hg,h⟩:=bif_pair h
  simp only [Bool.and_eq_true] at hg
  obtain ⟨⟨q0,q1⟩,q2⟩:=hg
  obtain rfl:=cE q0
  obtain rfl:=cE q1
  obtain rfl:=cE q2
  obtain ⟨h1,rfl⟩:=pair_inj h
  exact r245 xa xb xc ya yb yc a2 a3 h1
 ·cases h
def G169_0 {β:Type} (t0:List AV) (t3:Int) (t11:Int) (t12:Int) (h0:List AV) (N:((Int × Int × (List AV)))→β) (K:((Int × (List AV)))→β) (d:β):β:=(bif decide (t11≤t12) then (bif (decide (0≤t11) && decide (t11<(t0.length:Int))) then (bif decide (fI (t0.getD t11.toNat .undef) 0<t3) then N (IntKind.i64.wrap (t11+1),t12,h0)
 else (bif (decide (0≤t12) && decide (t12<(t0.length:Int))) then (bif decide (fI (t0.getD t12.toNat .undef) 0 ≥ t3) then N (t11,IntKind.i64.wrap (t12 - 1),h0)
 else (bif (decide ((h0.length+([AV.agg [AV.int .i64 t11,AV.int .i64 t12]]).length)*16≤140737488355328) && decide ((h0.length+([AV.agg [AV.int .i64 t11,AV.int .i64 t12]]).length)≤140737488355328)) then N (IntKind.i64.wrap (t11+1),IntKind.i64.wrap (t12 - 1),h0++([AV.agg [AV.int .i64 t11,AV.int .i64 t12]]))
 else d))
 else d))
 else d)
 else K (t11,h0))
def F169_0 (t0:List AV) (t3 t11 t12:Int) (h0:List AV):Out ((Int × Int × (List AV))) ((Int × (List AV))):=G169_0 t0 t3 t11 t12 h0 .next .stop .fail
def R169_0 (t0:List AV) (t3:Int):((Int × Int × (List AV)))→Out ((Int × Int × (List AV))) ((Int × (List AV))):=fun s:Int × Int × (List AV)=>F169_0 t0 t3 s.1 s.2.1 s.2.2
def E169_0 (t0:List AV) (t3:Int):((Int × Int × (List AV)))→St:=fun s:Int × Int × (List AV)=>⟨[(0,AV.sl [.int .i64] t0),(3,Ai t3),(10,AV.own [0,10]),(11,Ai s.1),(12,Ai s.2.1)],[([0,10],⟨false,[.int .i64,.int .i64],s.2.2⟩)]⟩
def K169_0 (t0:List AV) (t3:Int) (k:Kont):((Int × (List AV)))→Option AV:=fun p:Int × (List AV)=>k (.exit 0) ⟨[(10,AV.own [0,10]),(11,Ai p.1)],[([0,10],⟨false,[.int .i64,.int .i64],p.2⟩)]⟩
def l169_0:LModel:=fun _ _ st k=>match st with
 | ⟨[(0,.sl g0 t0),(3,.int .i64 t3),(10,.own g1),(11,.int .i64 t11),(12,.int .i64 t12)],[(g2,⟨false,g3,h0⟩)]⟩=>bif ctsEq g0 ([.int .i64]) && nmEq g1 ([0,10]) && nmEq g2 ([0,10]) && ctsEq g3 ([.int .i64,.int .i64]) then ro (runW (R169_0 t0 t3) ((t12 - t11+1:Int).toNat+1) (t11,t12,h0)) none (K169_0 t0 t3 k) else none
 | _=>none
noncomputable def c169:Cfg:=cfg Tryz.prog [(169,0,[0,3,10,11,12]),(169,999,[8,9]),(169,1000,[10,11]),(169,1001,[0,3,10,11,12]),(169,1002,[0,3,10,11,12])] [(72,m72)] [] [] [(169,0,l169_0)]
theorem s169_0 (t0:List AV) (t3:Int) (ce:CallE) (k:Kont) (s:Int × Int × (List AV)) (next:St→Option AV):stepA (codeA c169 ce [] 169 0 (sub [1,1,1,1,1,0,0,0] (body Tryz.f169))) (normA [] [0,3,10,11,12]) next ((E169_0 t0 t3) s) k=G169_0 t0 t3 s.1 s.2.1 s.2.2 (fun s=>next ((E169_0 t0 t3) s)) (K169_0 t0 t3 k) none:=by kernel_rfl
theorem st169_0 (t0:List AV) (t3:Int) (ce:CallE) (k:Kont) (s:(Int × Int × (List AV))) (next:St→Option AV):stepA (codeA c169 ce [] 169 0 (sub [1,1,1,1,1,0,0,0] (body Tryz.f169))) (normA [] [0,3,10,11,12]) next ((E169_0 t0 t3) s) k=(R169_0 t0 t3 s).el none (fun s=>next ((E169_0 t0 t3) s)) (K169_0 t0 t3 k):=(s169_0 t0 t3 ce k s next).trans (by unfold R169_0;unfold F169_0 G169_0;simp only [el_cond,el_ro,el_sum,el_fail,el_next,el_stop] <;> rfl)
theorem ok169_0 {ce:CallE}:LoopOK c169 ce [] 169 0 (sub [1,1,1,1,1,0,0,0] (body Tryz.f169)):=by
 intro m hm st k r h
 obtain rfl:l169_0=m:=Option.some.inj hm
 unfold l169_0 at h
 split at h
 ·rename_i g0 t0 t3 g1 t11 t12 g2 g3 h0
  obtain ⟨hg,h⟩:=bif_some h
  simp only [Bool.and_eq_true] at hg
  obtain ⟨⟨⟨q0,q1⟩,q2⟩,q3⟩:=hg
  obtain rfl:=cE q0
  obtain rfl:=nE q1
  obtain rfl:=nE q2
  obtain rfl:=cE q3
  refine ⟨((t12 - t11+1:Int).toNat+1),?_⟩
  rw [← h]
  exact loop_run (E169_0 t0 t3) (K169_0 t0 t3 k) (st169_0 t0 t3 ce k) _ (t11,t12,h0)
 ·cases h
def q169 (a0:List AV) (a1 a2 a3:Int):Bool:=(bif !(v72_0 a1 0 a2) then true else (bif decide (a2 > (a0.length:Int)) then true else (ro (runW (R169_0 a0 a3) (((IntKind.i64.wrap (a2 - 1)) - a1+1:Int).toNat+1) (a1,IntKind.i64.wrap (a2 - 1),([]:List AV))) false (fun p64=>true))))
def v169_0 (a0:List AV) (a1 a2 a3:Int):List AV:=(bif !(v72_0 a1 0 a2) then ([]:List AV) else (bif decide (a2 > (a0.length:Int)) then ([]:List AV) else (ro (runW (R169_0 a0 a3) (((IntKind.i64.wrap (a2 - 1)) - a1+1:Int).toNat+1) (a1,IntKind.i64.wrap (a2 - 1),([]:List AV))) [] (fun p64=>p64.2))))
def v169_1 (a0:List AV) (a1 a2 a3:Int):Int:=(bif !(v72_0 a1 0 a2) then 0 else (bif decide (a2 > (a0.length:Int)) then 0 else (ro (runW (R169_0 a0 a3) (((IntKind.i64.wrap (a2 - 1)) - a1+1:Int).toNat+1) (a1,IntKind.i64.wrap (a2 - 1),([]:List AV))) 0 (fun p64=>p64.1))))
theorem e169 (a0:List AV) (a1 a2 a3:Int):funA c169 0 169 [AV.sl [.int .i64] a0,Ai a1,Ai a2,Ai a3]=(bif !(v72_0 a1 0 a2) then some (AV.tup [AV.fl [.int .i64,.int .i64] ([]:List AV),Ai 0])
 else (bif decide (a2 > (a0.length:Int)) then some (AV.tup [AV.fl [.int .i64,.int .i64] ([]:List AV),Ai 0])
 else (ro (runW (R169_0 a0 a3) (((IntKind.i64.wrap (a2 - 1)) - a1+1:Int).toNat+1) (a1,IntKind.i64.wrap (a2 - 1),([]:List AV))) none (fun p64=>some (AV.tup [AV.fl [.int .i64,.int .i64] p64.2,Ai p64.1]))))):=by kernel_rfl
def m169:TModel
 | [.sl g0 a0,.int .i64 a1,.int .i64 a2,.int .i64 a3]=>bif ctsEq g0 ([.int .i64]) then some (q169 a0 a1 a2 a3,AV.tup [AV.fl [.int .i64,.int .i64] (v169_0 a0 a1 a2 a3),AV.int .i64 (v169_1 a0 a1 a2 a3)]) else none
 | _=>none
theorem k169:Known Tryz.prog 169:=⟨Tryz.f169,Tryz.func169,by kernel_rfl,by kernel_rfl⟩
theorem meets169:Meets Tryz.prog 169 m169:=by
 refine mt (lvl:=0) (cf:=c169) rfl mixed k169 Tryz.func169 (by kernel_rfl) (loops_cons ok169_0 noLoop) (allT_cons meets72 allT_nil) allM_nil noI fun xs r h=>?_
 unfold m169 at h
 split at h
 ·rename_i g0 a0 a1 a2 a3
  obtain ⟨hg,h⟩:=bif_pair h
  have q0:=hg
  obtain rfl:=cE q0
  obtain ⟨h1,rfl⟩:=pair_inj h
  exact (e169 a0 a1 a2 a3).trans ((br (fun b=>some (AV.tup [AV.fl [.int .i64,.int .i64] (bif b then ([]:List AV) else (bif decide (a2 > (a0.length:Int)) then ([]:List AV) else (ro (runW (R169_0 a0 a3) (((IntKind.i64.wrap (a2 - 1)) - a1+1:Int).toNat+1) (a1,IntKind.i64.wrap (a2 - 1),([]:List AV))) [] (fun p64=>p64.2)))),Ai (bif b then 0 else (bif decide (a2 > (a0.length:Int)) then 0 else (ro (runW (R169_0 a0 a3) (((IntKind.i64.wrap (a2 - 1)) - a1+1:Int).toNat+1) (a1,IntKind.i64.wrap (a2 - 1),([]:List AV))) 0 (fun p64=>p64.1))))])) (fun _=>rfl) (br (fun b=>some (AV.tup [AV.fl [.int .i64,.int .i64] (bif b then ([]:List AV) else (ro (runW (R169_0 a0 a3) (((IntKind.i64.wrap (a2 - 1)) - a1+1:Int).toNat+1) (a1,IntKind.i64.wrap (a2 - 1),([]:List AV))) [] (fun p64=>p64.2))),Ai (bif b then 0 else (ro (runW (R169_0 a0 a3) (((IntKind.i64.wrap (a2 - 1)) - a1+1:Int).toNat+1) (a1,IntKind.i64.wrap (a2 - 1),([]:List AV))) 0 (fun p64=>p64.1)))])) (fun _=>rfl) (brO (fun o:Option ((Int × (List AV)))=>some (AV.tup [AV.fl [.int .i64,.int .i64] (ro o [] (fun p64=>p64.2)),Ai (ro o 0 (fun p64=>p64.1))])) (fun p64=>(fun _=>rfl))))) h1)
 ·cases h
def G102_0 {β:Type} (t1:List AV) (h2_0:List AV) (h2_1:List AV) (h2_2:List AV) (h3:List AV) (t7:Int) (h0:List AV) (h1:List AV) (N:((Int × (List AV) × (List AV)))→β) (K:(((List AV) × (List AV)) ⊕ ((List AV) × (List AV) × (List AV) × (List AV) × (List AV)))→β) (d:β):β:=(bif decide (t7<(t1.length:Int)) then (bif (decide (0≤t7) && decide (t7<(t1.length:Int))) then (bif (decide (0≤t7) && decide (t7<(t1.length:Int))) then (bif !(v72_0 (fI (t1.getD t7.toNat .undef) 0) 0 (IntKind.i64.wrap ((h0.length:Int) - 1))) then (bif q138 h2_0 h2_1 h2_2 then K (.inr (h0,h1,(v138_0 h2_0 h2_1 h2_2),(v138_1 h2_0 h2_1 h2_2),(v138_2 h2_0 h2_1 h2_2)))
 else d)
 else (bif !(v72_0 (fI (t1.getD t7.toNat .undef) 1) 0 (IntKind.i64.wrap ((h0.length:Int) - 1))) then (bif q138 h2_0 h2_1 h2_2 then K (.inr (h0,h1,(v138_0 h2_0 h2_1 h2_2),(v138_1 h2_0 h2_1 h2_2),(v138_2 h2_0 h2_1 h2_2)))
 else d)
 else (bif q149 (fI (t1.getD t7.toNat .undef) 0) (fI (t1.getD t7.toNat .undef) 1) h0 then (bif q149 (fI (t1.getD t7.toNat .undef) 0) (fI (t1.getD t7.toNat .undef) 1) h1 then N (IntKind.i64.wrap (t7+1),(v149_0 (fI (t1.getD t7.toNat .undef) 0) (fI (t1.getD t7.toNat .undef) 1) h0),(v149_0 (fI (t1.getD t7.toNat .undef) 0) (fI (t1.getD t7.toNat .undef) 1) h1))
 else d)
 else d)))
 else d)
 else d)
 else K (.inl (h0,h1)))
def F102_0 (t1 h2_0 h2_1 h2_2 h3:List AV) (t7:Int) (h0 h1:List AV):Out ((Int × (List AV) × (List AV))) (((List AV) × (List AV)) ⊕ ((List AV) × (List AV) × (List AV) × (List AV) × (List AV))):=G102_0 t1 h2_0 h2_1 h2_2 h3 t7 h0 h1 .next .stop .fail
def R102_0 (t1 h2_0 h2_1 h2_2 h3:List AV):((Int × (List AV) × (List AV)))→Out ((Int × (List AV) × (List AV))) (((List AV) × (List AV)) ⊕ ((List AV) × (List AV) × (List AV) × (List AV) × (List AV))):=fun s:Int × (List AV) × (List AV)=>F102_0 t1 h2_0 h2_1 h2_2 h3 s.1 s.2.1 s.2.2
def E102_0 (t1 h2_0 h2_1 h2_2 h3:List AV):((Int × (List AV) × (List AV)))→St:=fun s:Int × (List AV) × (List AV)=>⟨[(1,AV.sl [.int .i64,.int .i64] t1),(2,AV.ptr [0,2] 0 0),(4,AV.ptr [0,4] 0 0),(6,AV.ptr [0,6] 0 0),(7,Ai s.1)],[([0,0,6],⟨false,[.int .i64],s.2.1⟩),([0,1,6],⟨false,[.int .i64],s.2.2⟩),([0,2],⟨true,[],[AV.agg [AV.sl [.int .i64] h2_0,AV.sl [.int .i64] h2_1,AV.sl [.int .i64,.int .i64] h2_2]]⟩),([0,2,6],⟨false,[.int .i64,.int .i64],h3⟩),([0,4],⟨true,[],[AV.agg [AV.snil,AV.snil,AV.snil]]⟩),([0,6],⟨true,[],[AV.agg [AV.own [0,0,6],AV.own [0,1,6],AV.own [0,2,6]]]⟩)]⟩
def K102_0 (t1 h2_0 h2_1 h2_2 h3:List AV) (k:Kont):(((List AV) × (List AV)) ⊕ ((List AV) × (List AV) × (List AV) × (List AV) × (List AV)))→Option AV:=sumE (fun p:(List AV) × (List AV)=>k (.exit 0) ⟨[(4,AV.ptr [0,4] 0 0),(6,AV.ptr [0,6] 0 0)],[([0,0,6],⟨false,[.int .i64],p.1⟩),([0,1,6],⟨false,[.int .i64],p.2⟩),([0,2],⟨true,[],[AV.agg [AV.sl [.int .i64] h2_0,AV.sl [.int .i64] h2_1,AV.sl [.int .i64,.int .i64] h2_2]]⟩),([0,2,6],⟨false,[.int .i64,.int .i64],h3⟩),([0,4],⟨true,[],[AV.agg [AV.snil,AV.snil,AV.snil]]⟩),([0,6],⟨true,[],[AV.agg [AV.own [0,0,6],AV.own [0,1,6],AV.own [0,2,6]]]⟩)]⟩) (fun p:(List AV) × (List AV) × (List AV) × (List AV) × (List AV)=>k .ret ⟨[(4,AV.ptr [0,4] 0 0),(5,AV.bool false)],[([0,0,6],⟨false,[.int .i64],p.1⟩),([0,1,6],⟨false,[.int .i64],p.2.1⟩),([0,1,53],⟨false,[.int .i64],p.2.2.1⟩),([0,2],⟨true,[],[AV.agg [AV.sl [.int .i64] h2_0,AV.sl [.int .i64] h2_1,AV.sl [.int .i64,.int .i64] h2_2]]⟩),([0,2,6],⟨false,[.int .i64,.int .i64],h3⟩),([0,4],⟨true,[],[AV.agg [AV.own [0,1,53],AV.own [1,1,53],AV.own [2,1,53]]]⟩),([0,6],⟨true,[],[AV.agg [AV.own [0,0,6],AV.own [0,1,6],AV.own [0,2,6]]]⟩),([1,1,53],⟨false,[.int .i64],p.2.2.2.1⟩),([2,1,53],⟨false,[.int .i64,.int .i64],p.2.2.2.2⟩)]⟩)
def l102_0:LModel:=fun _ _ st k=>match st with
 | ⟨[(1,.sl g0 t1),(2,.ptr g1 g2 g3),(4,.ptr g4 g5 g6),(6,.ptr g7 g8 g9),(7,.int .i64 t7)],[(g10,⟨false,g11,h0⟩),(g12,⟨false,g13,h1⟩),(g14,⟨true,[],[.agg [.sl g15 h2_0,.sl g16 h2_1,.sl g17 h2_2]]⟩),(g18,⟨false,g19,h3⟩),(g20,⟨true,[],[.agg [.snil,.snil,.snil]]⟩),(g21,⟨true,[],[.agg [.own g22,.own g23,.own g24]]⟩)]⟩=>bif ctsEq g0 ([.int .i64,.int .i64]) && nmEq g1 ([0,2]) && Nat.beq g2 0 && Nat.beq g3 0 && nmEq g4 ([0,4]) && Nat.beq g5 0 && Nat.beq g6 0 && nmEq g7 ([0,6]) && Nat.beq g8 0 && Nat.beq g9 0 && nmEq g10 ([0,0,6]) && ctsEq g11 ([.int .i64]) && nmEq g12 ([0,1,6]) && ctsEq g13 ([.int .i64]) && nmEq g14 ([0,2]) && ctsEq g15 ([.int .i64]) && ctsEq g16 ([.int .i64]) && ctsEq g17 ([.int .i64,.int .i64]) && nmEq g18 ([0,2,6]) && ctsEq g19 ([.int .i64,.int .i64]) && nmEq g20 ([0,4]) && nmEq g21 ([0,6]) && nmEq g22 ([0,0,6]) && nmEq g23 ([0,1,6]) && nmEq g24 ([0,2,6]) then ro (runW (R102_0 t1 h2_0 h2_1 h2_2 h3) (((t1.length:Int) - t7:Int).toNat+1) (t7,h0,h1)) none (K102_0 t1 h2_0 h2_1 h2_2 h3 k) else none
 | _=>none
noncomputable def c102:Cfg:=cfg Tryz.prog [(102,0,[1,2,4,6,7]),(102,999,[4,5]),(102,1000,[4,6]),(102,1001,[1,2,4,6,7])] [(72,m72),(138,m138)] [(149,.w m149)] [] [(102,0,l102_0)]
theorem s102_0 (t1 h2_0 h2_1 h2_2 h3:List AV) (ce:CallE) (k:Kont) (s:Int × (List AV) × (List AV)) (next:St→Option AV):stepA (codeA c102 ce [] 102 0 (sub [1,1,1,0,1,0,0] (body Tryz.f102))) (normA [] [1,2,4,6,7]) next ((E102_0 t1 h2_0 h2_1 h2_2 h3) s) k=G102_0 t1 h2_0 h2_1 h2_2 h3 s.1 s.2.1 s.2.2 (fun s=>next ((E102_0 t1 h2_0 h2_1 h2_2 h3) s)) (K102_0 t1 h2_0 h2_1 h2_2 h3 k) none:=by kernel_rfl
theorem st102_0 (t1 h2_0 h2_1 h2_2 h3:List AV) (ce:CallE) (k:Kont) (s:(Int × (List AV) × (List AV))) (next:St→Option AV):stepA (codeA c102 ce [] 102 0 (sub [1,1,1,0,1,0,0] (body Tryz.f102))) (normA [] [1,2,4,6,7]) next ((E102_0 t1 h2_0 h2_1 h2_2 h3) s) k=(R102_0 t1 h2_0 h2_1 h2_2 h3 s).el none (fun s=>next ((E102_0 t1 h2_0 h2_1 h2_2 h3) s)) (K102_0 t1 h2_0 h2_1 h2_2 h3 k):=(s102_0 t1 h2_0 h2_1 h2_2 h3 ce k s next).trans (by unfold R102_0;unfold F102_0 G102_0;simp only [el_cond,el_ro,el_sum,el_fail,el_next,el_stop] <;> rfl)
theorem ok102_0 {ce:CallE}:LoopOK c102 ce [] 102 0 (sub [1,1,1,0,1,0,0] (body Tryz.f102)):=by
 intro m hm st k r h
 obtain rfl:l102_0=m:=Option.some.inj hm
 unfold l102_0 at h
 split at h
 ·rename_i g0 t1 g1 g2 g3 g4 g5 g6 g7 g8 g9 t7 g10 g11 h0 g12 g13 h1 g14 g15 h2_0 g16 h2_1 g17 h2_2 g18 g19 h3 g20 g21 g22 g23 g24
  obtain ⟨hg,h⟩:=bif_some h
  simp only [Bool.and_eq_true] at hg
  obtain ⟨⟨⟨⟨⟨⟨⟨⟨⟨⟨⟨⟨⟨⟨⟨⟨⟨⟨⟨⟨⟨⟨⟨⟨q0,q1⟩,q2⟩,q3⟩,q4⟩,q5⟩,q6⟩,q7⟩,q8⟩,q9⟩,q10⟩,q11⟩,q12⟩,q13⟩,q14⟩,q15⟩,q16⟩,q17⟩,q18⟩,q19⟩,q20⟩,q21⟩,q22⟩,q23⟩,q24⟩:=hg
  obtain rfl:=cE q0
  obtain rfl:=nE q1
  obtain rfl:=bE q2
  obtain rfl:=bE q3
  obtain rfl:=nE q4
  obtain rfl:=bE q5
  obtain rfl:=bE q6
  obtain rfl:=nE q7
  obtain rfl:=bE q8
  obtain rfl:=bE q9
  obtain rfl:=nE q10
  obtain rfl:=cE q11
  obtain rfl:=nE q12
  obtain rfl:=cE q13
  obtain rfl:=nE q14
  obtain rfl:=cE q15
  obtain rfl:=cE q16
  obtain rfl:=cE q17
  obtain rfl:=nE q18
  obtain rfl:=cE q19
  obtain rfl:=nE q20
  obtain rfl:=nE q21
  obtain rfl:=nE q22
  obtain rfl:=nE q23
  obtain rfl:=nE q24
  refine ⟨(((t1.length:Int) - t7:Int).toNat+1),?_⟩
  rw [← h]
  exact loop_run (E102_0 t1 h2_0 h2_1 h2_2 h3) (K102_0 t1 h2_0 h2_1 h2_2 h3 k) (st102_0 t1 h2_0 h2_1 h2_2 h3 ce k) _ (t7,h0,h1)
 ·cases h
def q102 (xa xb xc a1:List AV):Bool:=(q138 xa xb xc && (bif !decide (((v138_1 xa xb xc).length:Int)=((v138_0 xa xb xc).length:Int)) then true else (ro (runW (R102_0 a1 xa xb xc (v138_2 xa xb xc)) (((a1.length:Int) - 0:Int).toNat+1) (0,(v138_0 xa xb xc),(v138_1 xa xb xc))) false (sumE (fun p65=>true) (fun p66=>true)))))
def v102_0 (xa xb xc a1:List AV):List AV:=(bif !decide (((v138_1 xa xb xc).length:Int)=((v138_0 xa xb xc).length:Int)) then (v138_0 xa xb xc) else (ro (runW (R102_0 a1 xa xb xc (v138_2 xa xb xc)) (((a1.length:Int) - 0:Int).toNat+1) (0,(v138_0 xa xb xc),(v138_1 xa xb xc))) [] (sumE (fun p65=>p65.1) (fun p66=>p66.2.2.1))))
def v102_1 (xa xb xc a1:List AV):List AV:=(bif !decide (((v138_1 xa xb xc).length:Int)=((v138_0 xa xb xc).length:Int)) then (v138_1 xa xb xc) else (ro (runW (R102_0 a1 xa xb xc (v138_2 xa xb xc)) (((a1.length:Int) - 0:Int).toNat+1) (0,(v138_0 xa xb xc),(v138_1 xa xb xc))) [] (sumE (fun p65=>p65.2) (fun p66=>p66.2.2.2.1))))
def v102_2 (xa xb xc a1:List AV):List AV:=(bif !decide (((v138_1 xa xb xc).length:Int)=((v138_0 xa xb xc).length:Int)) then (v138_2 xa xb xc) else (ro (runW (R102_0 a1 xa xb xc (v138_2 xa xb xc)) (((a1.length:Int) - 0:Int).toNat+1) (0,(v138_0 xa xb xc),(v138_1 xa xb xc))) [] (sumE (fun p65=>(v138_2 xa xb xc)) (fun p66=>p66.2.2.2.2))))
def v102_3 (xa xb xc a1:List AV):Bool:=(bif !decide (((v138_1 xa xb xc).length:Int)=((v138_0 xa xb xc).length:Int)) then false else (ro (runW (R102_0 a1 xa xb xc (v138_2 xa xb xc)) (((a1.length:Int) - 0:Int).toNat+1) (0,(v138_0 xa xb xc),(v138_1 xa xb xc))) false (sumE (fun p65=>true) (fun p66=>false))))
theorem e102 (xa xb xc a1:List AV):funA c102 0 102 [AV.agg [AV.sl [.int .i64] xa,AV.sl [.int .i64] xb,AV.sl [.int .i64,.int .i64] xc],AV.sl [.int .i64,.int .i64] a1]=(bif q138 xa xb xc then (bif !decide (((v138_1 xa xb xc).length:Int)=((v138_0 xa xb xc).length:Int)) then some (AV.tup [AV.agg [AV.fl [.int .i64] (v138_0 xa xb xc),AV.fl [.int .i64] (v138_1 xa xb xc),AV.fl [.int .i64,.int .i64] (v138_2 xa xb xc)],AV.bool false])
 else (ro (runW (R102_0 a1 xa xb xc (v138_2 xa xb xc)) (((a1.length:Int) - 0:Int).toNat+1) (0,(v138_0 xa xb xc),(v138_1 xa xb xc))) none (sumE (fun p65=>some (AV.tup [AV.agg [AV.fl [.int .i64] p65.1,AV.fl [.int .i64] p65.2,AV.fl [.int .i64,.int .i64] (v138_2 xa xb xc)],AV.bool true])) (fun p66=>some (AV.tup [AV.agg [AV.fl [.int .i64] p66.2.2.1,AV.fl [.int .i64] p66.2.2.2.1,AV.fl [.int .i64,.int .i64] p66.2.2.2.2],AV.bool false])))))
 else none):=by kernel_rfl
theorem r102 (xa xb xc a1:List AV) (h:q102 xa xb xc a1=true):funA c102 0 102 [AV.agg [AV.sl [.int .i64] xa,AV.sl [.int .i64] xb,AV.sl [.int .i64,.int .i64] xc],AV.sl [.int .i64,.int .i64] a1]=some (AV.tup [AV.agg [AV.fl [.int .i64] (v102_0 xa xb xc a1),AV.fl [.int .i64] (v102_1 xa xb xc a1),AV.fl [.int .i64,.int .i64] (v102_2 xa xb xc a1)],AV.bool (v102_3 xa xb xc a1)]):=by
 refine (e102 xa xb xc a1).trans ?_
 unfold q102 at h
 unfold v102_0 v102_1 v102_2 v102_3
 refine ifG (fun hc=>?_) (fun hc=>?_) <;> first|rw [hc] at h ⊢|rw [hc] at h|rw [hc]|skip
 ·refine ifG (fun hc=>?_) (fun hc=>?_) <;> first|rw [hc] at h ⊢|rw [hc] at h|rw [hc]|skip
  ·rfl
  ·refine roG (fun hc=>?_) (fun r hc=>?_) <;> first|rw [hc] at h ⊢|rw [hc] at h|rw [hc]|skip
   ·exact Bool.noConfusion h
   ·try simp only [ro] at h ⊢
    cases r with
    | inl p65 =>
     try simp only [sumE] at h ⊢
     rfl
    | inr p66 =>
     try simp only [sumE] at h ⊢
     rfl
 ·first|exact Bool.noConfusion h|exact Bool.noConfusion hc
def m102:TModel
 | [.agg [.sl g0 xa,.sl g1 xb,.sl g2 xc],.sl g3 a1]=>bif ctsEq g0 ([.int .i64]) && ctsEq g1 ([.int .i64]) && ctsEq g2 ([.int .i64,.int .i64]) && ctsEq g3 ([.int .i64,.int .i64]) then some (q102 xa xb xc a1,AV.tup [AV.agg [AV.fl [.int .i64] (v102_0 xa xb xc a1),AV.fl [.int .i64] (v102_1 xa xb xc a1),AV.fl [.int .i64,.int .i64] (v102_2 xa xb xc a1)],AV.bool (v102_3 xa xb xc a1)]) else none
 | _=>none
theorem k102:Known Tryz.prog 102:=⟨Tryz.f102,Tryz.func102,by kernel_rfl,by kernel_rfl⟩
theorem meets102:Meets Tryz.prog 102 m102:=by
 refine mt (lvl:=0) (cf:=c102) rfl mixed k102 Tryz.func102 (by kernel_rfl) (loops_cons ok102_0 noLoop) (allT_cons meets72 (allT_cons meets138 allT_nil)) (allM_cons meets149 allM_nil) noI fun xs r h=>?_
 unfold m102 at h
 split at h
 ·rename_i g0 xa g1 xb g2 xc g3 a1
  obtain ⟨hg,h⟩:=bif_pair h
  simp only [Bool.and_eq_true] at hg
  obtain ⟨⟨⟨q0,q1⟩,q2⟩,q3⟩:=hg
  obtain rfl:=cE q0
  obtain rfl:=cE q1
  obtain rfl:=cE q2
  obtain rfl:=cE q3
  obtain ⟨h1,rfl⟩:=pair_inj h
  exact r102 xa xb xc a1 h1
 ·cases h
def G103_0 {β:Type} (h0:List AV) (h1:List AV) (h2_0:List AV) (h2_1:List AV) (h2_2:List AV) (h4_0:Int) (h4_1:Int) (t7:Bool) (t8:Int) (h3:List AV) (N:((Bool × Int × (List AV)))→β) (K:((Bool × (List AV)))→β) (d:β):β:=(bif decide (t8<(h2_2.length:Int)) then (bif !t7 then (bif (decide (0≤t8) && decide (t8<(h2_2.length:Int))) then (bif decide (fI (h2_2.getD t8.toNat .undef) 0 > h4_0) then (bif (decide ((h3.length+([AV.agg [AV.int .i64 h4_0,AV.int .i64 h4_1]]).length)*16≤140737488355328) && decide ((h3.length+([AV.agg [AV.int .i64 h4_0,AV.int .i64 h4_1]]).length)≤140737488355328)) then (bif (decide (0≤t8) && decide (t8<(h2_2.length:Int))) then (bif (decide (((h3++([AV.agg [AV.int .i64 h4_0,AV.int .i64 h4_1]])).length+([AV.agg [AV.int .i64 (fI (h2_2.getD t8.toNat .undef) 0),AV.int .i64 (fI (h2_2.getD t8.toNat .undef) 1)]]).length)*16≤140737488355328) && decide (((h3++([AV.agg [AV.int .i64 h4_0,AV.int .i64 h4_1]])).length+([AV.agg [AV.int .i64 (fI (h2_2.getD t8.toNat .undef) 0),AV.int .i64 (fI (h2_2.getD t8.toNat .undef) 1)]]).length)≤140737488355328)) then N (true,IntKind.i64.wrap (t8+1),(h3++([AV.agg [AV.int .i64 h4_0,AV.int .i64 h4_1]]))++([AV.agg [AV.int .i64 (fI (h2_2.getD t8.toNat .undef) 0),AV.int .i64 (fI (h2_2.getD t8.toNat .undef) 1)]]))
 else d)
 else d)
 else d)
 else (bif (decide (0≤t8) && decide (t8<(h2_2.length:Int))) then (bif (decide ((h3.length+([AV.agg [AV.int .i64 (fI (h2_2.getD t8.toNat .undef) 0),AV.int .i64 (fI (h2_2.getD t8.toNat .undef) 1)]]).length)*16≤140737488355328) && decide ((h3.length+([AV.agg [AV.int .i64 (fI (h2_2.getD t8.toNat .undef) 0),AV.int .i64 (fI (h2_2.getD t8.toNat .undef) 1)]]).length)≤140737488355328)) then N (t7,IntKind.i64.wrap (t8+1),h3++([AV.agg [AV.int .i64 (fI (h2_2.getD t8.toNat .undef) 0),AV.int .i64 (fI (h2_2.getD t8.toNat .undef) 1)]]))
 else d)
 else d))
 else d)
 else (bif (decide (0≤t8) && decide (t8<(h2_2.length:Int))) then (bif (decide ((h3.length+([AV.agg [AV.int .i64 (fI (h2_2.getD t8.toNat .undef) 0),AV.int .i64 (fI (h2_2.getD t8.toNat .undef) 1)]]).length)*16≤140737488355328) && decide ((h3.length+([AV.agg [AV.int .i64 (fI (h2_2.getD t8.toNat .undef) 0),AV.int .i64 (fI (h2_2.getD t8.toNat .undef) 1)]]).length)≤140737488355328)) then N (t7,IntKind.i64.wrap (t8+1),h3++([AV.agg [AV.int .i64 (fI (h2_2.getD t8.toNat .undef) 0),AV.int .i64 (fI (h2_2.getD t8.toNat .undef) 1)]]))
 else d)
 else d))
 else K (t7,h3))
def F103_0 (h0 h1 h2_0 h2_1 h2_2:List AV) (h4_0 h4_1:Int) (t7:Bool) (t8:Int) (h3:List AV):Out ((Bool × Int × (List AV))) ((Bool × (List AV))):=G103_0 h0 h1 h2_0 h2_1 h2_2 h4_0 h4_1 t7 t8 h3 .next .stop .fail
def R103_0 (h0 h1 h2_0 h2_1 h2_2:List AV) (h4_0 h4_1:Int):((Bool × Int × (List AV)))→Out ((Bool × Int × (List AV))) ((Bool × (List AV))):=fun s:Bool × Int × (List AV)=>F103_0 h0 h1 h2_0 h2_1 h2_2 h4_0 h4_1 s.1 s.2.1 s.2.2
def E103_0 (h0 h1 h2_0 h2_1 h2_2:List AV) (h4_0 h4_1:Int):((Bool × Int × (List AV)))→St:=fun s:Bool × Int × (List AV)=>⟨[(2,AV.ptr [0,2] 0 0),(3,AV.ptr [0,3] 0 0),(4,AV.ptr [0,4] 0 0),(6,AV.ptr [0,6] 0 0),(7,AV.bool s.1),(8,Ai s.2.1)],[([0,0,6],⟨false,[.int .i64],h0⟩),([0,1,6],⟨false,[.int .i64],h1⟩),([0,2],⟨true,[],[AV.agg [AV.sl [.int .i64] h2_0,AV.sl [.int .i64] h2_1,AV.sl [.int .i64,.int .i64] h2_2]]⟩),([0,2,6],⟨false,[.int .i64,.int .i64],s.2.2⟩),([0,3],⟨true,[],[AV.agg [Ai h4_0,Ai h4_1]]⟩),([0,4],⟨true,[],[AV.agg [AV.snil,AV.snil,AV.snil]]⟩),([0,6],⟨true,[],[AV.agg [AV.own [0,0,6],AV.own [0,1,6],AV.own [0,2,6]]]⟩)]⟩
def K103_0 (h0 h1 h2_0 h2_1 h2_2:List AV) (h4_0 h4_1:Int) (k:Kont):((Bool × (List AV)))→Option AV:=fun p:Bool × (List AV)=>k (.exit 0) ⟨[(2,AV.ptr [0,2] 0 0),(3,AV.ptr [0,3] 0 0),(4,AV.ptr [0,4] 0 0),(6,AV.ptr [0,6] 0 0),(7,AV.bool p.1)],[([0,0,6],⟨false,[.int .i64],h0⟩),([0,1,6],⟨false,[.int .i64],h1⟩),([0,2],⟨true,[],[AV.agg [AV.sl [.int .i64] h2_0,AV.sl [.int .i64] h2_1,AV.sl [.int .i64,.int .i64] h2_2]]⟩),([0,2,6],⟨false,[.int .i64,.int .i64],p.2⟩),([0,3],⟨true,[],[AV.agg [Ai h4_0,Ai h4_1]]⟩),([0,4],⟨true,[],[AV.agg [AV.snil,AV.snil,AV.snil]]⟩),([0,6],⟨true,[],[AV.agg [AV.own [0,0,6],AV.own [0,1,6],AV.own [0,2,6]]]⟩)]⟩
def l103_0:LModel:=fun _ _ st k=>match st with
 | ⟨[(2,.ptr g0 g1 g2),(3,.ptr g3 g4 g5),(4,.ptr g6 g7 g8),(6,.ptr g9 g10 g11),(7,.bool t7),(8,.int .i64 t8)],[(g12,⟨false,g13,h0⟩),(g14,⟨false,g15,h1⟩),(g16,⟨true,[],[.agg [.sl g17 h2_0,.sl g18 h2_1,.sl g19 h2_2]]⟩),(g20,⟨false,g21,h3⟩),(g22,⟨true,[],[.agg [.int .i64 h4_0,.int .i64 h4_1]]⟩),(g23,⟨true,[],[.agg [.snil,.snil,.snil]]⟩),(g24,⟨true,[],[.agg [.own g25,.own g26,.own g27]]⟩)]⟩=>bif nmEq g0 ([0,2]) && Nat.beq g1 0 && Nat.beq g2 0 && nmEq g3 ([0,3]) && Nat.beq g4 0 && Nat.beq g5 0 && nmEq g6 ([0,4]) && Nat.beq g7 0 && Nat.beq g8 0 && nmEq g9 ([0,6]) && Nat.beq g10 0 && Nat.beq g11 0 && nmEq g12 ([0,0,6]) && ctsEq g13 ([.int .i64]) && nmEq g14 ([0,1,6]) && ctsEq g15 ([.int .i64]) && nmEq g16 ([0,2]) && ctsEq g17 ([.int .i64]) && ctsEq g18 ([.int .i64]) && ctsEq g19 ([.int .i64,.int .i64]) && nmEq g20 ([0,2,6]) && ctsEq g21 ([.int .i64,.int .i64]) && nmEq g22 ([0,3]) && nmEq g23 ([0,4]) && nmEq g24 ([0,6]) && nmEq g25 ([0,0,6]) && nmEq g26 ([0,1,6]) && nmEq g27 ([0,2,6]) then ro (runW (R103_0 h0 h1 h2_0 h2_1 h2_2 h4_0 h4_1) (((h2_2.length:Int) - t8:Int).toNat+1) (t7,t8,h3)) none (K103_0 h0 h1 h2_0 h2_1 h2_2 h4_0 h4_1 k) else none
 | _=>none
noncomputable def c103:Cfg:=cfg Tryz.prog [(103,0,[2,3,4,6,7,8]),(103,999,[4,5]),(103,1000,[2,3,4,6,7]),(103,1001,[2,3,4,6,7,8])] [(71,m71),(138,m138)] [] [] [(103,0,l103_0)]
theorem s103_0 (h0 h1 h2_0 h2_1 h2_2:List AV) (h4_0 h4_1:Int) (ce:CallE) (k:Kont) (s:Bool × Int × (List AV)) (next:St→Option AV):stepA (codeA c103 ce [] 103 0 (sub [1,1,1,1,0,1,0,0] (body Tryz.f103))) (normA [] [2,3,4,6,7,8]) next ((E103_0 h0 h1 h2_0 h2_1 h2_2 h4_0 h4_1) s) k=G103_0 h0 h1 h2_0 h2_1 h2_2 h4_0 h4_1 s.1 s.2.1 s.2.2 (fun s=>next ((E103_0 h0 h1 h2_0 h2_1 h2_2 h4_0 h4_1) s)) (K103_0 h0 h1 h2_0 h2_1 h2_2 h4_0 h4_1 k) none:=by kernel_rfl
theorem st103_0 (h0 h1 h2_0 h2_1 h2_2:List AV) (h4_0 h4_1:Int) (ce:CallE) (k:Kont) (s:(Bool × Int × (List AV))) (next:St→Option AV):stepA (codeA c103 ce [] 103 0 (sub [1,1,1,1,0,1,0,0] (body Tryz.f103))) (normA [] [2,3,4,6,7,8]) next ((E103_0 h0 h1 h2_0 h2_1 h2_2 h4_0 h4_1) s) k=(R103_0 h0 h1 h2_0 h2_1 h2_2 h4_0 h4_1 s).el none (fun s=>next ((E103_0 h0 h1 h2_0 h2_1 h2_2 h4_0 h4_1) s)) (K103_0 h0 h1 h2_0 h2_1 h2_2 h4_0 h4_1 k):=(s103_0 h0 h1 h2_0 h2_1 h2_2 h4_0 h4_1 ce k s next).trans (by unfold R103_0;unfold F103_0 G103_0;simp only [el_cond,el_ro,el_sum,el_fail,el_next,el_stop] <;> rfl)
theorem ok103_0 {ce:CallE}:LoopOK c103 ce [] 103 0 (sub [1,1,1,1,0,1,0,0] (body Tryz.f103)):=by
 intro m hm st k r h
 obtain rfl:l103_0=m:=Option.some.inj hm
 unfold l103_0 at h
 split at h
 ·rename_i g0 g1 g2 g3 g4 g5 g6 g7 g8 g9 g10 g11 t7 t8 g12 g13 h0 g14 g15 h1 g16 g17 h2_0 g18 h2_1 g19 h2_2 g20 g21 h3 g22 h4_0 h4_1 g23 g24 g25 g26 g27
  obtain ⟨hg,h⟩:=bif_some h
  simp only [Bool.and_eq_true] at hg
  obtain ⟨⟨⟨⟨⟨⟨⟨⟨⟨⟨⟨⟨⟨⟨⟨⟨⟨⟨⟨⟨⟨⟨⟨⟨⟨⟨⟨q0,q1⟩,q2⟩,q3⟩,q4⟩,q5⟩,q6⟩,q7⟩,q8⟩,q9⟩,q10⟩,q11⟩,q12⟩,q13⟩,q14⟩,q15⟩,q16⟩,q17⟩,q18⟩,q19⟩,q20⟩,q21⟩,q22⟩,q23⟩,q24⟩,q25⟩,q26⟩,q27⟩:=hg
  obtain rfl:=nE q0
  obtain rfl:=bE q1
  obtain rfl:=bE q2
  obtain rfl:=nE q3
  obtain rfl:=bE q4
  obtain rfl:=bE q5
  obtain rfl:=nE q6
  obtain rfl:=bE q7
  obtain rfl:=bE q8
  obtain rfl:=nE q9
  obtain rfl:=bE q10
  obtain rfl:=bE q11
  obtain rfl:=nE q12
  obtain rfl:=cE q13
  obtain rfl:=nE q14
  obtain rfl:=cE q15
  obtain rfl:=nE q16
  obtain rfl:=cE q17
  obtain rfl:=cE q18
  obtain rfl:=cE q19
  obtain rfl:=nE q20
  obtain rfl:=cE q21
  obtain rfl:=nE q22
  obtain rfl:=nE q23
  obtain rfl:=nE q24
  obtain rfl:=nE q25
  obtain rfl:=nE q26
  obtain rfl:=nE q27
  refine ⟨(((h2_2.length:Int) - t8:Int).toNat+1),?_⟩
  rw [← h]
  exact loop_run (E103_0 h0 h1 h2_0 h2_1 h2_2 h4_0 h4_1) (K103_0 h0 h1 h2_0 h2_1 h2_2 h4_0 h4_1 k) (st103_0 h0 h1 h2_0 h2_1 h2_2 h4_0 h4_1 ce k) _ (t7,t8,h3)
 ·cases h
def q103 (xa xb xc:List AV) (ya yb:Int):Bool:=(q138 xa xb xc && (ro (runW (R103_0 (v138_0 xa xb xc) (v138_1 xa xb xc) xa xb xc ya yb) (((xc.length:Int) - 0:Int).toNat+1) (false,0,([]:List AV))) false (fun p67=>(bif !p67.1 then ((decide ((p67.2.length+([AV.agg [AV.int .i64 ya,AV.int .i64 yb]]).length)*16≤140737488355328) && decide ((p67.2.length+([AV.agg [AV.int .i64 ya,AV.int .i64 yb]]).length)≤140737488355328)) && (q71 xa xb xc && (bif !(v71_0 xa xb xc) then q138 xa xb xc else (q71 (v138_0 xa xb xc) (v138_1 xa xb xc) (p67.2++([AV.agg [AV.int .i64 ya,AV.int .i64 yb]])) && (bif !(v71_0 (v138_0 xa xb xc) (v138_1 xa xb xc) (p67.2++([AV.agg [AV.int .i64 ya,AV.int .i64 yb]]))) then q138 xa xb xc else true))))) else (q71 xa xb xc && (bif !(v71_0 xa xb xc) then q138 xa xb xc else (q71 (v138_0 xa xb xc) (v138_1 xa xb xc) p67.2 && (bif !(v71_0 (v138_0 xa xb xc) (v138_1 xa xb xc) p67.2) then q138 xa xb xc else true))))))))
def v103_0 (xa xb xc:List AV) (ya yb:Int):List AV:=(v138_0 xa xb xc)
def v103_1 (xa xb xc:List AV) (ya yb:Int):List AV:=(v138_1 xa xb xc)
def v103_2 (xa xb xc:List AV) (ya yb:Int):List AV:=(ro (runW (R103_0 (v138_0 xa xb xc) (v138_1 xa xb xc) xa xb xc ya yb) (((xc.length:Int) - 0:Int).toNat+1) (false,0,([]:List AV))) [] (fun p67=>(bif !p67.1 then (bif !(v71_0 xa xb xc) then (v138_2 xa xb xc) else (bif !(v71_0 (v138_0 xa xb xc) (v138_1 xa xb xc) (p67.2++([AV.agg [AV.int .i64 ya,AV.int .i64 yb]]))) then (v138_2 xa xb xc) else p67.2++([AV.agg [AV.int .i64 ya,AV.int .i64 yb]]))) else (bif !(v71_0 xa xb xc) then (v138_2 xa xb xc) else (bif !(v71_0 (v138_0 xa xb xc) (v138_1 xa xb xc) p67.2) then (v138_2 xa xb xc) else p67.2)))))
def v103_3 (xa xb xc:List AV) (ya yb:Int):Bool:=(ro (runW (R103_0 (v138_0 xa xb xc) (v138_1 xa xb xc) xa xb xc ya yb) (((xc.length:Int) - 0:Int).toNat+1) (false,0,([]:List AV))) false (fun p67=>(bif !p67.1 then (bif !(v71_0 xa xb xc) then false else (bif !(v71_0 (v138_0 xa xb xc) (v138_1 xa xb xc) (p67.2++([AV.agg [AV.int .i64 ya,AV.int .i64 yb]]))) then false else true)) else (bif !(v71_0 xa xb xc) then false else (bif !(v71_0 (v138_0 xa xb xc) (v138_1 xa xb xc) p67.2) then false else true)))))
theorem e103 (xa xb xc:List AV) (ya yb:Int):funA c103 0 103 [AV.agg [AV.sl [.int .i64] xa,AV.sl [.int .i64] xb,AV.sl [.int .i64,.int .i64] xc],AV.agg [Ai ya,Ai yb]]=((fun (x1:List AV) (x2:List AV) (x3:List AV)=>(bif q138 xa xb xc then (ro (runW (R103_0 x1 x2 xa xb xc ya yb) (((xc.length:Int) - 0:Int).toNat+1) (false,0,([]:List AV))) none (fun p67=>(bif !p67.1 then (bif (decide ((p67.2.length+([AV.agg [Ai ya,Ai yb]]).length)*16≤140737488355328) && decide ((p67.2.length+([AV.agg [Ai ya,Ai yb]]).length)≤140737488355328)) then (bif q71 xa xb xc then (bif !(v71_0 xa xb xc) then (bif q138 xa xb xc then some (AV.tup [AV.agg [AV.fl [.int .i64] x1,AV.fl [.int .i64] x2,AV.fl [.int .i64,.int .i64] x3],AV.bool false])
 else none)
 else (bif q71 x1 x2 (p67.2++([AV.agg [Ai ya,Ai yb]])) then (bif !(v71_0 x1 x2 (p67.2++([AV.agg [Ai ya,Ai yb]]))) then (bif q138 xa xb xc then some (AV.tup [AV.agg [AV.fl [.int .i64] x1,AV.fl [.int .i64] x2,AV.fl [.int .i64,.int .i64] x3],AV.bool false])
 else none)
 else some (AV.tup [AV.agg [AV.fl [.int .i64] x1,AV.fl [.int .i64] x2,AV.fl [.int .i64,.int .i64] (p67.2++([AV.agg [Ai ya,Ai yb]]))],AV.bool true]))
 else none))
 else none)
 else none)
 else (bif q71 xa xb xc then (bif !(v71_0 xa xb xc) then (bif q138 xa xb xc then some (AV.tup [AV.agg [AV.fl [.int .i64] x1,AV.fl [.int .i64] x2,AV.fl [.int .i64,.int .i64] x3],AV.bool false])
 else none)
 else (bif q71 x1 x2 p67.2 then (bif !(v71_0 x1 x2 p67.2) then (bif q138 xa xb xc then some (AV.tup [AV.agg [AV.fl [.int .i64] x1,AV.fl [.int .i64] x2,AV.fl [.int .i64,.int .i64] x3],AV.bool false])
 else none)
 else some (AV.tup [AV.agg [AV.fl [.int .i64] x1,AV.fl [.int .i64] x2,AV.fl [.int .i64,.int .i64] p67.2],AV.bool true]))
 else none))
 else none))))
 else none)) (v138_0 xa xb xc) (v138_1 xa xb xc) (v138_2 xa xb xc)):=by kernel_rfl
theorem r103 (xa xb xc:List AV) (ya yb:Int) (h:q103 xa xb xc ya yb=true):funA c103 0 103 [AV.agg [AV.sl [.int .i64] xa,AV.sl [.int .i64] xb,AV.sl [.int .i64,.int .i64] xc],AV.agg [AV.int .i64 ya,AV.int .i64 yb]]=some (AV.tup [AV.agg [AV.fl [.int .i64] (v103_0 xa xb xc ya yb),AV.fl [.int .i64] (v103_1 xa xb xc ya yb),AV.fl [.int .i64,.int .i64] (v103_2 xa xb xc ya yb)],AV.bool (v103_3 xa xb xc ya yb)]):=by
 refine (e103 xa xb xc ya yb).trans ?_
 unfold q103 at h
 unfold v103_0 v103_1 v103_2 v103_3
 refine ifG (fun hc=>?_) (fun hc=>?_) <;> first|rw [hc] at h ⊢|rw [hc] at h|rw [hc]|skip
 ·refine roG (fun hc=>?_) (fun r hc=>?_) <;> first|rw [hc] at h ⊢|rw [hc] at h|rw [hc]|skip
  ·exact Bool.noConfusion h
  ·try simp only [ro] at h ⊢
   refine ifG (fun hc=>?_) (fun hc=>?_) <;> first|rw [hc] at h ⊢|rw [hc] at h|rw [hc]|skip
   ·refine ifG (fun hc=>?_) (fun hc=>?_) <;> first|rw [hc] at h ⊢|rw [hc] at h|rw [hc]|skip
    ·refine ifG (fun hc=>?_) (fun hc=>?_) <;> first|rw [hc] at h ⊢|rw [hc] at h|rw [hc]|skip
     ·refine ifG (fun hc=>?_) (fun hc=>?_) <;> first|rw [hc] at h ⊢|rw [hc] at h|rw [hc]|skip
      ·refine ifT ?_
       rfl
      ·refine ifG (fun hc=>?_) (fun hc=>?_) <;> first|rw [hc] at h ⊢|rw [hc] at h|rw [hc]|skip
       ·refine ifG (fun hc=>?_) (fun hc=>?_) <;> first|rw [hc] at h ⊢|rw [hc] at h|rw [hc]|skip
        ·refine ifT ?_
         rfl
        ·rfl
       ·first|exact Bool.noConfusion h|exact Bool.noConfusion hc
     ·first|exact Bool.noConfusion h|exact Bool.noConfusion hc
    ·first|exact Bool.noConfusion h|exact Bool.noConfusion hc
   ·refine ifG (fun hc=>?_) (fun hc=>?_) <;> first|rw [hc] at h ⊢|rw [hc] at h|rw [hc]|skip
    ·refine ifG (fun hc=>?_) (fun hc=>?_) <;> first|rw [hc] at h ⊢|rw [hc] at h|rw [hc]|skip
     ·refine ifT ?_
      rfl
     ·refine ifG (fun hc=>?_) (fun hc=>?_) <;> first|rw [hc] at h ⊢|rw [hc] at h|rw [hc]|skip
      ·refine ifG (fun hc=>?_) (fun hc=>?_) <;> first|rw [hc] at h ⊢|rw [hc] at h|rw [hc]|skip
       ·refine ifT ?_
        rfl
       ·rfl
      ·first|exact Bool.noConfusion h|exact Bool.noConfusion hc
    ·first|exact Bool.noConfusion h|exact Bool.noConfusion hc
 ·first|exact Bool.noConfusion h|exact Bool.noConfusion hc
def m103:TModel
 | [.agg [.sl g0 xa,.sl g1 xb,.sl g2 xc],.agg [.int .i64 ya,.int .i64 yb]]=>bif ctsEq g0 ([.int .i64]) && ctsEq g1 ([.int .i64]) && ctsEq g2 ([.int .i64,.int .i64]) then some (q103 xa xb xc ya yb,AV.tup [AV.agg [AV.fl [.int .i64] (v103_0 xa xb xc ya yb),AV.fl [.int .i64] (v103_1 xa xb xc ya yb),AV.fl [.int .i64,.int .i64] (v103_2 xa xb xc ya yb)],AV.bool (v103_3 xa xb xc ya yb)]) else none
 | _=>none
theorem k103:Known Tryz.prog 103:=⟨Tryz.f103,Tryz.func103,by kernel_rfl,by kernel_rfl⟩
theorem meets103:Meets Tryz.prog 103 m103:=by
 refine mt (lvl:=0) (cf:=c103) rfl mixed k103 Tryz.func103 (by kernel_rfl) (loops_cons ok103_0 noLoop) (allT_cons meets71 (allT_cons meets138 allT_nil)) allM_nil noI fun xs r h=>?_
 unfold m103 at h
 split at h
 ·rename_i g0 xa g1 xb g2 xc ya yb
  obtain ⟨hg,h⟩:=bif_pair h
  simp only [Bool.and_eq_true] at hg
  obtain ⟨⟨q0,q1⟩,q2⟩:=hg
  obtain rfl:=cE q0
  obtain rfl:=cE q1
  obtain rfl:=cE q2
  obtain ⟨h1,rfl⟩:=pair_inj h
  exact r103 xa xb xc ya yb h1
 ·cases h
noncomputable def c111:Cfg:=cfg Tryz.prog [(111,999,[4,5,6])] [(21,m21),(71,m71),(72,m72),(101,m101),(102,m102),(103,m103),(138,m138),(169,m169)] [] [] []
def q111 (xa xb xc:List AV) (a1:Int):Bool:=(q71 xa xb xc && (bif !(v71_0 xa xb xc) then q138 xa xb xc else (bif !(v72_0 a1 (-1000) 1000) then q138 xa xb xc else (q21 xa xb xc a1 && (bif (v21_1 xa xb xc a1) then q138 xa xb xc else (q101 xa xb xc a1 && (q169 xa (v101_0 xa xb xc a1) (v101_1 xa xb xc a1) a1 && (q102 xa xb xc (v169_0 xa (v101_0 xa xb xc a1) (v101_1 xa xb xc a1) a1) && q103 (v102_0 xa xb xc (v169_0 xa (v101_0 xa xb xc a1) (v101_1 xa xb xc a1) a1)) (v102_1 xa xb xc (v169_0 xa (v101_0 xa xb xc a1) (v101_1 xa xb xc a1) a1)) (v102_2 xa xb xc (v169_0 xa (v101_0 xa xb xc a1) (v101_1 xa xb xc a1) a1)) a1 (v169_1 xa (v101_0 xa xb xc a1) (v101_1 xa xb xc a1) a1)))))))))
def v111_0 (xa xb xc:List AV) (a1:Int):List AV:=(bif !(v71_0 xa xb xc) then (v138_0 xa xb xc) else (bif !(v72_0 a1 (-1000) 1000) then (v138_0 xa xb xc) else (bif (v21_1 xa xb xc a1) then (v138_0 xa xb xc) else (v103_0 (v102_0 xa xb xc (v169_0 xa (v101_0 xa xb xc a1) (v101_1 xa xb xc a1) a1)) (v102_1 xa xb xc (v169_0 xa (v101_0 xa xb xc a1) (v101_1 xa xb xc a1) a1)) (v102_2 xa xb xc (v169_0 xa (v101_0 xa xb xc a1) (v101_1 xa xb xc a1) a1)) a1 (v169_1 xa (v101_0 xa xb xc a1) (v101_1 xa xb xc a1) a1)))))
def v111_1 (xa xb xc:List AV) (a1:Int):List AV:=(bif !(v71_0 xa xb xc) then (v138_1 xa xb xc) else (bif !(v72_0 a1 (-1000) 1000) then (v138_1 xa xb xc) else (bif (v21_1 xa xb xc a1) then (v138_1 xa xb xc) else (v103_1 (v102_0 xa xb xc (v169_0 xa (v101_0 xa xb xc a1) (v101_1 xa xb xc a1) a1)) (v102_1 xa xb xc (v169_0 xa (v101_0 xa xb xc a1) (v101_1 xa xb xc a1) a1)) (v102_2 xa xb xc (v169_0 xa (v101_0 xa xb xc a1) (v101_1 xa xb xc a1) a1)) a1 (v169_1 xa (v101_0 xa xb xc a1) (v101_1 xa xb xc a1) a1)))))
def v111_2 (xa xb xc:List AV) (a1:Int):List AV:=(bif !(v71_0 xa xb xc) then (v138_2 xa xb xc) else (bif !(v72_0 a1 (-1000) 1000) then (v138_2 xa xb xc) else (bif (v21_1 xa xb xc a1) then (v138_2 xa xb xc) else (v103_2 (v102_0 xa xb xc (v169_0 xa (v101_0 xa xb xc a1) (v101_1 xa xb xc a1) a1)) (v102_1 xa xb xc (v169_0 xa (v101_0 xa xb xc a1) (v101_1 xa xb xc a1) a1)) (v102_2 xa xb xc (v169_0 xa (v101_0 xa xb xc a1) (v101_1 xa xb xc a1) a1)) a1 (v169_1 xa (v101_0 xa xb xc a1) (v101_1 xa xb xc a1) a1)))))
def v111_3 (xa xb xc:List AV) (a1:Int):List AV:=(bif !(v71_0 xa xb xc) then ([]:List AV) else (bif !(v72_0 a1 (-1000) 1000) then ([]:List AV) else (bif (v21_1 xa xb xc a1) then ([]:List AV) else (v169_0 xa (v101_0 xa xb xc a1) (v101_1 xa xb xc a1) a1))))
def v111_4 (xa xb xc:List AV) (a1:Int):Bool:=(bif !(v71_0 xa xb xc) then false else (bif !(v72_0 a1 (-1000) 1000) then false else true))
theorem e111 (xa xb xc:List AV) (a1:Int):funA c111 0 111 [AV.agg [AV.sl [.int .i64] xa,AV.sl [.int .i64] xb,AV.sl [.int .i64,.int .i64] xc],Ai a1]=((fun (x1:Int) (x2:Int)=>((fun (x3:List AV) (x4:Int)=>((fun (x5:List AV) (x6:List AV) (x7:List AV)=>(bif q71 xa xb xc then (bif !(v71_0 xa xb xc) then (bif q138 xa xb xc then some (AV.tup [AV.agg [AV.fl [.int .i64] (v138_0 xa xb xc),AV.fl [.int .i64] (v138_1 xa xb xc),AV.fl [.int .i64,.int .i64] (v138_2 xa xb xc)],AV.fl [.int .i64,.int .i64] ([]:List AV),AV.bool false])
 else none)
 else (bif !(v72_0 a1 (-1000) 1000) then (bif q138 xa xb xc then some (AV.tup [AV.agg [AV.fl [.int .i64] (v138_0 xa xb xc),AV.fl [.int .i64] (v138_1 xa xb xc),AV.fl [.int .i64,.int .i64] (v138_2 xa xb xc)],AV.fl [.int .i64,.int .i64] ([]:List AV),AV.bool false])
 else none)
 else (bif q21 xa xb xc a1 then (bif (v21_1 xa xb xc a1) then (bif q138 xa xb xc then some (AV.tup [AV.agg [AV.fl [.int .i64] (v138_0 xa xb xc),AV.fl [.int .i64] (v138_1 xa xb xc),AV.fl [.int .i64,.int .i64] (v138_2 xa xb xc)],AV.fl [.int .i64,.int .i64] ([]:List AV),AV.bool true])
 else none)
 else (bif q101 xa xb xc a1 then (bif q169 xa x1 x2 a1 then (bif q102 xa xb xc x3 then (bif q103 x5 x6 x7 a1 x4 then some (AV.tup [AV.agg [AV.fl [.int .i64] (v103_0 x5 x6 x7 a1 x4),AV.fl [.int .i64] (v103_1 x5 x6 x7 a1 x4),AV.fl [.int .i64,.int .i64] (v103_2 x5 x6 x7 a1 x4)],AV.fl [.int .i64,.int .i64] x3,AV.bool true])
 else none)
 else none)
 else none)
 else none))
 else none)))
 else none)) (v102_0 xa xb xc x3) (v102_1 xa xb xc x3) (v102_2 xa xb xc x3))) (v169_0 xa x1 x2 a1) (v169_1 xa x1 x2 a1))) (v101_0 xa xb xc a1) (v101_1 xa xb xc a1)):=by kernel_rfl
theorem r111 (xa xb xc:List AV) (a1:Int) (h:q111 xa xb xc a1=true):funA c111 0 111 [AV.agg [AV.sl [.int .i64] xa,AV.sl [.int .i64] xb,AV.sl [.int .i64,.int .i64] xc],AV.int .i64 a1]=some (AV.tup [AV.agg [AV.fl [.int .i64] (v111_0 xa xb xc a1),AV.fl [.int .i64] (v111_1 xa xb xc a1),AV.fl [.int .i64,.int .i64] (v111_2 xa xb xc a1)],AV.fl [.int .i64,.int .i64] (v111_3 xa xb xc a1),AV.bool (v111_4 xa xb xc a1)]):=by
 refine (e111 xa xb xc a1).trans ?_
 unfold q111 at h
 unfold v111_0 v111_1 v111_2 v111_3 v111_4
 refine ifG (fun hc=>?_) (fun hc=>?_) <;> first|rw [hc] at h ⊢|rw [hc] at h|rw [hc]|skip
 ·refine ifG (fun hc=>?_) (fun hc=>?_) <;> first|rw [hc] at h ⊢|rw [hc] at h|rw [hc]|skip
  ·refine ifG (fun hc=>?_) (fun hc=>?_) <;> first|rw [hc] at h ⊢|rw [hc] at h|rw [hc]|skip
   ·rfl
   ·first|exact Bool.noConfusion h|exact Bool.noConfusion hc
  ·refine ifG (fun hc=>?_) (fun hc=>?_) <;> first|rw [hc] at h ⊢|rw [hc] at h|rw [hc]|skip
   ·refine ifG (fun hc=>?_) (fun hc=>?_) <;> first|rw [hc] at h ⊢|rw [hc] at h|rw [hc]|skip
    ·rfl
    ·first|exact Bool.noConfusion h|exact Bool.noConfusion hc
   ·refine ifG (fun hc=>?_) (fun hc=>?_) <;> first|rw [hc] at h ⊢|rw [hc] at h|rw [hc]|skip
    ·refine ifG (fun hc=>?_) (fun hc=>?_) <;> first|rw [hc] at h ⊢|rw [hc] at h|rw [hc]|skip
     ·refine ifG (fun hc=>?_) (fun hc=>?_) <;> first|rw [hc] at h ⊢|rw [hc] at h|rw [hc]|skip
      ·rfl
      ·first|exact Bool.noConfusion h|exact Bool.noConfusion hc
     ·refine ifG (fun hc=>?_) (fun hc=>?_) <;> first|rw [hc] at h ⊢|rw [hc] at h|rw [hc]|skip
      ·refine ifG (fun hc=>?_) (fun hc=>?_) <;> first|rw [hc] at h ⊢|rw [hc] at h|rw [hc]|skip
       ·refine ifG (fun hc=>?_) (fun hc=>?_) <;> first|rw [hc] at h ⊢|rw [hc] at h|rw [hc]|skip
        ·refine ifG (fun hc=>?_) (fun hc=>?_) <;> first|rw [hc] at h ⊢|rw [hc] at h|rw [hc]|skip
         ·rfl
         ·first|exact Bool.noConfusion h|exact Bool.noConfusion hc
        ·first|exact Bool.noConfusion h|exact Bool.noConfusion hc
       ·first|exact Bool.noConfusion h|exact Bool.noConfusion hc
      ·first|exact Bool.noConfusion h|exact Bool.noConfusion hc
    ·first|exact Bool.noConfusion h|exact Bool.noConfusion hc
 ·first|exact Bool.noConfusion h|exact Bool.noConfusion hc
def m111:TModel
 | [.agg [.sl g0 xa,.sl g1 xb,.sl g2 xc],.int .i64 a1]=>bif ctsEq g0 ([.int .i64]) && ctsEq g1 ([.int .i64]) && ctsEq g2 ([.int .i64,.int .i64]) then some (q111 xa xb xc a1,AV.tup [AV.agg [AV.fl [.int .i64] (v111_0 xa xb xc a1),AV.fl [.int .i64] (v111_1 xa xb xc a1),AV.fl [.int .i64,.int .i64] (v111_2 xa xb xc a1)],AV.fl [.int .i64,.int .i64] (v111_3 xa xb xc a1),AV.bool (v111_4 xa xb xc a1)]) else none
 | _=>none
theorem k111:Known Tryz.prog 111:=⟨Tryz.f111,Tryz.func111,by kernel_rfl,by kernel_rfl⟩
theorem meets111:Meets Tryz.prog 111 m111:=by
 refine mt (lvl:=0) (cf:=c111) rfl mixed k111 Tryz.func111 (by kernel_rfl) noLoop (allT_cons meets21 (allT_cons meets71 (allT_cons meets72 (allT_cons meets101 (allT_cons meets102 (allT_cons meets103 (allT_cons meets138 (allT_cons meets169 allT_nil)))))))) allM_nil noI fun xs r h=>?_
 unfold m111 at h
 split at h
 ·rename_i g0 xa g1 xb g2 xc a1
  obtain ⟨hg,h⟩:=bif_pair h
  simp only [Bool.and_eq_true] at hg
  obtain ⟨⟨q0,q1⟩,q2⟩:=hg
  obtain rfl:=cE q0
  obtain rfl:=cE q1
  obtain rfl:=cE q2
  obtain ⟨h1,rfl⟩:=pair_inj h
  exact r111 xa xb xc a1 h1
 ·cases h
noncomputable def c246:Cfg:=cfg Tryz.prog [(246,999,[8])] [(21,m21),(101,m101),(111,m111)] [] [] []
def q246 (a1 a2:Int) (b0 b1 b2 b4:List AV):Bool:=(q101 b0 b1 b2 a1 && (q21 b0 b1 b2 a1 && (q111 b0 b1 b2 a1 && (bif (v111_4 b0 b1 b2 a1) then (bif !(v21_1 b0 b1 b2 a1) then (decide ((b4.length+([AV.agg [AV.int .i64 a2,AV.int .i64 a1,AV.int .i64 (v101_0 b0 b1 b2 a1),AV.int .i64 (v101_1 b0 b1 b2 a1),AV.int .i64 ((v111_3 b0 b1 b2 a1).length:Int)]]).length)*40≤140737488355328) && decide ((b4.length+([AV.agg [AV.int .i64 a2,AV.int .i64 a1,AV.int .i64 (v101_0 b0 b1 b2 a1),AV.int .i64 (v101_1 b0 b1 b2 a1),AV.int .i64 ((v111_3 b0 b1 b2 a1).length:Int)]]).length)≤140737488355328)) else true) else true))))
def v246_0 (a1 a2:Int) (b0 b1 b2 b4:List AV):List AV:=(v111_0 b0 b1 b2 a1)
def v246_1 (a1 a2:Int) (b0 b1 b2 b4:List AV):List AV:=(v111_1 b0 b1 b2 a1)
def v246_2 (a1 a2:Int) (b0 b1 b2 b4:List AV):List AV:=(v111_2 b0 b1 b2 a1)
def v246_3 (a1 a2:Int) (b0 b1 b2 b4:List AV):List AV:=b0
def v246_4 (a1 a2:Int) (b0 b1 b2 b4:List AV):List AV:=b1
def v246_5 (a1 a2:Int) (b0 b1 b2 b4:List AV):List AV:=b2
def v246_6 (a1 a2:Int) (b0 b1 b2 b4:List AV):List AV:=(bif (v111_4 b0 b1 b2 a1) then (bif !(v21_1 b0 b1 b2 a1) then b4++([AV.agg [AV.int .i64 a2,AV.int .i64 a1,AV.int .i64 (v101_0 b0 b1 b2 a1),AV.int .i64 (v101_1 b0 b1 b2 a1),AV.int .i64 ((v111_3 b0 b1 b2 a1).length:Int)]]) else b4) else b4)
theorem e246 (a1 a2:Int) (b0 b1 b2 b4:List AV) (K:List AV→List (Option Blk)→Option AV):inlA c246 1 246 [AV.agg [AV.own [1],AV.own [2],AV.own [3]],Ai a1,Ai a2,AV.ptr [4] 0 0] [0] (canH 1 [⟨false,[.int .i64],b0⟩,⟨false,[.int .i64],b1⟩,⟨false,[.int .i64,.int .i64],b2⟩,⟨true,[],[AV.own [5]]⟩,⟨false,[.int .i64,.int .i64,.int .i64,.int .i64,.int .i64],b4⟩]) (keepG Tryz.prog 5 [27] [4] K)=(bif q101 b0 b1 b2 a1 then (bif q21 b0 b1 b2 a1 then (bif q111 b0 b1 b2 a1 then (bif (v111_4 b0 b1 b2 a1) then (bif !(v21_1 b0 b1 b2 a1) then (bif (decide ((b4.length+([AV.agg [Ai a2,Ai a1,Ai (v101_0 b0 b1 b2 a1),Ai (v101_1 b0 b1 b2 a1),Ai ((v111_3 b0 b1 b2 a1).length:Int)]]).length)*40≤140737488355328) && decide ((b4.length+([AV.agg [Ai a2,Ai a1,Ai (v101_0 b0 b1 b2 a1),Ai (v101_1 b0 b1 b2 a1),Ai ((v111_3 b0 b1 b2 a1).length:Int)]]).length)≤140737488355328)) then K [AV.agg [AV.fl [.int .i64] (v111_0 b0 b1 b2 a1),AV.fl [.int .i64] (v111_1 b0 b1 b2 a1),AV.fl [.int .i64,.int .i64] (v111_2 b0 b1 b2 a1)]] [some ⟨false,[.int .i64],b0⟩,some ⟨false,[.int .i64],b1⟩,some ⟨false,[.int .i64,.int .i64],b2⟩,some ⟨true,[],[AV.fl [.int .i64,.int .i64,.int .i64,.int .i64,.int .i64] (b4++([AV.agg [Ai a2,Ai a1,Ai (v101_0 b0 b1 b2 a1),Ai (v101_1 b0 b1 b2 a1),Ai ((v111_3 b0 b1 b2 a1).length:Int)]]))]⟩,none]
 else none)
 else K [AV.agg [AV.fl [.int .i64] (v111_0 b0 b1 b2 a1),AV.fl [.int .i64] (v111_1 b0 b1 b2 a1),AV.fl [.int .i64,.int .i64] (v111_2 b0 b1 b2 a1)]] [some ⟨false,[.int .i64],b0⟩,some ⟨false,[.int .i64],b1⟩,some ⟨false,[.int .i64,.int .i64],b2⟩,some ⟨true,[],[AV.fl [.int .i64,.int .i64,.int .i64,.int .i64,.int .i64] b4]⟩,none])
 else K [AV.agg [AV.fl [.int .i64] (v111_0 b0 b1 b2 a1),AV.fl [.int .i64] (v111_1 b0 b1 b2 a1),AV.fl [.int .i64,.int .i64] (v111_2 b0 b1 b2 a1)]] [some ⟨false,[.int .i64],b0⟩,some ⟨false,[.int .i64],b1⟩,some ⟨false,[.int .i64,.int .i64],b2⟩,some ⟨true,[],[AV.fl [.int .i64,.int .i64,.int .i64,.int .i64,.int .i64] b4]⟩,none])
 else none)
 else none)
 else none):=by kernel_rfl
theorem r246 (a1 a2:Int) (b0 b1 b2 b4:List AV) (K:List AV→List (Option Blk)→Option AV) (h:q246 a1 a2 b0 b1 b2 b4=true):inlA c246 1 246 [AV.agg [AV.own [1],AV.own [2],AV.own [3]],AV.int .i64 a1,AV.int .i64 a2,AV.ptr [4] 0 0] [0] (canH 1 [⟨false,[.int .i64],b0⟩,⟨false,[.int .i64],b1⟩,⟨false,[.int .i64,.int .i64],b2⟩,⟨true,[],[AV.own [5]]⟩,⟨false,[.int .i64,.int .i64,.int .i64,.int .i64,.int .i64],b4⟩]) (keepG Tryz.prog 5 [27] [4] K)=K [AV.agg [AV.fl [.int .i64] (v246_0 a1 a2 b0 b1 b2 b4),AV.fl [.int .i64] (v246_1 a1 a2 b0 b1 b2 b4),AV.fl [.int .i64,.int .i64] (v246_2 a1 a2 b0 b1 b2 b4)]] [some ⟨false,[.int .i64],(v246_3 a1 a2 b0 b1 b2 b4)⟩,some ⟨false,[.int .i64],(v246_4 a1 a2 b0 b1 b2 b4)⟩,some ⟨false,[.int .i64,.int .i64],(v246_5 a1 a2 b0 b1 b2 b4)⟩,some ⟨true,[],[AV.fl [.int .i64,.int .i64,.int .i64,.int .i64,.int .i64] (v246_6 a1 a2 b0 b1 b2 b4)]⟩,none]:=(e246 a1 a2 b0 b1 b2 b4 K).trans ((brL (brL (brL (br (fun b=>K [AV.agg [AV.fl [.int .i64] (v111_0 b0 b1 b2 a1),AV.fl [.int .i64] (v111_1 b0 b1 b2 a1),AV.fl [.int .i64,.int .i64] (v111_2 b0 b1 b2 a1)]] [some ⟨false,[.int .i64],b0⟩,some ⟨false,[.int .i64],b1⟩,some ⟨false,[.int .i64,.int .i64],b2⟩,some ⟨true,[],[AV.fl [.int .i64,.int .i64,.int .i64,.int .i64,.int .i64] (bif b then (bif !(v21_1 b0 b1 b2 a1) then b4++([AV.agg [AV.int .i64 a2,AV.int .i64 a1,AV.int .i64 (v101_0 b0 b1 b2 a1),AV.int .i64 (v101_1 b0 b1 b2 a1),AV.int .i64 ((v111_3 b0 b1 b2 a1).length:Int)]]) else b4) else b4)]⟩,none]) (br (fun b=>K [AV.agg [AV.fl [.int .i64] (v111_0 b0 b1 b2 a1),AV.fl [.int .i64] (v111_1 b0 b1 b2 a1),AV.fl [.int .i64,.int .i64] (v111_2 b0 b1 b2 a1)]] [some ⟨false,[.int .i64],b0⟩,some ⟨false,[.int .i64],b1⟩,some ⟨false,[.int .i64,.int .i64],b2⟩,some ⟨true,[],[AV.fl [.int .i64,.int .i64,.int .i64,.int .i64,.int .i64] (bif b then b4++([AV.agg [AV.int .i64 a2,AV.int .i64 a1,AV.int .i64 (v101_0 b0 b1 b2 a1),AV.int .i64 (v101_1 b0 b1 b2 a1),AV.int .i64 ((v111_3 b0 b1 b2 a1).length:Int)]]) else b4)]⟩,none]) (brL1 (fun _=>rfl)) (fun _=>rfl)) (fun _=>rfl))))) h)
def m246:GModel
 | [.agg [.own g0,.own g1,.own g2],.int .i64 a1,.int .i64 a2,.ptr g3 g4 g5],[⟨false,g6,b0⟩,⟨false,g7,b1⟩,⟨false,g8,b2⟩,⟨true,[],[.own g9]⟩,⟨false,g10,b4⟩]=>bif nmEq g0 ([1]) && nmEq g1 ([2]) && nmEq g2 ([3]) && nmEq g3 ([4]) && Nat.beq g4 0 && Nat.beq g5 0 && ctsEq g6 ([.int .i64]) && ctsEq g7 ([.int .i64]) && ctsEq g8 ([.int .i64,.int .i64]) && nmEq g9 ([5]) && ctsEq g10 ([.int .i64,.int .i64,.int .i64,.int .i64,.int .i64]) then some (q246 a1 a2 b0 b1 b2 b4,[AV.agg [AV.fl [.int .i64] (v246_0 a1 a2 b0 b1 b2 b4),AV.fl [.int .i64] (v246_1 a1 a2 b0 b1 b2 b4),AV.fl [.int .i64,.int .i64] (v246_2 a1 a2 b0 b1 b2 b4)]],[some ⟨false,[.int .i64],(v246_3 a1 a2 b0 b1 b2 b4)⟩,some ⟨false,[.int .i64],(v246_4 a1 a2 b0 b1 b2 b4)⟩,some ⟨false,[.int .i64,.int .i64],(v246_5 a1 a2 b0 b1 b2 b4)⟩,some ⟨true,[],[AV.fl [.int .i64,.int .i64,.int .i64,.int .i64,.int .i64] (v246_6 a1 a2 b0 b1 b2 b4)]⟩,none]) else none
 | _,_=>none
theorem k246:Known Tryz.prog 246:=⟨Tryz.f246,Tryz.func246,by kernel_rfl,by kernel_rfl⟩
theorem meets246:MeetsG Tryz.prog 246 m246:=by
 refine mg (rt:=[27]) (gs:=[4]) (lvl:=0) (cf:=c246) rfl mixed k246 Tryz.func246 (by kernel_rfl) noLoop (allT_cons meets21 (allT_cons meets101 (allT_cons meets111 allT_nil))) allM_nil noI fun xs bs r bs' h K=>?_
 unfold m246 at h
 split at h
 ·rename_i g0 g1 g2 a1 a2 g3 g4 g5 g6 b0 g7 b1 g8 b2 g9 g10 b4
  obtain ⟨hg,h⟩:=bif_pair h
  simp only [Bool.and_eq_true] at hg
  obtain ⟨⟨⟨⟨⟨⟨⟨⟨⟨⟨q0,q1⟩,q2⟩,q3⟩,q4⟩,q5⟩,q6⟩,q7⟩,q8⟩,q9⟩,q10⟩:=hg
  obtain rfl:=nE q0
  obtain rfl:=nE q1
  obtain rfl:=nE q2
  obtain rfl:=nE q3
  obtain rfl:=bE q4
  obtain rfl:=bE q5
  obtain rfl:=cE q6
  obtain rfl:=cE q7
  obtain rfl:=cE q8
  obtain rfl:=nE q9
  obtain rfl:=cE q10
  obtain ⟨h1,rfl,rfl⟩:=trip_inj h
  exact r246 a1 a2 b0 b1 b2 b4 K h1
 ·cases h
def G226_0_s0 {β:Type} (t2:Int) (t3:Int) (h0_0:Int) (h0_1:Int) (h0_2:Int) (h2_0:Int) (h2_1:Int) (h2_2:Int) (h4:List AV) (h5:List AV) (h6:List AV) (h8:List AV) (N:((Int × Int × Int × Int × Int × Int × (List AV) × (List AV) × (List AV) × (List AV)) ⊕ ((List AV) × (List AV) × (List AV) × (List AV) × Int × Int × Int × Int × Int × Int × (List AV) × (List AV) × (List AV)))→β) (K:((Int × Int × Int × Int × Int × Int × (List AV) × (List AV) × (List AV) × (List AV)) ⊕ ((List AV) × (List AV) × (List AV) × (List AV) × Int × Int × Int × Int × Int × Int × (List AV) × (List AV) × (List AV)))→β) (d:β):β:=by
 refine (?f0:Int→Int→β) (v101_0 h4 h5 h6 t2) (v101_1 h4 h5 h6 t2);intro x1 x2
 refine (?f1:Int→Int→Int→Int→β) (v245_0 h4 h5 h6 h0_0 h0_1 h0_2 x1 x2) (v245_1 h4 h5 h6 h0_0 h0_1 h0_2 x1 x2) (v245_2 h4 h5 h6 h0_0 h0_1 h0_2 x1 x2) (v245_3 h4 h5 h6 h0_0 h0_1 h0_2 x1 x2);intro x3 x4 x5 x6
 refine (?f2:(List AV)→(List AV)→(List AV)→(List AV)→(List AV)→(List AV)→(List AV)→β) (v246_0 x3 t3 h4 h5 h6 h8) (v246_1 x3 t3 h4 h5 h6 h8) (v246_2 x3 t3 h4 h5 h6 h8) (v246_3 x3 t3 h4 h5 h6 h8) (v246_4 x3 t3 h4 h5 h6 h8) (v246_5 x3 t3 h4 h5 h6 h8) (v246_6 x3 t3 h4 h5 h6 h8);intro x7 x8 x9 x10 x11 x12 x13
 exact (bif !decide (h0_0=0) then (bif q101 h4 h5 h6 t2 then (bif q21 h4 h5 h6 t2 then (bif (v21_1 h4 h5 h6 t2) then K (.inl (h0_0,h0_1,h0_2,h2_0,h2_1,h2_2,h4,h5,h6,h8))
 else (bif decide (IntKind.i64.wrap (x2 - x1)≤h0_1) then K (.inl (h0_0,h0_1,h0_2,h2_0,h2_1,h2_2,h4,h5,h6,h8))
 else (bif q245 h4 h5 h6 h0_0 h0_1 h0_2 x1 x2 then (bif q246 x3 t3 h4 h5 h6 h8 then (bif q246 (IntKind.i64.wrap (x3+1)) t3 x7 x8 x9 x13 then N (.inr ((v246_0 (IntKind.i64.wrap (x3+1)) t3 x7 x8 x9 x13),(v246_1 (IntKind.i64.wrap (x3+1)) t3 x7 x8 x9 x13),(v246_2 (IntKind.i64.wrap (x3+1)) t3 x7 x8 x9 x13),(v246_6 (IntKind.i64.wrap (x3+1)) t3 x7 x8 x9 x13),x4,x5,x6,h2_0,h2_1,h2_2,x10,x11,x12))
 else d)
 else d)
 else d)))
 else d)
 else d)
 else K (.inl (h0_0,h0_1,h0_2,h2_0,h2_1,h2_2,h4,h5,h6,h8)))
def F226_0_s0 (t2 t3 h0_0 h0_1 h0_2 h2_0 h2_1 h2_2:Int) (h4 h5 h6 h8:List AV):Out ((Int × Int × Int × Int × Int × Int × (List AV) × (List AV) × (List AV) × (List AV)) ⊕ ((List AV) × (List AV) × (List AV) × (List AV) × Int × Int × Int × Int × Int × Int × (List AV) × (List AV) × (List AV))) ((Int × Int × Int × Int × Int × Int × (List AV) × (List AV) × (List AV) × (List AV)) ⊕ ((List AV) × (List AV) × (List AV) × (List AV) × Int × Int × Int × Int × Int × Int × (List AV) × (List AV) × (List AV))):=G226_0_s0 t2 t3 h0_0 h0_1 h0_2 h2_0 h2_1 h2_2 h4 h5 h6 h8 .next .stop .fail
def G226_0_s1 {β:Type} (t2:Int) (t3:Int) (h0:List AV) (h1:List AV) (h2:List AV) (h3:List AV) (h4_0:Int) (h4_1:Int) (h4_2:Int) (h6_0:Int) (h6_1:Int) (h6_2:Int) (h8:List AV) (h9:List AV) (h10:List AV) (N:((Int × Int × Int × Int × Int × Int × (List AV) × (List AV) × (List AV) × (List AV)) ⊕ ((List AV) × (List AV) × (List AV) × (List AV) × Int × Int × Int × Int × Int × Int × (List AV) × (List AV) × (List AV)))→β) (K:((Int × Int × Int × Int × Int × Int × (List AV) × (List AV) × (List AV) × (List AV)) ⊕ ((List AV) × (List AV) × (List AV) × (List AV) × Int × Int × Int × Int × Int × Int × (List AV) × (List AV) × (List AV)))→β) (d:β):β:=by
 refine (?f0:Int→Int→β) (v101_0 h0 h1 h2 t2) (v101_1 h0 h1 h2 t2);intro x1 x2
 refine (?f1:Int→Int→Int→Int→β) (v245_0 h0 h1 h2 h4_0 h4_1 h4_2 x1 x2) (v245_1 h0 h1 h2 h4_0 h4_1 h4_2 x1 x2) (v245_2 h0 h1 h2 h4_0 h4_1 h4_2 x1 x2) (v245_3 h0 h1 h2 h4_0 h4_1 h4_2 x1 x2);intro x3 x4 x5 x6
 refine (?f2:(List AV)→(List AV)→(List AV)→(List AV)→β) (v246_0 x3 t3 h0 h1 h2 h3) (v246_1 x3 t3 h0 h1 h2 h3) (v246_2 x3 t3 h0 h1 h2 h3) (v246_6 x3 t3 h0 h1 h2 h3);intro x7 x8 x9 x10
 exact (bif !decide (h4_0=0) then (bif q101 h0 h1 h2 t2 then (bif q21 h0 h1 h2 t2 then (bif (v21_1 h0 h1 h2 t2) then K (.inr (h0,h1,h2,h3,h4_0,h4_1,h4_2,h6_0,h6_1,h6_2,h8,h9,h10))
 else (bif decide (IntKind.i64.wrap (x2 - x1)≤h4_1) then K (.inr (h0,h1,h2,h3,h4_0,h4_1,h4_2,h6_0,h6_1,h6_2,h8,h9,h10))
 else (bif q245 h0 h1 h2 h4_0 h4_1 h4_2 x1 x2 then (bif q246 x3 t3 h0 h1 h2 h3 then (bif q246 (IntKind.i64.wrap (x3+1)) t3 x7 x8 x9 x10 then N (.inr ((v246_0 (IntKind.i64.wrap (x3+1)) t3 x7 x8 x9 x10),(v246_1 (IntKind.i64.wrap (x3+1)) t3 x7 x8 x9 x10),(v246_2 (IntKind.i64.wrap (x3+1)) t3 x7 x8 x9 x10),(v246_6 (IntKind.i64.wrap (x3+1)) t3 x7 x8 x9 x10),x4,x5,x6,h6_0,h6_1,h6_2,h8,h9,h10))
 else d)
 else d)
 else d)))
 else d)
 else d)
 else K (.inr (h0,h1,h2,h3,h4_0,h4_1,h4_2,h6_0,h6_1,h6_2,h8,h9,h10)))
def F226_0_s1 (t2 t3:Int) (h0 h1 h2 h3:List AV) (h4_0 h4_1 h4_2 h6_0 h6_1 h6_2:Int) (h8 h9 h10:List AV):Out ((Int × Int × Int × Int × Int × Int × (List AV) × (List AV) × (List AV) × (List AV)) ⊕ ((List AV) × (List AV) × (List AV) × (List AV) × Int × Int × Int × Int × Int × Int × (List AV) × (List AV) × (List AV))) ((Int × Int × Int × Int × Int × Int × (List AV) × (List AV) × (List AV) × (List AV)) ⊕ ((List AV) × (List AV) × (List AV) × (List AV) × Int × Int × Int × Int × Int × Int × (List AV) × (List AV) × (List AV))):=G226_0_s1 t2 t3 h0 h1 h2 h3 h4_0 h4_1 h4_2 h6_0 h6_1 h6_2 h8 h9 h10 .next .stop .fail
def R226_0 (t2 t3:Int):((Int × Int × Int × Int × Int × Int × (List AV) × (List AV) × (List AV) × (List AV)) ⊕ ((List AV) × (List AV) × (List AV) × (List AV) × Int × Int × Int × Int × Int × Int × (List AV) × (List AV) × (List AV)))→Out ((Int × Int × Int × Int × Int × Int × (List AV) × (List AV) × (List AV) × (List AV)) ⊕ ((List AV) × (List AV) × (List AV) × (List AV) × Int × Int × Int × Int × Int × Int × (List AV) × (List AV) × (List AV))) ((Int × Int × Int × Int × Int × Int × (List AV) × (List AV) × (List AV) × (List AV)) ⊕ ((List AV) × (List AV) × (List AV) × (List AV) × Int × Int × Int × Int × Int × Int × (List AV) × (List AV) × (List AV))):=sumE (fun s:Int × Int × Int × Int × Int × Int × (List AV) × (List AV) × (List AV) × (List AV)=>F226_0_s0 t2 t3 s.1 s.2.1 s.2.2.1 s.2.2.2.1 s.2.2.2.2.1 s.2.2.2.2.2.1 s.2.2.2.2.2.2.1 s.2.2.2.2.2.2.2.1 s.2.2.2.2.2.2.2.2.1 s.2.2.2.2.2.2.2.2.2) (fun s:(List AV) × (List AV) × (List AV) × (List AV) × Int × Int × Int × Int × Int × Int × (List AV) × (List AV) × (List AV)=>F226_0_s1 t2 t3 s.1 s.2.1 s.2.2.1 s.2.2.2.1 s.2.2.2.2.1 s.2.2.2.2.2.1 s.2.2.2.2.2.2.1 s.2.2.2.2.2.2.2.1 s.2.2.2.2.2.2.2.2.1 s.2.2.2.2.2.2.2.2.2.1 s.2.2.2.2.2.2.2.2.2.2.1 s.2.2.2.2.2.2.2.2.2.2.2.1 s.2.2.2.2.2.2.2.2.2.2.2.2)
def E226_0 (t2 t3:Int):((Int × Int × Int × Int × Int × Int × (List AV) × (List AV) × (List AV) × (List AV)) ⊕ ((List AV) × (List AV) × (List AV) × (List AV) × Int × Int × Int × Int × Int × Int × (List AV) × (List AV) × (List AV)))→St:=sumE (fun s:Int × Int × Int × Int × Int × Int × (List AV) × (List AV) × (List AV) × (List AV)=>⟨[(2,Ai t2),(3,Ai t3),(4,AV.ptr [4] 0 0),(6,AV.ptr [0,6,0] 0 0),(10,AV.ptr [0,10,0] 0 0),(11,AV.ptr [0,11,0] 0 0),(12,AV.ptr [0,12,0] 0 0)],[([0,6,0],⟨true,[],[AV.agg [Ai s.1,Ai s.2.1,Ai s.2.2.1]]⟩),([0,10,0],⟨true,[],[AV.agg [AV.snil,AV.snil,AV.snil]]⟩),([0,11,0],⟨true,[],[AV.agg [Ai s.2.2.2.1,Ai s.2.2.2.2.1,Ai s.2.2.2.2.2.1]]⟩),([0,12,0],⟨true,[],[AV.agg [AV.own [1],AV.own [2],AV.own [3]]]⟩),([1],⟨false,[.int .i64],s.2.2.2.2.2.2.1⟩),([2],⟨false,[.int .i64],s.2.2.2.2.2.2.2.1⟩),([3],⟨false,[.int .i64,.int .i64],s.2.2.2.2.2.2.2.2.1⟩),([4],⟨true,[],[AV.own [5]]⟩),([5],⟨false,[.int .i64,.int .i64,.int .i64,.int .i64,.int .i64],s.2.2.2.2.2.2.2.2.2⟩)]⟩) (fun s:(List AV) × (List AV) × (List AV) × (List AV) × Int × Int × Int × Int × Int × Int × (List AV) × (List AV) × (List AV)=>⟨[(2,Ai t2),(3,Ai t3),(4,AV.ptr [4] 0 0),(6,AV.ptr [0,6,0] 0 0),(10,AV.ptr [0,10,0] 0 0),(11,AV.ptr [0,11,0] 0 0),(12,AV.ptr [0,12,0] 0 0)],[([0,0,12,0],⟨false,[.int .i64],s.1⟩),([0,1,12,0],⟨false,[.int .i64],s.2.1⟩),([0,2,12,0],⟨false,[.int .i64,.int .i64],s.2.2.1⟩),([0,4,7,0],⟨false,[.int .i64,.int .i64,.int .i64,.int .i64,.int .i64],s.2.2.2.1⟩),([0,6,0],⟨true,[],[AV.agg [Ai s.2.2.2.2.1,Ai s.2.2.2.2.2.1,Ai s.2.2.2.2.2.2.1]]⟩),([0,10,0],⟨true,[],[AV.agg [AV.snil,AV.snil,AV.snil]]⟩),([0,11,0],⟨true,[],[AV.agg [Ai s.2.2.2.2.2.2.2.1,Ai s.2.2.2.2.2.2.2.2.1,Ai s.2.2.2.2.2.2.2.2.2.1]]⟩),([0,12,0],⟨true,[],[AV.agg [AV.own [0,0,12,0],AV.own [0,1,12,0],AV.own [0,2,12,0]]]⟩),([1],⟨false,[.int .i64],s.2.2.2.2.2.2.2.2.2.2.1⟩),([2],⟨false,[.int .i64],s.2.2.2.2.2.2.2.2.2.2.2.1⟩),([3],⟨false,[.int .i64,.int .i64],s.2.2.2.2.2.2.2.2.2.2.2.2⟩),([4],⟨true,[],[AV.own [0,4,7,0]]⟩)]⟩)
def K226_0 (t2 t3:Int) (k:Kont):((Int × Int × Int × Int × Int × Int × (List AV) × (List AV) × (List AV) × (List AV)) ⊕ ((List AV) × (List AV) × (List AV) × (List AV) × Int × Int × Int × Int × Int × Int × (List AV) × (List AV) × (List AV)))→Option AV:=sumE (fun p:Int × Int × Int × Int × Int × Int × (List AV) × (List AV) × (List AV) × (List AV)=>k (.exit 0) ⟨[(2,Ai t2),(3,Ai t3),(4,AV.ptr [4] 0 0),(6,AV.ptr [0,6,0] 0 0),(10,AV.ptr [0,10,0] 0 0),(11,AV.ptr [0,11,0] 0 0),(12,AV.ptr [0,12,0] 0 0)],[([0,6,0],⟨true,[],[AV.agg [Ai p.1,Ai p.2.1,Ai p.2.2.1]]⟩),([0,10,0],⟨true,[],[AV.agg [AV.snil,AV.snil,AV.snil]]⟩),([0,11,0],⟨true,[],[AV.agg [Ai p.2.2.2.1,Ai p.2.2.2.2.1,Ai p.2.2.2.2.2.1]]⟩),([0,12,0],⟨true,[],[AV.agg [AV.own [1],AV.own [2],AV.own [3]]]⟩),([1],⟨false,[.int .i64],p.2.2.2.2.2.2.1⟩),([2],⟨false,[.int .i64],p.2.2.2.2.2.2.2.1⟩),([3],⟨false,[.int .i64,.int .i64],p.2.2.2.2.2.2.2.2.1⟩),([4],⟨true,[],[AV.own [5]]⟩),([5],⟨false,[.int .i64,.int .i64,.int .i64,.int .i64,.int .i64],p.2.2.2.2.2.2.2.2.2⟩)]⟩) (fun p:(List AV) × (List AV) × (List AV) × (List AV) × Int × Int × Int × Int × Int × Int × (List AV) × (List AV) × (List AV)=>k (.exit 0) ⟨[(2,Ai t2),(3,Ai t3),(4,AV.ptr [4] 0 0),(6,AV.ptr [0,6,0] 0 0),(10,AV.ptr [0,10,0] 0 0),(11,AV.ptr [0,11,0] 0 0),(12,AV.ptr [0,12,0] 0 0)],[([0,0,12,0],⟨false,[.int .i64],p.1⟩),([0,1,12,0],⟨false,[.int .i64],p.2.1⟩),([0,2,12,0],⟨false,[.int .i64,.int .i64],p.2.2.1⟩),([0,4,7,0],⟨false,[.int .i64,.int .i64,.int .i64,.int .i64,.int .i64],p.2.2.2.1⟩),([0,6,0],⟨true,[],[AV.agg [Ai p.2.2.2.2.1,Ai p.2.2.2.2.2.1,Ai p.2.2.2.2.2.2.1]]⟩),([0,10,0],⟨true,[],[AV.agg [AV.snil,AV.snil,AV.snil]]⟩),([0,11,0],⟨true,[],[AV.agg [Ai p.2.2.2.2.2.2.2.1,Ai p.2.2.2.2.2.2.2.2.1,Ai p.2.2.2.2.2.2.2.2.2.1]]⟩),([0,12,0],⟨true,[],[AV.agg [AV.own [0,0,12,0],AV.own [0,1,12,0],AV.own [0,2,12,0]]]⟩),([1],⟨false,[.int .i64],p.2.2.2.2.2.2.2.2.2.2.1⟩),([2],⟨false,[.int .i64],p.2.2.2.2.2.2.2.2.2.2.2.1⟩),([3],⟨false,[.int .i64,.int .i64],p.2.2.2.2.2.2.2.2.2.2.2.2⟩),([4],⟨true,[],[AV.own [0,4,7,0]]⟩)]⟩)
def l226_0:LModel:=fun _ _ st k=>match st with
 | ⟨[(2,.int .i64 t2),(3,.int .i64 t3),(4,.ptr g0 g1 g2),(6,.ptr g3 g4 g5),(10,.ptr g6 g7 g8),(11,.ptr g9 g10 g11),(12,.ptr g12 g13 g14)],[(g15,⟨true,[],[.agg [.int .i64 h0_0,.int .i64 h0_1,.int .i64 h0_2]]⟩),(g16,⟨true,[],[.agg [.snil,.snil,.snil]]⟩),(g17,⟨true,[],[.agg [.int .i64 h2_0,.int .i64 h2_1,.int .i64 h2_2]]⟩),(g18,⟨true,[],[.agg [.own g19,.own g20,.own g21]]⟩),(g22,⟨false,g23,h4⟩),(g24,⟨false,g25,h5⟩),(g26,⟨false,g27,h6⟩),(g28,⟨true,[],[.own g29]⟩),(g30,⟨false,g31,h8⟩)]⟩=>bif nmEq g0 ([4]) && Nat.beq g1 0 && Nat.beq g2 0 && nmEq g3 ([0,6,0]) && Nat.beq g4 0 && Nat.beq g5 0 && nmEq g6 ([0,10,0]) && Nat.beq g7 0 && Nat.beq g8 0 && nmEq g9 ([0,11,0]) && Nat.beq g10 0 && Nat.beq g11 0 && nmEq g12 ([0,12,0]) && Nat.beq g13 0 && Nat.beq g14 0 && nmEq g15 ([0,6,0]) && nmEq g16 ([0,10,0]) && nmEq g17 ([0,11,0]) && nmEq g18 ([0,12,0]) && nmEq g19 ([1]) && nmEq g20 ([2]) && nmEq g21 ([3]) && nmEq g22 ([1]) && ctsEq g23 ([.int .i64]) && nmEq g24 ([2]) && ctsEq g25 ([.int .i64]) && nmEq g26 ([3]) && ctsEq g27 ([.int .i64,.int .i64]) && nmEq g28 ([4]) && nmEq g29 ([5]) && nmEq g30 ([5]) && ctsEq g31 ([.int .i64,.int .i64,.int .i64,.int .i64,.int .i64]) then ro (runW (R226_0 t2 t3) (2100) (.inl (h0_0,h0_1,h0_2,h2_0,h2_1,h2_2,h4,h5,h6,h8))) none (K226_0 t2 t3 k) else none
 | ⟨[(2,.int .i64 t2),(3,.int .i64 t3),(4,.ptr g0 g1 g2),(6,.ptr g3 g4 g5),(10,.ptr g6 g7 g8),(11,.ptr g9 g10 g11),(12,.ptr g12 g13 g14)],[(g15,⟨false,g16,h0⟩),(g17,⟨false,g18,h1⟩),(g19,⟨false,g20,h2⟩),(g21,⟨false,g22,h3⟩),(g23,⟨true,[],[.agg [.int .i64 h4_0,.int .i64 h4_1,.int .i64 h4_2]]⟩),(g24,⟨true,[],[.agg [.snil,.snil,.snil]]⟩),(g25,⟨true,[],[.agg [.int .i64 h6_0,.int .i64 h6_1,.int .i64 h6_2]]⟩),(g26,⟨true,[],[.agg [.own g27,.own g28,.own g29]]⟩),(g30,⟨false,g31,h8⟩),(g32,⟨false,g33,h9⟩),(g34,⟨false,g35,h10⟩),(g36,⟨true,[],[.own g37]⟩)]⟩=>bif nmEq g0 ([4]) && Nat.beq g1 0 && Nat.beq g2 0 && nmEq g3 ([0,6,0]) && Nat.beq g4 0 && Nat.beq g5 0 && nmEq g6 ([0,10,0]) && Nat.beq g7 0 && Nat.beq g8 0 && nmEq g9 ([0,11,0]) && Nat.beq g10 0 && Nat.beq g11 0 && nmEq g12 ([0,12,0]) && Nat.beq g13 0 && Nat.beq g14 0 && nmEq g15 ([0,0,12,0]) && ctsEq g16 ([.int .i64]) && nmEq g17 ([0,1,12,0]) && ctsEq g18 ([.int .i64]) && nmEq g19 ([0,2,12,0]) && ctsEq g20 ([.int .i64,.int .i64]) && nmEq g21 ([0,4,7,0]) && ctsEq g22 ([.int .i64,.int .i64,.int .i64,.int .i64,.int .i64]) && nmEq g23 ([0,6,0]) && nmEq g24 ([0,10,0]) && nmEq g25 ([0,11,0]) && nmEq g26 ([0,12,0]) && nmEq g27 ([0,0,12,0]) && nmEq g28 ([0,1,12,0]) && nmEq g29 ([0,2,12,0]) && nmEq g30 ([1]) && ctsEq g31 ([.int .i64]) && nmEq g32 ([2]) && ctsEq g33 ([.int .i64]) && nmEq g34 ([3]) && ctsEq g35 ([.int .i64,.int .i64]) && nmEq g36 ([4]) && nmEq g37 ([0,4,7,0]) then ro (runW (R226_0 t2 t3) (2100) (.inr (h0,h1,h2,h3,h4_0,h4_1,h4_2,h6_0,h6_1,h6_2,h8,h9,h10))) none (K226_0 t2 t3 k) else none
 | _=>none
noncomputable def c226:Cfg:=cfg Tryz.prog [(226,0,[2,3,4,6,10,11,12]),(226,999,[10,11]),(226,1000,[2,3,4,6,10,11,12]),(226,1001,[2,3,4,6,10,11,12])] [(21,m21),(101,m101),(245,m245)] [(246,.g m246)] [] [(226,0,l226_0)]
theorem s226_0_s0 (t2 t3:Int) (ce:CallE) (k:Kont) (s:Int × Int × Int × Int × Int × Int × (List AV) × (List AV) × (List AV) × (List AV)) (next:St→Option AV):stepA (codeA c226 ce [0] 226 0 (sub [1,1,0,0,0] (body Tryz.f226))) (normA [0] [2,3,4,6,10,11,12]) next ((E226_0 t2 t3) (.inl s)) k=G226_0_s0 t2 t3 s.1 s.2.1 s.2.2.1 s.2.2.2.1 s.2.2.2.2.1 s.2.2.2.2.2.1 s.2.2.2.2.2.2.1 s.2.2.2.2.2.2.2.1 s.2.2.2.2.2.2.2.2.1 s.2.2.2.2.2.2.2.2.2 (fun s=>next ((E226_0 t2 t3) s)) (K226_0 t2 t3 k) none:=by kernel_rfl
theorem s226_0_s1 (t2 t3:Int) (ce:CallE) (k:Kont) (s:(List AV) × (List AV) × (List AV) × (List AV) × Int × Int × Int × Int × Int × Int × (List AV) × (List AV) × (List AV)) (next:St→Option AV):stepA (codeA c226 ce [0] 226 0 (sub [1,1,0,0,0] (body Tryz.f226))) (normA [0] [2,3,4,6,10,11,12]) next ((E226_0 t2 t3) (.inr s)) k=G226_0_s1 t2 t3 s.1 s.2.1 s.2.2.1 s.2.2.2.1 s.2.2.2.2.1 s.2.2.2.2.2.1 s.2.2.2.2.2.2.1 s.2.2.2.2.2.2.2.1 s.2.2.2.2.2.2.2.2.1 s.2.2.2.2.2.2.2.2.2.1 s.2.2.2.2.2.2.2.2.2.2.1 s.2.2.2.2.2.2.2.2.2.2.2.1 s.2.2.2.2.2.2.2.2.2.2.2.2 (fun s=>next ((E226_0 t2 t3) s)) (K226_0 t2 t3 k) none:=by kernel_rfl
theorem st226_0 (t2 t3:Int) (ce:CallE) (k:Kont) (s:(Int × Int × Int × Int × Int × Int × (List AV) × (List AV) × (List AV) × (List AV)) ⊕ ((List AV) × (List AV) × (List AV) × (List AV) × Int × Int × Int × Int × Int × Int × (List AV) × (List AV) × (List AV))) (next:St→Option AV):stepA (codeA c226 ce [0] 226 0 (sub [1,1,0,0,0] (body Tryz.f226))) (normA [0] [2,3,4,6,10,11,12]) next ((E226_0 t2 t3) s) k=(R226_0 t2 t3 s).el none (fun s=>next ((E226_0 t2 t3) s)) (K226_0 t2 t3 k):=(match s with | .inl s=>(s226_0_s0 t2 t3 ce k s next).trans (by unfold R226_0;unfold F226_0_s0 G226_0_s0;simp only [el_cond,el_ro,el_sum,el_fail,el_next,el_stop] <;> rfl) | .inr s=>(s226_0_s1 t2 t3 ce k s next).trans (by unfold R226_0;unfold F226_0_s1 G226_0_s1;simp only [el_cond,el_ro,el_sum,el_fail,el_next,el_stop] <;> rfl))
theorem ok226_0 {ce:CallE}:LoopOK c226 ce [0] 226 0 (sub [1,1,0,0,0] (body Tryz.f226)):=by
 intro m hm st k r h
 obtain rfl:l226_0=m:=Option.some.inj hm
 unfold l226_0 at h
 split at h
 ·rename_i t2 t3 g0 g1 g2 g3 g4 g5 g6 g7 g8 g9 g10 g11 g12 g13 g14 g15 h0_0 h0_1 h0_2 g16 g17 h2_0 h2_1 h2_2 g18 g19 g20 g21 g22 g23 h4 g24 g25 h5 g26 g27 h6 g28 g29 g30 g31 h8
  obtain ⟨hg,h⟩:=bif_some h
  simp only [Bool.and_eq_true] at hg
  obtain ⟨⟨⟨⟨⟨⟨⟨⟨⟨⟨⟨⟨⟨⟨⟨⟨⟨⟨⟨⟨⟨⟨⟨⟨⟨⟨⟨⟨⟨⟨⟨q0,q1⟩,q2⟩,q3⟩,q4⟩,q5⟩,q6⟩,q7⟩,q8⟩,q9⟩,q10⟩,q11⟩,q12⟩,q13⟩,q14⟩,q15⟩,q16⟩,q17⟩,q18⟩,q19⟩,q20⟩,q21⟩,q22⟩,q23⟩,q24⟩,q25⟩,q26⟩,q27⟩,q28⟩,q29⟩,q30⟩,q31⟩:=hg
  obtain rfl:=nE q0
  obtain rfl:=bE q1
  obtain rfl:=bE q2
  obtain rfl:=nE q3
  obtain rfl:=bE q4
  obtain rfl:=bE q5
  obtain rfl:=nE q6
  obtain rfl:=bE q7
  obtain rfl:=bE q8
  obtain rfl:=nE q9
  obtain rfl:=bE q10
  obtain rfl:=bE q11
  obtain rfl:=nE q12
  obtain rfl:=bE q13
  obtain rfl:=bE q14
  obtain rfl:=nE q15
  obtain rfl:=nE q16
  obtain rfl:=nE q17
  obtain rfl:=nE q18
  obtain rfl:=nE q19
  obtain rfl:=nE q20
  obtain rfl:=nE q21
  obtain rfl:=nE q22
  obtain rfl:=cE q23
  obtain rfl:=nE q24
  obtain rfl:=cE q25
  obtain rfl:=nE q26
  obtain rfl:=cE q27
  obtain rfl:=nE q28
  obtain rfl:=nE q29
  obtain rfl:=nE q30
  obtain rfl:=cE q31
  refine ⟨(2100),?_⟩
  rw [← h]
  exact loop_run (E226_0 t2 t3) (K226_0 t2 t3 k) (st226_0 t2 t3 ce k) _ (.inl (h0_0,h0_1,h0_2,h2_0,h2_1,h2_2,h4,h5,h6,h8))
 ·rename_i t2 t3 g0 g1 g2 g3 g4 g5 g6 g7 g8 g9 g10 g11 g12 g13 g14 g15 g16 h0 g17 g18 h1 g19 g20 h2 g21 g22 h3 g23 h4_0 h4_1 h4_2 g24 g25 h6_0 h6_1 h6_2 g26 g27 g28 g29 g30 g31 h8 g32 g33 h9 g34 g35 h10 g36 g37
  obtain ⟨hg,h⟩:=bif_some h
  simp only [Bool.and_eq_true] at hg
  obtain ⟨⟨⟨⟨⟨⟨⟨⟨⟨⟨⟨⟨⟨⟨⟨⟨⟨⟨⟨⟨⟨⟨⟨⟨⟨⟨⟨⟨⟨⟨⟨⟨⟨⟨⟨⟨⟨q0,q1⟩,q2⟩,q3⟩,q4⟩,q5⟩,q6⟩,q7⟩,q8⟩,q9⟩,q10⟩,q11⟩,q12⟩,q13⟩,q14⟩,q15⟩,q16⟩,q17⟩,q18⟩,q19⟩,q20⟩,q21⟩,q22⟩,q23⟩,q24⟩,q25⟩,q26⟩,q27⟩,q28⟩,q29⟩,q30⟩,q31⟩,q32⟩,q33⟩,q34⟩,q35⟩,q36⟩,q37⟩:=hg
  obtain rfl:=nE q0
  obtain rfl:=bE q1
  obtain rfl:=bE q2
  obtain rfl:=nE q3
  obtain rfl:=bE q4
  obtain rfl:=bE q5
  obtain rfl:=nE q6
  obtain rfl:=bE q7
  obtain rfl:=bE q8
  obtain rfl:=nE q9
  obtain rfl:=bE q10
  obtain rfl:=bE q11
  obtain rfl:=nE q12
  obtain rfl:=bE q13
  obtain rfl:=bE q14
  obtain rfl:=nE q15
  obtain rfl:=cE q16
  obtain rfl:=nE q17
  obtain rfl:=cE q18
  obtain rfl:=nE q19
  obtain rfl:=cE q20
  obtain rfl:=nE q21
  obtain rfl:=cE q22
  obtain rfl:=nE q23
  obtain rfl:=nE q24
  obtain rfl:=nE q25
  obtain rfl:=nE q26
  obtain rfl:=nE q27
  obtain rfl:=nE q28
  obtain rfl:=nE q29
  obtain rfl:=nE q30
  obtain rfl:=cE q31
  obtain rfl:=nE q32
  obtain rfl:=cE q33
  obtain rfl:=nE q34
  obtain rfl:=cE q35
  obtain rfl:=nE q36
  obtain rfl:=nE q37
  refine ⟨(2100),?_⟩
  rw [← h]
  exact loop_run (E226_0 t2 t3) (K226_0 t2 t3 k) (st226_0 t2 t3 ce k) _ (.inr (h0,h1,h2,h3,h4_0,h4_1,h4_2,h6_0,h6_1,h6_2,h8,h9,h10))
 ·cases h
def q226 (ya yb yc a2 a3:Int) (b0 b1 b2 b4:List AV):Bool:=(ro (runW (R226_0 a2 a3) (2100) (.inl (ya,yb,yc,0,0,0,b0,b1,b2,b4))) false (sumE (fun p68=>q246 a2 a3 p68.2.2.2.2.2.2.1 p68.2.2.2.2.2.2.2.1 p68.2.2.2.2.2.2.2.2.1 p68.2.2.2.2.2.2.2.2.2) (fun p69=>q246 a2 a3 p69.1 p69.2.1 p69.2.2.1 p69.2.2.2.1)))
def v226_0 (ya yb yc a2 a3:Int) (b0 b1 b2 b4:List AV):List AV:=(ro (runW (R226_0 a2 a3) (2100) (.inl (ya,yb,yc,0,0,0,b0,b1,b2,b4))) [] (sumE (fun p68=>(v246_0 a2 a3 p68.2.2.2.2.2.2.1 p68.2.2.2.2.2.2.2.1 p68.2.2.2.2.2.2.2.2.1 p68.2.2.2.2.2.2.2.2.2)) (fun p69=>(v246_0 a2 a3 p69.1 p69.2.1 p69.2.2.1 p69.2.2.2.1))))
def v226_1 (ya yb yc a2 a3:Int) (b0 b1 b2 b4:List AV):List AV:=(ro (runW (R226_0 a2 a3) (2100) (.inl (ya,yb,yc,0,0,0,b0,b1,b2,b4))) [] (sumE (fun p68=>(v246_1 a2 a3 p68.2.2.2.2.2.2.1 p68.2.2.2.2.2.2.2.1 p68.2.2.2.2.2.2.2.2.1 p68.2.2.2.2.2.2.2.2.2)) (fun p69=>(v246_1 a2 a3 p69.1 p69.2.1 p69.2.2.1 p69.2.2.2.1))))
def v226_2 (ya yb yc a2 a3:Int) (b0 b1 b2 b4:List AV):List AV:=(ro (runW (R226_0 a2 a3) (2100) (.inl (ya,yb,yc,0,0,0,b0,b1,b2,b4))) [] (sumE (fun p68=>(v246_2 a2 a3 p68.2.2.2.2.2.2.1 p68.2.2.2.2.2.2.2.1 p68.2.2.2.2.2.2.2.2.1 p68.2.2.2.2.2.2.2.2.2)) (fun p69=>(v246_2 a2 a3 p69.1 p69.2.1 p69.2.2.1 p69.2.2.2.1))))
def v226_3 (ya yb yc a2 a3:Int) (b0 b1 b2 b4:List AV):Int:=(ro (runW (R226_0 a2 a3) (2100) (.inl (ya,yb,yc,0,0,0,b0,b1,b2,b4))) 0 (sumE (fun p68=>p68.1) (fun p69=>p69.2.2.2.2.1)))
def v226_4 (ya yb yc a2 a3:Int) (b0 b1 b2 b4:List AV):Int:=(ro (runW (R226_0 a2 a3) (2100) (.inl (ya,yb,yc,0,0,0,b0,b1,b2,b4))) 0 (sumE (fun p68=>p68.2.1) (fun p69=>p69.2.2.2.2.2.1)))
def v226_5 (ya yb yc a2 a3:Int) (b0 b1 b2 b4:List AV):Int:=(ro (runW (R226_0 a2 a3) (2100) (.inl (ya,yb,yc,0,0,0,b0,b1,b2,b4))) 0 (sumE (fun p68=>p68.2.2.1) (fun p69=>p69.2.2.2.2.2.2.1)))
def v226_6 (ya yb yc a2 a3:Int) (b0 b1 b2 b4:List AV):List AV:=(ro (runW (R226_0 a2 a3) (2100) (.inl (ya,yb,yc,0,0,0,b0,b1,b2,b4))) [] (sumE (fun p68=>(v246_3 a2 a3 p68.2.2.2.2.2.2.1 p68.2.2.2.2.2.2.2.1 p68.2.2.2.2.2.2.2.2.1 p68.2.2.2.2.2.2.2.2.2)) (fun p69=>p69.2.2.2.2.2.2.2.2.2.2.1)))
def v226_7 (ya yb yc a2 a3:Int) (b0 b1 b2 b4:List AV):List AV:=(ro (runW (R226_0 a2 a3) (2100) (.inl (ya,yb,yc,0,0,0,b0,b1,b2,b4))) [] (sumE (fun p68=>(v246_4 a2 a3 p68.2.2.2.2.2.2.1 p68.2.2.2.2.2.2.2.1 p68.2.2.2.2.2.2.2.2.1 p68.2.2.2.2.2.2.2.2.2)) (fun p69=>p69.2.2.2.2.2.2.2.2.2.2.2.1)))
def v226_8 (ya yb yc a2 a3:Int) (b0 b1 b2 b4:List AV):List AV:=(ro (runW (R226_0 a2 a3) (2100) (.inl (ya,yb,yc,0,0,0,b0,b1,b2,b4))) [] (sumE (fun p68=>(v246_5 a2 a3 p68.2.2.2.2.2.2.1 p68.2.2.2.2.2.2.2.1 p68.2.2.2.2.2.2.2.2.1 p68.2.2.2.2.2.2.2.2.2)) (fun p69=>p69.2.2.2.2.2.2.2.2.2.2.2.2)))
def v226_9 (ya yb yc a2 a3:Int) (b0 b1 b2 b4:List AV):List AV:=(ro (runW (R226_0 a2 a3) (2100) (.inl (ya,yb,yc,0,0,0,b0,b1,b2,b4))) [] (sumE (fun p68=>(v246_6 a2 a3 p68.2.2.2.2.2.2.1 p68.2.2.2.2.2.2.2.1 p68.2.2.2.2.2.2.2.2.1 p68.2.2.2.2.2.2.2.2.2)) (fun p69=>(v246_6 a2 a3 p69.1 p69.2.1 p69.2.2.1 p69.2.2.2.1))))
theorem e226 (ya yb yc a2 a3:Int) (b0 b1 b2 b4:List AV) (K:List AV→List (Option Blk)→Option AV):inlA c226 1 226 [AV.agg [AV.own [1],AV.own [2],AV.own [3]],AV.agg [Ai ya,Ai yb,Ai yc],Ai a2,Ai a3,AV.ptr [4] 0 0] [0] (canH 1 [⟨false,[.int .i64],b0⟩,⟨false,[.int .i64],b1⟩,⟨false,[.int .i64,.int .i64],b2⟩,⟨true,[],[AV.own [5]]⟩,⟨false,[.int .i64,.int .i64,.int .i64,.int .i64,.int .i64],b4⟩]) (keepG Tryz.prog 5 [27,82] [4] K)=(ro (runW (R226_0 a2 a3) (2100) (.inl (ya,yb,yc,0,0,0,b0,b1,b2,b4))) none (sumE (fun p68=>(bif q246 a2 a3 p68.2.2.2.2.2.2.1 p68.2.2.2.2.2.2.2.1 p68.2.2.2.2.2.2.2.2.1 p68.2.2.2.2.2.2.2.2.2 then K [AV.agg [AV.fl [.int .i64] (v246_0 a2 a3 p68.2.2.2.2.2.2.1 p68.2.2.2.2.2.2.2.1 p68.2.2.2.2.2.2.2.2.1 p68.2.2.2.2.2.2.2.2.2),AV.fl [.int .i64] (v246_1 a2 a3 p68.2.2.2.2.2.2.1 p68.2.2.2.2.2.2.2.1 p68.2.2.2.2.2.2.2.2.1 p68.2.2.2.2.2.2.2.2.2),AV.fl [.int .i64,.int .i64] (v246_2 a2 a3 p68.2.2.2.2.2.2.1 p68.2.2.2.2.2.2.2.1 p68.2.2.2.2.2.2.2.2.1 p68.2.2.2.2.2.2.2.2.2)],AV.agg [Ai p68.1,Ai p68.2.1,Ai p68.2.2.1]] [some ⟨false,[.int .i64],(v246_3 a2 a3 p68.2.2.2.2.2.2.1 p68.2.2.2.2.2.2.2.1 p68.2.2.2.2.2.2.2.2.1 p68.2.2.2.2.2.2.2.2.2)⟩,some ⟨false,[.int .i64],(v246_4 a2 a3 p68.2.2.2.2.2.2.1 p68.2.2.2.2.2.2.2.1 p68.2.2.2.2.2.2.2.2.1 p68.2.2.2.2.2.2.2.2.2)⟩,some ⟨false,[.int .i64,.int .i64],(v246_5 a2 a3 p68.2.2.2.2.2.2.1 p68.2.2.2.2.2.2.2.1 p68.2.2.2.2.2.2.2.2.1 p68.2.2.2.2.2.2.2.2.2)⟩,some ⟨true,[],[AV.fl [.int .i64,.int .i64,.int .i64,.int .i64,.int .i64] (v246_6 a2 a3 p68.2.2.2.2.2.2.1 p68.2.2.2.2.2.2.2.1 p68.2.2.2.2.2.2.2.2.1 p68.2.2.2.2.2.2.2.2.2)]⟩,none]
 else none)) (fun p69=>(bif q246 a2 a3 p69.1 p69.2.1 p69.2.2.1 p69.2.2.2.1 then K [AV.agg [AV.fl [.int .i64] (v246_0 a2 a3 p69.1 p69.2.1 p69.2.2.1 p69.2.2.2.1),AV.fl [.int .i64] (v246_1 a2 a3 p69.1 p69.2.1 p69.2.2.1 p69.2.2.2.1),AV.fl [.int .i64,.int .i64] (v246_2 a2 a3 p69.1 p69.2.1 p69.2.2.1 p69.2.2.2.1)],AV.agg [Ai p69.2.2.2.2.1,Ai p69.2.2.2.2.2.1,Ai p69.2.2.2.2.2.2.1]] [some ⟨false,[.int .i64],p69.2.2.2.2.2.2.2.2.2.2.1⟩,some ⟨false,[.int .i64],p69.2.2.2.2.2.2.2.2.2.2.2.1⟩,some ⟨false,[.int .i64,.int .i64],p69.2.2.2.2.2.2.2.2.2.2.2.2⟩,some ⟨true,[],[AV.fl [.int .i64,.int .i64,.int .i64,.int .i64,.int .i64] (v246_6 a2 a3 p69.1 p69.2.1 p69.2.2.1 p69.2.2.2.1)]⟩,none]
 else none)))):=by kernel_rfl
theorem r226 (ya yb yc a2 a3:Int) (b0 b1 b2 b4:List AV) (K:List AV→List (Option Blk)→Option AV) (h:q226 ya yb yc a2 a3 b0 b1 b2 b4=true):inlA c226 1 226 [AV.agg [AV.own [1],AV.own [2],AV.own [3]],AV.agg [AV.int .i64 ya,AV.int .i64 yb,AV.int .i64 yc],AV.int .i64 a2,AV.int .i64 a3,AV.ptr [4] 0 0] [0] (canH 1 [⟨false,[.int .i64],b0⟩,⟨false,[.int .i64],b1⟩,⟨false,[.int .i64,.int .i64],b2⟩,⟨true,[],[AV.own [5]]⟩,⟨false,[.int .i64,.int .i64,.int .i64,.int .i64,.int .i64],b4⟩]) (keepG Tryz.prog 5 [27,82] [4] K)=K [AV.agg [AV.fl [.int .i64] (v226_0 ya yb yc a2 a3 b0 b1 b2 b4),AV.fl [.int .i64] (v226_1 ya yb yc a2 a3 b0 b1 b2 b4),AV.fl [.int .i64,.int .i64] (v226_2 ya yb yc a2 a3 b0 b1 b2 b4)],AV.agg [AV.int .i64 (v226_3 ya yb yc a2 a3 b0 b1 b2 b4),AV.int .i64 (v226_4 ya yb yc a2 a3 b0 b1 b2 b4),AV.int .i64 (v226_5 ya yb yc a2 a3 b0 b1 b2 b4)]] [some ⟨false,[.int .i64],(v226_6 ya yb yc a2 a3 b0 b1 b2 b4)⟩,some ⟨false,[.int .i64],(v226_7 ya yb yc a2 a3 b0 b1 b2 b4)⟩,some ⟨false,[.int .i64,.int .i64],(v226_8 ya yb yc a2 a3 b0 b1 b2 b4)⟩,some ⟨true,[],[AV.fl [.int .i64,.int .i64,.int .i64,.int .i64,.int .i64] (v226_9 ya yb yc a2 a3 b0 b1 b2 b4)]⟩,none]:=by
 refine (e226 ya yb yc a2 a3 b0 b1 b2 b4 K).trans ?_
 unfold q226 at h
 unfold v226_0 v226_1 v226_2 v226_3 v226_4 v226_5 v226_6 v226_7 v226_8 v226_9
 generalize runW (R226_0 a2 a3) (2100) (.inl (ya,yb,yc,0,0,0,b0,b1,b2,b4))=o at h ⊢
 cases o with
 | none=>cases h
 | some o =>
  cases o with
  | inl p68 =>
   simp only [ro,sumE] at h ⊢
   exact (brL1 (fun _=>rfl)) h
  | inr p69 =>
   simp only [ro,sumE] at h ⊢
   exact (brL1 (fun _=>rfl)) h
def m226:GModel
 | [.agg [.own g0,.own g1,.own g2],.agg [.int .i64 ya,.int .i64 yb,.int .i64 yc],.int .i64 a2,.int .i64 a3,.ptr g3 g4 g5],[⟨false,g6,b0⟩,⟨false,g7,b1⟩,⟨false,g8,b2⟩,⟨true,[],[.own g9]⟩,⟨false,g10,b4⟩]=>bif nmEq g0 ([1]) && nmEq g1 ([2]) && nmEq g2 ([3]) && nmEq g3 ([4]) && Nat.beq g4 0 && Nat.beq g5 0 && ctsEq g6 ([.int .i64]) && ctsEq g7 ([.int .i64]) && ctsEq g8 ([.int .i64,.int .i64]) && nmEq g9 ([5]) && ctsEq g10 ([.int .i64,.int .i64,.int .i64,.int .i64,.int .i64]) then some (q226 ya yb yc a2 a3 b0 b1 b2 b4,[AV.agg [AV.fl [.int .i64] (v226_0 ya yb yc a2 a3 b0 b1 b2 b4),AV.fl [.int .i64] (v226_1 ya yb yc a2 a3 b0 b1 b2 b4),AV.fl [.int .i64,.int .i64] (v226_2 ya yb yc a2 a3 b0 b1 b2 b4)],AV.agg [AV.int .i64 (v226_3 ya yb yc a2 a3 b0 b1 b2 b4),AV.int .i64 (v226_4 ya yb yc a2 a3 b0 b1 b2 b4),AV.int .i64 (v226_5 ya yb yc a2 a3 b0 b1 b2 b4)]],[some ⟨false,[.int .i64],(v226_6 ya yb yc a2 a3 b0 b1 b2 b4)⟩,some ⟨false,[.int .i64],(v226_7 ya yb yc a2 a3 b0 b1 b2 b4)⟩,some ⟨false,[.int .i64,.int .i64],(v226_8 ya yb yc a2 a3 b0 b1 b2 b4)⟩,some ⟨true,[],[AV.fl [.int .i64,.int .i64,.int .i64,.int .i64,.int .i64] (v226_9 ya yb yc a2 a3 b0 b1 b2 b4)]⟩,none]) else none
 | _,_=>none
theorem k226:Known Tryz.prog 226:=⟨Tryz.f226,Tryz.func226,by kernel_rfl,by kernel_rfl⟩
theorem meets226:MeetsG Tryz.prog 226 m226:=by
 refine mg (rt:=[27,82]) (gs:=[4]) (lvl:=0) (cf:=c226) rfl mixed k226 Tryz.func226 (by kernel_rfl) (loops_cons ok226_0 noLoop) (allT_cons meets21 (allT_cons meets101 (allT_cons meets245 allT_nil))) (allG_cons meets246 allM_nil) noI fun xs bs r bs' h K=>?_
 unfold m226 at h
 split at h
 ·rename_i g0 g1 g2 ya yb yc a2 a3 g3 g4 g5 g6 b0 g7 b1 g8 b2 g9 g10 b4
  obtain ⟨hg,h⟩:=bif_pair h
  simp only [Bool.and_eq_true] at hg
  obtain ⟨⟨⟨⟨⟨⟨⟨⟨⟨⟨q0,q1⟩,q2⟩,q3⟩,q4⟩,q5⟩,q6⟩,q7⟩,q8⟩,q9⟩,q10⟩:=hg
  obtain rfl:=nE q0
  obtain rfl:=nE q1
  obtain rfl:=nE q2
  obtain rfl:=nE q3
  obtain rfl:=bE q4
  obtain rfl:=bE q5
  obtain rfl:=cE q6
  obtain rfl:=cE q7
  obtain rfl:=cE q8
  obtain rfl:=nE q9
  obtain rfl:=cE q10
  obtain ⟨h1,rfl,rfl⟩:=trip_inj h
  exact r226 ya yb yc a2 a3 b0 b1 b2 b4 K h1
 ·cases h
def G227_0 {β:Type} (t0:List AV) (t3:Int) (t4:Int) (N:((Int × Int))→β) (K:(Int)→β) (d:β):β:=(bif decide (t4<(t0.length:Int)) then (bif (decide (0≤t4) && decide (t4<(t0.length:Int))) then N (IntKind.i64.wrap (t3+fI (t0.getD t4.toNat .undef) 4),IntKind.i64.wrap (t4+1))
 else d)
 else K t3)
def F227_0 (t0:List AV) (t3 t4:Int):Out ((Int × Int)) (Int):=G227_0 t0 t3 t4 .next .stop .fail
def R227_0 (t0:List AV):((Int × Int))→Out ((Int × Int)) (Int):=fun s:Int × Int=>F227_0 t0 s.1 s.2
def E227_0 (t0:List AV):((Int × Int))→St:=fun s:Int × Int=>⟨[(0,AV.sl [.int .i64,.int .i64,.int .i64,.int .i64,.int .i64] t0),(3,Ai s.1),(4,Ai s.2)],[]⟩
def K227_0 (t0:List AV) (k:Kont):(Int)→Option AV:=fun p:Int=>k (.exit 0) ⟨[(3,Ai p)],[]⟩
def l227_0:LModel:=fun _ _ st k=>match st with
 | ⟨[(0,.sl g0 t0),(3,.int .i64 t3),(4,.int .i64 t4)],[]⟩=>bif ctsEq g0 ([.int .i64,.int .i64,.int .i64,.int .i64,.int .i64]) then ro (runW (R227_0 t0) (((t0.length:Int) - t4:Int).toNat+1) (t3,t4)) none (K227_0 t0 k) else none
 | _=>none
noncomputable def c227:Cfg:=cfg Tryz.prog [(227,0,[0,3,4]),(227,999,[2]),(227,1000,[3]),(227,1001,[0,3,4])] [] [] [] [(227,0,l227_0)]
theorem s227_0 (t0:List AV) (ce:CallE) (k:Kont) (s:Int × Int) (next:St→Option AV):stepA (codeA c227 ce [] 227 0 (sub [1,1,0,1,0,0] (body Tryz.f227))) (normA [] [0,3,4]) next ((E227_0 t0) s) k=G227_0 t0 s.1 s.2 (fun s=>next ((E227_0 t0) s)) (K227_0 t0 k) none:=by kernel_rfl
theorem st227_0 (t0:List AV) (ce:CallE) (k:Kont) (s:(Int × Int)) (next:St→Option AV):stepA (codeA c227 ce [] 227 0 (sub [1,1,0,1,0,0] (body Tryz.f227))) (normA [] [0,3,4]) next ((E227_0 t0) s) k=(R227_0 t0 s).el none (fun s=>next ((E227_0 t0) s)) (K227_0 t0 k):=(s227_0 t0 ce k s next).trans (by unfold R227_0;unfold F227_0 G227_0;simp only [el_cond,el_ro,el_sum,el_fail,el_next,el_stop] <;> rfl)
theorem ok227_0 {ce:CallE}:LoopOK c227 ce [] 227 0 (sub [1,1,0,1,0,0] (body Tryz.f227)):=by
 intro m hm st k r h
 obtain rfl:l227_0=m:=Option.some.inj hm
 unfold l227_0 at h
 split at h
 ·rename_i g0 t0 t3 t4
  obtain ⟨hg,h⟩:=bif_some h
  have q0:=hg
  obtain rfl:=cE q0
  refine ⟨(((t0.length:Int) - t4:Int).toNat+1),?_⟩
  rw [← h]
  exact loop_run (E227_0 t0) (K227_0 t0 k) (st227_0 t0 ce k) _ (t3,t4)
 ·cases h
def q227 (a0:List AV):Bool:=(ro (runW (R227_0 a0) (((a0.length:Int) - 0:Int).toNat+1) (0,0)) false (fun p70=>true))
def v227_0 (a0:List AV):Int:=(ro (runW (R227_0 a0) (((a0.length:Int) - 0:Int).toNat+1) (0,0)) 0 (fun p70=>p70))
theorem e227 (a0:List AV):funA c227 0 227 [AV.sl [.int .i64,.int .i64,.int .i64,.int .i64,.int .i64] a0]=(ro (runW (R227_0 a0) (((a0.length:Int) - 0:Int).toNat+1) (0,0)) none (fun p70=>some (Ai p70))):=by kernel_rfl
def m227:TModel
 | [.sl g0 a0]=>bif ctsEq g0 ([.int .i64,.int .i64,.int .i64,.int .i64,.int .i64]) then some (q227 a0,AV.int .i64 (v227_0 a0)) else none
 | _=>none
theorem k227:Known Tryz.prog 227:=⟨Tryz.f227,Tryz.func227,by kernel_rfl,by kernel_rfl⟩
theorem meets227:Meets Tryz.prog 227 m227:=by
 refine mt (lvl:=0) (cf:=c227) rfl mixed k227 Tryz.func227 (by kernel_rfl) (loops_cons ok227_0 noLoop) allT_nil allM_nil noI fun xs r h=>?_
 unfold m227 at h
 split at h
 ·rename_i g0 a0
  obtain ⟨hg,h⟩:=bif_pair h
  have q0:=hg
  obtain rfl:=cE q0
  obtain ⟨h1,rfl⟩:=pair_inj h
  exact (e227 a0).trans ((brO (fun o:Option (Int)=>some (Ai (ro o 0 (fun p70=>p70)))) (fun p70=>(fun _=>rfl))) h1)
 ·cases h
noncomputable def c204:Cfg:=cfg Tryz.prog [(204,999,[6,7,8])] [(71,m71),(72,m72),(126,m126),(138,m138),(227,m227)] [(226,.g m226)] [] []
def q204 (xa xb xc:List AV) (ya yb yc a2:Int):Bool:=(q71 xa xb xc && (bif !(v71_0 xa xb xc) then q138 xa xb xc else (bif !(v126_0 ya yb yc) then q138 xa xb xc else (bif !(v72_0 a2 (-1000) 1000) then q138 xa xb xc else (q138 xa xb xc && (q226 ya yb yc a2 0 (v138_0 xa xb xc) (v138_1 xa xb xc) (v138_2 xa xb xc) ([]:List AV) && q227 (v226_9 ya yb yc a2 0 (v138_0 xa xb xc) (v138_1 xa xb xc) (v138_2 xa xb xc) ([]:List AV))))))))
def v204_0 (xa xb xc:List AV) (ya yb yc a2:Int):List AV:=(bif !(v71_0 xa xb xc) then (v138_0 xa xb xc) else (bif !(v126_0 ya yb yc) then (v138_0 xa xb xc) else (bif !(v72_0 a2 (-1000) 1000) then (v138_0 xa xb xc) else (v226_0 ya yb yc a2 0 (v138_0 xa xb xc) (v138_1 xa xb xc) (v138_2 xa xb xc) ([]:List AV)))))
def v204_1 (xa xb xc:List AV) (ya yb yc a2:Int):List AV:=(bif !(v71_0 xa xb xc) then (v138_1 xa xb xc) else (bif !(v126_0 ya yb yc) then (v138_1 xa xb xc) else (bif !(v72_0 a2 (-1000) 1000) then (v138_1 xa xb xc) else (v226_1 ya yb yc a2 0 (v138_0 xa xb xc) (v138_1 xa xb xc) (v138_2 xa xb xc) ([]:List AV)))))
def v204_2 (xa xb xc:List AV) (ya yb yc a2:Int):List AV:=(bif !(v71_0 xa xb xc) then (v138_2 xa xb xc) else (bif !(v126_0 ya yb yc) then (v138_2 xa xb xc) else (bif !(v72_0 a2 (-1000) 1000) then (v138_2 xa xb xc) else (v226_2 ya yb yc a2 0 (v138_0 xa xb xc) (v138_1 xa xb xc) (v138_2 xa xb xc) ([]:List AV)))))
def v204_3 (xa xb xc:List AV) (ya yb yc a2:Int):Int:=(bif !(v71_0 xa xb xc) then ya else (bif !(v126_0 ya yb yc) then ya else (bif !(v72_0 a2 (-1000) 1000) then ya else (v226_3 ya yb yc a2 0 (v138_0 xa xb xc) (v138_1 xa xb xc) (v138_2 xa xb xc) ([]:List AV)))))
def v204_4 (xa xb xc:List AV) (ya yb yc a2:Int):Int:=(bif !(v71_0 xa xb xc) then yb else (bif !(v126_0 ya yb yc) then yb else (bif !(v72_0 a2 (-1000) 1000) then yb else (v226_4 ya yb yc a2 0 (v138_0 xa xb xc) (v138_1 xa xb xc) (v138_2 xa xb xc) ([]:List AV)))))
def v204_5 (xa xb xc:List AV) (ya yb yc a2:Int):Int:=(bif !(v71_0 xa xb xc) then yc else (bif !(v126_0 ya yb yc) then yc else (bif !(v72_0 a2 (-1000) 1000) then yc else (v226_5 ya yb yc a2 0 (v138_0 xa xb xc) (v138_1 xa xb xc) (v138_2 xa xb xc) ([]:List AV)))))
def v204_6 (xa xb xc:List AV) (ya yb yc a2:Int):Int:=(bif !(v71_0 xa xb xc) then 0 else (bif !(v126_0 ya yb yc) then 0 else (bif !(v72_0 a2 (-1000) 1000) then 0 else (v227_0 (v226_9 ya yb yc a2 0 (v138_0 xa xb xc) (v138_1 xa xb xc) (v138_2 xa xb xc) ([]:List AV))))))
theorem e204 (xa xb xc:List AV) (ya yb yc a2:Int):funA c204 0 204 [AV.agg [AV.sl [.int .i64] xa,AV.sl [.int .i64] xb,AV.sl [.int .i64,.int .i64] xc],AV.agg [Ai ya,Ai yb,Ai yc],Ai a2]=((fun (x1:List AV) (x2:List AV) (x3:List AV)=>(bif q71 xa xb xc then (bif !(v71_0 xa xb xc) then (bif q138 xa xb xc then some (AV.tup [AV.agg [AV.fl [.int .i64] x1,AV.fl [.int .i64] x2,AV.fl [.int .i64,.int .i64] x3],AV.agg [Ai ya,Ai yb,Ai yc],Ai 0])
 else none)
 else (bif !(v126_0 ya yb yc) then (bif q138 xa xb xc then some (AV.tup [AV.agg [AV.fl [.int .i64] x1,AV.fl [.int .i64] x2,AV.fl [.int .i64,.int .i64] x3],AV.agg [Ai ya,Ai yb,Ai yc],Ai 0])
 else none)
 else (bif !(v72_0 a2 (-1000) 1000) then (bif q138 xa xb xc then some (AV.tup [AV.agg [AV.fl [.int .i64] x1,AV.fl [.int .i64] x2,AV.fl [.int .i64,.int .i64] x3],AV.agg [Ai ya,Ai yb,Ai yc],Ai 0])
 else none)
 else (bif q138 xa xb xc then (bif q226 ya yb yc a2 0 x1 x2 x3 ([]:List AV) then (bif q227 (v226_9 ya yb yc a2 0 x1 x2 x3 ([]:List AV)) then some (AV.tup [AV.agg [AV.fl [.int .i64] (v226_0 ya yb yc a2 0 x1 x2 x3 ([]:List AV)),AV.fl [.int .i64] (v226_1 ya yb yc a2 0 x1 x2 x3 ([]:List AV)),AV.fl [.int .i64,.int .i64] (v226_2 ya yb yc a2 0 x1 x2 x3 ([]:List AV))],AV.agg [Ai (v226_3 ya yb yc a2 0 x1 x2 x3 ([]:List AV)),Ai (v226_4 ya yb yc a2 0 x1 x2 x3 ([]:List AV)),Ai (v226_5 ya yb yc a2 0 x1 x2 x3 ([]:List AV))],Ai (v227_0 (v226_9 ya yb yc a2 0 x1 x2 x3 ([]:List AV)))])
 else none)
 else none)
 else none))))
 else none)) (v138_0 xa xb xc) (v138_1 xa xb xc) (v138_2 xa xb xc)):=by kernel_rfl
theorem r204 (xa xb xc:List AV) (ya yb yc a2:Int) (h:q204 xa xb xc ya yb yc a2=true):funA c204 0 204 [AV.agg [AV.sl [.int .i64] xa,AV.sl [.int .i64] xb,AV.sl [.int .i64,.int .i64] xc],AV.agg [AV.int .i64 ya,AV.int .i64 yb,AV.int .i64 yc],AV.int .i64 a2]=some (AV.tup [AV.agg [AV.fl [.int .i64] (v204_0 xa xb xc ya yb yc a2),AV.fl [.int .i64] (v204_1 xa xb xc ya yb yc a2),AV.fl [.int .i64,.int .i64] (v204_2 xa xb xc ya yb yc a2)],AV.agg [AV.int .i64 (v204_3 xa xb xc ya yb yc a2),AV.int .i64 (v204_4 xa xb xc ya yb yc a2),AV.int .i64 (v204_5 xa xb xc ya yb yc a2)],AV.int .i64 (v204_6 xa xb xc ya yb yc a2)]):=by
 refine (e204 xa xb xc ya yb yc a2).trans ?_
 unfold q204 at h
 unfold v204_0 v204_1 v204_2 v204_3 v204_4 v204_5 v204_6
 refine ifG (fun hc=>?_) (fun hc=>?_) <;> first|rw [hc] at h ⊢|rw [hc] at h|rw [hc]|skip
 ·refine ifG (fun hc=>?_) (fun hc=>?_) <;> first|rw [hc] at h ⊢|rw [hc] at h|rw [hc]|skip
  ·refine ifG (fun hc=>?_) (fun hc=>?_) <;> first|rw [hc] at h ⊢|rw [hc] at h|rw [hc]|skip
   ·rfl
   ·first|exact Bool.noConfusion h|exact Bool.noConfusion hc
  ·refine ifG (fun hc=>?_) (fun hc=>?_) <;> first|rw [hc] at h ⊢|rw [hc] at h|rw [hc]|skip
   ·refine ifG (fun hc=>?_) (fun hc=>?_) <;> first|rw [hc] at h ⊢|rw [hc] at h|rw [hc]|skip
    ·rfl
    ·first|exact Bool.noConfusion h|exact Bool.noConfusion hc
   ·refine ifG (fun hc=>?_) (fun hc=>?_) <;> first|rw [hc] at h ⊢|rw [hc] at h|rw [hc]|skip
    ·refine ifG (fun hc=>?_) (fun hc=>?_) <;> first|rw [hc] at h ⊢|rw [hc] at h|rw [hc]|skip
     ·rfl
     ·first|exact Bool.noConfusion h|exact Bool.noConfusion hc
    ·refine ifG (fun hc=>?_) (fun hc=>?_) <;> first|rw [hc] at h ⊢|rw [hc] at h|rw [hc]|skip
     ·refine ifG (fun hc=>?_) (fun hc=>?_) <;> first|rw [hc] at h ⊢|rw [hc] at h|rw [hc]|skip
      ·refine ifG (fun hc=>?_) (fun hc=>?_) <;> first|rw [hc] at h ⊢|rw [hc] at h|rw [hc]|skip
       ·rfl
       ·first|exact Bool.noConfusion h|exact Bool.noConfusion hc
      ·first|exact Bool.noConfusion h|exact Bool.noConfusion hc
     ·first|exact Bool.noConfusion h|exact Bool.noConfusion hc
 ·first|exact Bool.noConfusion h|exact Bool.noConfusion hc
def m204:TModel
 | [.agg [.sl g0 xa,.sl g1 xb,.sl g2 xc],.agg [.int .i64 ya,.int .i64 yb,.int .i64 yc],.int .i64 a2]=>bif ctsEq g0 ([.int .i64]) && ctsEq g1 ([.int .i64]) && ctsEq g2 ([.int .i64,.int .i64]) then some (q204 xa xb xc ya yb yc a2,AV.tup [AV.agg [AV.fl [.int .i64] (v204_0 xa xb xc ya yb yc a2),AV.fl [.int .i64] (v204_1 xa xb xc ya yb yc a2),AV.fl [.int .i64,.int .i64] (v204_2 xa xb xc ya yb yc a2)],AV.agg [AV.int .i64 (v204_3 xa xb xc ya yb yc a2),AV.int .i64 (v204_4 xa xb xc ya yb yc a2),AV.int .i64 (v204_5 xa xb xc ya yb yc a2)],AV.int .i64 (v204_6 xa xb xc ya yb yc a2)]) else none
 | _=>none
theorem k204:Known Tryz.prog 204:=⟨Tryz.f204,Tryz.func204,by kernel_rfl,by kernel_rfl⟩
theorem meets204:Meets Tryz.prog 204 m204:=by
 refine mt (lvl:=0) (cf:=c204) rfl mixed k204 Tryz.func204 (by kernel_rfl) noLoop (allT_cons meets71 (allT_cons meets72 (allT_cons meets126 (allT_cons meets138 (allT_cons meets227 allT_nil))))) (allG_cons meets226 allM_nil) noI fun xs r h=>?_
 unfold m204 at h
 split at h
 ·rename_i g0 xa g1 xb g2 xc ya yb yc a2
  obtain ⟨hg,h⟩:=bif_pair h
  simp only [Bool.and_eq_true] at hg
  obtain ⟨⟨q0,q1⟩,q2⟩:=hg
  obtain rfl:=cE q0
  obtain rfl:=cE q1
  obtain rfl:=cE q2
  obtain ⟨h1,rfl⟩:=pair_inj h
  exact r204 xa xb xc ya yb yc a2 h1
 ·cases h
noncomputable def c205:Cfg:=cfg Tryz.prog [(205,999,[6])] [(71,m71),(72,m72),(77,m77)] [] [] []
def q205 (xa xb xc:List AV) (a1 a2:Int):Bool:=(q71 xa xb xc && (bif !(v71_0 xa xb xc) then true else (bif !(v72_0 a1 0 a2) then true else (bif decide (a2 > (xb.length:Int)) then true else ((decide (0≤a1) && decide (a1≤a2) && decide (a2≤(xb.length:Int))) && q77 ((xb.take (Int.toNat a2)).drop (Int.toNat a1)))))))
def v205_0 (xa xb xc:List AV) (a1 a2:Int):List AV:=(bif !(v71_0 xa xb xc) then ([]:List AV) else (bif !(v72_0 a1 0 a2) then ([]:List AV) else (bif decide (a2 > (xb.length:Int)) then ([]:List AV) else (v77_0 ((xb.take (Int.toNat a2)).drop (Int.toNat a1))))))
theorem e205 (xa xb xc:List AV) (a1 a2:Int):funA c205 0 205 [AV.agg [AV.sl [.int .i64] xa,AV.sl [.int .i64] xb,AV.sl [.int .i64,.int .i64] xc],Ai a1,Ai a2]=(bif q71 xa xb xc then (bif !(v71_0 xa xb xc) then some (AV.fl [.int .i64] ([]:List AV))
 else (bif !(v72_0 a1 0 a2) then some (AV.fl [.int .i64] ([]:List AV))
 else (bif decide (a2 > (xb.length:Int)) then some (AV.fl [.int .i64] ([]:List AV))
 else (bif (decide (0≤a1) && decide (a1≤a2) && decide (a2≤(xb.length:Int))) then (bif q77 ((xb.take (Int.toNat a2)).drop (Int.toNat a1)) then some (AV.fl [.int .i64] (v77_0 ((xb.take (Int.toNat a2)).drop (Int.toNat a1))))
 else none)
 else none))))
 else none):=by kernel_rfl
def m205:TModel
 | [.agg [.sl g0 xa,.sl g1 xb,.sl g2 xc],.int .i64 a1,.int .i64 a2]=>bif ctsEq g0 ([.int .i64]) && ctsEq g1 ([.int .i64]) && ctsEq g2 ([.int .i64,.int .i64]) then some (q205 xa xb xc a1 a2,AV.fl [.int .i64] (v205_0 xa xb xc a1 a2)) else none
 | _=>none
theorem k205:Known Tryz.prog 205:=⟨Tryz.f205,Tryz.func205,by kernel_rfl,by kernel_rfl⟩
theorem meets205:Meets Tryz.prog 205 m205:=by
 refine mt (lvl:=0) (cf:=c205) rfl mixed k205 Tryz.func205 (by kernel_rfl) noLoop (allT_cons meets71 (allT_cons meets72 (allT_cons meets77 allT_nil))) allM_nil noI fun xs r h=>?_
 unfold m205 at h
 split at h
 ·rename_i g0 xa g1 xb g2 xc a1 a2
  obtain ⟨hg,h⟩:=bif_pair h
  simp only [Bool.and_eq_true] at hg
  obtain ⟨⟨q0,q1⟩,q2⟩:=hg
  obtain rfl:=cE q0
  obtain rfl:=cE q1
  obtain rfl:=cE q2
  obtain ⟨h1,rfl⟩:=pair_inj h
  exact (e205 xa xb xc a1 a2).trans ((brL (br (fun b=>some (AV.fl [.int .i64] (bif b then ([]:List AV) else (bif !(v72_0 a1 0 a2) then ([]:List AV) else (bif decide (a2 > (xb.length:Int)) then ([]:List AV) else (v77_0 ((xb.take (Int.toNat a2)).drop (Int.toNat a1)))))))) (fun _=>rfl) (br (fun b=>some (AV.fl [.int .i64] (bif b then ([]:List AV) else (bif decide (a2 > (xb.length:Int)) then ([]:List AV) else (v77_0 ((xb.take (Int.toNat a2)).drop (Int.toNat a1))))))) (fun _=>rfl) (br (fun b=>some (AV.fl [.int .i64] (bif b then ([]:List AV) else (v77_0 ((xb.take (Int.toNat a2)).drop (Int.toNat a1)))))) (fun _=>rfl) (brL (brL1 (fun _=>rfl))))))) h1)
 ·cases h
noncomputable def c179:Cfg:=cfg Tryz.prog [(179,999,[6,7,8,9])] [(21,m21),(71,m71),(126,m126),(138,m138),(178,m178),(204,m204),(205,m205)] [] [] []
def q179 (xa xb xc:List AV) (ya yb yc za zb:Int):Bool:=(q71 xa xb xc && (bif !(v71_0 xa xb xc) then q138 xa xb xc else (bif !(v126_0 ya yb yc) then q138 xa xb xc else (bif !(v178_0 za zb) then q138 xa xb xc else (q204 xa xb xc ya yb yc za && (q204 (v204_0 xa xb xc ya yb yc za) (v204_1 xa xb xc ya yb yc za) (v204_2 xa xb xc ya yb yc za) (v204_3 xa xb xc ya yb yc za) (v204_4 xa xb xc ya yb yc za) (v204_5 xa xb xc ya yb yc za) zb && (q21 (v204_0 (v204_0 xa xb xc ya yb yc za) (v204_1 xa xb xc ya yb yc za) (v204_2 xa xb xc ya yb yc za) (v204_3 xa xb xc ya yb yc za) (v204_4 xa xb xc ya yb yc za) (v204_5 xa xb xc ya yb yc za) zb) (v204_1 (v204_0 xa xb xc ya yb yc za) (v204_1 xa xb xc ya yb yc za) (v204_2 xa xb xc ya yb yc za) (v204_3 xa xb xc ya yb yc za) (v204_4 xa xb xc ya yb yc za) (v204_5 xa xb xc ya yb yc za) zb) (v204_2 (v204_0 xa xb xc ya yb yc za) (v204_1 xa xb xc ya yb yc za) (v204_2 xa xb xc ya yb yc za) (v204_3 xa xb xc ya yb yc za) (v204_4 xa xb xc ya yb yc za) (v204_5 xa xb xc ya yb yc za) zb) za && (q21 (v204_0 (v204_0 xa xb xc ya yb yc za) (v204_1 xa xb xc ya yb yc za) (v204_2 xa xb xc ya yb yc za) (v204_3 xa xb xc ya yb yc za) (v204_4 xa xb xc ya yb yc za) (v204_5 xa xb xc ya yb yc za) zb) (v204_1 (v204_0 xa xb xc ya yb yc za) (v204_1 xa xb xc ya yb yc za) (v204_2 xa xb xc ya yb yc za) (v204_3 xa xb xc ya yb yc za) (v204_4 xa xb xc ya yb yc za) (v204_5 xa xb xc ya yb yc za) zb) (v204_2 (v204_0 xa xb xc ya yb yc za) (v204_1 xa xb xc ya yb yc za) (v204_2 xa xb xc ya yb yc za) (v204_3 xa xb xc ya yb yc za) (v204_4 xa xb xc ya yb yc za) (v204_5 xa xb xc ya yb yc za) zb) zb && q205 (v204_0 (v204_0 xa xb xc ya yb yc za) (v204_1 xa xb xc ya yb yc za) (v204_2 xa xb xc ya yb yc za) (v204_3 xa xb xc ya yb yc za) (v204_4 xa xb xc ya yb yc za) (v204_5 xa xb xc ya yb yc za) zb) (v204_1 (v204_0 xa xb xc ya yb yc za) (v204_1 xa xb xc ya yb yc za) (v204_2 xa xb xc ya yb yc za) (v204_3 xa xb xc ya yb yc za) (v204_4 xa xb xc ya yb yc za) (v204_5 xa xb xc ya yb yc za) zb) (v204_2 (v204_0 xa xb xc ya yb yc za) (v204_1 xa xb xc ya yb yc za) (v204_2 xa xb xc ya yb yc za) (v204_3 xa xb xc ya yb yc za) (v204_4 xa xb xc ya yb yc za) (v204_5 xa xb xc ya yb yc za) zb) (v21_0 (v204_0 (v204_0 xa xb xc ya yb yc za) (v204_1 xa xb xc ya yb yc za) (v204_2 xa xb xc ya yb yc za) (v204_3 xa xb xc ya yb yc za) (v204_4 xa xb xc ya yb yc za) (v204_5 xa xb xc ya yb yc za) zb) (v204_1 (v204_0 xa xb xc ya yb yc za) (v204_1 xa xb xc ya yb yc za) (v204_2 xa xb xc ya yb yc za) (v204_3 xa xb xc ya yb yc za) (v204_4 xa xb xc ya yb yc za) (v204_5 xa xb xc ya yb yc za) zb) (v204_2 (v204_0 xa xb xc ya yb yc za) (v204_1 xa xb xc ya yb yc za) (v204_2 xa xb xc ya yb yc za) (v204_3 xa xb xc ya yb yc za) (v204_4 xa xb xc ya yb yc za) (v204_5 xa xb xc ya yb yc za) zb) za) (v21_0 (v204_0 (v204_0 xa xb xc ya yb yc za) (v204_1 xa xb xc ya yb yc za) (v204_2 xa xb xc ya yb yc za) (v204_3 xa xb xc ya yb yc za) (v204_4 xa xb xc ya yb yc za) (v204_5 xa xb xc ya yb yc za) zb) (v204_1 (v204_0 xa xb xc ya yb yc za) (v204_1 xa xb xc ya yb yc za) (v204_2 xa xb xc ya yb yc za) (v204_3 xa xb xc ya yb yc za) (v204_4 xa xb xc ya yb yc za) (v204_5 xa xb xc ya yb yc za) zb) (v204_2 (v204_0 xa xb xc ya yb yc za) (v204_1 xa xb xc ya yb yc za) (v204_2 xa xb xc ya yb yc za) (v204_3 xa xb xc ya yb yc za) (v204_4 xa xb xc ya yb yc za) (v204_5 xa xb xc ya yb yc za) zb) zb)))))))))
def v179_0 (xa xb xc:List AV) (ya yb yc za zb:Int):List AV:=(bif !(v71_0 xa xb xc) then (v138_0 xa xb xc) else (bif !(v126_0 ya yb yc) then (v138_0 xa xb xc) else (bif !(v178_0 za zb) then (v138_0 xa xb xc) else (v204_0 (v204_0 xa xb xc ya yb yc za) (v204_1 xa xb xc ya yb yc za) (v204_2 xa xb xc ya yb yc za) (v204_3 xa xb xc ya yb yc za) (v204_4 xa xb xc ya yb yc za) (v204_5 xa xb xc ya yb yc za) zb))))
def v179_1 (xa xb xc:List AV) (ya yb yc za zb:Int):List AV:=(bif !(v71_0 xa xb xc) then (v138_1 xa xb xc) else (bif !(v126_0 ya yb yc) then (v138_1 xa xb xc) else (bif !(v178_0 za zb) then (v138_1 xa xb xc) else (v204_1 (v204_0 xa xb xc ya yb yc za) (v204_1 xa xb xc ya yb yc za) (v204_2 xa xb xc ya yb yc za) (v204_3 xa xb xc ya yb yc za) (v204_4 xa xb xc ya yb yc za) (v204_5 xa xb xc ya yb yc za) zb))))
def v179_2 (xa xb xc:List AV) (ya yb yc za zb:Int):List AV:=(bif !(v71_0 xa xb xc) then (v138_2 xa xb xc) else (bif !(v126_0 ya yb yc) then (v138_2 xa xb xc) else (bif !(v178_0 za zb) then (v138_2 xa xb xc) else (v204_2 (v204_0 xa xb xc ya yb yc za) (v204_1 xa xb xc ya yb yc za) (v204_2 xa xb xc ya yb yc za) (v204_3 xa xb xc ya yb yc za) (v204_4 xa xb xc ya yb yc za) (v204_5 xa xb xc ya yb yc za) zb))))
def v179_3 (xa xb xc:List AV) (ya yb yc za zb:Int):Int:=(bif !(v71_0 xa xb xc) then ya else (bif !(v126_0 ya yb yc) then ya else (bif !(v178_0 za zb) then ya else (v204_3 (v204_0 xa xb xc ya yb yc za) (v204_1 xa xb xc ya yb yc za) (v204_2 xa xb xc ya yb yc za) (v204_3 xa xb xc ya yb yc za) (v204_4 xa xb xc ya yb yc za) (v204_5 xa xb xc ya yb yc za) zb))))
def v179_4 (xa xb xc:List AV) (ya yb yc za zb:Int):Int:=(bif !(v71_0 xa xb xc) then yb else (bif !(v126_0 ya yb yc) then yb else (bif !(v178_0 za zb) then yb else (v204_4 (v204_0 xa xb xc ya yb yc za) (v204_1 xa xb xc ya yb yc za) (v204_2 xa xb xc ya yb yc za) (v204_3 xa xb xc ya yb yc za) (v204_4 xa xb xc ya yb yc za) (v204_5 xa xb xc ya yb yc za) zb))))
def v179_5 (xa xb xc:List AV) (ya yb yc za zb:Int):Int:=(bif !(v71_0 xa xb xc) then yc else (bif !(v126_0 ya yb yc) then yc else (bif !(v178_0 za zb) then yc else (v204_5 (v204_0 xa xb xc ya yb yc za) (v204_1 xa xb xc ya yb yc za) (v204_2 xa xb xc ya yb yc za) (v204_3 xa xb xc ya yb yc za) (v204_4 xa xb xc ya yb yc za) (v204_5 xa xb xc ya yb yc za) zb))))
def v179_6 (xa xb xc:List AV) (ya yb yc za zb:Int):List AV:=(bif !(v71_0 xa xb xc) then ([]:List AV) else (bif !(v126_0 ya yb yc) then ([]:List AV) else (bif !(v178_0 za zb) then ([]:List AV) else (v205_0 (v204_0 (v204_0 xa xb xc ya yb yc za) (v204_1 xa xb xc ya yb yc za) (v204_2 xa xb xc ya yb yc za) (v204_3 xa xb xc ya yb yc za) (v204_4 xa xb xc ya yb yc za) (v204_5 xa xb xc ya yb yc za) zb) (v204_1 (v204_0 xa xb xc ya yb yc za) (v204_1 xa xb xc ya yb yc za) (v204_2 xa xb xc ya yb yc za) (v204_3 xa xb xc ya yb yc za) (v204_4 xa xb xc ya yb yc za) (v204_5 xa xb xc ya yb yc za) zb) (v204_2 (v204_0 xa xb xc ya yb yc za) (v204_1 xa xb xc ya yb yc za) (v204_2 xa xb xc ya yb yc za) (v204_3 xa xb xc ya yb yc za) (v204_4 xa xb xc ya yb yc za) (v204_5 xa xb xc ya yb yc za) zb) (v21_0 (v204_0 (v204_0 xa xb xc ya yb yc za) (v204_1 xa xb xc ya yb yc za) (v204_2 xa xb xc ya yb yc za) (v204_3 xa xb xc ya yb yc za) (v204_4 xa xb xc ya yb yc za) (v204_5 xa xb xc ya yb yc za) zb) (v204_1 (v204_0 xa xb xc ya yb yc za) (v204_1 xa xb xc ya yb yc za) (v204_2 xa xb xc ya yb yc za) (v204_3 xa xb xc ya yb yc za) (v204_4 xa xb xc ya yb yc za) (v204_5 xa xb xc ya yb yc za) zb) (v204_2 (v204_0 xa xb xc ya yb yc za) (v204_1 xa xb xc ya yb yc za) (v204_2 xa xb xc ya yb yc za) (v204_3 xa xb xc ya yb yc za) (v204_4 xa xb xc ya yb yc za) (v204_5 xa xb xc ya yb yc za) zb) za) (v21_0 (v204_0 (v204_0 xa xb xc ya yb yc za) (v204_1 xa xb xc ya yb yc za) (v204_2 xa xb xc ya yb yc za) (v204_3 xa xb xc ya yb yc za) (v204_4 xa xb xc ya yb yc za) (v204_5 xa xb xc ya yb yc za) zb) (v204_1 (v204_0 xa xb xc ya yb yc za) (v204_1 xa xb xc ya yb yc za) (v204_2 xa xb xc ya yb yc za) (v204_3 xa xb xc ya yb yc za) (v204_4 xa xb xc ya yb yc za) (v204_5 xa xb xc ya yb yc za) zb) (v204_2 (v204_0 xa xb xc ya yb yc za) (v204_1 xa xb xc ya yb yc za) (v204_2 xa xb xc ya yb yc za) (v204_3 xa xb xc ya yb yc za) (v204_4 xa xb xc ya yb yc za) (v204_5 xa xb xc ya yb yc za) zb) zb)))))
def v179_7 (xa xb xc:List AV) (ya yb yc za zb:Int):Int:=(bif !(v71_0 xa xb xc) then 0 else (bif !(v126_0 ya yb yc) then 0 else (bif !(v178_0 za zb) then 0 else IntKind.i64.wrap ((v204_6 xa xb xc ya yb yc za)+(v204_6 (v204_0 xa xb xc ya yb yc za) (v204_1 xa xb xc ya yb yc za) (v204_2 xa xb xc ya yb yc za) (v204_3 xa xb xc ya yb yc za) (v204_4 xa xb xc ya yb yc za) (v204_5 xa xb xc ya yb yc za) zb)))))
theorem e179 (xa xb xc:List AV) (ya yb yc za zb:Int):funA c179 0 179 [AV.agg [AV.sl [.int .i64] xa,AV.sl [.int .i64] xb,AV.sl [.int .i64,.int .i64] xc],AV.agg [Ai ya,Ai yb,Ai yc],AV.agg [Ai za,Ai zb]]=((fun (x1:List AV) (x2:List AV) (x3:List AV) (x4:Int) (x5:Int) (x6:Int) (x7:Int)=>((fun (x8:List AV) (x9:List AV) (x10:List AV) (x11:Int) (x12:Int) (x13:Int) (x14:Int)=>(bif q71 xa xb xc then (bif !(v71_0 xa xb xc) then (bif q138 xa xb xc then some (AV.tup [AV.agg [AV.fl [.int .i64] (v138_0 xa xb xc),AV.fl [.int .i64] (v138_1 xa xb xc),AV.fl [.int .i64,.int .i64] (v138_2 xa xb xc)],AV.agg [Ai ya,Ai yb,Ai yc],AV.fl [.int .i64] ([]:List AV),Ai 0])
 else none)
 else (bif !(v126_0 ya yb yc) then (bif q138 xa xb xc then some (AV.tup [AV.agg [AV.fl [.int .i64] (v138_0 xa xb xc),AV.fl [.int .i64] (v138_1 xa xb xc),AV.fl [.int .i64,.int .i64] (v138_2 xa xb xc)],AV.agg [Ai ya,Ai yb,Ai yc],AV.fl [.int .i64] ([]:List AV),Ai 0])
 else none)
 else (bif !(v178_0 za zb) then (bif q138 xa xb xc then some (AV.tup [AV.agg [AV.fl [.int .i64] (v138_0 xa xb xc),AV.fl [.int .i64] (v138_1 xa xb xc),AV.fl [.int .i64,.int .i64] (v138_2 xa xb xc)],AV.agg [Ai ya,Ai yb,Ai yc],AV.fl [.int .i64] ([]:List AV),Ai 0])
 else none)
 else (bif q204 xa xb xc ya yb yc za then (bif q204 x1 x2 x3 x4 x5 x6 zb then (bif q21 x8 x9 x10 za then (bif q21 x8 x9 x10 zb then (bif q205 x8 x9 x10 (v21_0 x8 x9 x10 za) (v21_0 x8 x9 x10 zb) then some (AV.tup [AV.agg [AV.fl [.int .i64] x8,AV.fl [.int .i64] x9,AV.fl [.int .i64,.int .i64] x10],AV.agg [Ai x11,Ai x12,Ai x13],AV.fl [.int .i64] (v205_0 x8 x9 x10 (v21_0 x8 x9 x10 za) (v21_0 x8 x9 x10 zb)),Ai (IntKind.i64.wrap (x7+x14))])
 else none)
 else none)
 else none)
 else none)
 else none))))
 else none)) (v204_0 x1 x2 x3 x4 x5 x6 zb) (v204_1 x1 x2 x3 x4 x5 x6 zb) (v204_2 x1 x2 x3 x4 x5 x6 zb) (v204_3 x1 x2 x3 x4 x5 x6 zb) (v204_4 x1 x2 x3 x4 x5 x6 zb) (v204_5 x1 x2 x3 x4 x5 x6 zb) (v204_6 x1 x2 x3 x4 x5 x6 zb))) (v204_0 xa xb xc ya yb yc za) (v204_1 xa xb xc ya yb yc za) (v204_2 xa xb xc ya yb yc za) (v204_3 xa xb xc ya yb yc za) (v204_4 xa xb xc ya yb yc za) (v204_5 xa xb xc ya yb yc za) (v204_6 xa xb xc ya yb yc za)):=by kernel_rfl
theorem r179 (xa xb xc:List AV) (ya yb yc za zb:Int) (h:q179 xa xb xc ya yb yc za zb=true):funA c179 0 179 [AV.agg [AV.sl [.int .i64] xa,AV.sl [.int .i64] xb,AV.sl [.int .i64,.int .i64] xc],AV.agg [AV.int .i64 ya,AV.int .i64 yb,AV.int .i64 yc],AV.agg [AV.int .i64 za,AV.int .i64 zb]]=some (AV.tup [AV.agg [AV.fl [.int .i64] (v179_0 xa xb xc ya yb yc za zb),AV.fl [.int .i64] (v179_1 xa xb xc ya yb yc za zb),AV.fl [.int .i64,.int .i64] (v179_2 xa xb xc ya yb yc za zb)],AV.agg [AV.int .i64 (v179_3 xa xb xc ya yb yc za zb),AV.int .i64 (v179_4 xa xb xc ya yb yc za zb),AV.int .i64 (v179_5 xa xb xc ya yb yc za zb)],AV.fl [.int .i64] (v179_6 xa xb xc ya yb yc za zb),AV.int .i64 (v179_7 xa xb xc ya yb yc za zb)]):=by
 refine (e179 xa xb xc ya yb yc za zb).trans ?_
 unfold q179 at h
 unfold v179_0 v179_1 v179_2 v179_3 v179_4 v179_5 v179_6 v179_7
 refine ifG (fun hc=>?_) (fun hc=>?_) <;> first|rw [hc] at h ⊢|rw [hc] at h|rw [hc]|skip
 ·refine ifG (fun hc=>?_) (fun hc=>?_) <;> first|rw [hc] at h ⊢|rw [hc] at h|rw [hc]|skip
  ·refine ifG (fun hc=>?_) (fun hc=>?_) <;> first|rw [hc] at h ⊢|rw [hc] at h|rw [hc]|skip
   ·rfl
   ·first|exact Bool.noConfusion h|exact Bool.noConfusion hc
  ·refine ifG (fun hc=>?_) (fun hc=>?_) <;> first|rw [hc] at h ⊢|rw [hc] at h|rw [hc]|skip
   ·refine ifG (fun hc=>?_) (fun hc=>?_) <;> first|rw [hc] at h ⊢|rw [hc] at h|rw [hc]|skip
    ·rfl
    ·first|exact Bool.noConfusion h|exact Bool.noConfusion hc
   ·refine ifG (fun hc=>?_) (fun hc=>?_) <;> first|rw [hc] at h ⊢|rw [hc] at h|rw [hc]|skip
    ·refine ifG (fun hc=>?_) (fun hc=>?_) <;> first|rw [hc] at h ⊢|rw [hc] at h|rw [hc]|skip
     ·rfl
     ·first|exact Bool.noConfusion h|exact Bool.noConfusion hc
    ·refine ifG (fun hc=>?_) (fun hc=>?_) <;> first|rw [hc] at h ⊢|rw [hc] at h|rw [hc]|skip
     ·refine ifG (fun hc=>?_) (fun hc=>?_) <;> first|rw [hc] at h ⊢|rw [hc] at h|rw [hc]|skip
      ·refine ifG (fun hc=>?_) (fun hc=>?_) <;> first|rw [hc] at h ⊢|rw [hc] at h|rw [hc]|skip
       ·refine ifG (fun hc=>?_) (fun hc=>?_) <;> first|rw [hc] at h ⊢|rw [hc] at h|rw [hc]|skip
        ·refine ifG (fun hc=>?_) (fun hc=>?_) <;> first|rw [hc] at h ⊢|rw [hc] at h|rw [hc]|skip
         ·rfl
         ·first|exact Bool.noConfusion h|exact Bool.noConfusion hc
        ·first|exact Bool.noConfusion h|exact Bool.noConfusion hc
       ·first|exact Bool.noConfusion h|exact Bool.noConfusion hc
      ·first|exact Bool.noConfusion h|exact Bool.noConfusion hc
     ·first|exact Bool.noConfusion h|exact Bool.noConfusion hc
 ·first|exact Bool.noConfusion h|exact Bool.noConfusion hc
def m179:TModel
 | [.agg [.sl g0 xa,.sl g1 xb,.sl g2 xc],.agg [.int .i64 ya,.int .i64 yb,.int .i64 yc],.agg [.int .i64 za,.int .i64 zb]]=>bif ctsEq g0 ([.int .i64]) && ctsEq g1 ([.int .i64]) && ctsEq g2 ([.int .i64,.int .i64]) then some (q179 xa xb xc ya yb yc za zb,AV.tup [AV.agg [AV.fl [.int .i64] (v179_0 xa xb xc ya yb yc za zb),AV.fl [.int .i64] (v179_1 xa xb xc ya yb yc za zb),AV.fl [.int .i64,.int .i64] (v179_2 xa xb xc ya yb yc za zb)],AV.agg [AV.int .i64 (v179_3 xa xb xc ya yb yc za zb),AV.int .i64 (v179_4 xa xb xc ya yb yc za zb),AV.int .i64 (v179_5 xa xb xc ya yb yc za zb)],AV.fl [.int .i64] (v179_6 xa xb xc ya yb yc za zb),AV.int .i64 (v179_7 xa xb xc ya yb yc za zb)]) else none
 | _=>none
theorem k179:Known Tryz.prog 179:=⟨Tryz.f179,Tryz.func179,by kernel_rfl,by kernel_rfl⟩
theorem meets179:Meets Tryz.prog 179 m179:=by
 refine mt (lvl:=0) (cf:=c179) rfl mixed k179 Tryz.func179 (by kernel_rfl) noLoop (allT_cons meets21 (allT_cons meets71 (allT_cons meets126 (allT_cons meets138 (allT_cons meets178 (allT_cons meets204 (allT_cons meets205 allT_nil))))))) allM_nil noI fun xs r h=>?_
 unfold m179 at h
 split at h
 ·rename_i g0 xa g1 xb g2 xc ya yb yc za zb
  obtain ⟨hg,h⟩:=bif_pair h
  simp only [Bool.and_eq_true] at hg
  obtain ⟨⟨q0,q1⟩,q2⟩:=hg
  obtain rfl:=cE q0
  obtain rfl:=cE q1
  obtain rfl:=cE q2
  obtain ⟨h1,rfl⟩:=pair_inj h
  exact r179 xa xb xc ya yb yc za zb h1
 ·cases h
def G128_0 {β:Type} (t2:List AV) (t13:Int) (h0:List AV) (h1:List AV) (h2:List AV) (h5:List AV) (h6:List AV) (h7_0:Int) (h7_1:Int) (h7_2:Int) (N:((Int × (List AV) × (List AV) × (List AV) × (List AV) × (List AV) × Int × Int × Int))→β) (K:(((List AV) × (List AV) × (List AV) × (List AV) × (List AV) × Int × Int × Int))→β) (d:β):β:=by
 refine (?f0:(List AV)→(List AV)→(List AV)→Int→Int→Int→(List AV)→Int→β) (v179_0 h0 h1 h2 h7_0 h7_1 h7_2 (fI (t2.getD t13.toNat .undef) 0) (fI (t2.getD t13.toNat .undef) 1)) (v179_1 h0 h1 h2 h7_0 h7_1 h7_2 (fI (t2.getD t13.toNat .undef) 0) (fI (t2.getD t13.toNat .undef) 1)) (v179_2 h0 h1 h2 h7_0 h7_1 h7_2 (fI (t2.getD t13.toNat .undef) 0) (fI (t2.getD t13.toNat .undef) 1)) (v179_3 h0 h1 h2 h7_0 h7_1 h7_2 (fI (t2.getD t13.toNat .undef) 0) (fI (t2.getD t13.toNat .undef) 1)) (v179_4 h0 h1 h2 h7_0 h7_1 h7_2 (fI (t2.getD t13.toNat .undef) 0) (fI (t2.getD t13.toNat .undef) 1)) (v179_5 h0 h1 h2 h7_0 h7_1 h7_2 (fI (t2.getD t13.toNat .undef) 0) (fI (t2.getD t13.toNat .undef) 1)) (v179_6 h0 h1 h2 h7_0 h7_1 h7_2 (fI (t2.getD t13.toNat .undef) 0) (fI (t2.getD t13.toNat .undef) 1)) (v179_7 h0 h1 h2 h7_0 h7_1 h7_2 (fI (t2.getD t13.toNat .undef) 0) (fI (t2.getD t13.toNat .undef) 1));intro x1 x2 x3 x4 x5 x6 x7 x8
 exact (bif decide (t13<(t2.length:Int)) then (bif (decide (0≤t13) && decide (t13<(t2.length:Int))) then (bif q179 h0 h1 h2 h7_0 h7_1 h7_2 (fI (t2.getD t13.toNat .undef) 0) (fI (t2.getD t13.toNat .undef) 1) then (bif (decide ((h5.length+([AV.sl [.int .i64] x7]).length)*24≤140737488355328) && decide ((h5.length+([AV.sl [.int .i64] x7]).length)≤140737488355328)) then (bif (decide ((h6.length+([AV.int .i64 x8]).length)*8≤140737488355328) && decide ((h6.length+([AV.int .i64 x8]).length)≤140737488355328)) then N (IntKind.i64.wrap (t13+1),x1,x2,x3,h5++([AV.sl [.int .i64] x7]),h6++([AV.int .i64 x8]),x4,x5,x6)
 else d)
 else d)
 else d)
 else d)
 else K (h0,h1,h2,h5,h6,h7_0,h7_1,h7_2))
def F128_0 (t2:List AV) (t13:Int) (h0 h1 h2 h5 h6:List AV) (h7_0 h7_1 h7_2:Int):Out ((Int × (List AV) × (List AV) × (List AV) × (List AV) × (List AV) × Int × Int × Int)) (((List AV) × (List AV) × (List AV) × (List AV) × (List AV) × Int × Int × Int)):=G128_0 t2 t13 h0 h1 h2 h5 h6 h7_0 h7_1 h7_2 .next .stop .fail
def R128_0 (t2:List AV):((Int × (List AV) × (List AV) × (List AV) × (List AV) × (List AV) × Int × Int × Int))→Out ((Int × (List AV) × (List AV) × (List AV) × (List AV) × (List AV) × Int × Int × Int)) (((List AV) × (List AV) × (List AV) × (List AV) × (List AV) × Int × Int × Int)):=fun s:Int × (List AV) × (List AV) × (List AV) × (List AV) × (List AV) × Int × Int × Int=>F128_0 t2 s.1 s.2.1 s.2.2.1 s.2.2.2.1 s.2.2.2.2.1 s.2.2.2.2.2.1 s.2.2.2.2.2.2.1 s.2.2.2.2.2.2.2.1 s.2.2.2.2.2.2.2.2
def E128_0 (t2:List AV):((Int × (List AV) × (List AV) × (List AV) × (List AV) × (List AV) × Int × Int × Int))→St:=fun s:Int × (List AV) × (List AV) × (List AV) × (List AV) × (List AV) × Int × Int × Int=>⟨[(2,AV.sl [.int .i64,.int .i64] t2),(6,AV.ptr [0,6] 0 0),(9,AV.ptr [0,9] 0 0),(10,AV.own [0,10]),(11,AV.own [0,11]),(12,AV.ptr [0,12] 0 0),(13,Ai s.1)],[([0,0,9],⟨false,[.int .i64],s.2.1⟩),([0,1,9],⟨false,[.int .i64],s.2.2.1⟩),([0,2,9],⟨false,[.int .i64,.int .i64],s.2.2.2.1⟩),([0,6],⟨true,[],[AV.agg [AV.snil,AV.snil,AV.snil]]⟩),([0,9],⟨true,[],[AV.agg [AV.own [0,0,9],AV.own [0,1,9],AV.own [0,2,9]]]⟩),([0,10],⟨false,[.sl [.int .i64]],s.2.2.2.2.1⟩),([0,11],⟨false,[.int .i64],s.2.2.2.2.2.1⟩),([0,12],⟨true,[],[AV.agg [Ai s.2.2.2.2.2.2.1,Ai s.2.2.2.2.2.2.2.1,Ai s.2.2.2.2.2.2.2.2]]⟩)]⟩
def K128_0 (t2:List AV) (k:Kont):(((List AV) × (List AV) × (List AV) × (List AV) × (List AV) × Int × Int × Int))→Option AV:=fun p:(List AV) × (List AV) × (List AV) × (List AV) × (List AV) × Int × Int × Int=>k (.exit 0) ⟨[(6,AV.ptr [0,6] 0 0),(9,AV.ptr [0,9] 0 0),(10,AV.own [0,10]),(11,AV.own [0,11])],[([0,0,9],⟨false,[.int .i64],p.1⟩),([0,1,9],⟨false,[.int .i64],p.2.1⟩),([0,2,9],⟨false,[.int .i64,.int .i64],p.2.2.1⟩),([0,6],⟨true,[],[AV.agg [AV.snil,AV.snil,AV.snil]]⟩),([0,9],⟨true,[],[AV.agg [AV.own [0,0,9],AV.own [0,1,9],AV.own [0,2,9]]]⟩),([0,10],⟨false,[.sl [.int .i64]],p.2.2.2.1⟩),([0,11],⟨false,[.int .i64],p.2.2.2.2.1⟩),([0,12],⟨true,[],[AV.agg [Ai p.2.2.2.2.2.1,Ai p.2.2.2.2.2.2.1,Ai p.2.2.2.2.2.2.2]]⟩)]⟩
def l128_0:LModel:=fun _ _ st k=>match st with
 | ⟨[(2,.sl g0 t2),(6,.ptr g1 g2 g3),(9,.ptr g4 g5 g6),(10,.own g7),(11,.own g8),(12,.ptr g9 g10 g11),(13,.int .i64 t13)],[(g12,⟨false,g13,h0⟩),(g14,⟨false,g15,h1⟩),(g16,⟨false,g17,h2⟩),(g18,⟨true,[],[.agg [.snil,.snil,.snil]]⟩),(g19,⟨true,[],[.agg [.own g20,.own g21,.own g22]]⟩),(g23,⟨false,g24,h5⟩),(g25,⟨false,g26,h6⟩),(g27,⟨true,[],[.agg [.int .i64 h7_0,.int .i64 h7_1,.int .i64 h7_2]]⟩)]⟩=>bif ctsEq g0 ([.int .i64,.int .i64]) && nmEq g1 ([0,6]) && Nat.beq g2 0 && Nat.beq g3 0 && nmEq g4 ([0,9]) && Nat.beq g5 0 && Nat.beq g6 0 && nmEq g7 ([0,10]) && nmEq g8 ([0,11]) && nmEq g9 ([0,12]) && Nat.beq g10 0 && Nat.beq g11 0 && nmEq g12 ([0,0,9]) && ctsEq g13 ([.int .i64]) && nmEq g14 ([0,1,9]) && ctsEq g15 ([.int .i64]) && nmEq g16 ([0,2,9]) && ctsEq g17 ([.int .i64,.int .i64]) && nmEq g18 ([0,6]) && nmEq g19 ([0,9]) && nmEq g20 ([0,0,9]) && nmEq g21 ([0,1,9]) && nmEq g22 ([0,2,9]) && nmEq g23 ([0,10]) && ctsEq g24 ([.sl [.int .i64]]) && nmEq g25 ([0,11]) && ctsEq g26 ([.int .i64]) && nmEq g27 ([0,12]) then ro (runW (R128_0 t2) (((t2.length:Int) - t13:Int).toNat+1) (t13,h0,h1,h2,h5,h6,h7_0,h7_1,h7_2)) none (K128_0 t2 k) else none
 | _=>none
noncomputable def c128:Cfg:=cfg Tryz.prog [(128,0,[2,6,9,10,11,12,13]),(128,999,[6,7,8]),(128,1000,[6,9,10,11]),(128,1001,[2,6,9,10,11,12,13])] [(99,m99),(100,m100),(126,m126),(127,m127),(179,m179)] [] [] [(128,0,l128_0)]
theorem s128_0 (t2:List AV) (ce:CallE) (k:Kont) (s:Int × (List AV) × (List AV) × (List AV) × (List AV) × (List AV) × Int × Int × Int) (next:St→Option AV):stepA (codeA c128 ce [] 128 0 (sub [1,1,1,1,1,1,0,1,0,0] (body Tryz.f128))) (normA [] [2,6,9,10,11,12,13]) next ((E128_0 t2) s) k=G128_0 t2 s.1 s.2.1 s.2.2.1 s.2.2.2.1 s.2.2.2.2.1 s.2.2.2.2.2.1 s.2.2.2.2.2.2.1 s.2.2.2.2.2.2.2.1 s.2.2.2.2.2.2.2.2 (fun s=>next ((E128_0 t2) s)) (K128_0 t2 k) none:=by kernel_rfl
theorem st128_0 (t2:List AV) (ce:CallE) (k:Kont) (s:(Int × (List AV) × (List AV) × (List AV) × (List AV) × (List AV) × Int × Int × Int)) (next:St→Option AV):stepA (codeA c128 ce [] 128 0 (sub [1,1,1,1,1,1,0,1,0,0] (body Tryz.f128))) (normA [] [2,6,9,10,11,12,13]) next ((E128_0 t2) s) k=(R128_0 t2 s).el none (fun s=>next ((E128_0 t2) s)) (K128_0 t2 k):=(s128_0 t2 ce k s next).trans (by unfold R128_0;unfold F128_0 G128_0;simp only [el_cond,el_ro,el_sum,el_fail,el_next,el_stop] <;> rfl)
theorem ok128_0 {ce:CallE}:LoopOK c128 ce [] 128 0 (sub [1,1,1,1,1,1,0,1,0,0] (body Tryz.f128)):=by
 intro m hm st k r h
 obtain rfl:l128_0=m:=Option.some.inj hm
 unfold l128_0 at h
 split at h
 ·rename_i g0 t2 g1 g2 g3 g4 g5 g6 g7 g8 g9 g10 g11 t13 g12 g13 h0 g14 g15 h1 g16 g17 h2 g18 g19 g20 g21 g22 g23 g24 h5 g25 g26 h6 g27 h7_0 h7_1 h7_2
  obtain ⟨hg,h⟩:=bif_some h
  simp only [Bool.and_eq_true] at hg
  obtain ⟨⟨⟨⟨⟨⟨⟨⟨⟨⟨⟨⟨⟨⟨⟨⟨⟨⟨⟨⟨⟨⟨⟨⟨⟨⟨⟨q0,q1⟩,q2⟩,q3⟩,q4⟩,q5⟩,q6⟩,q7⟩,q8⟩,q9⟩,q10⟩,q11⟩,q12⟩,q13⟩,q14⟩,q15⟩,q16⟩,q17⟩,q18⟩,q19⟩,q20⟩,q21⟩,q22⟩,q23⟩,q24⟩,q25⟩,q26⟩,q27⟩:=hg
  obtain rfl:=cE q0
  obtain rfl:=nE q1
  obtain rfl:=bE q2
  obtain rfl:=bE q3
  obtain rfl:=nE q4
  obtain rfl:=bE q5
  obtain rfl:=bE q6
  obtain rfl:=nE q7
  obtain rfl:=nE q8
  obtain rfl:=nE q9
  obtain rfl:=bE q10
  obtain rfl:=bE q11
  obtain rfl:=nE q12
  obtain rfl:=cE q13
  obtain rfl:=nE q14
  obtain rfl:=cE q15
  obtain rfl:=nE q16
  obtain rfl:=cE q17
  obtain rfl:=nE q18
  obtain rfl:=nE q19
  obtain rfl:=nE q20
  obtain rfl:=nE q21
  obtain rfl:=nE q22
  obtain rfl:=nE q23
  obtain rfl:=cE q24
  obtain rfl:=nE q25
  obtain rfl:=cE q26
  obtain rfl:=nE q27
  refine ⟨(((t2.length:Int) - t13:Int).toNat+1),?_⟩
  rw [← h]
  exact loop_run (E128_0 t2) (K128_0 t2 k) (st128_0 t2 ce k) _ (t13,h0,h1,h2,h5,h6,h7_0,h7_1,h7_2)
 ·cases h
def q128 (a0:List AV) (ya yb yc:Int) (a2:List AV):Bool:=(q99 a0 && (q100 a0 && (bif !(v100_0 a0) then true else (bif !(v126_0 ya yb yc) then true else (q127 a2 && (bif !(v127_0 a2) then true else (ro (runW (R128_0 a2) (((a2.length:Int) - 0:Int).toNat+1) (0,(v99_0 a0),(v99_1 a0),(v99_2 a0),([]:List AV),([]:List AV),ya,yb,yc)) false (fun p71=>true))))))))
def v128_0 (a0:List AV) (ya yb yc:Int) (a2:List AV):List AV:=(bif !(v100_0 a0) then ([]:List AV) else (bif !(v126_0 ya yb yc) then ([]:List AV) else (bif !(v127_0 a2) then ([]:List AV) else (ro (runW (R128_0 a2) (((a2.length:Int) - 0:Int).toNat+1) (0,(v99_0 a0),(v99_1 a0),(v99_2 a0),([]:List AV),([]:List AV),ya,yb,yc)) [] (fun p71=>p71.1)))))
def v128_1 (a0:List AV) (ya yb yc:Int) (a2:List AV):List AV:=(bif !(v100_0 a0) then ([]:List AV) else (bif !(v126_0 ya yb yc) then ([]:List AV) else (bif !(v127_0 a2) then ([]:List AV) else (ro (runW (R128_0 a2) (((a2.length:Int) - 0:Int).toNat+1) (0,(v99_0 a0),(v99_1 a0),(v99_2 a0),([]:List AV),([]:List AV),ya,yb,yc)) [] (fun p71=>p71.2.1)))))
def v128_2 (a0:List AV) (ya yb yc:Int) (a2:List AV):List AV:=(bif !(v100_0 a0) then ([]:List AV) else (bif !(v126_0 ya yb yc) then ([]:List AV) else (bif !(v127_0 a2) then ([]:List AV) else (ro (runW (R128_0 a2) (((a2.length:Int) - 0:Int).toNat+1) (0,(v99_0 a0),(v99_1 a0),(v99_2 a0),([]:List AV),([]:List AV),ya,yb,yc)) [] (fun p71=>p71.2.2.1)))))
def v128_3 (a0:List AV) (ya yb yc:Int) (a2:List AV):List AV:=(bif !(v100_0 a0) then ([]:List AV) else (bif !(v126_0 ya yb yc) then ([]:List AV) else (bif !(v127_0 a2) then ([]:List AV) else (ro (runW (R128_0 a2) (((a2.length:Int) - 0:Int).toNat+1) (0,(v99_0 a0),(v99_1 a0),(v99_2 a0),([]:List AV),([]:List AV),ya,yb,yc)) [] (fun p71=>p71.2.2.2.1)))))
def v128_4 (a0:List AV) (ya yb yc:Int) (a2:List AV):List AV:=(bif !(v100_0 a0) then ([]:List AV) else (bif !(v126_0 ya yb yc) then ([]:List AV) else (bif !(v127_0 a2) then ([]:List AV) else (ro (runW (R128_0 a2) (((a2.length:Int) - 0:Int).toNat+1) (0,(v99_0 a0),(v99_1 a0),(v99_2 a0),([]:List AV),([]:List AV),ya,yb,yc)) [] (fun p71=>p71.2.2.2.2.1)))))
theorem e128 (a0:List AV) (ya yb yc:Int) (a2:List AV):funA c128 0 128 [AV.sl [.int .i64] a0,AV.agg [Ai ya,Ai yb,Ai yc],AV.sl [.int .i64,.int .i64] a2]=(bif q99 a0 then (bif q100 a0 then (bif !(v100_0 a0) then some (AV.tup [AV.agg [AV.fl [.int .i64] ([]:List AV),AV.fl [.int .i64] ([]:List AV),AV.fl [.int .i64,.int .i64] ([]:List AV)],AV.fl [.sl [.int .i64]] ([]:List AV),AV.fl [.int .i64] ([]:List AV)])
 else (bif !(v126_0 ya yb yc) then some (AV.tup [AV.agg [AV.fl [.int .i64] ([]:List AV),AV.fl [.int .i64] ([]:List AV),AV.fl [.int .i64,.int .i64] ([]:List AV)],AV.fl [.sl [.int .i64]] ([]:List AV),AV.fl [.int .i64] ([]:List AV)])
 else (bif q127 a2 then (bif !(v127_0 a2) then some (AV.tup [AV.agg [AV.fl [.int .i64] ([]:List AV),AV.fl [.int .i64] ([]:List AV),AV.fl [.int .i64,.int .i64] ([]:List AV)],AV.fl [.sl [.int .i64]] ([]:List AV),AV.fl [.int .i64] ([]:List AV)])
 else (ro (runW (R128_0 a2) (((a2.length:Int) - 0:Int).toNat+1) (0,(v99_0 a0),(v99_1 a0),(v99_2 a0),([]:List AV),([]:List AV),ya,yb,yc)) none (fun p71=>some (AV.tup [AV.agg [AV.fl [.int .i64] p71.1,AV.fl [.int .i64] p71.2.1,AV.fl [.int .i64,.int .i64] p71.2.2.1],AV.fl [.sl [.int .i64]] p71.2.2.2.1,AV.fl [.int .i64] p71.2.2.2.2.1]))))
 else none)))
 else none)
 else none):=by kernel_rfl
theorem r128 (a0:List AV) (ya yb yc:Int) (a2:List AV) (h:q128 a0 ya yb yc a2=true):funA c128 0 128 [AV.sl [.int .i64] a0,AV.agg [AV.int .i64 ya,AV.int .i64 yb,AV.int .i64 yc],AV.sl [.int .i64,.int .i64] a2]=some (AV.tup [AV.agg [AV.fl [.int .i64] (v128_0 a0 ya yb yc a2),AV.fl [.int .i64] (v128_1 a0 ya yb yc a2),AV.fl [.int .i64,.int .i64] (v128_2 a0 ya yb yc a2)],AV.fl [.sl [.int .i64]] (v128_3 a0 ya yb yc a2),AV.fl [.int .i64] (v128_4 a0 ya yb yc a2)]):=by
 refine (e128 a0 ya yb yc a2).trans ?_
 unfold q128 at h
 unfold v128_0 v128_1 v128_2 v128_3 v128_4
 refine ifG (fun hc=>?_) (fun hc=>?_) <;> first|rw [hc] at h ⊢|rw [hc] at h|rw [hc]|skip
 ·refine ifG (fun hc=>?_) (fun hc=>?_) <;> first|rw [hc] at h ⊢|rw [hc] at h|rw [hc]|skip
  ·refine ifG (fun hc=>?_) (fun hc=>?_) <;> first|rw [hc] at h ⊢|rw [hc] at h|rw [hc]|skip
   ·rfl
   ·refine ifG (fun hc=>?_) (fun hc=>?_) <;> first|rw [hc] at h ⊢|rw [hc] at h|rw [hc]|skip
    ·rfl
    ·refine ifG (fun hc=>?_) (fun hc=>?_) <;> first|rw [hc] at h ⊢|rw [hc] at h|rw [hc]|skip
     ·refine ifG (fun hc=>?_) (fun hc=>?_) <;> first|rw [hc] at h ⊢|rw [hc] at h|rw [hc]|skip
      ·rfl
      ·refine roG (fun hc=>?_) (fun r hc=>?_) <;> first|rw [hc] at h ⊢|rw [hc] at h|rw [hc]|skip
       ·exact Bool.noConfusion h
       ·try simp only [ro] at h ⊢
        rfl
     ·first|exact Bool.noConfusion h|exact Bool.noConfusion hc
  ·first|exact Bool.noConfusion h|exact Bool.noConfusion hc
 ·first|exact Bool.noConfusion h|exact Bool.noConfusion hc
def m128:TModel
 | [.sl g0 a0,.agg [.int .i64 ya,.int .i64 yb,.int .i64 yc],.sl g1 a2]=>bif ctsEq g0 ([.int .i64]) && ctsEq g1 ([.int .i64,.int .i64]) then some (q128 a0 ya yb yc a2,AV.tup [AV.agg [AV.fl [.int .i64] (v128_0 a0 ya yb yc a2),AV.fl [.int .i64] (v128_1 a0 ya yb yc a2),AV.fl [.int .i64,.int .i64] (v128_2 a0 ya yb yc a2)],AV.fl [.sl [.int .i64]] (v128_3 a0 ya yb yc a2),AV.fl [.int .i64] (v128_4 a0 ya yb yc a2)]) else none
 | _=>none
theorem k128:Known Tryz.prog 128:=⟨Tryz.f128,Tryz.func128,by kernel_rfl,by kernel_rfl⟩
theorem meets128:Meets Tryz.prog 128 m128:=by
 refine mt (lvl:=0) (cf:=c128) rfl mixed k128 Tryz.func128 (by kernel_rfl) (loops_cons ok128_0 noLoop) (allT_cons meets99 (allT_cons meets100 (allT_cons meets126 (allT_cons meets127 (allT_cons meets179 allT_nil))))) allM_nil noI fun xs r h=>?_
 unfold m128 at h
 split at h
 ·rename_i g0 a0 ya yb yc g1 a2
  obtain ⟨hg,h⟩:=bif_pair h
  simp only [Bool.and_eq_true] at hg
  obtain ⟨q0,q1⟩:=hg
  obtain rfl:=cE q0
  obtain rfl:=cE q1
  obtain ⟨h1,rfl⟩:=pair_inj h
  exact r128 a0 ya yb yc a2 h1
 ·cases h
def G93_0 {β:Type} (t0:List AV) (t3:Int) (t4:Int) (N:((Int × Int))→β) (K:(Int)→β) (d:β):β:=(bif decide (t4<(t0.length:Int)) then (bif (decide (0≤t4) && decide (t4<(t0.length:Int))) then N (IntKind.i64.wrap (t3+fI (t0.getD t4.toNat .undef) 0),IntKind.i64.wrap (t4+1))
 else d)
 else K t3)
def F93_0 (t0:List AV) (t3 t4:Int):Out ((Int × Int)) (Int):=G93_0 t0 t3 t4 .next .stop .fail
def R93_0 (t0:List AV):((Int × Int))→Out ((Int × Int)) (Int):=fun s:Int × Int=>F93_0 t0 s.1 s.2
def E93_0 (t0:List AV):((Int × Int))→St:=fun s:Int × Int=>⟨[(0,AV.sl [.int .i64] t0),(3,Ai s.1),(4,Ai s.2)],[]⟩
def K93_0 (t0:List AV) (k:Kont):(Int)→Option AV:=fun p:Int=>k (.exit 0) ⟨[(3,Ai p)],[]⟩
def l93_0:LModel:=fun _ _ st k=>match st with
 | ⟨[(0,.sl g0 t0),(3,.int .i64 t3),(4,.int .i64 t4)],[]⟩=>bif ctsEq g0 ([.int .i64]) then ro (runW (R93_0 t0) (((t0.length:Int) - t4:Int).toNat+1) (t3,t4)) none (K93_0 t0 k) else none
 | _=>none
noncomputable def c93:Cfg:=cfg Tryz.prog [(93,0,[0,3,4]),(93,999,[2]),(93,1000,[3]),(93,1001,[0,3,4])] [] [] [] [(93,0,l93_0)]
theorem s93_0 (t0:List AV) (ce:CallE) (k:Kont) (s:Int × Int) (next:St→Option AV):stepA (codeA c93 ce [] 93 0 (sub [1,1,0,1,0,0] (body Tryz.f93))) (normA [] [0,3,4]) next ((E93_0 t0) s) k=G93_0 t0 s.1 s.2 (fun s=>next ((E93_0 t0) s)) (K93_0 t0 k) none:=by kernel_rfl
theorem st93_0 (t0:List AV) (ce:CallE) (k:Kont) (s:(Int × Int)) (next:St→Option AV):stepA (codeA c93 ce [] 93 0 (sub [1,1,0,1,0,0] (body Tryz.f93))) (normA [] [0,3,4]) next ((E93_0 t0) s) k=(R93_0 t0 s).el none (fun s=>next ((E93_0 t0) s)) (K93_0 t0 k):=(s93_0 t0 ce k s next).trans (by unfold R93_0;unfold F93_0 G93_0;simp only [el_cond,el_ro,el_sum,el_fail,el_next,el_stop] <;> rfl)
theorem ok93_0 {ce:CallE}:LoopOK c93 ce [] 93 0 (sub [1,1,0,1,0,0] (body Tryz.f93)):=by
 intro m hm st k r h
 obtain rfl:l93_0=m:=Option.some.inj hm
 unfold l93_0 at h
 split at h
 ·rename_i g0 t0 t3 t4
  obtain ⟨hg,h⟩:=bif_some h
  have q0:=hg
  obtain rfl:=cE q0
  refine ⟨(((t0.length:Int) - t4:Int).toNat+1),?_⟩
  rw [← h]
  exact loop_run (E93_0 t0) (K93_0 t0 k) (st93_0 t0 ce k) _ (t3,t4)
 ·cases h
def q93 (a0:List AV):Bool:=(ro (runW (R93_0 a0) (((a0.length:Int) - 0:Int).toNat+1) (0,0)) false (fun p72=>true))
def v93_0 (a0:List AV):Int:=(ro (runW (R93_0 a0) (((a0.length:Int) - 0:Int).toNat+1) (0,0)) 0 (fun p72=>p72))
theorem e93 (a0:List AV):funA c93 0 93 [AV.sl [.int .i64] a0]=(ro (runW (R93_0 a0) (((a0.length:Int) - 0:Int).toNat+1) (0,0)) none (fun p72=>some (Ai p72))):=by kernel_rfl
def m93:TModel
 | [.sl g0 a0]=>bif ctsEq g0 ([.int .i64]) then some (q93 a0,AV.int .i64 (v93_0 a0)) else none
 | _=>none
theorem k93:Known Tryz.prog 93:=⟨Tryz.f93,Tryz.func93,by kernel_rfl,by kernel_rfl⟩
theorem meets93:Meets Tryz.prog 93 m93:=by
 refine mt (lvl:=0) (cf:=c93) rfl mixed k93 Tryz.func93 (by kernel_rfl) (loops_cons ok93_0 noLoop) allT_nil allM_nil noI fun xs r h=>?_
 unfold m93 at h
 split at h
 ·rename_i g0 a0
  obtain ⟨hg,h⟩:=bif_pair h
  have q0:=hg
  obtain rfl:=cE q0
  obtain ⟨h1,rfl⟩:=pair_inj h
  exact (e93 a0).trans ((brO (fun o:Option (Int)=>some (Ai (ro o 0 (fun p72=>p72)))) (fun p72=>(fun _=>rfl))) h1)
 ·cases h
def G85_0 {β:Type} (h0_0:List AV) (h0_1:List AV) (h0_2:List AV) (t4:Int) (h1:List AV) (N:((Int × (List AV)))→β) (K:(((List AV)))→β) (d:β):β:=(bif decide (t4<(h0_2.length:Int)) then (bif (decide (0≤t4) && decide (t4<(h0_2.length:Int))) then (bif (decide ((h1.length+([AV.int .i64 (fI (h0_2.getD t4.toNat .undef) 1)]).length)*8≤140737488355328) && decide ((h1.length+([AV.int .i64 (fI (h0_2.getD t4.toNat .undef) 1)]).length)≤140737488355328)) then N (IntKind.i64.wrap (t4+1),h1++([AV.int .i64 (fI (h0_2.getD t4.toNat .undef) 1)]))
 else d)
 else d)
 else K h1)
def F85_0 (h0_0 h0_1 h0_2:List AV) (t4:Int) (h1:List AV):Out ((Int × (List AV))) (((List AV))):=G85_0 h0_0 h0_1 h0_2 t4 h1 .next .stop .fail
def R85_0 (h0_0 h0_1 h0_2:List AV):((Int × (List AV)))→Out ((Int × (List AV))) (((List AV))):=fun s:Int × (List AV)=>F85_0 h0_0 h0_1 h0_2 s.1 s.2
def E85_0 (h0_0 h0_1 h0_2:List AV):((Int × (List AV)))→St:=fun s:Int × (List AV)=>⟨[(1,AV.ptr [0,1] 0 0),(3,AV.own [0,3]),(4,Ai s.1)],[([0,1],⟨true,[],[AV.agg [AV.sl [.int .i64] h0_0,AV.sl [.int .i64] h0_1,AV.sl [.int .i64,.int .i64] h0_2]]⟩),([0,3],⟨false,[.int .i64],s.2⟩)]⟩
def K85_0 (h0_0 h0_1 h0_2:List AV) (k:Kont):(((List AV)))→Option AV:=fun p:(List AV)=>k (.exit 0) ⟨[(1,AV.ptr [0,1] 0 0),(3,AV.own [0,3])],[([0,1],⟨true,[],[AV.agg [AV.sl [.int .i64] h0_0,AV.sl [.int .i64] h0_1,AV.sl [.int .i64,.int .i64] h0_2]]⟩),([0,3],⟨false,[.int .i64],p⟩)]⟩
def l85_0:LModel:=fun _ _ st k=>match st with
 | ⟨[(1,.ptr g0 g1 g2),(3,.own g3),(4,.int .i64 t4)],[(g4,⟨true,[],[.agg [.sl g5 h0_0,.sl g6 h0_1,.sl g7 h0_2]]⟩),(g8,⟨false,g9,h1⟩)]⟩=>bif nmEq g0 ([0,1]) && Nat.beq g1 0 && Nat.beq g2 0 && nmEq g3 ([0,3]) && nmEq g4 ([0,1]) && ctsEq g5 ([.int .i64]) && ctsEq g6 ([.int .i64]) && ctsEq g7 ([.int .i64,.int .i64]) && nmEq g8 ([0,3]) && ctsEq g9 ([.int .i64]) then ro (runW (R85_0 h0_0 h0_1 h0_2) (((h0_2.length:Int) - t4:Int).toNat+1) (t4,h1)) none (K85_0 h0_0 h0_1 h0_2 k) else none
 | _=>none
noncomputable def c85:Cfg:=cfg Tryz.prog [(85,0,[1,3,4]),(85,999,[2]),(85,1000,[1,3]),(85,1001,[1,3,4])] [] [] [] [(85,0,l85_0)]
theorem s85_0 (h0_0 h0_1 h0_2:List AV) (ce:CallE) (k:Kont) (s:Int × (List AV)) (next:St→Option AV):stepA (codeA c85 ce [] 85 0 (sub [1,1,0,1,0,0] (body Tryz.f85))) (normA [] [1,3,4]) next ((E85_0 h0_0 h0_1 h0_2) s) k=G85_0 h0_0 h0_1 h0_2 s.1 s.2 (fun s=>next ((E85_0 h0_0 h0_1 h0_2) s)) (K85_0 h0_0 h0_1 h0_2 k) none:=by kernel_rfl
theorem st85_0 (h0_0 h0_1 h0_2:List AV) (ce:CallE) (k:Kont) (s:(Int × (List AV))) (next:St→Option AV):stepA (codeA c85 ce [] 85 0 (sub [1,1,0,1,0,0] (body Tryz.f85))) (normA [] [1,3,4]) next ((E85_0 h0_0 h0_1 h0_2) s) k=(R85_0 h0_0 h0_1 h0_2 s).el none (fun s=>next ((E85_0 h0_0 h0_1 h0_2) s)) (K85_0 h0_0 h0_1 h0_2 k):=(s85_0 h0_0 h0_1 h0_2 ce k s next).trans (by unfold R85_0;unfold F85_0 G85_0;simp only [el_cond,el_ro,el_sum,el_fail,el_next,el_stop] <;> rfl)
theorem ok85_0 {ce:CallE}:LoopOK c85 ce [] 85 0 (sub [1,1,0,1,0,0] (body Tryz.f85)):=by
 intro m hm st k r h
 obtain rfl:l85_0=m:=Option.some.inj hm
 unfold l85_0 at h
 split at h
 ·rename_i g0 g1 g2 g3 t4 g4 g5 h0_0 g6 h0_1 g7 h0_2 g8 g9 h1
  obtain ⟨hg,h⟩:=bif_some h
  simp only [Bool.and_eq_true] at hg
  obtain ⟨⟨⟨⟨⟨⟨⟨⟨⟨q0,q1⟩,q2⟩,q3⟩,q4⟩,q5⟩,q6⟩,q7⟩,q8⟩,q9⟩:=hg
  obtain rfl:=nE q0
  obtain rfl:=bE q1
  obtain rfl:=bE q2
  obtain rfl:=nE q3
  obtain rfl:=nE q4
  obtain rfl:=cE q5
  obtain rfl:=cE q6
  obtain rfl:=cE q7
  obtain rfl:=nE q8
  obtain rfl:=cE q9
  refine ⟨(((h0_2.length:Int) - t4:Int).toNat+1),?_⟩
  rw [← h]
  exact loop_run (E85_0 h0_0 h0_1 h0_2) (K85_0 h0_0 h0_1 h0_2 k) (st85_0 h0_0 h0_1 h0_2 ce k) _ (t4,h1)
 ·cases h
def q85 (xa xb xc:List AV):Bool:=(ro (runW (R85_0 xa xb xc) (((xc.length:Int) - 0:Int).toNat+1) (0,([]:List AV))) false (fun p73=>(decide ((p73.length+([AV.int .i64 (xa.length:Int)]).length)*8≤140737488355328) && decide ((p73.length+([AV.int .i64 (xa.length:Int)]).length)≤140737488355328))))
def v85_0 (xa xb xc:List AV):List AV:=(ro (runW (R85_0 xa xb xc) (((xc.length:Int) - 0:Int).toNat+1) (0,([]:List AV))) [] (fun p73=>p73++([AV.int .i64 (xa.length:Int)])))
theorem e85 (xa xb xc:List AV):funA c85 0 85 [AV.agg [AV.sl [.int .i64] xa,AV.sl [.int .i64] xb,AV.sl [.int .i64,.int .i64] xc]]=(ro (runW (R85_0 xa xb xc) (((xc.length:Int) - 0:Int).toNat+1) (0,([]:List AV))) none (fun p73=>(bif (decide ((p73.length+([Ai (xa.length:Int)]).length)*8≤140737488355328) && decide ((p73.length+([Ai (xa.length:Int)]).length)≤140737488355328)) then some (AV.fl [.int .i64] (p73++([Ai (xa.length:Int)])))
 else none))):=by kernel_rfl
def m85:TModel
 | [.agg [.sl g0 xa,.sl g1 xb,.sl g2 xc]]=>bif ctsEq g0 ([.int .i64]) && ctsEq g1 ([.int .i64]) && ctsEq g2 ([.int .i64,.int .i64]) then some (q85 xa xb xc,AV.fl [.int .i64] (v85_0 xa xb xc)) else none
 | _=>none
theorem k85:Known Tryz.prog 85:=⟨Tryz.f85,Tryz.func85,by kernel_rfl,by kernel_rfl⟩
theorem meets85:Meets Tryz.prog 85 m85:=by
 refine mt (lvl:=0) (cf:=c85) rfl mixed k85 Tryz.func85 (by kernel_rfl) (loops_cons ok85_0 noLoop) allT_nil allM_nil noI fun xs r h=>?_
 unfold m85 at h
 split at h
 ·rename_i g0 xa g1 xb g2 xc
  obtain ⟨hg,h⟩:=bif_pair h
  simp only [Bool.and_eq_true] at hg
  obtain ⟨⟨q0,q1⟩,q2⟩:=hg
  obtain rfl:=cE q0
  obtain rfl:=cE q1
  obtain rfl:=cE q2
  obtain ⟨h1,rfl⟩:=pair_inj h
  exact (e85 xa xb xc).trans ((brO (fun o:Option (((List AV)))=>some (AV.fl [.int .i64] (ro o [] (fun p73=>p73++([Ai (xa.length:Int)]))))) (fun p73=>(brL1 (fun _=>rfl)))) h1)
 ·cases h
def G34_0 {β:Type} (h0_0:List AV) (h0_1:List AV) (h0_2:List AV) (h1:List AV) (t3:Int) (t4:Int) (t6:Int) (N:((Int × Int × Int))→β) (K:(Int)→β) (d:β):β:=(bif decide (t6<(h1.length:Int)) then (bif q71 h0_0 h0_1 h0_2 then (bif (v71_0 h0_0 h0_1 h0_2) then (bif (decide (0≤t6) && decide (t6<(h1.length:Int))) then (bif decide (fI (h1.getD t6.toNat .undef) 0 > t4) then (bif (decide (0≤t6) && decide (t6<(h1.length:Int))) then N (IntKind.i64.wrap (t3+1),fI (h1.getD t6.toNat .undef) 0,IntKind.i64.wrap (t6+1))
 else d)
 else (bif (decide (0≤t6) && decide (t6<(h1.length:Int))) then N (t3,fI (h1.getD t6.toNat .undef) 0,IntKind.i64.wrap (t6+1))
 else d))
 else d)
 else K t3)
 else d)
 else K t3)
def F34_0 (h0_0 h0_1 h0_2 h1:List AV) (t3 t4 t6:Int):Out ((Int × Int × Int)) (Int):=G34_0 h0_0 h0_1 h0_2 h1 t3 t4 t6 .next .stop .fail
def R34_0 (h0_0 h0_1 h0_2 h1:List AV):((Int × Int × Int))→Out ((Int × Int × Int)) (Int):=fun s:Int × Int × Int=>F34_0 h0_0 h0_1 h0_2 h1 s.1 s.2.1 s.2.2
def E34_0 (h0_0 h0_1 h0_2 h1:List AV):((Int × Int × Int))→St:=fun s:Int × Int × Int=>⟨[(1,AV.ptr [0,1] 0 0),(3,Ai s.1),(4,Ai s.2.1),(5,AV.own [0,5]),(6,Ai s.2.2)],[([0,1],⟨true,[],[AV.agg [AV.sl [.int .i64] h0_0,AV.sl [.int .i64] h0_1,AV.sl [.int .i64,.int .i64] h0_2]]⟩),([0,5],⟨false,[.int .i64],h1⟩)]⟩
def K34_0 (h0_0 h0_1 h0_2 h1:List AV) (k:Kont):(Int)→Option AV:=fun p:Int=>k (.exit 0) ⟨[(3,Ai p)],[([0,1],⟨true,[],[AV.agg [AV.sl [.int .i64] h0_0,AV.sl [.int .i64] h0_1,AV.sl [.int .i64,.int .i64] h0_2]]⟩),([0,5],⟨false,[.int .i64],h1⟩)]⟩
def l34_0:LModel:=fun _ _ st k=>match st with
 | ⟨[(1,.ptr g0 g1 g2),(3,.int .i64 t3),(4,.int .i64 t4),(5,.own g3),(6,.int .i64 t6)],[(g4,⟨true,[],[.agg [.sl g5 h0_0,.sl g6 h0_1,.sl g7 h0_2]]⟩),(g8,⟨false,g9,h1⟩)]⟩=>bif nmEq g0 ([0,1]) && Nat.beq g1 0 && Nat.beq g2 0 && nmEq g3 ([0,5]) && nmEq g4 ([0,1]) && ctsEq g5 ([.int .i64]) && ctsEq g6 ([.int .i64]) && ctsEq g7 ([.int .i64,.int .i64]) && nmEq g8 ([0,5]) && ctsEq g9 ([.int .i64]) then ro (runW (R34_0 h0_0 h0_1 h0_2 h1) (((h1.length:Int) - t6:Int).toNat+1) (t3,t4,t6)) none (K34_0 h0_0 h0_1 h0_2 h1 k) else none
 | _=>none
noncomputable def c34:Cfg:=cfg Tryz.prog [(34,0,[1,3,4,5,6]),(34,999,[2]),(34,1000,[3]),(34,1001,[1,3,4,5,6])] [(71,m71),(85,m85)] [] [] [(34,0,l34_0)]
theorem s34_0 (h0_0 h0_1 h0_2 h1:List AV) (ce:CallE) (k:Kont) (s:Int × Int × Int) (next:St→Option AV):stepA (codeA c34 ce [] 34 0 (sub [1,1,1,1,0,1,0,0] (body Tryz.f34))) (normA [] [1,3,4,5,6]) next ((E34_0 h0_0 h0_1 h0_2 h1) s) k=G34_0 h0_0 h0_1 h0_2 h1 s.1 s.2.1 s.2.2 (fun s=>next ((E34_0 h0_0 h0_1 h0_2 h1) s)) (K34_0 h0_0 h0_1 h0_2 h1 k) none:=by kernel_rfl
theorem st34_0 (h0_0 h0_1 h0_2 h1:List AV) (ce:CallE) (k:Kont) (s:(Int × Int × Int)) (next:St→Option AV):stepA (codeA c34 ce [] 34 0 (sub [1,1,1,1,0,1,0,0] (body Tryz.f34))) (normA [] [1,3,4,5,6]) next ((E34_0 h0_0 h0_1 h0_2 h1) s) k=(R34_0 h0_0 h0_1 h0_2 h1 s).el none (fun s=>next ((E34_0 h0_0 h0_1 h0_2 h1) s)) (K34_0 h0_0 h0_1 h0_2 h1 k):=(s34_0 h0_0 h0_1 h0_2 h1 ce k s next).trans (by unfold R34_0;unfold F34_0 G34_0;simp only [el_cond,el_ro,el_sum,el_fail,el_next,el_stop] <;> rfl)
theorem ok34_0 {ce:CallE}:LoopOK c34 ce [] 34 0 (sub [1,1,1,1,0,1,0,0] (body Tryz.f34)):=by
 intro m hm st k r h
 obtain rfl:l34_0=m:=Option.some.inj hm
 unfold l34_0 at h
 split at h
 ·rename_i g0 g1 g2 t3 t4 g3 t6 g4 g5 h0_0 g6 h0_1 g7 h0_2 g8 g9 h1
  obtain ⟨hg,h⟩:=bif_some h
  simp only [Bool.and_eq_true] at hg
  obtain ⟨⟨⟨⟨⟨⟨⟨⟨⟨q0,q1⟩,q2⟩,q3⟩,q4⟩,q5⟩,q6⟩,q7⟩,q8⟩,q9⟩:=hg
  obtain rfl:=nE q0
  obtain rfl:=bE q1
  obtain rfl:=bE q2
  obtain rfl:=nE q3
  obtain rfl:=nE q4
  obtain rfl:=cE q5
  obtain rfl:=cE q6
  obtain rfl:=cE q7
  obtain rfl:=nE q8
  obtain rfl:=cE q9
  refine ⟨(((h1.length:Int) - t6:Int).toNat+1),?_⟩
  rw [← h]
  exact loop_run (E34_0 h0_0 h0_1 h0_2 h1) (K34_0 h0_0 h0_1 h0_2 h1 k) (st34_0 h0_0 h0_1 h0_2 h1 ce k) _ (t3,t4,t6)
 ·cases h
def q34 (xa xb xc:List AV):Bool:=(q85 xa xb xc && (ro (runW (R34_0 xa xb xc (v85_0 xa xb xc)) ((((v85_0 xa xb xc).length:Int) - 0:Int).toNat+1) (0,0,0)) false (fun p74=>true)))
def v34_0 (xa xb xc:List AV):Int:=(ro (runW (R34_0 xa xb xc (v85_0 xa xb xc)) ((((v85_0 xa xb xc).length:Int) - 0:Int).toNat+1) (0,0,0)) 0 (fun p74=>p74))
theorem e34 (xa xb xc:List AV):funA c34 0 34 [AV.agg [AV.sl [.int .i64] xa,AV.sl [.int .i64] xb,AV.sl [.int .i64,.int .i64] xc]]=(bif q85 xa xb xc then (ro (runW (R34_0 xa xb xc (v85_0 xa xb xc)) ((((v85_0 xa xb xc).length:Int) - 0:Int).toNat+1) (0,0,0)) none (fun p74=>some (Ai p74)))
 else none):=by kernel_rfl
def m34:TModel
 | [.agg [.sl g0 xa,.sl g1 xb,.sl g2 xc]]=>bif ctsEq g0 ([.int .i64]) && ctsEq g1 ([.int .i64]) && ctsEq g2 ([.int .i64,.int .i64]) then some (q34 xa xb xc,AV.int .i64 (v34_0 xa xb xc)) else none
 | _=>none
theorem k34:Known Tryz.prog 34:=⟨Tryz.f34,Tryz.func34,by kernel_rfl,by kernel_rfl⟩
theorem meets34:Meets Tryz.prog 34 m34:=by
 refine mt (lvl:=0) (cf:=c34) rfl mixed k34 Tryz.func34 (by kernel_rfl) (loops_cons ok34_0 noLoop) (allT_cons meets71 (allT_cons meets85 allT_nil)) allM_nil noI fun xs r h=>?_
 unfold m34 at h
 split at h
 ·rename_i g0 xa g1 xb g2 xc
  obtain ⟨hg,h⟩:=bif_pair h
  simp only [Bool.and_eq_true] at hg
  obtain ⟨⟨q0,q1⟩,q2⟩:=hg
  obtain rfl:=cE q0
  obtain rfl:=cE q1
  obtain rfl:=cE q2
  obtain ⟨h1,rfl⟩:=pair_inj h
  exact (e34 xa xb xc).trans ((brL (brO (fun o:Option (Int)=>some (Ai (ro o 0 (fun p74=>p74)))) (fun p74=>(fun _=>rfl)))) h1)
 ·cases h
def G129_0 {β:Type} (h0_0:List AV) (h0_1:List AV) (h0_2:List AV) (h1:List AV) (t3:Int) (t4:Int) (t6:Int) (N:((Int × Int × Int))→β) (K:(Int)→β) (d:β):β:=(bif decide (t6<(h1.length:Int)) then (bif q71 h0_0 h0_1 h0_2 then (bif (v71_0 h0_0 h0_1 h0_2) then (bif (decide (0≤t6) && decide (t6<(h1.length:Int))) then (bif (decide (0≤t6) && decide (t6<(h1.length:Int))) then N ((if IntKind.i64.wrap (fI (h1.getD t6.toNat .undef) 0 - t4) > t3 then IntKind.i64.wrap (fI (h1.getD t6.toNat .undef) 0 - t4) else t3),fI (h1.getD t6.toNat .undef) 0,IntKind.i64.wrap (t6+1))
 else d)
 else d)
 else K t3)
 else d)
 else K t3)
def F129_0 (h0_0 h0_1 h0_2 h1:List AV) (t3 t4 t6:Int):Out ((Int × Int × Int)) (Int):=G129_0 h0_0 h0_1 h0_2 h1 t3 t4 t6 .next .stop .fail
def R129_0 (h0_0 h0_1 h0_2 h1:List AV):((Int × Int × Int))→Out ((Int × Int × Int)) (Int):=fun s:Int × Int × Int=>F129_0 h0_0 h0_1 h0_2 h1 s.1 s.2.1 s.2.2
def E129_0 (h0_0 h0_1 h0_2 h1:List AV):((Int × Int × Int))→St:=fun s:Int × Int × Int=>⟨[(1,AV.ptr [0,1] 0 0),(3,Ai s.1),(4,Ai s.2.1),(5,AV.own [0,5]),(6,Ai s.2.2)],[([0,1],⟨true,[],[AV.agg [AV.sl [.int .i64] h0_0,AV.sl [.int .i64] h0_1,AV.sl [.int .i64,.int .i64] h0_2]]⟩),([0,5],⟨false,[.int .i64],h1⟩)]⟩
def K129_0 (h0_0 h0_1 h0_2 h1:List AV) (k:Kont):(Int)→Option AV:=fun p:Int=>k (.exit 0) ⟨[(3,Ai p)],[([0,1],⟨true,[],[AV.agg [AV.sl [.int .i64] h0_0,AV.sl [.int .i64] h0_1,AV.sl [.int .i64,.int .i64] h0_2]]⟩),([0,5],⟨false,[.int .i64],h1⟩)]⟩
def l129_0:LModel:=fun _ _ st k=>match st with
 | ⟨[(1,.ptr g0 g1 g2),(3,.int .i64 t3),(4,.int .i64 t4),(5,.own g3),(6,.int .i64 t6)],[(g4,⟨true,[],[.agg [.sl g5 h0_0,.sl g6 h0_1,.sl g7 h0_2]]⟩),(g8,⟨false,g9,h1⟩)]⟩=>bif nmEq g0 ([0,1]) && Nat.beq g1 0 && Nat.beq g2 0 && nmEq g3 ([0,5]) && nmEq g4 ([0,1]) && ctsEq g5 ([.int .i64]) && ctsEq g6 ([.int .i64]) && ctsEq g7 ([.int .i64,.int .i64]) && nmEq g8 ([0,5]) && ctsEq g9 ([.int .i64]) then ro (runW (R129_0 h0_0 h0_1 h0_2 h1) (((h1.length:Int) - t6:Int).toNat+1) (t3,t4,t6)) none (K129_0 h0_0 h0_1 h0_2 h1 k) else none
 | _=>none
noncomputable def c129:Cfg:=cfg Tryz.prog [(129,0,[1,3,4,5,6]),(129,999,[2]),(129,1000,[3]),(129,1001,[1,3,4,5,6])] [(71,m71),(85,m85)] [] [] [(129,0,l129_0)]
theorem s129_0 (h0_0 h0_1 h0_2 h1:List AV) (ce:CallE) (k:Kont) (s:Int × Int × Int) (next:St→Option AV):stepA (codeA c129 ce [] 129 0 (sub [1,1,1,1,0,1,0,0] (body Tryz.f129))) (normA [] [1,3,4,5,6]) next ((E129_0 h0_0 h0_1 h0_2 h1) s) k=G129_0 h0_0 h0_1 h0_2 h1 s.1 s.2.1 s.2.2 (fun s=>next ((E129_0 h0_0 h0_1 h0_2 h1) s)) (K129_0 h0_0 h0_1 h0_2 h1 k) none:=by kernel_rfl
theorem st129_0 (h0_0 h0_1 h0_2 h1:List AV) (ce:CallE) (k:Kont) (s:(Int × Int × Int)) (next:St→Option AV):stepA (codeA c129 ce [] 129 0 (sub [1,1,1,1,0,1,0,0] (body Tryz.f129))) (normA [] [1,3,4,5,6]) next ((E129_0 h0_0 h0_1 h0_2 h1) s) k=(R129_0 h0_0 h0_1 h0_2 h1 s).el none (fun s=>next ((E129_0 h0_0 h0_1 h0_2 h1) s)) (K129_0 h0_0 h0_1 h0_2 h1 k):=(s129_0 h0_0 h0_1 h0_2 h1 ce k s next).trans (by unfold R129_0;unfold F129_0 G129_0;simp only [el_cond,el_ro,el_sum,el_fail,el_next,el_stop] <;> rfl)
theorem ok129_0 {ce:CallE}:LoopOK c129 ce [] 129 0 (sub [1,1,1,1,0,1,0,0] (body Tryz.f129)):=by
 intro m hm st k r h
 obtain rfl:l129_0=m:=Option.some.inj hm
 unfold l129_0 at h
 split at h
 ·rename_i g0 g1 g2 t3 t4 g3 t6 g4 g5 h0_0 g6 h0_1 g7 h0_2 g8 g9 h1
  obtain ⟨hg,h⟩:=bif_some h
  simp only [Bool.and_eq_true] at hg
  obtain ⟨⟨⟨⟨⟨⟨⟨⟨⟨q0,q1⟩,q2⟩,q3⟩,q4⟩,q5⟩,q6⟩,q7⟩,q8⟩,q9⟩:=hg
  obtain rfl:=nE q0
  obtain rfl:=bE q1
  obtain rfl:=bE q2
  obtain rfl:=nE q3
  obtain rfl:=nE q4
  obtain rfl:=cE q5
  obtain rfl:=cE q6
  obtain rfl:=cE q7
  obtain rfl:=nE q8
  obtain rfl:=cE q9
  refine ⟨(((h1.length:Int) - t6:Int).toNat+1),?_⟩
  rw [← h]
  exact loop_run (E129_0 h0_0 h0_1 h0_2 h1) (K129_0 h0_0 h0_1 h0_2 h1 k) (st129_0 h0_0 h0_1 h0_2 h1 ce k) _ (t3,t4,t6)
 ·cases h
def q129 (xa xb xc:List AV):Bool:=(q85 xa xb xc && (ro (runW (R129_0 xa xb xc (v85_0 xa xb xc)) ((((v85_0 xa xb xc).length:Int) - 0:Int).toNat+1) (0,0,0)) false (fun p75=>true)))
def v129_0 (xa xb xc:List AV):Int:=(ro (runW (R129_0 xa xb xc (v85_0 xa xb xc)) ((((v85_0 xa xb xc).length:Int) - 0:Int).toNat+1) (0,0,0)) 0 (fun p75=>p75))
theorem e129 (xa xb xc:List AV):funA c129 0 129 [AV.agg [AV.sl [.int .i64] xa,AV.sl [.int .i64] xb,AV.sl [.int .i64,.int .i64] xc]]=(bif q85 xa xb xc then (ro (runW (R129_0 xa xb xc (v85_0 xa xb xc)) ((((v85_0 xa xb xc).length:Int) - 0:Int).toNat+1) (0,0,0)) none (fun p75=>some (Ai p75)))
 else none):=by kernel_rfl
def m129:TModel
 | [.agg [.sl g0 xa,.sl g1 xb,.sl g2 xc]]=>bif ctsEq g0 ([.int .i64]) && ctsEq g1 ([.int .i64]) && ctsEq g2 ([.int .i64,.int .i64]) then some (q129 xa xb xc,AV.int .i64 (v129_0 xa xb xc)) else none
 | _=>none
theorem k129:Known Tryz.prog 129:=⟨Tryz.f129,Tryz.func129,by kernel_rfl,by kernel_rfl⟩
theorem meets129:Meets Tryz.prog 129 m129:=by
 refine mt (lvl:=0) (cf:=c129) rfl mixed k129 Tryz.func129 (by kernel_rfl) (loops_cons ok129_0 noLoop) (allT_cons meets71 (allT_cons meets85 allT_nil)) allM_nil noI fun xs r h=>?_
 unfold m129 at h
 split at h
 ·rename_i g0 xa g1 xb g2 xc
  obtain ⟨hg,h⟩:=bif_pair h
  simp only [Bool.and_eq_true] at hg
  obtain ⟨⟨q0,q1⟩,q2⟩:=hg
  obtain rfl:=cE q0
  obtain rfl:=cE q1
  obtain rfl:=cE q2
  obtain ⟨h1,rfl⟩:=pair_inj h
  exact (e129 xa xb xc).trans ((brL (brO (fun o:Option (Int)=>some (Ai (ro o 0 (fun p75=>p75)))) (fun p75=>(fun _=>rfl)))) h1)
 ·cases h
def G60_0 {β:Type} (h0_0:Int) (h0_1:Int) (h0_2:Int) (h0_3:Int) (h0_4:Int) (h1:List AV) (h2_0:Int) (h2_1:Int) (h2_3:Int) (h2_4:Int) (t12:Int) (h2_2:Int) (N:((Int × Int))→β) (K:(Int)→β) (d:β):β:=(bif decide (t12<(h1.length:Int)) then (bif (decide (0≤t12) && decide (t12<(h1.length:Int))) then N (IntKind.i64.wrap (t12+1),(if fI (h1.getD t12.toNat .undef) 0 > h2_2 then fI (h1.getD t12.toNat .undef) 0 else h2_2))
 else d)
 else K h2_2)
def F60_0 (h0_0 h0_1 h0_2 h0_3 h0_4:Int) (h1:List AV) (h2_0 h2_1 h2_3 h2_4 t12 h2_2:Int):Out ((Int × Int)) (Int):=G60_0 h0_0 h0_1 h0_2 h0_3 h0_4 h1 h2_0 h2_1 h2_3 h2_4 t12 h2_2 .next .stop .fail
def R60_0 (h0_0 h0_1 h0_2 h0_3 h0_4:Int) (h1:List AV) (h2_0 h2_1 h2_3 h2_4:Int):((Int × Int))→Out ((Int × Int)) (Int):=fun s:Int × Int=>F60_0 h0_0 h0_1 h0_2 h0_3 h0_4 h1 h2_0 h2_1 h2_3 h2_4 s.1 s.2
def E60_0 (h0_0 h0_1 h0_2 h0_3 h0_4:Int) (h1:List AV) (h2_0 h2_1 h2_3 h2_4:Int):((Int × Int))→St:=fun s:Int × Int=>⟨[(6,AV.ptr [0,6] 0 0),(10,AV.own [0,10]),(11,AV.ptr [0,11] 0 0),(12,Ai s.1)],[([0,6],⟨true,[],[AV.agg [Ai h0_0,Ai h0_1,Ai h0_2,Ai h0_3,Ai h0_4]]⟩),([0,10],⟨false,[.int .i64],h1⟩),([0,11],⟨true,[],[AV.agg [Ai h2_0,Ai h2_1,Ai s.2,Ai h2_3,Ai h2_4]]⟩)]⟩
def K60_0 (h0_0 h0_1 h0_2 h0_3 h0_4:Int) (h1:List AV) (h2_0 h2_1 h2_3 h2_4:Int) (k:Kont):(Int)→Option AV:=fun p:Int=>k (.exit 0) ⟨[(6,AV.ptr [0,6] 0 0),(11,AV.ptr [0,11] 0 0)],[([0,6],⟨true,[],[AV.agg [Ai h0_0,Ai h0_1,Ai h0_2,Ai h0_3,Ai h0_4]]⟩),([0,10],⟨false,[.int .i64],h1⟩),([0,11],⟨true,[],[AV.agg [Ai h2_0,Ai h2_1,Ai p,Ai h2_3,Ai h2_4]]⟩)]⟩
def l60_0:LModel:=fun _ _ st k=>match st with
 | ⟨[(6,.ptr g0 g1 g2),(10,.own g3),(11,.ptr g4 g5 g6),(12,.int .i64 t12)],[(g7,⟨true,[],[.agg [.int .i64 h0_0,.int .i64 h0_1,.int .i64 h0_2,.int .i64 h0_3,.int .i64 h0_4]]⟩),(g8,⟨false,g9,h1⟩),(g10,⟨true,[],[.agg [.int .i64 h2_0,.int .i64 h2_1,.int .i64 h2_2,.int .i64 h2_3,.int .i64 h2_4]]⟩)]⟩=>bif nmEq g0 ([0,6]) && Nat.beq g1 0 && Nat.beq g2 0 && nmEq g3 ([0,10]) && nmEq g4 ([0,11]) && Nat.beq g5 0 && Nat.beq g6 0 && nmEq g7 ([0,6]) && nmEq g8 ([0,10]) && ctsEq g9 ([.int .i64]) && nmEq g10 ([0,11]) then ro (runW (R60_0 h0_0 h0_1 h0_2 h0_3 h0_4 h1 h2_0 h2_1 h2_3 h2_4) (((h1.length:Int) - t12:Int).toNat+1) (t12,h2_2)) none (K60_0 h0_0 h0_1 h0_2 h0_3 h0_4 h1 h2_0 h2_1 h2_3 h2_4 k) else none
 | _=>none
noncomputable def c60:Cfg:=cfg Tryz.prog [(60,0,[6,10,11,12]),(60,999,[6,7]),(60,1000,[6,11]),(60,1001,[6,10,11,12])] [(34,m34),(93,m93),(100,m100),(126,m126),(127,m127),(128,m128),(129,m129)] [] [] [(60,0,l60_0)]
theorem s60_0 (h0_0 h0_1 h0_2 h0_3 h0_4:Int) (h1:List AV) (h2_0 h2_1 h2_3 h2_4:Int) (ce:CallE) (k:Kont) (s:Int × Int) (next:St→Option AV):stepA (codeA c60 ce [] 60 0 (sub [1,1,1,1,0,1,0,0] (body Tryz.f60))) (normA [] [6,10,11,12]) next ((E60_0 h0_0 h0_1 h0_2 h0_3 h0_4 h1 h2_0 h2_1 h2_3 h2_4) s) k=G60_0 h0_0 h0_1 h0_2 h0_3 h0_4 h1 h2_0 h2_1 h2_3 h2_4 s.1 s.2 (fun s=>next ((E60_0 h0_0 h0_1 h0_2 h0_3 h0_4 h1 h2_0 h2_1 h2_3 h2_4) s)) (K60_0 h0_0 h0_1 h0_2 h0_3 h0_4 h1 h2_0 h2_1 h2_3 h2_4 k) none:=by kernel_rfl
theorem st60_0 (h0_0 h0_1 h0_2 h0_3 h0_4:Int) (h1:List AV) (h2_0 h2_1 h2_3 h2_4:Int) (ce:CallE) (k:Kont) (s:(Int × Int)) (next:St→Option AV):stepA (codeA c60 ce [] 60 0 (sub [1,1,1,1,0,1,0,0] (body Tryz.f60))) (normA [] [6,10,11,12]) next ((E60_0 h0_0 h0_1 h0_2 h0_3 h0_4 h1 h2_0 h2_1 h2_3 h2_4) s) k=(R60_0 h0_0 h0_1 h0_2 h0_3 h0_4 h1 h2_0 h2_1 h2_3 h2_4 s).el none (fun s=>next ((E60_0 h0_0 h0_1 h0_2 h0_3 h0_4 h1 h2_0 h2_1 h2_3 h2_4) s)) (K60_0 h0_0 h0_1 h0_2 h0_3 h0_4 h1 h2_0 h2_1 h2_3 h2_4 k):=(s60_0 h0_0 h0_1 h0_2 h0_3 h0_4 h1 h2_0 h2_1 h2_3 h2_4 ce k s next).trans (by unfold R60_0;unfold F60_0 G60_0;simp only [el_cond,el_ro,el_sum,el_fail,el_next,el_stop] <;> rfl)
theorem ok60_0 {ce:CallE}:LoopOK c60 ce [] 60 0 (sub [1,1,1,1,0,1,0,0] (body Tryz.f60)):=by
 intro m hm st k r h
 obtain rfl:l60_0=m:=Option.some.inj hm
 unfold l60_0 at h
 split at h
 ·rename_i g0 g1 g2 g3 g4 g5 g6 t12 g7 h0_0 h0_1 h0_2 h0_3 h0_4 g8 g9 h1 g10 h2_0 h2_1 h2_2 h2_3 h2_4
  obtain ⟨hg,h⟩:=bif_some h
  simp only [Bool.and_eq_true] at hg
  obtain ⟨⟨⟨⟨⟨⟨⟨⟨⟨⟨q0,q1⟩,q2⟩,q3⟩,q4⟩,q5⟩,q6⟩,q7⟩,q8⟩,q9⟩,q10⟩:=hg
  obtain rfl:=nE q0
  obtain rfl:=bE q1
  obtain rfl:=bE q2
  obtain rfl:=nE q3
  obtain rfl:=nE q4
  obtain rfl:=bE q5
  obtain rfl:=bE q6
  obtain rfl:=nE q7
  obtain rfl:=nE q8
  obtain rfl:=cE q9
  obtain rfl:=nE q10
  refine ⟨(((h1.length:Int) - t12:Int).toNat+1),?_⟩
  rw [← h]
  exact loop_run (E60_0 h0_0 h0_1 h0_2 h0_3 h0_4 h1 h2_0 h2_1 h2_3 h2_4) (K60_0 h0_0 h0_1 h0_2 h0_3 h0_4 h1 h2_0 h2_1 h2_3 h2_4 k) (st60_0 h0_0 h0_1 h0_2 h0_3 h0_4 h1 h2_0 h2_1 h2_3 h2_4 ce k) _ (t12,h2_2)
 ·cases h
def q60 (a0:List AV) (ya yb yc:Int) (a2:List AV):Bool:=(q100 a0 && (bif !(v100_0 a0) then true else (bif !(v126_0 ya yb yc) then true else (q127 a2 && (bif !(v127_0 a2) then true else (q128 a0 ya yb yc a2 && (q93 (v128_4 a0 ya yb yc a2) && (q34 (v128_0 a0 ya yb yc a2) (v128_1 a0 ya yb yc a2) (v128_2 a0 ya yb yc a2) && (q129 (v128_0 a0 ya yb yc a2) (v128_1 a0 ya yb yc a2) (v128_2 a0 ya yb yc a2) && (ro (runW (R60_0 0 0 0 0 0 (v128_4 a0 ya yb yc a2) ya (v93_0 (v128_4 a0 ya yb yc a2)) (v34_0 (v128_0 a0 ya yb yc a2) (v128_1 a0 ya yb yc a2) (v128_2 a0 ya yb yc a2)) (v129_0 (v128_0 a0 ya yb yc a2) (v128_1 a0 ya yb yc a2) (v128_2 a0 ya yb yc a2))) ((((v128_4 a0 ya yb yc a2).length:Int) - 0:Int).toNat+1) (0,0)) false (fun p76=>true)))))))))))
def v60_0 (a0:List AV) (ya yb yc:Int) (a2:List AV):Int:=(bif !(v100_0 a0) then 0 else (bif !(v126_0 ya yb yc) then 0 else (bif !(v127_0 a2) then 0 else ya)))
def v60_1 (a0:List AV) (ya yb yc:Int) (a2:List AV):Int:=(bif !(v100_0 a0) then 0 else (bif !(v126_0 ya yb yc) then 0 else (bif !(v127_0 a2) then 0 else (v93_0 (v128_4 a0 ya yb yc a2)))))
def v60_2 (a0:List AV) (ya yb yc:Int) (a2:List AV):Int:=(bif !(v100_0 a0) then 0 else (bif !(v126_0 ya yb yc) then 0 else (bif !(v127_0 a2) then 0 else (ro (runW (R60_0 0 0 0 0 0 (v128_4 a0 ya yb yc a2) ya (v93_0 (v128_4 a0 ya yb yc a2)) (v34_0 (v128_0 a0 ya yb yc a2) (v128_1 a0 ya yb yc a2) (v128_2 a0 ya yb yc a2)) (v129_0 (v128_0 a0 ya yb yc a2) (v128_1 a0 ya yb yc a2) (v128_2 a0 ya yb yc a2))) ((((v128_4 a0 ya yb yc a2).length:Int) - 0:Int).toNat+1) (0,0)) 0 (fun p76=>p76)))))
def v60_3 (a0:List AV) (ya yb yc:Int) (a2:List AV):Int:=(bif !(v100_0 a0) then 0 else (bif !(v126_0 ya yb yc) then 0 else (bif !(v127_0 a2) then 0 else (v34_0 (v128_0 a0 ya yb yc a2) (v128_1 a0 ya yb yc a2) (v128_2 a0 ya yb yc a2)))))
def v60_4 (a0:List AV) (ya yb yc:Int) (a2:List AV):Int:=(bif !(v100_0 a0) then 0 else (bif !(v126_0 ya yb yc) then 0 else (bif !(v127_0 a2) then 0 else (v129_0 (v128_0 a0 ya yb yc a2) (v128_1 a0 ya yb yc a2) (v128_2 a0 ya yb yc a2)))))
def v60_5 (a0:List AV) (ya yb yc:Int) (a2:List AV):Bool:=(bif !(v100_0 a0) then false else (bif !(v126_0 ya yb yc) then false else (bif !(v127_0 a2) then false else true)))
theorem e60 (a0:List AV) (ya yb yc:Int) (a2:List AV):funA c60 0 60 [AV.sl [.int .i64] a0,AV.agg [Ai ya,Ai yb,Ai yc],AV.sl [.int .i64,.int .i64] a2]=((fun (x1:List AV) (x2:List AV) (x3:List AV) (x4:List AV)=>(bif q100 a0 then (bif !(v100_0 a0) then some (AV.tup [AV.agg [Ai 0,Ai 0,Ai 0,Ai 0,Ai 0],AV.bool false])
 else (bif !(v126_0 ya yb yc) then some (AV.tup [AV.agg [Ai 0,Ai 0,Ai 0,Ai 0,Ai 0],AV.bool false])
 else (bif q127 a2 then (bif !(v127_0 a2) then some (AV.tup [AV.agg [Ai 0,Ai 0,Ai 0,Ai 0,Ai 0],AV.bool false])
 else (bif q128 a0 ya yb yc a2 then (bif q93 x4 then (bif q34 x1 x2 x3 then (bif q129 x1 x2 x3 then (ro (runW (R60_0 0 0 0 0 0 x4 ya (v93_0 x4) (v34_0 x1 x2 x3) (v129_0 x1 x2 x3)) (((x4.length:Int) - 0:Int).toNat+1) (0,0)) none (fun p76=>some (AV.tup [AV.agg [Ai ya,Ai (v93_0 x4),Ai p76,Ai (v34_0 x1 x2 x3),Ai (v129_0 x1 x2 x3)],AV.bool true])))
 else none)
 else none)
 else none)
 else none))
 else none)))
 else none)) (v128_0 a0 ya yb yc a2) (v128_1 a0 ya yb yc a2) (v128_2 a0 ya yb yc a2) (v128_4 a0 ya yb yc a2)):=by kernel_rfl
theorem r60 (a0:List AV) (ya yb yc:Int) (a2:List AV) (h:q60 a0 ya yb yc a2=true):funA c60 0 60 [AV.sl [.int .i64] a0,AV.agg [AV.int .i64 ya,AV.int .i64 yb,AV.int .i64 yc],AV.sl [.int .i64,.int .i64] a2]=some (AV.tup [AV.agg [AV.int .i64 (v60_0 a0 ya yb yc a2),AV.int .i64 (v60_1 a0 ya yb yc a2),AV.int .i64 (v60_2 a0 ya yb yc a2),AV.int .i64 (v60_3 a0 ya yb yc a2),AV.int .i64 (v60_4 a0 ya yb yc a2)],AV.bool (v60_5 a0 ya yb yc a2)]):=by
 refine (e60 a0 ya yb yc a2).trans ?_
 unfold q60 at h
 unfold v60_0 v60_1 v60_2 v60_3 v60_4 v60_5
 refine ifG (fun hc=>?_) (fun hc=>?_) <;> first|rw [hc] at h ⊢|rw [hc] at h|rw [hc]|skip
 ·refine ifG (fun hc=>?_) (fun hc=>?_) <;> first|rw [hc] at h ⊢|rw [hc] at h|rw [hc]|skip
  ·rfl
  ·refine ifG (fun hc=>?_) (fun hc=>?_) <;> first|rw [hc] at h ⊢|rw [hc] at h|rw [hc]|skip
   ·rfl
   ·refine ifG (fun hc=>?_) (fun hc=>?_) <;> first|rw [hc] at h ⊢|rw [hc] at h|rw [hc]|skip
    ·refine ifG (fun hc=>?_) (fun hc=>?_) <;> first|rw [hc] at h ⊢|rw [hc] at h|rw [hc]|skip
     ·rfl
     ·refine ifG (fun hc=>?_) (fun hc=>?_) <;> first|rw [hc] at h ⊢|rw [hc] at h|rw [hc]|skip
      ·refine ifG (fun hc=>?_) (fun hc=>?_) <;> first|rw [hc] at h ⊢|rw [hc] at h|rw [hc]|skip
       ·refine ifG (fun hc=>?_) (fun hc=>?_) <;> first|rw [hc] at h ⊢|rw [hc] at h|rw [hc]|skip
        ·refine ifG (fun hc=>?_) (fun hc=>?_) <;> first|rw [hc] at h ⊢|rw [hc] at h|rw [hc]|skip
         ·refine roG (fun hc=>?_) (fun r hc=>?_) <;> first|rw [hc] at h ⊢|rw [hc] at h|rw [hc]|skip
          ·exact Bool.noConfusion h
          ·try simp only [ro] at h ⊢
           rfl
         ·first|exact Bool.noConfusion h|exact Bool.noConfusion hc
        ·first|exact Bool.noConfusion h|exact Bool.noConfusion hc
       ·first|exact Bool.noConfusion h|exact Bool.noConfusion hc
      ·first|exact Bool.noConfusion h|exact Bool.noConfusion hc
    ·first|exact Bool.noConfusion h|exact Bool.noConfusion hc
 ·first|exact Bool.noConfusion h|exact Bool.noConfusion hc
def m60:TModel
 | [.sl g0 a0,.agg [.int .i64 ya,.int .i64 yb,.int .i64 yc],.sl g1 a2]=>bif ctsEq g0 ([.int .i64]) && ctsEq g1 ([.int .i64,.int .i64]) then some (q60 a0 ya yb yc a2,AV.tup [AV.agg [AV.int .i64 (v60_0 a0 ya yb yc a2),AV.int .i64 (v60_1 a0 ya yb yc a2),AV.int .i64 (v60_2 a0 ya yb yc a2),AV.int .i64 (v60_3 a0 ya yb yc a2),AV.int .i64 (v60_4 a0 ya yb yc a2)],AV.bool (v60_5 a0 ya yb yc a2)]) else none
 | _=>none
theorem k60:Known Tryz.prog 60:=⟨Tryz.f60,Tryz.func60,by kernel_rfl,by kernel_rfl⟩
theorem meets60:Meets Tryz.prog 60 m60:=by
 refine mt (lvl:=0) (cf:=c60) rfl mixed k60 Tryz.func60 (by kernel_rfl) (loops_cons ok60_0 noLoop) (allT_cons meets34 (allT_cons meets93 (allT_cons meets100 (allT_cons meets126 (allT_cons meets127 (allT_cons meets128 (allT_cons meets129 allT_nil))))))) allM_nil noI fun xs r h=>?_
 unfold m60 at h
 split at h
 ·rename_i g0 a0 ya yb yc g1 a2
  obtain ⟨hg,h⟩:=bif_pair h
  simp only [Bool.and_eq_true] at hg
  obtain ⟨q0,q1⟩:=hg
  obtain rfl:=cE q0
  obtain rfl:=cE q1
  obtain ⟨h1,rfl⟩:=pair_inj h
  exact r60 a0 ya yb yc a2 h1
 ·cases h
def G50_0 {β:Type} (t0:List AV) (t1:Int) (t2:Int) (t3:List AV) (t10:Int) (h0:List AV) (N:((Int × (List AV)))→β) (K:(((List AV)))→β) (d:β):β:=by
 refine (?f0:Int→Int→Int→Int→Int→Bool→β) (v60_0 t0 t10 t1 t2 t3) (v60_1 t0 t10 t1 t2 t3) (v60_2 t0 t10 t1 t2 t3) (v60_3 t0 t10 t1 t2 t3) (v60_4 t0 t10 t1 t2 t3) (v60_5 t0 t10 t1 t2 t3);intro x1 x2 x3 x4 x5 x6
 exact (bif decide (t10≤2) then (bif q60 t0 t10 t1 t2 t3 then (bif x6 then (bif (decide ((h0.length+([AV.agg [AV.int .i64 x1,AV.int .i64 x2,AV.int .i64 x3,AV.int .i64 x4,AV.int .i64 x5]]).length)*40≤140737488355328) && decide ((h0.length+([AV.agg [AV.int .i64 x1,AV.int .i64 x2,AV.int .i64 x3,AV.int .i64 x4,AV.int .i64 x5]]).length)≤140737488355328)) then N (IntKind.i64.wrap (t10+1),h0++([AV.agg [AV.int .i64 x1,AV.int .i64 x2,AV.int .i64 x3,AV.int .i64 x4,AV.int .i64 x5]]))
 else d)
 else N (IntKind.i64.wrap (t10+1),h0))
 else d)
 else K h0)
def F50_0 (t0:List AV) (t1 t2:Int) (t3:List AV) (t10:Int) (h0:List AV):Out ((Int × (List AV))) (((List AV))):=G50_0 t0 t1 t2 t3 t10 h0 .next .stop .fail
def R50_0 (t0:List AV) (t1 t2:Int) (t3:List AV):((Int × (List AV)))→Out ((Int × (List AV))) (((List AV))):=fun s:Int × (List AV)=>F50_0 t0 t1 t2 t3 s.1 s.2
def E50_0 (t0:List AV) (t1 t2:Int) (t3:List AV):((Int × (List AV)))→St:=fun s:Int × (List AV)=>⟨[(0,AV.sl [.int .i64] t0),(1,Ai t1),(2,Ai t2),(3,AV.sl [.int .i64,.int .i64] t3),(9,AV.own [0,9]),(10,Ai s.1)],[([0,9],⟨false,[.int .i64,.int .i64,.int .i64,.int .i64,.int .i64],s.2⟩)]⟩
def K50_0 (t0:List AV) (t1 t2:Int) (t3:List AV) (k:Kont):(((List AV)))→Option AV:=fun p:(List AV)=>k (.exit 0) ⟨[(9,AV.own [0,9])],[([0,9],⟨false,[.int .i64,.int .i64,.int .i64,.int .i64,.int .i64],p⟩)]⟩
def l50_0:LModel:=fun _ _ st k=>match st with
 | ⟨[(0,.sl g0 t0),(1,.int .i64 t1),(2,.int .i64 t2),(3,.sl g1 t3),(9,.own g2),(10,.int .i64 t10)],[(g3,⟨false,g4,h0⟩)]⟩=>bif ctsEq g0 ([.int .i64]) && ctsEq g1 ([.int .i64,.int .i64]) && nmEq g2 ([0,9]) && nmEq g3 ([0,9]) && ctsEq g4 ([.int .i64,.int .i64,.int .i64,.int .i64,.int .i64]) then ro (runW (R50_0 t0 t1 t2 t3) ((2 - t10+1:Int).toNat+1) (t10,h0)) none (K50_0 t0 t1 t2 t3 k) else none
 | _=>none
noncomputable def c50:Cfg:=cfg Tryz.prog [(50,0,[0,1,2,3,9,10]),(50,999,[8]),(50,1000,[9]),(50,1001,[0,1,2,3,9,10])] [(60,m60)] [] [] [(50,0,l50_0)]
theorem s50_0 (t0:List AV) (t1 t2:Int) (t3:List AV) (ce:CallE) (k:Kont) (s:Int × (List AV)) (next:St→Option AV):stepA (codeA c50 ce [] 50 0 (sub [1,1,0,1,0,0] (body Tryz.f50))) (normA [] [0,1,2,3,9,10]) next ((E50_0 t0 t1 t2 t3) s) k=G50_0 t0 t1 t2 t3 s.1 s.2 (fun s=>next ((E50_0 t0 t1 t2 t3) s)) (K50_0 t0 t1 t2 t3 k) none:=by kernel_rfl
theorem st50_0 (t0:List AV) (t1 t2:Int) (t3:List AV) (ce:CallE) (k:Kont) (s:(Int × (List AV))) (next:St→Option AV):stepA (codeA c50 ce [] 50 0 (sub [1,1,0,1,0,0] (body Tryz.f50))) (normA [] [0,1,2,3,9,10]) next ((E50_0 t0 t1 t2 t3) s) k=(R50_0 t0 t1 t2 t3 s).el none (fun s=>next ((E50_0 t0 t1 t2 t3) s)) (K50_0 t0 t1 t2 t3 k):=(s50_0 t0 t1 t2 t3 ce k s next).trans (by unfold R50_0;unfold F50_0 G50_0;simp only [el_cond,el_ro,el_sum,el_fail,el_next,el_stop] <;> rfl)
theorem ok50_0 {ce:CallE}:LoopOK c50 ce [] 50 0 (sub [1,1,0,1,0,0] (body Tryz.f50)):=by
 intro m hm st k r h
 obtain rfl:l50_0=m:=Option.some.inj hm
 unfold l50_0 at h
 split at h
 ·rename_i g0 t0 t1 t2 g1 t3 g2 t10 g3 g4 h0
  obtain ⟨hg,h⟩:=bif_some h
  simp only [Bool.and_eq_true] at hg
  obtain ⟨⟨⟨⟨q0,q1⟩,q2⟩,q3⟩,q4⟩:=hg
  obtain rfl:=cE q0
  obtain rfl:=cE q1
  obtain rfl:=nE q2
  obtain rfl:=nE q3
  obtain rfl:=cE q4
  refine ⟨((2 - t10+1:Int).toNat+1),?_⟩
  rw [← h]
  exact loop_run (E50_0 t0 t1 t2 t3) (K50_0 t0 t1 t2 t3 k) (st50_0 t0 t1 t2 t3 ce k) _ (t10,h0)
 ·cases h
def q50 (a0:List AV) (a1 a2:Int) (a3:List AV):Bool:=(ro (runW (R50_0 a0 a1 a2 a3) ((2 - 0+1:Int).toNat+1) (0,([]:List AV))) false (fun p77=>true))
def v50_0 (a0:List AV) (a1 a2:Int) (a3:List AV):List AV:=(ro (runW (R50_0 a0 a1 a2 a3) ((2 - 0+1:Int).toNat+1) (0,([]:List AV))) [] (fun p77=>p77))
theorem e50 (a0:List AV) (a1 a2:Int) (a3:List AV):funA c50 0 50 [AV.sl [.int .i64] a0,Ai a1,Ai a2,AV.sl [.int .i64,.int .i64] a3]=(ro (runW (R50_0 a0 a1 a2 a3) ((2 - 0+1:Int).toNat+1) (0,([]:List AV))) none (fun p77=>some (AV.fl [.int .i64,.int .i64,.int .i64,.int .i64,.int .i64] p77))):=by kernel_rfl
def m50:TModel
 | [.sl g0 a0,.int .i64 a1,.int .i64 a2,.sl g1 a3]=>bif ctsEq g0 ([.int .i64]) && ctsEq g1 ([.int .i64,.int .i64]) then some (q50 a0 a1 a2 a3,AV.fl [.int .i64,.int .i64,.int .i64,.int .i64,.int .i64] (v50_0 a0 a1 a2 a3)) else none
 | _=>none
theorem k50:Known Tryz.prog 50:=⟨Tryz.f50,Tryz.func50,by kernel_rfl,by kernel_rfl⟩
theorem meets50:Meets Tryz.prog 50 m50:=by
 refine mt (lvl:=0) (cf:=c50) rfl mixed k50 Tryz.func50 (by kernel_rfl) (loops_cons ok50_0 noLoop) (allT_cons meets60 allT_nil) allM_nil noI fun xs r h=>?_
 unfold m50 at h
 split at h
 ·rename_i g0 a0 a1 a2 g1 a3
  obtain ⟨hg,h⟩:=bif_pair h
  simp only [Bool.and_eq_true] at hg
  obtain ⟨q0,q1⟩:=hg
  obtain rfl:=cE q0
  obtain rfl:=cE q1
  obtain ⟨h1,rfl⟩:=pair_inj h
  exact (e50 a0 a1 a2 a3).trans ((brO (fun o:Option (((List AV)))=>some (AV.fl [.int .i64,.int .i64,.int .i64,.int .i64,.int .i64] (ro o [] (fun p77=>p77)))) (fun p77=>(fun _=>rfl))) h1)
 ·cases h
def G51_0 {β:Type} (t18:Int) (h1:List AV) (t19:Int) (h0_0:Int) (h0_1:Int) (h0_2:Int) (h0_3:Int) (h0_4:Int) (N:((Int × Int × Int × Int × Int × Int))→β) (K:((Int × Int × Int × Int × Int))→β) (d:β):β:=(bif decide (t19<t18) then (bif (decide (0≤t19) && decide (t19<(h1.length:Int))) then (bif decide (h0_0<0) then N (IntKind.i64.wrap (t19+1),fI (h1.getD t19.toNat .undef) 0,fI (h1.getD t19.toNat .undef) 1,fI (h1.getD t19.toNat .undef) 2,fI (h1.getD t19.toNat .undef) 3,fI (h1.getD t19.toNat .undef) 4)
 else (bif decide (fI (h1.getD t19.toNat .undef) 2<h0_2) then N (IntKind.i64.wrap (t19+1),fI (h1.getD t19.toNat .undef) 0,fI (h1.getD t19.toNat .undef) 1,fI (h1.getD t19.toNat .undef) 2,fI (h1.getD t19.toNat .undef) 3,fI (h1.getD t19.toNat .undef) 4)
 else (bif decide (fI (h1.getD t19.toNat .undef) 2=h0_2) then (bif decide (fI (h1.getD t19.toNat .undef) 1<h0_1) then N (IntKind.i64.wrap (t19+1),fI (h1.getD t19.toNat .undef) 0,fI (h1.getD t19.toNat .undef) 1,fI (h1.getD t19.toNat .undef) 2,fI (h1.getD t19.toNat .undef) 3,fI (h1.getD t19.toNat .undef) 4)
 else N (IntKind.i64.wrap (t19+1),h0_0,h0_1,h0_2,h0_3,h0_4))
 else N (IntKind.i64.wrap (t19+1),h0_0,h0_1,h0_2,h0_3,h0_4))))
 else d)
 else K (h0_0,h0_1,h0_2,h0_3,h0_4))
def F51_0 (t18:Int) (h1:List AV) (t19 h0_0 h0_1 h0_2 h0_3 h0_4:Int):Out ((Int × Int × Int × Int × Int × Int)) ((Int × Int × Int × Int × Int)):=G51_0 t18 h1 t19 h0_0 h0_1 h0_2 h0_3 h0_4 .next .stop .fail
def R51_0 (t18:Int) (h1:List AV):((Int × Int × Int × Int × Int × Int))→Out ((Int × Int × Int × Int × Int × Int)) ((Int × Int × Int × Int × Int)):=fun s:Int × Int × Int × Int × Int × Int=>F51_0 t18 h1 s.1 s.2.1 s.2.2.1 s.2.2.2.1 s.2.2.2.2.1 s.2.2.2.2.2
def E51_0 (t18:Int) (h1:List AV):((Int × Int × Int × Int × Int × Int))→St:=fun s:Int × Int × Int × Int × Int × Int=>⟨[(9,AV.ptr [0,9] 0 0),(17,AV.own [0,17]),(18,Ai t18),(19,Ai s.1)],[([0,9],⟨true,[],[AV.agg [Ai s.2.1,Ai s.2.2.1,Ai s.2.2.2.1,Ai s.2.2.2.2.1,Ai s.2.2.2.2.2]]⟩),([0,17],⟨false,[.int .i64,.int .i64,.int .i64,.int .i64,.int .i64],h1⟩)]⟩
def K51_0 (t18:Int) (h1:List AV) (k:Kont):((Int × Int × Int × Int × Int))→Option AV:=fun p:Int × Int × Int × Int × Int=>k (.exit 0) ⟨[(9,AV.ptr [0,9] 0 0)],[([0,9],⟨true,[],[AV.agg [Ai p.1,Ai p.2.1,Ai p.2.2.1,Ai p.2.2.2.1,Ai p.2.2.2.2]]⟩),([0,17],⟨false,[.int .i64,.int .i64,.int .i64,.int .i64,.int .i64],h1⟩)]⟩
def l51_0:LModel:=fun _ _ st k=>match st with
 | ⟨[(9,.ptr g0 g1 g2),(17,.own g3),(18,.int .i64 t18),(19,.int .i64 t19)],[(g4,⟨true,[],[.agg [.int .i64 h0_0,.int .i64 h0_1,.int .i64 h0_2,.int .i64 h0_3,.int .i64 h0_4]]⟩),(g5,⟨false,g6,h1⟩)]⟩=>bif nmEq g0 ([0,9]) && Nat.beq g1 0 && Nat.beq g2 0 && nmEq g3 ([0,17]) && nmEq g4 ([0,9]) && nmEq g5 ([0,17]) && ctsEq g6 ([.int .i64,.int .i64,.int .i64,.int .i64,.int .i64]) then ro (runW (R51_0 t18 h1) ((t18 - t19:Int).toNat+1) (t19,h0_0,h0_1,h0_2,h0_3,h0_4)) none (K51_0 t18 h1 k) else none
 | _=>none
noncomputable def c51:Cfg:=cfg Tryz.prog [(51,0,[9,17,18,19]),(51,999,[8]),(51,1000,[9]),(51,1001,[9,17,18,19])] [(49,m49)] [] [] [(51,0,l51_0)]
theorem s51_0 (t18:Int) (h1:List AV) (ce:CallE) (k:Kont) (s:Int × Int × Int × Int × Int × Int) (next:St→Option AV):stepA (codeA c51 ce [] 51 0 (sub [1,1,0,1,0,0] (body Tryz.f51))) (normA [] [9,17,18,19]) next ((E51_0 t18 h1) s) k=G51_0 t18 h1 s.1 s.2.1 s.2.2.1 s.2.2.2.1 s.2.2.2.2.1 s.2.2.2.2.2 (fun s=>next ((E51_0 t18 h1) s)) (K51_0 t18 h1 k) none:=by kernel_rfl
theorem st51_0 (t18:Int) (h1:List AV) (ce:CallE) (k:Kont) (s:(Int × Int × Int × Int × Int × Int)) (next:St→Option AV):stepA (codeA c51 ce [] 51 0 (sub [1,1,0,1,0,0] (body Tryz.f51))) (normA [] [9,17,18,19]) next ((E51_0 t18 h1) s) k=(R51_0 t18 h1 s).el none (fun s=>next ((E51_0 t18 h1) s)) (K51_0 t18 h1 k):=(s51_0 t18 h1 ce k s next).trans (by unfold R51_0;unfold F51_0 G51_0;simp only [el_cond,el_ro,el_sum,el_fail,el_next,el_stop] <;> rfl)
theorem ok51_0 {ce:CallE}:LoopOK c51 ce [] 51 0 (sub [1,1,0,1,0,0] (body Tryz.f51)):=by
 intro m hm st k r h
 obtain rfl:l51_0=m:=Option.some.inj hm
 unfold l51_0 at h
 split at h
 ·rename_i g0 g1 g2 g3 t18 t19 g4 h0_0 h0_1 h0_2 h0_3 h0_4 g5 g6 h1
  obtain ⟨hg,h⟩:=bif_some h
  simp only [Bool.and_eq_true] at hg
  obtain ⟨⟨⟨⟨⟨⟨q0,q1⟩,q2⟩,q3⟩,q4⟩,q5⟩,q6⟩:=hg
  obtain rfl:=nE q0
  obtain rfl:=bE q1
  obtain rfl:=bE q2
  obtain rfl:=nE q3
  obtain rfl:=nE q4
  obtain rfl:=nE q5
  obtain rfl:=cE q6
  refine ⟨((t18 - t19:Int).toNat+1),?_⟩
  rw [← h]
  exact loop_run (E51_0 t18 h1) (K51_0 t18 h1 k) (st51_0 t18 h1 ce k) _ (t19,h0_0,h0_1,h0_2,h0_3,h0_4)
 ·cases h
def q51 (a0:List AV) (a1 a2:Int) (a3:List AV):Bool:=(q49 a0 a1 a2 a3 && (ro (runW (R51_0 ((v49_0 a0 a1 a2 a3).length:Int) (v49_0 a0 a1 a2 a3)) ((((v49_0 a0 a1 a2 a3).length:Int) - 0:Int).toNat+1) (0,(-1),0,0,0,0)) false (fun p78=>true)))
def v51_0 (a0:List AV) (a1 a2:Int) (a3:List AV):Int:=(ro (runW (R51_0 ((v49_0 a0 a1 a2 a3).length:Int) (v49_0 a0 a1 a2 a3)) ((((v49_0 a0 a1 a2 a3).length:Int) - 0:Int).toNat+1) (0,(-1),0,0,0,0)) 0 (fun p78=>p78.1))
theorem e51 (a0:List AV) (a1 a2:Int) (a3:List AV):funA c51 0 51 [AV.sl [.int .i64] a0,Ai a1,Ai a2,AV.sl [.int .i64,.int .i64] a3]=(bif q49 a0 a1 a2 a3 then (ro (runW (R51_0 ((v49_0 a0 a1 a2 a3).length:Int) (v49_0 a0 a1 a2 a3)) ((((v49_0 a0 a1 a2 a3).length:Int) - 0:Int).toNat+1) (0,(-1),0,0,0,0)) none (fun p78=>some (Ai p78.1)))
 else none):=by kernel_rfl
def m51:TModel
 | [.sl g0 a0,.int .i64 a1,.int .i64 a2,.sl g1 a3]=>bif ctsEq g0 ([.int .i64]) && ctsEq g1 ([.int .i64,.int .i64]) then some (q51 a0 a1 a2 a3,AV.int .i64 (v51_0 a0 a1 a2 a3)) else none
 | _=>none
theorem k51:Known Tryz.prog 51:=⟨Tryz.f51,Tryz.func51,by kernel_rfl,by kernel_rfl⟩
theorem meets51:Meets Tryz.prog 51 m51:=by
 refine mt (lvl:=0) (cf:=c51) rfl mixed k51 Tryz.func51 (by kernel_rfl) (loops_cons ok51_0 noLoop) (allT_cons meets49 allT_nil) allM_nil noI fun xs r h=>?_
 unfold m51 at h
 split at h
 ·rename_i g0 a0 a1 a2 g1 a3
  obtain ⟨hg,h⟩:=bif_pair h
  simp only [Bool.and_eq_true] at hg
  obtain ⟨q0,q1⟩:=hg
  obtain rfl:=cE q0
  obtain rfl:=cE q1
  obtain ⟨h1,rfl⟩:=pair_inj h
  exact (e51 a0 a1 a2 a3).trans ((brL (brO (fun o:Option ((Int × Int × Int × Int × Int))=>some (Ai (ro o 0 (fun p78=>p78.1)))) (fun p78=>(fun _=>rfl)))) h1)
 ·cases h
def G52_0 {β:Type} (h0:List AV) (t10:Int) (t11:Int) (N:((Int × Int))→β) (K:(Int)→β) (d:β):β:=(bif decide (t11<(h0.length:Int)) then (bif decide (t10<0) then N (t11,IntKind.i64.wrap (t11+1))
 else (bif (decide (0≤t11) && decide (t11<(h0.length:Int))) then (bif (decide (0≤t10) && decide (t10<(h0.length:Int))) then (bif decide (fI (h0.getD t11.toNat .undef) 2<fI (h0.getD t10.toNat .undef) 2) then N (t11,IntKind.i64.wrap (t11+1))
 else (bif (decide (0≤t11) && decide (t11<(h0.length:Int))) then (bif (decide (0≤t10) && decide (t10<(h0.length:Int))) then (bif decide (fI (h0.getD t11.toNat .undef) 2=fI (h0.getD t10.toNat .undef) 2) then (bif (decide (0≤t11) && decide (t11<(h0.length:Int))) then (bif (decide (0≤t10) && decide (t10<(h0.length:Int))) then (bif decide (fI (h0.getD t11.toNat .undef) 1<fI (h0.getD t10.toNat .undef) 1) then N (t11,IntKind.i64.wrap (t11+1))
 else N (t10,IntKind.i64.wrap (t11+1)))
 else d)
 else d)
 else N (t10,IntKind.i64.wrap (t11+1)))
 else d)
 else d))
 else d)
 else d))
 else K t10)
def F52_0 (h0:List AV) (t10 t11:Int):Out ((Int × Int)) (Int):=G52_0 h0 t10 t11 .next .stop .fail
def R52_0 (h0:List AV):((Int × Int))→Out ((Int × Int)) (Int):=fun s:Int × Int=>F52_0 h0 s.1 s.2
def E52_0 (h0:List AV):((Int × Int))→St:=fun s:Int × Int=>⟨[(9,AV.own [0,9]),(10,Ai s.1),(11,Ai s.2)],[([0,9],⟨false,[.int .i64,.int .i64,.int .i64,.int .i64,.int .i64],h0⟩)]⟩
def K52_0 (h0:List AV) (k:Kont):(Int)→Option AV:=fun p:Int=>k (.exit 0) ⟨[(10,Ai p)],[([0,9],⟨false,[.int .i64,.int .i64,.int .i64,.int .i64,.int .i64],h0⟩)]⟩
def l52_0:LModel:=fun _ _ st k=>match st with
 | ⟨[(9,.own g0),(10,.int .i64 t10),(11,.int .i64 t11)],[(g1,⟨false,g2,h0⟩)]⟩=>bif nmEq g0 ([0,9]) && nmEq g1 ([0,9]) && ctsEq g2 ([.int .i64,.int .i64,.int .i64,.int .i64,.int .i64]) then ro (runW (R52_0 h0) (((h0.length:Int) - t11:Int).toNat+1) (t10,t11)) none (K52_0 h0 k) else none
 | _=>none
noncomputable def c52:Cfg:=cfg Tryz.prog [(52,0,[9,10,11]),(52,999,[8]),(52,1000,[10]),(52,1001,[9,10,11])] [(50,m50)] [] [] [(52,0,l52_0)]
theorem s52_0 (h0:List AV) (ce:CallE) (k:Kont) (s:Int × Int) (next:St→Option AV):stepA (codeA c52 ce [] 52 0 (sub [1,1,1,0,1,0,0] (body Tryz.f52))) (normA [] [9,10,11]) next ((E52_0 h0) s) k=G52_0 h0 s.1 s.2 (fun s=>next ((E52_0 h0) s)) (K52_0 h0 k) none:=by kernel_rfl
theorem st52_0 (h0:List AV) (ce:CallE) (k:Kont) (s:(Int × Int)) (next:St→Option AV):stepA (codeA c52 ce [] 52 0 (sub [1,1,1,0,1,0,0] (body Tryz.f52))) (normA [] [9,10,11]) next ((E52_0 h0) s) k=(R52_0 h0 s).el none (fun s=>next ((E52_0 h0) s)) (K52_0 h0 k):=(s52_0 h0 ce k s next).trans (by unfold R52_0;unfold F52_0 G52_0;simp only [el_cond,el_ro,el_sum,el_fail,el_next,el_stop] <;> rfl)
theorem ok52_0 {ce:CallE}:LoopOK c52 ce [] 52 0 (sub [1,1,1,0,1,0,0] (body Tryz.f52)):=by
 intro m hm st k r h
 obtain rfl:l52_0=m:=Option.some.inj hm
 unfold l52_0 at h
 split at h
 ·rename_i g0 t10 t11 g1 g2 h0
  obtain ⟨hg,h⟩:=bif_some h
  simp only [Bool.and_eq_true] at hg
  obtain ⟨⟨q0,q1⟩,q2⟩:=hg
  obtain rfl:=nE q0
  obtain rfl:=nE q1
  obtain rfl:=cE q2
  refine ⟨(((h0.length:Int) - t11:Int).toNat+1),?_⟩
  rw [← h]
  exact loop_run (E52_0 h0) (K52_0 h0 k) (st52_0 h0 ce k) _ (t10,t11)
 ·cases h
def q52 (a0:List AV) (a1 a2:Int) (a3:List AV):Bool:=(q50 a0 a1 a2 a3 && (ro (runW (R52_0 (v50_0 a0 a1 a2 a3)) ((((v50_0 a0 a1 a2 a3).length:Int) - 0:Int).toNat+1) ((-1),0)) false (fun p79=>true)))
def v52_0 (a0:List AV) (a1 a2:Int) (a3:List AV):Int:=(ro (runW (R52_0 (v50_0 a0 a1 a2 a3)) ((((v50_0 a0 a1 a2 a3).length:Int) - 0:Int).toNat+1) ((-1),0)) 0 (fun p79=>p79))
theorem e52 (a0:List AV) (a1 a2:Int) (a3:List AV):funA c52 0 52 [AV.sl [.int .i64] a0,Ai a1,Ai a2,AV.sl [.int .i64,.int .i64] a3]=(bif q50 a0 a1 a2 a3 then (ro (runW (R52_0 (v50_0 a0 a1 a2 a3)) ((((v50_0 a0 a1 a2 a3).length:Int) - 0:Int).toNat+1) ((-1),0)) none (fun p79=>some (Ai p79)))
 else none):=by kernel_rfl
def m52:TModel
 | [.sl g0 a0,.int .i64 a1,.int .i64 a2,.sl g1 a3]=>bif ctsEq g0 ([.int .i64]) && ctsEq g1 ([.int .i64,.int .i64]) then some (q52 a0 a1 a2 a3,AV.int .i64 (v52_0 a0 a1 a2 a3)) else none
 | _=>none
theorem k52:Known Tryz.prog 52:=⟨Tryz.f52,Tryz.func52,by kernel_rfl,by kernel_rfl⟩
theorem meets52:Meets Tryz.prog 52 m52:=by
 refine mt (lvl:=0) (cf:=c52) rfl mixed k52 Tryz.func52 (by kernel_rfl) (loops_cons ok52_0 noLoop) (allT_cons meets50 allT_nil) allM_nil noI fun xs r h=>?_
 unfold m52 at h
 split at h
 ·rename_i g0 a0 a1 a2 g1 a3
  obtain ⟨hg,h⟩:=bif_pair h
  simp only [Bool.and_eq_true] at hg
  obtain ⟨q0,q1⟩:=hg
  obtain rfl:=cE q0
  obtain rfl:=cE q1
  obtain ⟨h1,rfl⟩:=pair_inj h
  exact (e52 a0 a1 a2 a3).trans ((brL (brO (fun o:Option (Int)=>some (Ai (ro o 0 (fun p79=>p79)))) (fun p79=>(fun _=>rfl)))) h1)
 ·cases h
noncomputable def c116:Cfg:=cfg Tryz.prog [(116,999,[2])] [] [] [] []
def q116 (a0:Int):Bool:=(bif decide (a0<0) then true else (bif decide (a0 > 2) then true else (decide (0≤a0) && decide (a0<3))))
def v116_0 (a0:Int):ByteArray:=(bif decide (a0<0) then ByteArray.empty else (bif decide (a0 > 2) then ByteArray.empty else fS (([AV.str (ByteArray.mk #[112,108,97,105,110]),AV.str (ByteArray.mk #[99,101,110,116,101,114]),AV.str (ByteArray.mk #[114,97,110,100,111,109])]).getD a0.toNat .undef) 0))
theorem e116 (a0:Int):funA c116 0 116 [Ai a0]=(bif decide (a0<0) then some (AV.str ByteArray.empty)
 else (bif decide (a0 > 2) then some (AV.str ByteArray.empty)
 else (bif (decide (0≤a0) && decide (a0<3)) then some (AV.str (fS (([AV.str (ByteArray.mk #[112,108,97,105,110]),AV.str (ByteArray.mk #[99,101,110,116,101,114]),AV.str (ByteArray.mk #[114,97,110,100,111,109])]).getD a0.toNat .undef) 0))
 else none))):=by kernel_rfl
def m116:TModel
 | [.int .i64 a0]=>some (q116 a0,AV.str (v116_0 a0))
 | _=>none
theorem k116:Known Tryz.prog 116:=⟨Tryz.f116,Tryz.func116,by kernel_rfl,by kernel_rfl⟩
theorem meets116:Meets Tryz.prog 116 m116:=by
 refine mt (lvl:=0) (cf:=c116) rfl mixed k116 Tryz.func116 (by kernel_rfl) noLoop allT_nil allM_nil noI fun xs r h=>?_
 unfold m116 at h
 split at h
 ·rename_i a0
  obtain ⟨h1,rfl⟩:=pair_inj h
  exact (e116 a0).trans ((br (fun b=>some (AV.str (bif b then ByteArray.empty else (bif decide (a0 > 2) then ByteArray.empty else fS (([AV.str (ByteArray.mk #[112,108,97,105,110]),AV.str (ByteArray.mk #[99,101,110,116,101,114]),AV.str (ByteArray.mk #[114,97,110,100,111,109])]).getD a0.toNat .undef) 0)))) (fun _=>rfl) (br (fun b=>some (AV.str (bif b then ByteArray.empty else fS (([AV.str (ByteArray.mk #[112,108,97,105,110]),AV.str (ByteArray.mk #[99,101,110,116,101,114]),AV.str (ByteArray.mk #[114,97,110,100,111,109])]).getD a0.toNat .undef) 0))) (fun _=>rfl) (brL1 (fun _=>rfl)))) h1)
 ·cases h
def q150 (a0:Int):Bool:=decide (-9223372036854775808≤a0) && decide (a0≤9223372036854775807)
def v150_0 (a0:Int):ByteArray:=itoaB a0
def m150:TModel:=itoaM
theorem k150:Known Tryz.prog 150:=⟨Tryz.f150,Tryz.func150,by kernel_rfl,by kernel_rfl⟩
theorem meets150:Meets Tryz.prog 150 m150:=itoa_meets ⟨k150,fun n w h0 h1 hG=>Any.strconv_Itoa lays171 n h0 h1 w hG⟩
noncomputable def c79:Cfg:=cfg Tryz.prog [(79,999,[2])] [(150,m150)] [] [] []
def q79 (a0:Int):Bool:=q150 a0
def v79_0 (a0:Int):ByteArray:=(v150_0 a0)
theorem e79 (a0:Int):funA c79 0 79 [Ai a0]=(bif q150 a0 then some (AV.str (v150_0 a0))
 else none):=by kernel_rfl
def m79:TModel
 | [.int .i64 a0]=>some (q79 a0,AV.str (v79_0 a0))
 | _=>none
theorem k79:Known Tryz.prog 79:=⟨Tryz.f79,Tryz.func79,by kernel_rfl,by kernel_rfl⟩
theorem meets79:Meets Tryz.prog 79 m79:=by
 refine mt (lvl:=0) (cf:=c79) rfl mixed k79 Tryz.func79 (by kernel_rfl) noLoop (allT_cons meets150 allT_nil) allM_nil noI fun xs r h=>?_
 unfold m79 at h
 split at h
 ·rename_i a0
  obtain ⟨h1,rfl⟩:=pair_inj h
  exact (e79 a0).trans ((brL1 (fun _=>rfl)) h1)
 ·cases h
def q90 (a0:List AV) (a1:ByteArray):Bool:=decide (a0.length≤140737488355328) && decide ((joinB a0 a1).size≤140737488355328)
def v90_0 (a0:List AV) (a1:ByteArray):ByteArray:=joinB a0 a1
def m90:TModel:=joinM
theorem k90:Known Tryz.prog 90:=⟨Tryz.f90,Tryz.func90,by kernel_rfl,by kernel_rfl⟩
theorem meets90:Meets Tryz.prog 90 m90:=join_meets ⟨k90,fun a c sep w=>Any.strings_Join_none lays156 extra156 a c sep w,fun bk o c xs sep w h1 h2 h3 h4 h5=>Any.strings_Join lays156 extra156 bk o c xs sep w h1 h2 h3 h4 h5⟩
noncomputable def c53:Cfg:=cfg Tryz.prog [(53,999,[2])] [(79,m79),(90,m90),(116,m116)] [] [] []
def q53 (xa xb xc xd xe:Int):Bool:=(q116 xa && (bif ((v116_0 xa).toList == ByteArray.empty.toList) then true else (q79 xb && (q79 xc && (q79 xd && (q79 xe && q90 ([AV.str (v116_0 xa),AV.str (ByteArray.mk #[115,119,97,112,115]),AV.str (v79_0 xb),AV.str (ByteArray.mk #[119,111,114,115,116]),AV.str (v79_0 xc),AV.str (ByteArray.mk #[112,105,101,99,101,115]),AV.str (v79_0 xd),AV.str (ByteArray.mk #[108,97,114,103,101,115,116]),AV.str (v79_0 xe)]) (ByteArray.mk #[32])))))))
def v53_0 (xa xb xc xd xe:Int):ByteArray:=(bif ((v116_0 xa).toList == ByteArray.empty.toList) then ByteArray.empty else (v90_0 ([AV.str (v116_0 xa),AV.str (ByteArray.mk #[115,119,97,112,115]),AV.str (v79_0 xb),AV.str (ByteArray.mk #[119,111,114,115,116]),AV.str (v79_0 xc),AV.str (ByteArray.mk #[112,105,101,99,101,115]),AV.str (v79_0 xd),AV.str (ByteArray.mk #[108,97,114,103,101,115,116]),AV.str (v79_0 xe)]) (ByteArray.mk #[32])))
theorem e53 (xa xb xc xd xe:Int):funA c53 0 53 [AV.agg [Ai xa,Ai xb,Ai xc,Ai xd,Ai xe]]=(bif q116 xa then (bif ((v116_0 xa).toList == ByteArray.empty.toList) then some (AV.str ByteArray.empty)
 else (bif q79 xb then (bif q79 xc then (bif q79 xd then (bif q79 xe then (bif q90 ([AV.str (v116_0 xa),AV.str (ByteArray.mk #[115,119,97,112,115]),AV.str (v79_0 xb),AV.str (ByteArray.mk #[119,111,114,115,116]),AV.str (v79_0 xc),AV.str (ByteArray.mk #[112,105,101,99,101,115]),AV.str (v79_0 xd),AV.str (ByteArray.mk #[108,97,114,103,101,115,116]),AV.str (v79_0 xe)]) (ByteArray.mk #[32]) then some (AV.str (v90_0 ([AV.str (v116_0 xa),AV.str (ByteArray.mk #[115,119,97,112,115]),AV.str (v79_0 xb),AV.str (ByteArray.mk #[119,111,114,115,116]),AV.str (v79_0 xc),AV.str (ByteArray.mk #[112,105,101,99,101,115]),AV.str (v79_0 xd),AV.str (ByteArray.mk #[108,97,114,103,101,115,116]),AV.str (v79_0 xe)]) (ByteArray.mk #[32])))
 else none)
 else none)
 else none)
 else none)
 else none))
 else none):=by kernel_rfl
def m53:TModel
 | [.agg [.int .i64 xa,.int .i64 xb,.int .i64 xc,.int .i64 xd,.int .i64 xe]]=>some (q53 xa xb xc xd xe,AV.str (v53_0 xa xb xc xd xe))
 | _=>none
theorem k53:Known Tryz.prog 53:=⟨Tryz.f53,Tryz.func53,by kernel_rfl,by kernel_rfl⟩
theorem meets53:Meets Tryz.prog 53 m53:=by
 refine mt (lvl:=0) (cf:=c53) rfl mixed k53 Tryz.func53 (by kernel_rfl) noLoop (allT_cons meets79 (allT_cons meets90 (allT_cons meets116 allT_nil))) allM_nil noI fun xs r h=>?_
 unfold m53 at h
 split at h
 ·rename_i xa xb xc xd xe
  obtain ⟨h1,rfl⟩:=pair_inj h
  exact (e53 xa xb xc xd xe).trans ((brL (br (fun b=>some (AV.str (bif b then ByteArray.empty else (v90_0 ([AV.str (v116_0 xa),AV.str (ByteArray.mk #[115,119,97,112,115]),AV.str (v79_0 xb),AV.str (ByteArray.mk #[119,111,114,115,116]),AV.str (v79_0 xc),AV.str (ByteArray.mk #[112,105,101,99,101,115]),AV.str (v79_0 xd),AV.str (ByteArray.mk #[108,97,114,103,101,115,116]),AV.str (v79_0 xe)]) (ByteArray.mk #[32]))))) (fun _=>rfl) (brL (brL (brL (brL (brL1 (fun _=>rfl)))))))) h1)
 ·cases h
noncomputable def c117:Cfg:=cfg Tryz.prog [(117,999,[2])] [(72,m72)] [] [] []
def q117 (a0:Int):Bool:=(bif !(v72_0 a0 0 2) then true else (decide (0≤a0) && decide (a0<3)))
def v117_0 (a0:Int):ByteArray:=(bif !(v72_0 a0 0 2) then ByteArray.empty else fS (([AV.str (ByteArray.mk #[112,108,97,105,110]),AV.str (ByteArray.mk #[99,101,110,116,101,114]),AV.str (ByteArray.mk #[114,97,110,100,111,109])]).getD a0.toNat .undef) 0)
theorem e117 (a0:Int):funA c117 0 117 [Ai a0]=(bif !(v72_0 a0 0 2) then some (AV.str ByteArray.empty)
 else (bif (decide (0≤a0) && decide (a0<3)) then some (AV.str (fS (([AV.str (ByteArray.mk #[112,108,97,105,110]),AV.str (ByteArray.mk #[99,101,110,116,101,114]),AV.str (ByteArray.mk #[114,97,110,100,111,109])]).getD a0.toNat .undef) 0))
 else none)):=by kernel_rfl
def m117:TModel
 | [.int .i64 a0]=>some (q117 a0,AV.str (v117_0 a0))
 | _=>none
theorem k117:Known Tryz.prog 117:=⟨Tryz.f117,Tryz.func117,by kernel_rfl,by kernel_rfl⟩
theorem meets117:Meets Tryz.prog 117 m117:=by
 refine mt (lvl:=0) (cf:=c117) rfl mixed k117 Tryz.func117 (by kernel_rfl) noLoop (allT_cons meets72 allT_nil) allM_nil noI fun xs r h=>?_
 unfold m117 at h
 split at h
 ·rename_i a0
  obtain ⟨h1,rfl⟩:=pair_inj h
  exact (e117 a0).trans ((br (fun b=>some (AV.str (bif b then ByteArray.empty else fS (([AV.str (ByteArray.mk #[112,108,97,105,110]),AV.str (ByteArray.mk #[99,101,110,116,101,114]),AV.str (ByteArray.mk #[114,97,110,100,111,109])]).getD a0.toNat .undef) 0))) (fun _=>rfl) (brL1 (fun _=>rfl))) h1)
 ·cases h
def G86_0 {β:Type} (t4:Bool) (t0:Int) (t3:ByteArray) (N:((Int × ByteArray))→β) (K:(ByteArray)→β) (d:β):β:=(bif !decide (t0=0) then (bif !decide (10=0) then (bif decide (Int.tmod t0 10<0) then (bif decide ((bytesA ([AV.int .u8 (IntKind.u8.wrap (IntKind.i64.wrap (48+IntKind.i64.wrap (0 - (Int.tmod t0 10)))))])).size+t3.size≤4611686018427387904) then (bif !decide (10=0) then N (IntKind.i64.wrap (Int.tdiv t0 10),(bytesA ([AV.int .u8 (IntKind.u8.wrap (IntKind.i64.wrap (48+IntKind.i64.wrap (0 - (Int.tmod t0 10)))))]))++t3)
 else d)
 else d)
 else (bif decide ((bytesA ([AV.int .u8 (IntKind.u8.wrap (IntKind.i64.wrap (48+Int.tmod t0 10)))])).size+t3.size≤4611686018427387904) then (bif !decide (10=0) then N (IntKind.i64.wrap (Int.tdiv t0 10),(bytesA ([AV.int .u8 (IntKind.u8.wrap (IntKind.i64.wrap (48+Int.tmod t0 10)))]))++t3)
 else d)
 else d))
 else d)
 else K t3)
def F86_0 (t4:Bool) (t0:Int) (t3:ByteArray):Out ((Int × ByteArray)) (ByteArray):=G86_0 t4 t0 t3 .next .stop .fail
def R86_0 (t4:Bool):((Int × ByteArray))→Out ((Int × ByteArray)) (ByteArray):=fun s:Int × ByteArray=>F86_0 t4 s.1 s.2
def E86_0 (t4:Bool):((Int × ByteArray))→St:=fun s:Int × ByteArray=>⟨[(0,Ai s.1),(3,AV.str s.2),(4,AV.bool t4)],[]⟩
def K86_0 (t4:Bool) (k:Kont):(ByteArray)→Option AV:=fun p:ByteArray=>k (.exit 0) ⟨[(3,AV.str p),(4,AV.bool t4)],[]⟩
def l86_0:LModel:=fun _ _ st k=>match st with
 | ⟨[(0,.int .i64 t0),(3,.str t3),(4,.bool t4)],[]⟩=>ro (runW (R86_0 t4) (t0.natAbs+1) (t0,t3)) none (K86_0 t4 k)
 | _=>none
noncomputable def c86:Cfg:=cfg Tryz.prog [(86,0,[0,3,4]),(86,999,[2]),(86,1000,[3,4]),(86,1001,[0,3,4])] [] [] [] [(86,0,l86_0)]
theorem s86_0 (t4:Bool) (ce:CallE) (k:Kont) (s:Int × ByteArray) (next:St→Option AV):stepA (codeA c86 ce [] 86 0 (sub [1,1,1,1,0,0,0] (body Tryz.f86))) (normA [] [0,3,4]) next ((E86_0 t4) s) k=G86_0 t4 s.1 s.2 (fun s=>next ((E86_0 t4) s)) (K86_0 t4 k) none:=by kernel_rfl
theorem st86_0 (t4:Bool) (ce:CallE) (k:Kont) (s:(Int × ByteArray)) (next:St→Option AV):stepA (codeA c86 ce [] 86 0 (sub [1,1,1,1,0,0,0] (body Tryz.f86))) (normA [] [0,3,4]) next ((E86_0 t4) s) k=(R86_0 t4 s).el none (fun s=>next ((E86_0 t4) s)) (K86_0 t4 k):=(s86_0 t4 ce k s next).trans (by unfold R86_0;unfold F86_0 G86_0;simp only [el_cond,el_ro,el_sum,el_fail,el_next,el_stop] <;> rfl)
theorem ok86_0 {ce:CallE}:LoopOK c86 ce [] 86 0 (sub [1,1,1,1,0,0,0] (body Tryz.f86)):=by
 intro m hm st k r h
 obtain rfl:l86_0=m:=Option.some.inj hm
 unfold l86_0 at h
 split at h
 ·rename_i t0 t3 t4
  refine ⟨(t0.natAbs+1),?_⟩
  rw [← h]
  exact loop_run (E86_0 t4) (K86_0 t4 k) (st86_0 t4 ce k) _ (t0,t3)
 ·cases h
def q86 (a0:Int):Bool:=(bif decide (a0=0) then true else (ro (runW (R86_0 (decide (a0<0))) (a0.natAbs+1) (a0,ByteArray.empty)) false (fun p80=>(bif decide (a0<0) then decide ((ByteArray.mk #[45]).size+p80.size≤4611686018427387904) else true))))
def v86_0 (a0:Int):ByteArray:=(bif decide (a0=0) then (ByteArray.mk #[48]) else (ro (runW (R86_0 (decide (a0<0))) (a0.natAbs+1) (a0,ByteArray.empty)) ByteArray.empty (fun p80=>(bif decide (a0<0) then (ByteArray.mk #[45])++p80 else p80))))
theorem e86 (a0:Int):funA c86 0 86 [Ai a0]=(bif decide (a0=0) then some (AV.str (ByteArray.mk #[48]))
 else (ro (runW (R86_0 (decide (a0<0))) (a0.natAbs+1) (a0,ByteArray.empty)) none (fun p80=>(bif decide (a0<0) then (bif decide ((ByteArray.mk #[45]).size+p80.size≤4611686018427387904) then some (AV.str ((ByteArray.mk #[45])++p80))
 else none)
 else some (AV.str p80))))):=by kernel_rfl
def m86:TModel
 | [.int .i64 a0]=>some (q86 a0,AV.str (v86_0 a0))
 | _=>none
theorem k86:Known Tryz.prog 86:=⟨Tryz.f86,Tryz.func86,by kernel_rfl,by kernel_rfl⟩
theorem meets86:Meets Tryz.prog 86 m86:=by
 refine mt (lvl:=0) (cf:=c86) rfl mixed k86 Tryz.func86 (by kernel_rfl) (loops_cons ok86_0 noLoop) allT_nil allM_nil noI fun xs r h=>?_
 unfold m86 at h
 split at h
 ·rename_i a0
  obtain ⟨h1,rfl⟩:=pair_inj h
  exact (e86 a0).trans ((br (fun b=>some (AV.str (bif b then (ByteArray.mk #[48]) else (ro (runW (R86_0 (decide (a0<0))) (a0.natAbs+1) (a0,ByteArray.empty)) ByteArray.empty (fun p80=>(bif decide (a0<0) then (ByteArray.mk #[45])++p80 else p80)))))) (fun _=>rfl) (brO (fun o:Option (ByteArray)=>some (AV.str (ro o ByteArray.empty (fun p80=>(bif decide (a0<0) then (ByteArray.mk #[45])++p80 else p80))))) (fun p80=>(br (fun b=>some (AV.str (bif b then (ByteArray.mk #[45])++p80 else p80))) (brL1 (fun _=>rfl)) (fun _=>rfl))))) h1)
 ·cases h
end
end Go.Proofs.YtealoedecngaoaaGreatDoor
