import Derived.Test.YtmcnplggcedihaaGreatCP4
import Derived.Test.YtmcnplggcedihaaGreatProg
import Derived.KernelRfl
namespace Go.Proofs.YtmcnplggcedihaaGreat
open Go Go.Proofs.VE
set_option linter.unusedVariables false
set_option linter.unusedSimpArgs false
set_option maxRecDepth 100000
set_option maxHeartbeats 4000000
def F24_0 (t1 t5:Int) (h0:List AV):Out ((Int × Int × (List AV))) ((Int × (List AV))):=(bif decide (t5<(h0.length:Int)) then (bif (decide (0≤t5) && decide (t5<(h0.length:Int))) then (bif (decide (0≤t5) && decide (t5<((h0.set t5.toNat (AV.agg [AV.int .i64 t1,AV.int .i64 (fI (h0.getD t5.toNat .undef) 1)])).length:Int))) then .next (IntKind.i64.wrap (IntKind.i64.wrap (t1+1)+1),IntKind.i64.wrap (t5+1),(h0.set t5.toNat (AV.agg [AV.int .i64 t1,AV.int .i64 (fI (h0.getD t5.toNat .undef) 1)])).set t5.toNat (AV.agg [AV.int .i64 (fI ((h0.set t5.toNat (AV.agg [AV.int .i64 t1,AV.int .i64 (fI (h0.getD t5.toNat .undef) 1)])).getD t5.toNat .undef) 0),AV.int .i64 (IntKind.i64.wrap (t1+1))]))
 else .fail)
 else .fail)
 else .stop (t1,h0))
def R24_0:((Int × Int × (List AV)))→Out ((Int × Int × (List AV))) ((Int × (List AV))):=fun s:Int × Int × (List AV)=>F24_0 s.1 s.2.1 s.2.2
def E24_0:((Int × Int × (List AV)))→St:=fun s:Int × Int × (List AV)=>⟨[(0,AV.own [1]),(1,Ai s.1),(5,Ai s.2.1)],[([1],⟨false,[.int .i64,.int .i64],s.2.2⟩)]⟩
def K24_0 (k:Kont):((Int × (List AV)))→Option AV:=fun p:Int × (List AV)=>k (.exit 0) ⟨[(1,Ai p.1)],[([1],⟨false,[.int .i64,.int .i64],p.2⟩)]⟩
def l24_0:LModel:=fun _ _ st k=>match st with
 | ⟨[(0,.own g0),(1,.int .i64 t1),(5,.int .i64 t5)],[(g1,⟨false,g2,h0⟩)]⟩=>bif nmEq g0 ([1]) && nmEq g1 ([1]) && ctsEq g2 ([.int .i64,.int .i64]) then ro (runW (R24_0) (((h0.length:Int) - t5:Int).toNat+1) (t1,t5,h0)) none (K24_0 k) else none
 | _=>none
noncomputable def c24:Cfg:=cfg Tryz.prog [(24,0,[0,1,5]),(24,999,[4]),(24,1000,[1]),(24,1001,[0,1,5])] [] [] [] [(24,0,l24_0)]
theorem s24_0 (ce:CallE) (t1 t5:Int) (h0:List AV) (next:St→Option AV) (k:Kont):stepA (codeA c24 ce [0] 24 0 (sub [1,0,1,0,0] (body Tryz.f24))) (normA [0] [0,1,5]) next ⟨[(0,AV.own [1]),(1,Ai t1),(5,Ai t5)],[([1],⟨false,[.int .i64,.int .i64],h0⟩)]⟩ k=(bif decide (t5<(h0.length:Int)) then (bif (decide (0≤t5) && decide (t5<(h0.length:Int))) then (bif (decide (0≤t5) && decide (t5<((h0.set t5.toNat (AV.agg [Ai t1,Ai (fI (h0.getD t5.toNat .undef) 1)])).length:Int))) then next ⟨[(0,AV.own [1]),(1,Ai (IntKind.i64.wrap (IntKind.i64.wrap (t1+1)+1))),(5,Ai (IntKind.i64.wrap (t5+1)))],[([1],⟨false,[.int .i64,.int .i64],(h0.set t5.toNat (AV.agg [Ai t1,Ai (fI (h0.getD t5.toNat .undef) 1)])).set t5.toNat (AV.agg [Ai (fI ((h0.set t5.toNat (AV.agg [Ai t1,Ai (fI (h0.getD t5.toNat .undef) 1)])).getD t5.toNat .undef) 0),Ai (IntKind.i64.wrap (t1+1))])⟩)]⟩
 else none)
 else none)
 else k (.exit 0) ⟨[(1,Ai t1)],[([1],⟨false,[.int .i64,.int .i64],h0⟩)]⟩):=by kernel_rfl
theorem st24_0 (ce:CallE) (k:Kont) (s:(Int × Int × (List AV))) (next:St→Option AV):stepA (codeA c24 ce [0] 24 0 (sub [1,0,1,0,0] (body Tryz.f24))) (normA [0] [0,1,5]) next (E24_0 s) k=(R24_0 s).el none (fun s=>next (E24_0 s)) (K24_0 k):=(s24_0 ce s.1 s.2.1 s.2.2 next k).trans (by unfold R24_0;unfold F24_0;simp only [el_cond,el_ro,el_sum,el_fail,el_next,el_stop] <;> rfl)
theorem ok24_0 {ce:CallE}:LoopOK c24 ce [0] 24 0 (sub [1,0,1,0,0] (body Tryz.f24)):=by
 intro m hm st k r h
 obtain rfl:l24_0=m:=Option.some.inj hm
 unfold l24_0 at h
 split at h
 ·rename_i g0 t1 t5 g1 g2 h0
  obtain ⟨hg,h⟩:=bif_some h
  simp only [Bool.and_eq_true] at hg
  obtain ⟨⟨q0,q1⟩,q2⟩:=hg
  obtain rfl:=(nmEq_iff _ _).1 q0
  obtain rfl:=(nmEq_iff _ _).1 q1
  obtain rfl:=ctsEq_eq _ _ q2
  refine ⟨(((h0.length:Int) - t5:Int).toNat+1),?_⟩
  rw [← h]
  exact loop_run E24_0 (K24_0 k) (st24_0 ce k) _ (t1,t5,h0)
 ·cases h
def q24 (a1:Int) (b0:List AV):Bool:=(ro (runW (R24_0) (((b0.length:Int) - 0:Int).toNat+1) (a1,0,b0)) false (fun p82=>true))
def v24_0 (a1:Int) (b0:List AV):Int:=(ro (runW (R24_0) (((b0.length:Int) - 0:Int).toNat+1) (a1,0,b0)) 0 (fun p82=>p82.1))
def v24_1 (a1:Int) (b0:List AV):List AV:=(ro (runW (R24_0) (((b0.length:Int) - 0:Int).toNat+1) (a1,0,b0)) [] (fun p82=>p82.2))
theorem e24 (a1:Int) (b0:List AV) (K:AV→List Blk→Option AV):inlA c24 1 24 [AV.own [1],Ai a1] [0] (canH 1 [⟨false,[.int .i64,.int .i64],b0⟩]) (keepB 1 K)=(ro (runW (R24_0) (((b0.length:Int) - 0:Int).toNat+1) (a1,0,b0)) none (fun p82=>K (Ai p82.1) [⟨false,[.int .i64,.int .i64],p82.2⟩])):=by kernel_rfl
theorem r24 (a1:Int) (b0:List AV) (K:AV→List Blk→Option AV) (h:q24 a1 b0=true):inlA c24 1 24 [AV.own [1],AV.int .i64 a1] [0] (canH 1 [⟨false,[.int .i64,.int .i64],b0⟩]) (keepB 1 K)=K (AV.int .i64 (v24_0 a1 b0)) [⟨false,[.int .i64,.int .i64],(v24_1 a1 b0)⟩]:=(e24 a1 b0 K).trans ((brO (fun o:Option ((Int × (List AV)))=>K (AV.int .i64 (ro o 0 (fun p82=>p82.1))) [⟨false,[.int .i64,.int .i64],(ro o [] (fun p82=>p82.2))⟩]) (fun p82=>(fun _=>rfl))) h)
def m24:WModel
 | [.own g0,.int .i64 a1],[⟨false,g1,b0⟩]=>bif nmEq g0 ([1]) && ctsEq g1 ([.int .i64,.int .i64]) then some (q24 a1 b0,AV.int .i64 (v24_0 a1 b0),[⟨false,[.int .i64,.int .i64],(v24_1 a1 b0)⟩]) else none
 | _,_=>none
theorem k24:Known Tryz.prog 24:=⟨Tryz.f24,Tryz.func24,by kernel_rfl,by kernel_rfl⟩
theorem meets24:MeetsM Tryz.prog 24 m24:=by
 refine meetM (f:=Tryz.f24) (l:=[(0,sub [1,0,1,0,0] (body Tryz.f24))]) (hs:=[(24,0,[0,1,5]),(24,999,[4]),(24,1000,[1]),(24,1001,[0,1,5])]) (ts:=[]) (ws:=[]) (is:=[]) (ls:=[(24,0,l24_0)]) (lvl:=0) mixed k24 Tryz.func24 (by kernel_rfl) (loops_cons ok24_0 noLoop) allT_nil allM_nil noI fun C w xs us bs r bs' hl hv hh h K=>?_
 unfold m24 at h
 split at h
 ·rename_i g0 a1 g1 b0
  obtain ⟨hg,h⟩:=bif_pair h
  simp only [Bool.and_eq_true] at hg
  obtain ⟨q0,q1⟩:=hg
  obtain rfl:=(nmEq_iff _ _).1 q0
  obtain rfl:=ctsEq_eq _ _ q1
  obtain ⟨h1,rfl,rfl⟩:=trip_inj h
  exact r24 a1 b0 K h1
 ·cases h
def w25_1 (t1 t5:Int) (h0:List AV):List AV:=h0.set t5.toNat (AV.agg [AV.int .i64 t1,AV.int .i64 (fI (h0.getD t5.toNat .undef) 1),AV.int .i64 (fI (h0.getD t5.toNat .undef) 2),AV.int .i64 (fI (h0.getD t5.toNat .undef) 3),AV.int .i64 (fI (h0.getD t5.toNat .undef) 4)])
def w25_2 (t1 t5:Int) (h0:List AV):List AV:=(w25_1 t1 t5 h0).set t5.toNat (AV.agg [AV.int .i64 (fI ((w25_1 t1 t5 h0).getD t5.toNat .undef) 0),AV.int .i64 (IntKind.i64.wrap (t1+1)),AV.int .i64 (fI ((w25_1 t1 t5 h0).getD t5.toNat .undef) 2),AV.int .i64 (fI ((w25_1 t1 t5 h0).getD t5.toNat .undef) 3),AV.int .i64 (fI ((w25_1 t1 t5 h0).getD t5.toNat .undef) 4)])
def w25_3 (t1 t5:Int) (h0:List AV):List AV:=(w25_2 t1 t5 h0).set t5.toNat (AV.agg [AV.int .i64 (fI ((w25_2 t1 t5 h0).getD t5.toNat .undef) 0),AV.int .i64 (fI ((w25_2 t1 t5 h0).getD t5.toNat .undef) 1),AV.int .i64 (IntKind.i64.wrap (IntKind.i64.wrap (t1+1)+1)),AV.int .i64 (fI ((w25_2 t1 t5 h0).getD t5.toNat .undef) 3),AV.int .i64 (fI ((w25_2 t1 t5 h0).getD t5.toNat .undef) 4)])
def w25_4 (t1 t5:Int) (h0:List AV):List AV:=(w25_3 t1 t5 h0).set t5.toNat (AV.agg [AV.int .i64 (fI ((w25_3 t1 t5 h0).getD t5.toNat .undef) 0),AV.int .i64 (fI ((w25_3 t1 t5 h0).getD t5.toNat .undef) 1),AV.int .i64 (fI ((w25_3 t1 t5 h0).getD t5.toNat .undef) 2),AV.int .i64 (IntKind.i64.wrap (IntKind.i64.wrap (IntKind.i64.wrap (t1+1)+1)+1)),AV.int .i64 (fI ((w25_3 t1 t5 h0).getD t5.toNat .undef) 4)])
def w25_5 (t1 t5:Int) (h0:List AV):List AV:=(w25_4 t1 t5 h0).set t5.toNat (AV.agg [AV.int .i64 (fI ((w25_4 t1 t5 h0).getD t5.toNat .undef) 0),AV.int .i64 (fI ((w25_4 t1 t5 h0).getD t5.toNat .undef) 1),AV.int .i64 (fI ((w25_4 t1 t5 h0).getD t5.toNat .undef) 2),AV.int .i64 (fI ((w25_4 t1 t5 h0).getD t5.toNat .undef) 3),AV.int .i64 (IntKind.i64.wrap (IntKind.i64.wrap (IntKind.i64.wrap (IntKind.i64.wrap (t1+1)+1)+1)+1))])
def F25_0 (t1 t5:Int) (h0:List AV):Out ((Int × Int × (List AV))) ((Int × (List AV))):=(bif decide (t5<(h0.length:Int)) then (bif (decide (0≤t5) && decide (t5<(h0.length:Int))) then (bif (decide (0≤t5) && decide (t5<((w25_1 t1 t5 h0).length:Int))) then (bif (decide (0≤t5) && decide (t5<((w25_2 t1 t5 h0).length:Int))) then (bif (decide (0≤t5) && decide (t5<((w25_3 t1 t5 h0).length:Int))) then (bif (decide (0≤t5) && decide (t5<((w25_4 t1 t5 h0).length:Int))) then .next (IntKind.i64.wrap (IntKind.i64.wrap (IntKind.i64.wrap (IntKind.i64.wrap (IntKind.i64.wrap (t1+1)+1)+1)+1)+1),IntKind.i64.wrap (t5+1),w25_5 t1 t5 h0)
 else .fail)
 else .fail)
 else .fail)
 else .fail)
 else .fail)
 else .stop (t1,h0))
def R25_0:((Int × Int × (List AV)))→Out ((Int × Int × (List AV))) ((Int × (List AV))):=fun s:Int × Int × (List AV)=>F25_0 s.1 s.2.1 s.2.2
def E25_0:((Int × Int × (List AV)))→St:=fun s:Int × Int × (List AV)=>⟨[(0,AV.own [1]),(1,Ai s.1),(5,Ai s.2.1)],[([1],⟨false,[.int .i64,.int .i64,.int .i64,.int .i64,.int .i64],s.2.2⟩)]⟩
def K25_0 (k:Kont):((Int × (List AV)))→Option AV:=fun p:Int × (List AV)=>k (.exit 0) ⟨[(1,Ai p.1)],[([1],⟨false,[.int .i64,.int .i64,.int .i64,.int .i64,.int .i64],p.2⟩)]⟩
def l25_0:LModel:=fun _ _ st k=>match st with
 | ⟨[(0,.own g0),(1,.int .i64 t1),(5,.int .i64 t5)],[(g1,⟨false,g2,h0⟩)]⟩=>bif nmEq g0 ([1]) && nmEq g1 ([1]) && ctsEq g2 ([.int .i64,.int .i64,.int .i64,.int .i64,.int .i64]) then ro (runW (R25_0) (((h0.length:Int) - t5:Int).toNat+1) (t1,t5,h0)) none (K25_0 k) else none
 | _=>none
noncomputable def c25:Cfg:=cfg Tryz.prog [(25,0,[0,1,5]),(25,999,[4]),(25,1000,[1]),(25,1001,[0,1,5])] [] [] [] [(25,0,l25_0)]
theorem s25_0 (ce:CallE) (t1 t5:Int) (h0:List AV) (next:St→Option AV) (k:Kont):stepA (codeA c25 ce [0] 25 0 (sub [1,0,1,0,0] (body Tryz.f25))) (normA [0] [0,1,5]) next ⟨[(0,AV.own [1]),(1,Ai t1),(5,Ai t5)],[([1],⟨false,[.int .i64,.int .i64,.int .i64,.int .i64,.int .i64],h0⟩)]⟩ k=(bif decide (t5<(h0.length:Int)) then (bif (decide (0≤t5) && decide (t5<(h0.length:Int))) then (bif (decide (0≤t5) && decide (t5<((w25_1 t1 t5 h0).length:Int))) then (bif (decide (0≤t5) && decide (t5<((w25_2 t1 t5 h0).length:Int))) then (bif (decide (0≤t5) && decide (t5<((w25_3 t1 t5 h0).length:Int))) then (bif (decide (0≤t5) && decide (t5<((w25_4 t1 t5 h0).length:Int))) then next ⟨[(0,AV.own [1]),(1,Ai (IntKind.i64.wrap (IntKind.i64.wrap (IntKind.i64.wrap (IntKind.i64.wrap (IntKind.i64.wrap (t1+1)+1)+1)+1)+1))),(5,Ai (IntKind.i64.wrap (t5+1)))],[([1],⟨false,[.int .i64,.int .i64,.int .i64,.int .i64,.int .i64],w25_5 t1 t5 h0⟩)]⟩
 else none)
 else none)
 else none)
 else none)
 else none)
 else k (.exit 0) ⟨[(1,Ai t1)],[([1],⟨false,[.int .i64,.int .i64,.int .i64,.int .i64,.int .i64],h0⟩)]⟩):=by kernel_rfl
theorem st25_0 (ce:CallE) (k:Kont) (s:(Int × Int × (List AV))) (next:St→Option AV):stepA (codeA c25 ce [0] 25 0 (sub [1,0,1,0,0] (body Tryz.f25))) (normA [0] [0,1,5]) next (E25_0 s) k=(R25_0 s).el none (fun s=>next (E25_0 s)) (K25_0 k):=(s25_0 ce s.1 s.2.1 s.2.2 next k).trans (by unfold R25_0;unfold F25_0;simp only [el_cond,el_ro,el_sum,el_fail,el_next,el_stop] <;> rfl)
theorem ok25_0 {ce:CallE}:LoopOK c25 ce [0] 25 0 (sub [1,0,1,0,0] (body Tryz.f25)):=by
 intro m hm st k r h
 obtain rfl:l25_0=m:=Option.some.inj hm
 unfold l25_0 at h
 split at h
 ·rename_i g0 t1 t5 g1 g2 h0
  obtain ⟨hg,h⟩:=bif_some h
  simp only [Bool.and_eq_true] at hg
  obtain ⟨⟨q0,q1⟩,q2⟩:=hg
  obtain rfl:=(nmEq_iff _ _).1 q0
  obtain rfl:=(nmEq_iff _ _).1 q1
  obtain rfl:=ctsEq_eq _ _ q2
  refine ⟨(((h0.length:Int) - t5:Int).toNat+1),?_⟩
  rw [← h]
  exact loop_run E25_0 (K25_0 k) (st25_0 ce k) _ (t1,t5,h0)
 ·cases h
def q25 (a1:Int) (b0:List AV):Bool:=(ro (runW (R25_0) (((b0.length:Int) - 0:Int).toNat+1) (a1,0,b0)) false (fun p83=>true))
def v25_0 (a1:Int) (b0:List AV):Int:=(ro (runW (R25_0) (((b0.length:Int) - 0:Int).toNat+1) (a1,0,b0)) 0 (fun p83=>p83.1))
def v25_1 (a1:Int) (b0:List AV):List AV:=(ro (runW (R25_0) (((b0.length:Int) - 0:Int).toNat+1) (a1,0,b0)) [] (fun p83=>p83.2))
theorem e25 (a1:Int) (b0:List AV) (K:AV→List Blk→Option AV):inlA c25 1 25 [AV.own [1],Ai a1] [0] (canH 1 [⟨false,[.int .i64,.int .i64,.int .i64,.int .i64,.int .i64],b0⟩]) (keepB 1 K)=(ro (runW (R25_0) (((b0.length:Int) - 0:Int).toNat+1) (a1,0,b0)) none (fun p83=>K (Ai p83.1) [⟨false,[.int .i64,.int .i64,.int .i64,.int .i64,.int .i64],p83.2⟩])):=by kernel_rfl
theorem r25 (a1:Int) (b0:List AV) (K:AV→List Blk→Option AV) (h:q25 a1 b0=true):inlA c25 1 25 [AV.own [1],AV.int .i64 a1] [0] (canH 1 [⟨false,[.int .i64,.int .i64,.int .i64,.int .i64,.int .i64],b0⟩]) (keepB 1 K)=K (AV.int .i64 (v25_0 a1 b0)) [⟨false,[.int .i64,.int .i64,.int .i64,.int .i64,.int .i64],(v25_1 a1 b0)⟩]:=(e25 a1 b0 K).trans ((brO (fun o:Option ((Int × (List AV)))=>K (AV.int .i64 (ro o 0 (fun p83=>p83.1))) [⟨false,[.int .i64,.int .i64,.int .i64,.int .i64,.int .i64],(ro o [] (fun p83=>p83.2))⟩]) (fun p83=>(fun _=>rfl))) h)
def m25:WModel
 | [.own g0,.int .i64 a1],[⟨false,g1,b0⟩]=>bif nmEq g0 ([1]) && ctsEq g1 ([.int .i64,.int .i64,.int .i64,.int .i64,.int .i64]) then some (q25 a1 b0,AV.int .i64 (v25_0 a1 b0),[⟨false,[.int .i64,.int .i64,.int .i64,.int .i64,.int .i64],(v25_1 a1 b0)⟩]) else none
 | _,_=>none
theorem k25:Known Tryz.prog 25:=⟨Tryz.f25,Tryz.func25,by kernel_rfl,by kernel_rfl⟩
theorem meets25:MeetsM Tryz.prog 25 m25:=by
 refine meetM (f:=Tryz.f25) (l:=[(0,sub [1,0,1,0,0] (body Tryz.f25))]) (hs:=[(25,0,[0,1,5]),(25,999,[4]),(25,1000,[1]),(25,1001,[0,1,5])]) (ts:=[]) (ws:=[]) (is:=[]) (ls:=[(25,0,l25_0)]) (lvl:=0) mixed k25 Tryz.func25 (by kernel_rfl) (loops_cons ok25_0 noLoop) allT_nil allM_nil noI fun C w xs us bs r bs' hl hv hh h K=>?_
 unfold m25 at h
 split at h
 ·rename_i g0 a1 g1 b0
  obtain ⟨hg,h⟩:=bif_pair h
  simp only [Bool.and_eq_true] at hg
  obtain ⟨q0,q1⟩:=hg
  obtain rfl:=(nmEq_iff _ _).1 q0
  obtain rfl:=ctsEq_eq _ _ q1
  obtain ⟨h1,rfl,rfl⟩:=trip_inj h
  exact r25 a1 b0 K h1
 ·cases h
def F26_0 (t0:List AV) (t1 t5:Int):Out ((Int × Int)) (Int ⊕ Unit):=(bif decide (t5<(t0.length:Int)) then (bif (decide (0≤t5) && decide (t5<(t0.length:Int))) then (bif !decide (fI (t0.getD t5.toNat .undef) 0=t1) then .stop (.inr ())
 else (bif (decide (0≤t5) && decide (t5<(t0.length:Int))) then (bif !decide (fI (t0.getD t5.toNat .undef) 1=IntKind.i64.wrap (t1+1)) then .stop (.inr ())
 else (bif (decide (0≤t5) && decide (t5<(t0.length:Int))) then (bif !decide (fI (t0.getD t5.toNat .undef) 2=IntKind.i64.wrap (IntKind.i64.wrap (t1+1)+1)) then .stop (.inr ())
 else (bif (decide (0≤t5) && decide (t5<(t0.length:Int))) then (bif !decide (fI (t0.getD t5.toNat .undef) 3=IntKind.i64.wrap (IntKind.i64.wrap (IntKind.i64.wrap (t1+1)+1)+1)) then .stop (.inr ())
 else (bif (decide (0≤t5) && decide (t5<(t0.length:Int))) then (bif !decide (fI (t0.getD t5.toNat .undef) 4=IntKind.i64.wrap (IntKind.i64.wrap (IntKind.i64.wrap (IntKind.i64.wrap (t1+1)+1)+1)+1)) then .stop (.inr ())
 else .next (IntKind.i64.wrap (IntKind.i64.wrap (IntKind.i64.wrap (IntKind.i64.wrap (IntKind.i64.wrap (t1+1)+1)+1)+1)+1),IntKind.i64.wrap (t5+1)))
 else .fail))
 else .fail))
 else .fail))
 else .fail))
 else .fail)
 else .stop (.inl t1))
def R26_0 (t0:List AV):((Int × Int))→Out ((Int × Int)) (Int ⊕ Unit):=fun s:Int × Int=>F26_0 t0 s.1 s.2
def E26_0 (t0:List AV):((Int × Int))→St:=fun s:Int × Int=>⟨[(0,AV.sl [.int .i64,.int .i64,.int .i64,.int .i64,.int .i64] t0),(1,Ai s.1),(5,Ai s.2)],[]⟩
def K26_0 (k:Kont):(Int ⊕ Unit)→Option AV:=sumE (fun p:Int=>k (.exit 0) ⟨[(1,Ai p)],[]⟩) (fun _:Unit=>k .ret ⟨[(4,Ai (-1))],[]⟩)
def l26_0:LModel:=fun _ _ st k=>match st with
 | ⟨[(0,.sl g0 t0),(1,.int .i64 t1),(5,.int .i64 t5)],[]⟩=>bif ctsEq g0 ([.int .i64,.int .i64,.int .i64,.int .i64,.int .i64]) then ro (runW (R26_0 t0) (((t0.length:Int) - t5:Int).toNat+1) (t1,t5)) none (K26_0 k) else none
 | _=>none
noncomputable def c26:Cfg:=cfg Tryz.prog [(26,0,[0,1,5]),(26,999,[4]),(26,1000,[1]),(26,1001,[0,1,5])] [] [] [] [(26,0,l26_0)]
theorem s26_0 (ce:CallE) (t0:List AV) (t1 t5:Int) (next:St→Option AV) (k:Kont):stepA (codeA c26 ce [] 26 0 (sub [1,0,1,0,0] (body Tryz.f26))) (normA [] [0,1,5]) next ⟨[(0,AV.sl [.int .i64,.int .i64,.int .i64,.int .i64,.int .i64] t0),(1,Ai t1),(5,Ai t5)],[]⟩ k=(bif decide (t5<(t0.length:Int)) then (bif (decide (0≤t5) && decide (t5<(t0.length:Int))) then (bif !decide (fI (t0.getD t5.toNat .undef) 0=t1) then k .ret ⟨[(4,Ai (-1))],[]⟩
 else (bif (decide (0≤t5) && decide (t5<(t0.length:Int))) then (bif !decide (fI (t0.getD t5.toNat .undef) 1=IntKind.i64.wrap (t1+1)) then k .ret ⟨[(4,Ai (-1))],[]⟩
 else (bif (decide (0≤t5) && decide (t5<(t0.length:Int))) then (bif !decide (fI (t0.getD t5.toNat .undef) 2=IntKind.i64.wrap (IntKind.i64.wrap (t1+1)+1)) then k .ret ⟨[(4,Ai (-1))],[]⟩
 else (bif (decide (0≤t5) && decide (t5<(t0.length:Int))) then (bif !decide (fI (t0.getD t5.toNat .undef) 3=IntKind.i64.wrap (IntKind.i64.wrap (IntKind.i64.wrap (t1+1)+1)+1)) then k .ret ⟨[(4,Ai (-1))],[]⟩
 else (bif (decide (0≤t5) && decide (t5<(t0.length:Int))) then (bif !decide (fI (t0.getD t5.toNat .undef) 4=IntKind.i64.wrap (IntKind.i64.wrap (IntKind.i64.wrap (IntKind.i64.wrap (t1+1)+1)+1)+1)) then k .ret ⟨[(4,Ai (-1))],[]⟩
 else next ⟨[(0,AV.sl [.int .i64,.int .i64,.int .i64,.int .i64,.int .i64] t0),(1,Ai (IntKind.i64.wrap (IntKind.i64.wrap (IntKind.i64.wrap (IntKind.i64.wrap (IntKind.i64.wrap (t1+1)+1)+1)+1)+1))),(5,Ai (IntKind.i64.wrap (t5+1)))],[]⟩)
 else none))
 else none))
 else none))
 else none))
 else none)
 else k (.exit 0) ⟨[(1,Ai t1)],[]⟩):=by kernel_rfl
theorem st26_0 (t0:List AV) (ce:CallE) (k:Kont) (s:(Int × Int)) (next:St→Option AV):stepA (codeA c26 ce [] 26 0 (sub [1,0,1,0,0] (body Tryz.f26))) (normA [] [0,1,5]) next ((E26_0 t0) s) k=(R26_0 t0 s).el none (fun s=>next ((E26_0 t0) s)) (K26_0 k):=(s26_0 ce t0 s.1 s.2 next k).trans (by unfold R26_0;unfold F26_0;simp only [el_cond,el_ro,el_sum,el_fail,el_next,el_stop] <;> rfl)
theorem ok26_0 {ce:CallE}:LoopOK c26 ce [] 26 0 (sub [1,0,1,0,0] (body Tryz.f26)):=by
 intro m hm st k r h
 obtain rfl:l26_0=m:=Option.some.inj hm
 unfold l26_0 at h
 split at h
 ·rename_i g0 t0 t1 t5
  obtain ⟨hg,h⟩:=bif_some h
  have q0:=hg
  obtain rfl:=ctsEq_eq _ _ q0
  refine ⟨(((t0.length:Int) - t5:Int).toNat+1),?_⟩
  rw [← h]
  exact loop_run (E26_0 t0) (K26_0 k) (st26_0 t0 ce k) _ (t1,t5)
 ·cases h
def q26 (a0:List AV) (a1:Int):Bool:=(ro (runW (R26_0 a0) (((a0.length:Int) - 0:Int).toNat+1) (a1,0)) false (sumE (fun p84=>true) (fun _=>true)))
def v26_0 (a0:List AV) (a1:Int):Int:=(ro (runW (R26_0 a0) (((a0.length:Int) - 0:Int).toNat+1) (a1,0)) 0 (sumE (fun p84=>p84) (fun _=>(-1))))
theorem e26 (a0:List AV) (a1:Int):funA c26 0 26 [AV.sl [.int .i64,.int .i64,.int .i64,.int .i64,.int .i64] a0,Ai a1]=(ro (runW (R26_0 a0) (((a0.length:Int) - 0:Int).toNat+1) (a1,0)) none (sumE (fun p84=>some (Ai p84)) (fun _=>some (Ai (-1))))):=by kernel_rfl
def m26:TModel
 | [.sl g0 a0,.int .i64 a1]=>bif ctsEq g0 ([.int .i64,.int .i64,.int .i64,.int .i64,.int .i64]) then some (q26 a0 a1,AV.int .i64 (v26_0 a0 a1)) else none
 | _=>none
theorem k26:Known Tryz.prog 26:=⟨Tryz.f26,Tryz.func26,by kernel_rfl,by kernel_rfl⟩
theorem meets26:Meets Tryz.prog 26 m26:=by
 refine meet (f:=Tryz.f26) (l:=[(0,sub [1,0,1,0,0] (body Tryz.f26))]) (hs:=[(26,0,[0,1,5]),(26,999,[4]),(26,1000,[1]),(26,1001,[0,1,5])]) (ts:=[]) (ws:=[]) (is:=[]) (ls:=[(26,0,l26_0)]) (lvl:=0) mixed k26 Tryz.func26 (by kernel_rfl) (loops_cons ok26_0 noLoop) allT_nil allM_nil noI fun w xs us r hl hv h=>?_
 unfold m26 at h
 split at h
 ·rename_i g0 a0 a1
  obtain ⟨hg,h⟩:=bif_pair h
  have q0:=hg
  obtain rfl:=ctsEq_eq _ _ q0
  obtain ⟨h1,rfl⟩:=pair_inj h
  exact (e26 a0 a1).trans ((brO (fun o:Option (Int ⊕ Unit)=>some (Ai (ro o 0 (sumE (fun p84=>p84) (fun _=>(-1)))))) (brS (fun o:Int ⊕ Unit=>some (Ai ((sumE (fun p84=>p84) (fun _=>(-1))) o))) (fun p84=>(fun _=>rfl)) (fun _=>(fun _=>rfl)))) h1)
 ·cases h
noncomputable def c6:Cfg:=cfg Tryz.prog [(6,999,[8])] [(7,m7),(9,m9),(10,m10),(12,m12),(13,m13),(20,m20),(21,m21),(22,m22),(26,m26)] [(23,.w m23),(24,.w m24),(25,.w m25)] [] []
def raw6 (a0:List AV) (a1 a2:Int) (a3:List AV):Option AV:=(bif decide ((a0.length:Int) > 1048576) then some (AV.bool true)
 else (bif decide ((v7_0 a3 1048576)<0) then some (AV.bool true)
 else (bif q9 a0 then (bif q10 a3 then (bif q20 (v9_0 a0) a1 a2 (v10_0 a3) then (bif q9 a0 then (bif q10 a3 then (bif q21 (v9_0 a0) a1 a2 (v10_0 a3) then (bif q22 (v21_0 (v9_0 a0) a1 a2 (v10_0 a3)) (v20_0 (v9_0 a0) a1 a2 (v10_0 a3)) then (bif !(v22_0 (v21_0 (v9_0 a0) a1 a2 (v10_0 a3)) (v20_0 (v9_0 a0) a1 a2 (v10_0 a3))) then some (AV.bool false)
 else (bif q9 a0 then (bif q12 (v9_0 a0) (v9_0 a0) then (bif !(v12_0 (v9_0 a0) (v9_0 a0)) then some (AV.bool false)
 else (bif q10 a3 then (bif q13 (v10_0 a3) (v10_0 a3) then (bif !(v13_0 (v10_0 a3) (v10_0 a3)) then some (AV.bool false)
 else (bif q23 1 (v9_0 a0) then (bif q24 (v23_0 1 (v9_0 a0)) (v10_0 a3) then (bif decide ((v24_0 (v23_0 1 (v9_0 a0)) (v10_0 a3))<0) then some (AV.bool false)
 else (bif q22 (v21_0 (v9_0 a0) a1 a2 (v10_0 a3)) (v20_0 (v9_0 a0) a1 a2 (v10_0 a3)) then (bif !(v22_0 (v21_0 (v9_0 a0) a1 a2 (v10_0 a3)) (v20_0 (v9_0 a0) a1 a2 (v10_0 a3))) then some (AV.bool false)
 else (bif q25 1 (v21_0 (v9_0 a0) a1 a2 (v10_0 a3)) then (bif q26 (v25_1 1 (v21_0 (v9_0 a0) a1 a2 (v10_0 a3))) 1 then (bif decide ((v26_0 (v25_1 1 (v21_0 (v9_0 a0) a1 a2 (v10_0 a3))) 1)<0) then some (AV.bool false)
 else (bif !decide ((v26_0 (v25_1 1 (v21_0 (v9_0 a0) a1 a2 (v10_0 a3))) 1)=(v25_0 1 (v21_0 (v9_0 a0) a1 a2 (v10_0 a3)))) then some (AV.bool false)
 else (bif q9 a0 then (bif q10 a3 then (bif q21 (v9_0 a0) a1 a2 (v10_0 a3) then (bif q22 (v21_0 (v9_0 a0) a1 a2 (v10_0 a3)) (v20_0 (v9_0 a0) a1 a2 (v10_0 a3)) then (bif !(v22_0 (v21_0 (v9_0 a0) a1 a2 (v10_0 a3)) (v20_0 (v9_0 a0) a1 a2 (v10_0 a3))) then some (AV.bool false)
 else (bif q26 (v25_1 1 (v21_0 (v9_0 a0) a1 a2 (v10_0 a3))) 1 then (bif decide ((v26_0 (v25_1 1 (v21_0 (v9_0 a0) a1 a2 (v10_0 a3))) 1)<0) then some (AV.bool false)
 else (bif !decide ((v26_0 (v25_1 1 (v21_0 (v9_0 a0) a1 a2 (v10_0 a3))) 1)=(v25_0 1 (v21_0 (v9_0 a0) a1 a2 (v10_0 a3)))) then some (AV.bool false)
 else some (AV.bool true)))
 else none))
 else none)
 else none)
 else none)
 else none)))
 else none)
 else none))
 else none))
 else none)
 else none))
 else none)
 else none))
 else none)
 else none))
 else none)
 else none)
 else none)
 else none)
 else none)
 else none)
 else none)))
theorem e6 (a0:List AV) (a1 a2:Int) (a3:List AV):funA c6 0 6 [AV.sl [.int .i64] a0,Ai a1,Ai a2,AV.sl [.int .i64,.int .i64] a3]=raw6 a0 a1 a2 a3:=by kernel_rfl
def m6:TModel
 | [.sl g0 a0,.int .i64 a1,.int .i64 a2,.sl g1 a3]=>bif ctsEq g0 ([.int .i64]) && ctsEq g1 ([.int .i64,.int .i64]) then (raw6 a0 a1 a2 a3).map fun r=>(true,r) else none
 | _=>none
theorem k6:Known Tryz.prog 6:=⟨Tryz.f6,Tryz.func6,by kernel_rfl,by kernel_rfl⟩
theorem meets6:Meets Tryz.prog 6 m6:=by
 refine meet (f:=Tryz.f6) (l:=[]) (hs:=[(6,999,[8])]) (ts:=[(7,m7),(9,m9),(10,m10),(12,m12),(13,m13),(20,m20),(21,m21),(22,m22),(26,m26)]) (ws:=[(23,.w m23),(24,.w m24),(25,.w m25)]) (is:=[]) (ls:=[]) (lvl:=0) mixed k6 Tryz.func6 (by kernel_rfl) noLoop (allT_cons meets7 (allT_cons meets9 (allT_cons meets10 (allT_cons meets12 (allT_cons meets13 (allT_cons meets20 (allT_cons meets21 (allT_cons meets22 (allT_cons meets26 allT_nil))))))))) (allM_cons meets23 (allM_cons meets24 (allM_cons meets25 allM_nil))) noI fun w xs us r hl hv h=>?_
 unfold m6 at h
 split at h
 ·rename_i g0 a0 a1 a2 g1 a3
  obtain ⟨hg,h⟩:=bif_pair h
  simp only [Bool.and_eq_true] at hg
  obtain ⟨q0,q1⟩:=hg
  obtain rfl:=ctsEq_eq _ _ q0
  obtain rfl:=ctsEq_eq _ _ q1
  obtain ⟨r',h1,h2⟩:=Option.map_eq_some_iff.1 h
  obtain ⟨_,rfl⟩:=Prod.mk.inj h2
  exact (e6 a0 a1 a2 a3).trans h1
 ·cases h
end Go.Proofs.YtmcnplggcedihaaGreat
