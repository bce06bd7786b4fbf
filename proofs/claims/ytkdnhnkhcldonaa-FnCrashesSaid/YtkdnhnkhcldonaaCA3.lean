import Derived.Test.YtkdnhnkhcldonaaCA2
import Derived.Test.YtkdnhnkhcldonaaProg
import Derived.KernelRfl
namespace Go.Proofs.Ytkdnhnkhcldonaa
open Go Go.Proofs.VE
set_option linter.unusedVariables false
set_option linter.unusedSimpArgs false
set_option maxRecDepth 100000
set_option maxHeartbeats 4000000
noncomputable section
def F38_0 (t1:Int) (h0 h1 h2 h5:List AV) (t13:Int) (h3:List AV):Out ((Int × (List AV))) (((List AV))):=(bif decide (t13<(h5.length:Int)) then (bif (decide (0≤t13) && decide (t13<(h5.length:Int))) then (bif (decide (0≤t13) && decide (t13<(h5.length:Int))) then (bif (decide ((h3.length+([AV.agg [AV.int .i64 2,AV.int .i64 (fI (h5.getD t13.toNat .undef) 0),AV.int .i64 (fI (h5.getD t13.toNat .undef) 1),AV.int .i64 0]]).length)*32≤140737488355328) && decide ((h3.length+([AV.agg [AV.int .i64 2,AV.int .i64 (fI (h5.getD t13.toNat .undef) 0),AV.int .i64 (fI (h5.getD t13.toNat .undef) 1),AV.int .i64 0]]).length)≤140737488355328)) then .next (IntKind.i64.wrap (t13+1),h3++([AV.agg [AV.int .i64 2,AV.int .i64 (fI (h5.getD t13.toNat .undef) 0),AV.int .i64 (fI (h5.getD t13.toNat .undef) 1),AV.int .i64 0]]))
 else .fail)
 else .fail)
 else .fail)
 else .stop h3)
def R38_0 (t1:Int) (h0 h1 h2 h5:List AV):((Int × (List AV)))→Out ((Int × (List AV))) (((List AV))):=fun s:Int × (List AV)=>F38_0 t1 h0 h1 h2 h5 s.1 s.2
def E38_0 (t1:Int) (h0 h1 h2 h5:List AV):((Int × (List AV)))→St:=fun s:Int × (List AV)=>⟨[(1,Ai t1),(5,AV.own [0,5]),(8,AV.ptr [0,8] 0 0),(9,AV.own [0,9]),(13,Ai s.1)],[([0,0,8],⟨false,[.int .i64],h0⟩),([0,1,8],⟨false,[.int .i64],h1⟩),([0,2,8],⟨false,[.int .i64,.int .i64],h2⟩),([0,5],⟨false,[.int .i64,.int .i64,.int .i64,.int .i64],s.2⟩),([0,8],⟨true,[],[AV.agg [AV.own [0,0,8],AV.own [0,1,8],AV.own [0,2,8]]]⟩),([0,9],⟨false,[.int .i64,.int .i64],h5⟩)]⟩
def K38_0 (t1:Int) (h0 h1 h2 h5:List AV) (k:Kont):(((List AV)))→Option AV:=fun p:(List AV)=>k (.exit 0) ⟨[(1,Ai t1),(5,AV.own [0,5]),(8,AV.ptr [0,8] 0 0)],[([0,0,8],⟨false,[.int .i64],h0⟩),([0,1,8],⟨false,[.int .i64],h1⟩),([0,2,8],⟨false,[.int .i64,.int .i64],h2⟩),([0,5],⟨false,[.int .i64,.int .i64,.int .i64,.int .i64],p⟩),([0,8],⟨true,[],[AV.agg [AV.own [0,0,8],AV.own [0,1,8],AV.own [0,2,8]]]⟩),([0,9],⟨false,[.int .i64,.int .i64],h5⟩)]⟩
def l38_0:LModel:=fun _ _ st k=>match st with
 | ⟨[(1,.int .i64 t1),(5,.own g0),(8,.ptr g1 g2 g3),(9,.own g4),(13,.int .i64 t13)],[(g5,⟨false,g6,h0⟩),(g7,⟨false,g8,h1⟩),(g9,⟨false,g10,h2⟩),(g11,⟨false,g12,h3⟩),(g13,⟨true,[],[.agg [.own g14,.own g15,.own g16]]⟩),(g17,⟨false,g18,h5⟩)]⟩=>bif nmEq g0 ([0,5]) && nmEq g1 ([0,8]) && Nat.beq g2 0 && Nat.beq g3 0 && nmEq g4 ([0,9]) && nmEq g5 ([0,0,8]) && ctsEq g6 ([.int .i64]) && nmEq g7 ([0,1,8]) && ctsEq g8 ([.int .i64]) && nmEq g9 ([0,2,8]) && ctsEq g10 ([.int .i64,.int .i64]) && nmEq g11 ([0,5]) && ctsEq g12 ([.int .i64,.int .i64,.int .i64,.int .i64]) && nmEq g13 ([0,8]) && nmEq g14 ([0,0,8]) && nmEq g15 ([0,1,8]) && nmEq g16 ([0,2,8]) && nmEq g17 ([0,9]) && ctsEq g18 ([.int .i64,.int .i64]) then ro (runW (R38_0 t1 h0 h1 h2 h5) (((h5.length:Int) - t13:Int).toNat+1) (t13,h3)) none (K38_0 t1 h0 h1 h2 h5 k) else none
 | _=>none
noncomputable def c38:Cfg:=cfg Try.prog [(38,0,[1,5,8,9,13]),(38,999,[4]),(38,1000,[1,5,8]),(38,1001,[1,5,8,9,13])] [(39,m39),(73,m73),(74,m74)] [] [] [(38,0,l38_0)]
theorem s38_0 (ce:CallE) (t1 t13:Int) (h0 h1 h2 h3 h5:List AV) (next:St→Option AV) (k:Kont):stepA (codeA c38 ce [] 38 0 (sub [1,1,1,1,1,1,1,0,1,0,0] (body Try.f38))) (normA [] [1,5,8,9,13]) next ⟨[(1,Ai t1),(5,AV.own [0,5]),(8,AV.ptr [0,8] 0 0),(9,AV.own [0,9]),(13,Ai t13)],[([0,0,8],⟨false,[.int .i64],h0⟩),([0,1,8],⟨false,[.int .i64],h1⟩),([0,2,8],⟨false,[.int .i64,.int .i64],h2⟩),([0,5],⟨false,[.int .i64,.int .i64,.int .i64,.int .i64],h3⟩),([0,8],⟨true,[],[AV.agg [AV.own [0,0,8],AV.own [0,1,8],AV.own [0,2,8]]]⟩),([0,9],⟨false,[.int .i64,.int .i64],h5⟩)]⟩ k=(bif decide (t13<(h5.length:Int)) then (bif (decide (0≤t13) && decide (t13<(h5.length:Int))) then (bif (decide (0≤t13) && decide (t13<(h5.length:Int))) then (bif (decide ((h3.length+([AV.agg [Ai 2,Ai (fI (h5.getD t13.toNat .undef) 0),Ai (fI (h5.getD t13.toNat .undef) 1),Ai 0]]).length)*32≤140737488355328) && decide ((h3.length+([AV.agg [Ai 2,Ai (fI (h5.getD t13.toNat .undef) 0),Ai (fI (h5.getD t13.toNat .undef) 1),Ai 0]]).length)≤140737488355328)) then next ⟨[(1,Ai t1),(5,AV.own [0,5]),(8,AV.ptr [0,8] 0 0),(9,AV.own [0,9]),(13,Ai (IntKind.i64.wrap (t13+1)))],[([0,0,8],⟨false,[.int .i64],h0⟩),([0,1,8],⟨false,[.int .i64],h1⟩),([0,2,8],⟨false,[.int .i64,.int .i64],h2⟩),([0,5],⟨false,[.int .i64,.int .i64,.int .i64,.int .i64],h3++([AV.agg [Ai 2,Ai (fI (h5.getD t13.toNat .undef) 0),Ai (fI (h5.getD t13.toNat .undef) 1),Ai 0]])⟩),([0,8],⟨true,[],[AV.agg [AV.own [0,0,8],AV.own [0,1,8],AV.own [0,2,8]]]⟩),([0,9],⟨false,[.int .i64,.int .i64],h5⟩)]⟩
 else none)
 else none)
 else none)
 else k (.exit 0) ⟨[(1,Ai t1),(5,AV.own [0,5]),(8,AV.ptr [0,8] 0 0)],[([0,0,8],⟨false,[.int .i64],h0⟩),([0,1,8],⟨false,[.int .i64],h1⟩),([0,2,8],⟨false,[.int .i64,.int .i64],h2⟩),([0,5],⟨false,[.int .i64,.int .i64,.int .i64,.int .i64],h3⟩),([0,8],⟨true,[],[AV.agg [AV.own [0,0,8],AV.own [0,1,8],AV.own [0,2,8]]]⟩),([0,9],⟨false,[.int .i64,.int .i64],h5⟩)]⟩):=by kernel_rfl
theorem st38_0 (t1:Int) (h0 h1 h2 h5:List AV) (ce:CallE) (k:Kont) (s:(Int × (List AV))) (next:St→Option AV):stepA (codeA c38 ce [] 38 0 (sub [1,1,1,1,1,1,1,0,1,0,0] (body Try.f38))) (normA [] [1,5,8,9,13]) next ((E38_0 t1 h0 h1 h2 h5) s) k=(R38_0 t1 h0 h1 h2 h5 s).el none (fun s=>next ((E38_0 t1 h0 h1 h2 h5) s)) (K38_0 t1 h0 h1 h2 h5 k):=(s38_0 ce t1 s.1 h0 h1 h2 s.2 h5 next k).trans (by unfold R38_0;unfold F38_0;simp only [el_cond,el_ro,el_sum,el_fail,el_next,el_stop] <;> rfl)
theorem ok38_0 {ce:CallE}:LoopOK c38 ce [] 38 0 (sub [1,1,1,1,1,1,1,0,1,0,0] (body Try.f38)):=by
 intro m hm st k r h
 obtain rfl:l38_0=m:=Option.some.inj hm
 unfold l38_0 at h
 split at h
 ·rename_i t1 g0 g1 g2 g3 g4 t13 g5 g6 h0 g7 g8 h1 g9 g10 h2 g11 g12 h3 g13 g14 g15 g16 g17 g18 h5
  obtain ⟨hg,h⟩:=bif_some h
  simp only [Bool.and_eq_true] at hg
  obtain ⟨⟨⟨⟨⟨⟨⟨⟨⟨⟨⟨⟨⟨⟨⟨⟨⟨⟨q0,q1⟩,q2⟩,q3⟩,q4⟩,q5⟩,q6⟩,q7⟩,q8⟩,q9⟩,q10⟩,q11⟩,q12⟩,q13⟩,q14⟩,q15⟩,q16⟩,q17⟩,q18⟩:=hg
  obtain rfl:=(nmEq_iff _ _).1 q0
  obtain rfl:=(nmEq_iff _ _).1 q1
  obtain rfl:=Nat.eq_of_beq_eq_true q2
  obtain rfl:=Nat.eq_of_beq_eq_true q3
  obtain rfl:=(nmEq_iff _ _).1 q4
  obtain rfl:=(nmEq_iff _ _).1 q5
  obtain rfl:=ctsEq_eq _ _ q6
  obtain rfl:=(nmEq_iff _ _).1 q7
  obtain rfl:=ctsEq_eq _ _ q8
  obtain rfl:=(nmEq_iff _ _).1 q9
  obtain rfl:=ctsEq_eq _ _ q10
  obtain rfl:=(nmEq_iff _ _).1 q11
  obtain rfl:=ctsEq_eq _ _ q12
  obtain rfl:=(nmEq_iff _ _).1 q13
  obtain rfl:=(nmEq_iff _ _).1 q14
  obtain rfl:=(nmEq_iff _ _).1 q15
  obtain rfl:=(nmEq_iff _ _).1 q16
  obtain rfl:=(nmEq_iff _ _).1 q17
  obtain rfl:=ctsEq_eq _ _ q18
  refine ⟨(((h5.length:Int) - t13:Int).toNat+1),?_⟩
  rw [← h]
  exact loop_run (E38_0 t1 h0 h1 h2 h5) (K38_0 t1 h0 h1 h2 h5 k) (st38_0 t1 h0 h1 h2 h5 ce k) _ (t13,h3)
 ·cases h
def q38 (xa xb xc:List AV) (a1:Int):Bool:=(q73 xa xb xc a1 && (q39 xa xb xc a1 && (bif !(v39_4 xa xb xc a1) then true else (bif (v73_1 xa xb xc a1) then true else (q74 xa xb xc a1 && ((decide ((([]:List AV).length+([AV.agg [AV.int .i64 1,AV.int .i64 a1,AV.int .i64 (v74_0 xa xb xc a1),AV.int .i64 (v74_1 xa xb xc a1)]]).length)*32≤140737488355328) && decide ((([]:List AV).length+([AV.agg [AV.int .i64 1,AV.int .i64 a1,AV.int .i64 (v74_0 xa xb xc a1),AV.int .i64 (v74_1 xa xb xc a1)]]).length)≤140737488355328)) && (ro (runW (R38_0 a1 (v39_0 xa xb xc a1) (v39_1 xa xb xc a1) (v39_2 xa xb xc a1) (v39_3 xa xb xc a1)) ((((v39_3 xa xb xc a1).length:Int) - 0:Int).toNat+1) (0,[AV.agg [AV.int .i64 1,AV.int .i64 a1,AV.int .i64 (v74_0 xa xb xc a1),AV.int .i64 (v74_1 xa xb xc a1)]])) false (fun p44=>(q73 (v39_0 xa xb xc a1) (v39_1 xa xb xc a1) (v39_2 xa xb xc a1) a1 && (decide ((p44.length+([AV.agg [AV.int .i64 3,AV.int .i64 a1,AV.int .i64 (v73_0 (v39_0 xa xb xc a1) (v39_1 xa xb xc a1) (v39_2 xa xb xc a1) a1),AV.int .i64 0]]).length)*32≤140737488355328) && decide ((p44.length+([AV.agg [AV.int .i64 3,AV.int .i64 a1,AV.int .i64 (v73_0 (v39_0 xa xb xc a1) (v39_1 xa xb xc a1) (v39_2 xa xb xc a1) a1),AV.int .i64 0]]).length)≤140737488355328)))))))))))
def v38_0 (xa xb xc:List AV) (a1:Int):List AV:=(bif !(v39_4 xa xb xc a1) then ([]:List AV) else (bif (v73_1 xa xb xc a1) then ([]:List AV) else (ro (runW (R38_0 a1 (v39_0 xa xb xc a1) (v39_1 xa xb xc a1) (v39_2 xa xb xc a1) (v39_3 xa xb xc a1)) ((((v39_3 xa xb xc a1).length:Int) - 0:Int).toNat+1) (0,[AV.agg [AV.int .i64 1,AV.int .i64 a1,AV.int .i64 (v74_0 xa xb xc a1),AV.int .i64 (v74_1 xa xb xc a1)]])) [] (fun p44=>p44++([AV.agg [AV.int .i64 3,AV.int .i64 a1,AV.int .i64 (v73_0 (v39_0 xa xb xc a1) (v39_1 xa xb xc a1) (v39_2 xa xb xc a1) a1),AV.int .i64 0]])))))
theorem e38 (xa xb xc:List AV) (a1:Int):funA c38 0 38 [AV.agg [AV.sl [.int .i64] xa,AV.sl [.int .i64] xb,AV.sl [.int .i64,.int .i64] xc],Ai a1]=(bif q73 xa xb xc a1 then (bif q39 xa xb xc a1 then (bif !(v39_4 xa xb xc a1) then some (AV.fl [.int .i64,.int .i64,.int .i64,.int .i64] ([]:List AV))
 else (bif (v73_1 xa xb xc a1) then some (AV.fl [.int .i64,.int .i64,.int .i64,.int .i64] ([]:List AV))
 else (bif q74 xa xb xc a1 then (bif (decide ((([]:List AV).length+([AV.agg [Ai 1,Ai a1,Ai (v74_0 xa xb xc a1),Ai (v74_1 xa xb xc a1)]]).length)*32≤140737488355328) && decide ((([]:List AV).length+([AV.agg [Ai 1,Ai a1,Ai (v74_0 xa xb xc a1),Ai (v74_1 xa xb xc a1)]]).length)≤140737488355328)) then (ro (runW (R38_0 a1 (v39_0 xa xb xc a1) (v39_1 xa xb xc a1) (v39_2 xa xb xc a1) (v39_3 xa xb xc a1)) ((((v39_3 xa xb xc a1).length:Int) - 0:Int).toNat+1) (0,[AV.agg [Ai 1,Ai a1,Ai (v74_0 xa xb xc a1),Ai (v74_1 xa xb xc a1)]])) none (fun p44=>(bif q73 (v39_0 xa xb xc a1) (v39_1 xa xb xc a1) (v39_2 xa xb xc a1) a1 then (bif (decide ((p44.length+([AV.agg [Ai 3,Ai a1,Ai (v73_0 (v39_0 xa xb xc a1) (v39_1 xa xb xc a1) (v39_2 xa xb xc a1) a1),Ai 0]]).length)*32≤140737488355328) && decide ((p44.length+([AV.agg [Ai 3,Ai a1,Ai (v73_0 (v39_0 xa xb xc a1) (v39_1 xa xb xc a1) (v39_2 xa xb xc a1) a1),Ai 0]]).length)≤140737488355328)) then some (AV.fl [.int .i64,.int .i64,.int .i64,.int .i64] (p44++([AV.agg [Ai 3,Ai a1,Ai (v73_0 (v39_0 xa xb xc a1) (v39_1 xa xb xc a1) (v39_2 xa xb xc a1) a1),Ai 0]])))
 else none)
 else none)))
 else none)
 else none)))
 else none)
 else none):=by kernel_rfl
def m38:TModel
 | [.agg [.sl g0 xa,.sl g1 xb,.sl g2 xc],.int .i64 a1]=>bif ctsEq g0 ([.int .i64]) && ctsEq g1 ([.int .i64]) && ctsEq g2 ([.int .i64,.int .i64]) then some (q38 xa xb xc a1,AV.fl [.int .i64,.int .i64,.int .i64,.int .i64] (v38_0 xa xb xc a1)) else none
 | _=>none
theorem k38:Known Try.prog 38:=⟨Try.f38,Try.func38,by kernel_rfl,by kernel_rfl⟩
theorem meets38:Meets Try.prog 38 m38:=by
 refine meet (f:=Try.f38) (l:=[(0,sub [1,1,1,1,1,1,1,0,1,0,0] (body Try.f38))]) (hs:=[(38,0,[1,5,8,9,13]),(38,999,[4]),(38,1000,[1,5,8]),(38,1001,[1,5,8,9,13])]) (ts:=[(39,m39),(73,m73),(74,m74)]) (ws:=[]) (is:=[]) (ls:=[(38,0,l38_0)]) (lvl:=0) mixed k38 Try.func38 (by kernel_rfl) (loops_cons ok38_0 noLoop) (allT_cons meets39 (allT_cons meets73 (allT_cons meets74 allT_nil))) allM_nil noI fun w xs us r hl hv h=>?_
 unfold m38 at h
 split at h
 ·rename_i g0 xa g1 xb g2 xc a1
  obtain ⟨hg,h⟩:=bif_pair h
  simp only [Bool.and_eq_true] at hg
  obtain ⟨⟨q0,q1⟩,q2⟩:=hg
  obtain rfl:=ctsEq_eq _ _ q0
  obtain rfl:=ctsEq_eq _ _ q1
  obtain rfl:=ctsEq_eq _ _ q2
  obtain ⟨h1,rfl⟩:=pair_inj h
  exact (e38 xa xb xc a1).trans ((brL (brL (br (fun b=>some (AV.fl [.int .i64,.int .i64,.int .i64,.int .i64] (bif b then ([]:List AV) else (bif (v73_1 xa xb xc a1) then ([]:List AV) else (ro (runW (R38_0 a1 (v39_0 xa xb xc a1) (v39_1 xa xb xc a1) (v39_2 xa xb xc a1) (v39_3 xa xb xc a1)) ((((v39_3 xa xb xc a1).length:Int) - 0:Int).toNat+1) (0,[AV.agg [Ai 1,Ai a1,Ai (v74_0 xa xb xc a1),Ai (v74_1 xa xb xc a1)]])) [] (fun p44=>p44++([AV.agg [Ai 3,Ai a1,Ai (v73_0 (v39_0 xa xb xc a1) (v39_1 xa xb xc a1) (v39_2 xa xb xc a1) a1),Ai 0]]))))))) (fun _=>rfl) (br (fun b=>some (AV.fl [.int .i64,.int .i64,.int .i64,.int .i64] (bif b then ([]:List AV) else (ro (runW (R38_0 a1 (v39_0 xa xb xc a1) (v39_1 xa xb xc a1) (v39_2 xa xb xc a1) (v39_3 xa xb xc a1)) ((((v39_3 xa xb xc a1).length:Int) - 0:Int).toNat+1) (0,[AV.agg [Ai 1,Ai a1,Ai (v74_0 xa xb xc a1),Ai (v74_1 xa xb xc a1)]])) [] (fun p44=>p44++([AV.agg [Ai 3,Ai a1,Ai (v73_0 (v39_0 xa xb xc a1) (v39_1 xa xb xc a1) (v39_2 xa xb xc a1) a1),Ai 0]])))))) (fun _=>rfl) (brL (brL (brO (fun o:Option (((List AV)))=>some (AV.fl [.int .i64,.int .i64,.int .i64,.int .i64] (ro o [] (fun p44=>p44++([AV.agg [Ai 3,Ai a1,Ai (v73_0 (v39_0 xa xb xc a1) (v39_1 xa xb xc a1) (v39_2 xa xb xc a1) a1),Ai 0]]))))) (fun p44=>(brL (brL1 (fun _=>rfl))))))))))) h1)
 ·cases h
def F8_0 (t1:List AV) (t9:Int) (h0 h1 h2 h5:List AV):Out ((Int × (List AV) × (List AV) × (List AV) × (List AV))) (((List AV) × (List AV) × (List AV) × (List AV))):=(bif decide (t9<(t1.length:Int)) then (bif (decide (0≤t9) && decide (t9<(t1.length:Int))) then (bif q38 h0 h1 h2 (fI (t1.getD t9.toNat .undef) 0) then (bif (decide ((h5.length+(v38_0 h0 h1 h2 (fI (t1.getD t9.toNat .undef) 0)).length)*32≤140737488355328) && decide ((h5.length+(v38_0 h0 h1 h2 (fI (t1.getD t9.toNat .undef) 0)).length)≤140737488355328)) then (bif (decide (0≤t9) && decide (t9<(t1.length:Int))) then (bif q39 h0 h1 h2 (fI (t1.getD t9.toNat .undef) 0) then .next (IntKind.i64.wrap (t9+1),(v39_0 h0 h1 h2 (fI (t1.getD t9.toNat .undef) 0)),(v39_1 h0 h1 h2 (fI (t1.getD t9.toNat .undef) 0)),(v39_2 h0 h1 h2 (fI (t1.getD t9.toNat .undef) 0)),h5++(v38_0 h0 h1 h2 (fI (t1.getD t9.toNat .undef) 0)))
 else .fail)
 else .fail)
 else .fail)
 else .fail)
 else .fail)
 else .stop (h0,h1,h2,h5))
def R8_0 (t1:List AV):((Int × (List AV) × (List AV) × (List AV) × (List AV)))→Out ((Int × (List AV) × (List AV) × (List AV) × (List AV))) (((List AV) × (List AV) × (List AV) × (List AV))):=fun s:Int × (List AV) × (List AV) × (List AV) × (List AV)=>F8_0 t1 s.1 s.2.1 s.2.2.1 s.2.2.2.1 s.2.2.2.2
def E8_0 (t1:List AV):((Int × (List AV) × (List AV) × (List AV) × (List AV)))→St:=fun s:Int × (List AV) × (List AV) × (List AV) × (List AV)=>⟨[(1,AV.sl [.int .i64] t1),(4,AV.ptr [0,4] 0 0),(7,AV.ptr [0,7] 0 0),(8,AV.own [0,8]),(9,Ai s.1)],[([0,0,7],⟨false,[.int .i64],s.2.1⟩),([0,1,7],⟨false,[.int .i64],s.2.2.1⟩),([0,2,7],⟨false,[.int .i64,.int .i64],s.2.2.2.1⟩),([0,4],⟨true,[],[AV.agg [AV.snil,AV.snil,AV.snil]]⟩),([0,7],⟨true,[],[AV.agg [AV.own [0,0,7],AV.own [0,1,7],AV.own [0,2,7]]]⟩),([0,8],⟨false,[.int .i64,.int .i64,.int .i64,.int .i64],s.2.2.2.2⟩)]⟩
def K8_0 (k:Kont):(((List AV) × (List AV) × (List AV) × (List AV)))→Option AV:=fun p:(List AV) × (List AV) × (List AV) × (List AV)=>k (.exit 0) ⟨[(4,AV.ptr [0,4] 0 0),(7,AV.ptr [0,7] 0 0),(8,AV.own [0,8])],[([0,0,7],⟨false,[.int .i64],p.1⟩),([0,1,7],⟨false,[.int .i64],p.2.1⟩),([0,2,7],⟨false,[.int .i64,.int .i64],p.2.2.1⟩),([0,4],⟨true,[],[AV.agg [AV.snil,AV.snil,AV.snil]]⟩),([0,7],⟨true,[],[AV.agg [AV.own [0,0,7],AV.own [0,1,7],AV.own [0,2,7]]]⟩),([0,8],⟨false,[.int .i64,.int .i64,.int .i64,.int .i64],p.2.2.2⟩)]⟩
def l8_0:LModel:=fun _ _ st k=>match st with
 | ⟨[(1,.sl g0 t1),(4,.ptr g1 g2 g3),(7,.ptr g4 g5 g6),(8,.own g7),(9,.int .i64 t9)],[(g8,⟨false,g9,h0⟩),(g10,⟨false,g11,h1⟩),(g12,⟨false,g13,h2⟩),(g14,⟨true,[],[.agg [.snil,.snil,.snil]]⟩),(g15,⟨true,[],[.agg [.own g16,.own g17,.own g18]]⟩),(g19,⟨false,g20,h5⟩)]⟩=>bif ctsEq g0 ([.int .i64]) && nmEq g1 ([0,4]) && Nat.beq g2 0 && Nat.beq g3 0 && nmEq g4 ([0,7]) && Nat.beq g5 0 && Nat.beq g6 0 && nmEq g7 ([0,8]) && nmEq g8 ([0,0,7]) && ctsEq g9 ([.int .i64]) && nmEq g10 ([0,1,7]) && ctsEq g11 ([.int .i64]) && nmEq g12 ([0,2,7]) && ctsEq g13 ([.int .i64,.int .i64]) && nmEq g14 ([0,4]) && nmEq g15 ([0,7]) && nmEq g16 ([0,0,7]) && nmEq g17 ([0,1,7]) && nmEq g18 ([0,2,7]) && nmEq g19 ([0,8]) && ctsEq g20 ([.int .i64,.int .i64,.int .i64,.int .i64]) then ro (runW (R8_0 t1) (((t1.length:Int) - t9:Int).toNat+1) (t9,h0,h1,h2,h5)) none (K8_0 k) else none
 | _=>none
noncomputable def c8:Cfg:=cfg Try.prog [(8,0,[1,4,7,8,9]),(8,999,[4,5,6]),(8,1000,[4,7,8]),(8,1001,[1,4,7,8,9])] [(35,m35),(36,m36),(37,m37),(38,m38),(39,m39)] [] [] [(8,0,l8_0)]
theorem s8_0 (ce:CallE) (t1:List AV) (t9:Int) (h0 h1 h2 h5:List AV) (next:St→Option AV) (k:Kont):stepA (codeA c8 ce [] 8 0 (sub [1,1,1,1,0,1,0,0] (body Try.f8))) (normA [] [1,4,7,8,9]) next ⟨[(1,AV.sl [.int .i64] t1),(4,AV.ptr [0,4] 0 0),(7,AV.ptr [0,7] 0 0),(8,AV.own [0,8]),(9,Ai t9)],[([0,0,7],⟨false,[.int .i64],h0⟩),([0,1,7],⟨false,[.int .i64],h1⟩),([0,2,7],⟨false,[.int .i64,.int .i64],h2⟩),([0,4],⟨true,[],[AV.agg [AV.snil,AV.snil,AV.snil]]⟩),([0,7],⟨true,[],[AV.agg [AV.own [0,0,7],AV.own [0,1,7],AV.own [0,2,7]]]⟩),([0,8],⟨false,[.int .i64,.int .i64,.int .i64,.int .i64],h5⟩)]⟩ k=(bif decide (t9<(t1.length:Int)) then (bif (decide (0≤t9) && decide (t9<(t1.length:Int))) then (bif q38 h0 h1 h2 (fI (t1.getD t9.toNat .undef) 0) then (bif (decide ((h5.length+(v38_0 h0 h1 h2 (fI (t1.getD t9.toNat .undef) 0)).length)*32≤140737488355328) && decide ((h5.length+(v38_0 h0 h1 h2 (fI (t1.getD t9.toNat .undef) 0)).length)≤140737488355328)) then (bif (decide (0≤t9) && decide (t9<(t1.length:Int))) then (bif q39 h0 h1 h2 (fI (t1.getD t9.toNat .undef) 0) then next ⟨[(1,AV.sl [.int .i64] t1),(4,AV.ptr [0,4] 0 0),(7,AV.ptr [0,7] 0 0),(8,AV.own [0,8]),(9,Ai (IntKind.i64.wrap (t9+1)))],[([0,0,7],⟨false,[.int .i64],(v39_0 h0 h1 h2 (fI (t1.getD t9.toNat .undef) 0))⟩),([0,1,7],⟨false,[.int .i64],(v39_1 h0 h1 h2 (fI (t1.getD t9.toNat .undef) 0))⟩),([0,2,7],⟨false,[.int .i64,.int .i64],(v39_2 h0 h1 h2 (fI (t1.getD t9.toNat .undef) 0))⟩),([0,4],⟨true,[],[AV.agg [AV.snil,AV.snil,AV.snil]]⟩),([0,7],⟨true,[],[AV.agg [AV.own [0,0,7],AV.own [0,1,7],AV.own [0,2,7]]]⟩),([0,8],⟨false,[.int .i64,.int .i64,.int .i64,.int .i64],h5++(v38_0 h0 h1 h2 (fI (t1.getD t9.toNat .undef) 0))⟩)]⟩
 else none)
 else none)
 else none)
 else none)
 else none)
 else k (.exit 0) ⟨[(4,AV.ptr [0,4] 0 0),(7,AV.ptr [0,7] 0 0),(8,AV.own [0,8])],[([0,0,7],⟨false,[.int .i64],h0⟩),([0,1,7],⟨false,[.int .i64],h1⟩),([0,2,7],⟨false,[.int .i64,.int .i64],h2⟩),([0,4],⟨true,[],[AV.agg [AV.snil,AV.snil,AV.snil]]⟩),([0,7],⟨true,[],[AV.agg [AV.own [0,0,7],AV.own [0,1,7],AV.own [0,2,7]]]⟩),([0,8],⟨false,[.int .i64,.int .i64,.int .i64,.int .i64],h5⟩)]⟩):=by kernel_rfl
theorem st8_0 (t1:List AV) (ce:CallE) (k:Kont) (s:(Int × (List AV) × (List AV) × (List AV) × (List AV))) (next:St→Option AV):stepA (codeA c8 ce [] 8 0 (sub [1,1,1,1,0,1,0,0] (body Try.f8))) (normA [] [1,4,7,8,9]) next ((E8_0 t1) s) k=(R8_0 t1 s).el none (fun s=>next ((E8_0 t1) s)) (K8_0 k):=(s8_0 ce t1 s.1 s.2.1 s.2.2.1 s.2.2.2.1 s.2.2.2.2 next k).trans (by unfold R8_0;unfold F8_0;simp only [el_cond,el_ro,el_sum,el_fail,el_next,el_stop] <;> rfl)
theorem ok8_0 {ce:CallE}:LoopOK c8 ce [] 8 0 (sub [1,1,1,1,0,1,0,0] (body Try.f8)):=by
 intro m hm st k r h
 obtain rfl:l8_0=m:=Option.some.inj hm
 unfold l8_0 at h
 split at h
 ·rename_i g0 t1 g1 g2 g3 g4 g5 g6 g7 t9 g8 g9 h0 g10 g11 h1 g12 g13 h2 g14 g15 g16 g17 g18 g19 g20 h5
  obtain ⟨hg,h⟩:=bif_some h
  simp only [Bool.and_eq_true] at hg
  obtain ⟨⟨⟨⟨⟨⟨⟨⟨⟨⟨⟨⟨⟨⟨⟨⟨⟨⟨⟨⟨q0,q1⟩,q2⟩,q3⟩,q4⟩,q5⟩,q6⟩,q7⟩,q8⟩,q9⟩,q10⟩,q11⟩,q12⟩,q13⟩,q14⟩,q15⟩,q16⟩,q17⟩,q18⟩,q19⟩,q20⟩:=hg
  obtain rfl:=ctsEq_eq _ _ q0
  obtain rfl:=(nmEq_iff _ _).1 q1
  obtain rfl:=Nat.eq_of_beq_eq_true q2
  obtain rfl:=Nat.eq_of_beq_eq_true q3
  obtain rfl:=(nmEq_iff _ _).1 q4
  obtain rfl:=Nat.eq_of_beq_eq_true q5
  obtain rfl:=Nat.eq_of_beq_eq_true q6
  obtain rfl:=(nmEq_iff _ _).1 q7
  obtain rfl:=(nmEq_iff _ _).1 q8
  obtain rfl:=ctsEq_eq _ _ q9
  obtain rfl:=(nmEq_iff _ _).1 q10
  obtain rfl:=ctsEq_eq _ _ q11
  obtain rfl:=(nmEq_iff _ _).1 q12
  obtain rfl:=ctsEq_eq _ _ q13
  obtain rfl:=(nmEq_iff _ _).1 q14
  obtain rfl:=(nmEq_iff _ _).1 q15
  obtain rfl:=(nmEq_iff _ _).1 q16
  obtain rfl:=(nmEq_iff _ _).1 q17
  obtain rfl:=(nmEq_iff _ _).1 q18
  obtain rfl:=(nmEq_iff _ _).1 q19
  obtain rfl:=ctsEq_eq _ _ q20
  refine ⟨(((t1.length:Int) - t9:Int).toNat+1),?_⟩
  rw [← h]
  exact loop_run (E8_0 t1) (K8_0 k) (st8_0 t1 ce k) _ (t9,h0,h1,h2,h5)
 ·cases h
def q8 (a0 a1:List AV):Bool:=(q35 a0 && (q36 a0 && (bif !(v36_0 a0) then true else (q37 a1 && (bif !(v37_0 a1) then true else (ro (runW (R8_0 a1) (((a1.length:Int) - 0:Int).toNat+1) (0,(v35_0 a0),(v35_1 a0),(v35_2 a0),([]:List AV))) false (fun p45=>true)))))))
def v8_0 (a0 a1:List AV):List AV:=(bif !(v36_0 a0) then ([]:List AV) else (bif !(v37_0 a1) then ([]:List AV) else (ro (runW (R8_0 a1) (((a1.length:Int) - 0:Int).toNat+1) (0,(v35_0 a0),(v35_1 a0),(v35_2 a0),([]:List AV))) [] (fun p45=>p45.1))))
def v8_1 (a0 a1:List AV):List AV:=(bif !(v36_0 a0) then ([]:List AV) else (bif !(v37_0 a1) then ([]:List AV) else (ro (runW (R8_0 a1) (((a1.length:Int) - 0:Int).toNat+1) (0,(v35_0 a0),(v35_1 a0),(v35_2 a0),([]:List AV))) [] (fun p45=>p45.2.1))))
def v8_2 (a0 a1:List AV):List AV:=(bif !(v36_0 a0) then ([]:List AV) else (bif !(v37_0 a1) then ([]:List AV) else (ro (runW (R8_0 a1) (((a1.length:Int) - 0:Int).toNat+1) (0,(v35_0 a0),(v35_1 a0),(v35_2 a0),([]:List AV))) [] (fun p45=>p45.2.2.1))))
def v8_3 (a0 a1:List AV):List AV:=(bif !(v36_0 a0) then ([]:List AV) else (bif !(v37_0 a1) then ([]:List AV) else (ro (runW (R8_0 a1) (((a1.length:Int) - 0:Int).toNat+1) (0,(v35_0 a0),(v35_1 a0),(v35_2 a0),([]:List AV))) [] (fun p45=>p45.2.2.2))))
def v8_4 (a0 a1:List AV):Bool:=(bif !(v36_0 a0) then false else (bif !(v37_0 a1) then false else true))
theorem e8 (a0 a1:List AV):funA c8 0 8 [AV.sl [.int .i64] a0,AV.sl [.int .i64] a1]=(bif q35 a0 then (bif q36 a0 then (bif !(v36_0 a0) then some (AV.tup [AV.agg [AV.fl [.int .i64] ([]:List AV),AV.fl [.int .i64] ([]:List AV),AV.fl [.int .i64,.int .i64] ([]:List AV)],AV.fl [.int .i64,.int .i64,.int .i64,.int .i64] ([]:List AV),AV.bool false])
 else (bif q37 a1 then (bif !(v37_0 a1) then some (AV.tup [AV.agg [AV.fl [.int .i64] ([]:List AV),AV.fl [.int .i64] ([]:List AV),AV.fl [.int .i64,.int .i64] ([]:List AV)],AV.fl [.int .i64,.int .i64,.int .i64,.int .i64] ([]:List AV),AV.bool false])
 else (ro (runW (R8_0 a1) (((a1.length:Int) - 0:Int).toNat+1) (0,(v35_0 a0),(v35_1 a0),(v35_2 a0),([]:List AV))) none (fun p45=>some (AV.tup [AV.agg [AV.fl [.int .i64] p45.1,AV.fl [.int .i64] p45.2.1,AV.fl [.int .i64,.int .i64] p45.2.2.1],AV.fl [.int .i64,.int .i64,.int .i64,.int .i64] p45.2.2.2,AV.bool true]))))
 else none))
 else none)
 else none):=by kernel_rfl
def m8:TModel
 | [.sl g0 a0,.sl g1 a1]=>bif ctsEq g0 ([.int .i64]) && ctsEq g1 ([.int .i64]) then some (q8 a0 a1,AV.tup [AV.agg [AV.fl [.int .i64] (v8_0 a0 a1),AV.fl [.int .i64] (v8_1 a0 a1),AV.fl [.int .i64,.int .i64] (v8_2 a0 a1)],AV.fl [.int .i64,.int .i64,.int .i64,.int .i64] (v8_3 a0 a1),AV.bool (v8_4 a0 a1)]) else none
 | _=>none
theorem k8:Known Try.prog 8:=⟨Try.f8,Try.func8,by kernel_rfl,by kernel_rfl⟩
theorem meets8:Meets Try.prog 8 m8:=by
 refine meet (f:=Try.f8) (l:=[(0,sub [1,1,1,1,0,1,0,0] (body Try.f8))]) (hs:=[(8,0,[1,4,7,8,9]),(8,999,[4,5,6]),(8,1000,[4,7,8]),(8,1001,[1,4,7,8,9])]) (ts:=[(35,m35),(36,m36),(37,m37),(38,m38),(39,m39)]) (ws:=[]) (is:=[]) (ls:=[(8,0,l8_0)]) (lvl:=0) mixed k8 Try.func8 (by kernel_rfl) (loops_cons ok8_0 noLoop) (allT_cons meets35 (allT_cons meets36 (allT_cons meets37 (allT_cons meets38 (allT_cons meets39 allT_nil))))) allM_nil noI fun w xs us r hl hv h=>?_
 unfold m8 at h
 split at h
 ·rename_i g0 a0 g1 a1
  obtain ⟨hg,h⟩:=bif_pair h
  simp only [Bool.and_eq_true] at hg
  obtain ⟨q0,q1⟩:=hg
  obtain rfl:=ctsEq_eq _ _ q0
  obtain rfl:=ctsEq_eq _ _ q1
  obtain ⟨h1,rfl⟩:=pair_inj h
  exact (e8 a0 a1).trans ((brL (brL (br (fun b=>some (AV.tup [AV.agg [AV.fl [.int .i64] (bif b then ([]:List AV) else (bif !(v37_0 a1) then ([]:List AV) else (ro (runW (R8_0 a1) (((a1.length:Int) - 0:Int).toNat+1) (0,(v35_0 a0),(v35_1 a0),(v35_2 a0),([]:List AV))) [] (fun p45=>p45.1)))),AV.fl [.int .i64] (bif b then ([]:List AV) else (bif !(v37_0 a1) then ([]:List AV) else (ro (runW (R8_0 a1) (((a1.length:Int) - 0:Int).toNat+1) (0,(v35_0 a0),(v35_1 a0),(v35_2 a0),([]:List AV))) [] (fun p45=>p45.2.1)))),AV.fl [.int .i64,.int .i64] (bif b then ([]:List AV) else (bif !(v37_0 a1) then ([]:List AV) else (ro (runW (R8_0 a1) (((a1.length:Int) - 0:Int).toNat+1) (0,(v35_0 a0),(v35_1 a0),(v35_2 a0),([]:List AV))) [] (fun p45=>p45.2.2.1))))],AV.fl [.int .i64,.int .i64,.int .i64,.int .i64] (bif b then ([]:List AV) else (bif !(v37_0 a1) then ([]:List AV) else (ro (runW (R8_0 a1) (((a1.length:Int) - 0:Int).toNat+1) (0,(v35_0 a0),(v35_1 a0),(v35_2 a0),([]:List AV))) [] (fun p45=>p45.2.2.2)))),AV.bool (bif b then false else (bif !(v37_0 a1) then false else true))])) (fun _=>rfl) (brL (br (fun b=>some (AV.tup [AV.agg [AV.fl [.int .i64] (bif b then ([]:List AV) else (ro (runW (R8_0 a1) (((a1.length:Int) - 0:Int).toNat+1) (0,(v35_0 a0),(v35_1 a0),(v35_2 a0),([]:List AV))) [] (fun p45=>p45.1))),AV.fl [.int .i64] (bif b then ([]:List AV) else (ro (runW (R8_0 a1) (((a1.length:Int) - 0:Int).toNat+1) (0,(v35_0 a0),(v35_1 a0),(v35_2 a0),([]:List AV))) [] (fun p45=>p45.2.1))),AV.fl [.int .i64,.int .i64] (bif b then ([]:List AV) else (ro (runW (R8_0 a1) (((a1.length:Int) - 0:Int).toNat+1) (0,(v35_0 a0),(v35_1 a0),(v35_2 a0),([]:List AV))) [] (fun p45=>p45.2.2.1)))],AV.fl [.int .i64,.int .i64,.int .i64,.int .i64] (bif b then ([]:List AV) else (ro (runW (R8_0 a1) (((a1.length:Int) - 0:Int).toNat+1) (0,(v35_0 a0),(v35_1 a0),(v35_2 a0),([]:List AV))) [] (fun p45=>p45.2.2.2))),AV.bool (bif b then false else true)])) (fun _=>rfl) (brO (fun o:Option (((List AV) × (List AV) × (List AV) × (List AV)))=>some (AV.tup [AV.agg [AV.fl [.int .i64] (ro o [] (fun p45=>p45.1)),AV.fl [.int .i64] (ro o [] (fun p45=>p45.2.1)),AV.fl [.int .i64,.int .i64] (ro o [] (fun p45=>p45.2.2.1))],AV.fl [.int .i64,.int .i64,.int .i64,.int .i64] (ro o [] (fun p45=>p45.2.2.2)),AV.bool true])) (fun p45=>(fun _=>rfl)))))))) h1)
 ·cases h
def F40_0 (t0 t1:List AV) (t5:Int):Out (Int) (Unit ⊕ Unit):=(bif decide (t5<(t0.length:Int)) then (bif (decide (0≤t5) && decide (t5<(t0.length:Int))) then (bif (decide (0≤t5) && decide (t5<(t1.length:Int))) then (bif !decide (fI (t0.getD t5.toNat .undef) 0=fI (t1.getD t5.toNat .undef) 0) then .stop (.inr ())
 else .next (IntKind.i64.wrap (t5+1)))
 else .fail)
 else .fail)
 else .stop (.inl ()))
def R40_0 (t0 t1:List AV):(Int)→Out (Int) (Unit ⊕ Unit):=fun s:Int=>F40_0 t0 t1 s
def E40_0 (t0 t1:List AV):(Int)→St:=fun s:Int=>⟨[(0,AV.sl [.int .i64] t0),(1,AV.sl [.int .i64] t1),(5,Ai s)],[]⟩
def K40_0 (k:Kont):(Unit ⊕ Unit)→Option AV:=sumE (fun _:Unit=>k (.exit 0) ⟨[],[]⟩) (fun _:Unit=>k .ret ⟨[(4,AV.bool false)],[]⟩)
def l40_0:LModel:=fun _ _ st k=>match st with
 | ⟨[(0,.sl g0 t0),(1,.sl g1 t1),(5,.int .i64 t5)],[]⟩=>bif ctsEq g0 ([.int .i64]) && ctsEq g1 ([.int .i64]) then ro (runW (R40_0 t0 t1) (((t0.length:Int) - t5:Int).toNat+1) t5) none (K40_0 k) else none
 | _=>none
noncomputable def c40:Cfg:=cfg Try.prog [(40,0,[0,1,5]),(40,999,[4]),(40,1000,[]),(40,1001,[0,1,5])] [] [] [] [(40,0,l40_0)]
theorem s40_0 (ce:CallE) (t0 t1:List AV) (t5:Int) (next:St→Option AV) (k:Kont):stepA (codeA c40 ce [] 40 0 (sub [1,1,0,1,0,0] (body Try.f40))) (normA [] [0,1,5]) next ⟨[(0,AV.sl [.int .i64] t0),(1,AV.sl [.int .i64] t1),(5,Ai t5)],[]⟩ k=(bif decide (t5<(t0.length:Int)) then (bif (decide (0≤t5) && decide (t5<(t0.length:Int))) then (bif (decide (0≤t5) && decide (t5<(t1.length:Int))) then (bif !decide (fI (t0.getD t5.toNat .undef) 0=fI (t1.getD t5.toNat .undef) 0) then k .ret ⟨[(4,AV.bool false)],[]⟩
 else next ⟨[(0,AV.sl [.int .i64] t0),(1,AV.sl [.int .i64] t1),(5,Ai (IntKind.i64.wrap (t5+1)))],[]⟩)
 else none)
 else none)
 else k (.exit 0) ⟨[],[]⟩):=by kernel_rfl
theorem st40_0 (t0 t1:List AV) (ce:CallE) (k:Kont) (s:Int) (next:St→Option AV):stepA (codeA c40 ce [] 40 0 (sub [1,1,0,1,0,0] (body Try.f40))) (normA [] [0,1,5]) next ((E40_0 t0 t1) s) k=(R40_0 t0 t1 s).el none (fun s=>next ((E40_0 t0 t1) s)) (K40_0 k):=(s40_0 ce t0 t1 s next k).trans (by unfold R40_0;unfold F40_0;simp only [el_cond,el_ro,el_sum,el_fail,el_next,el_stop] <;> rfl)
theorem ok40_0 {ce:CallE}:LoopOK c40 ce [] 40 0 (sub [1,1,0,1,0,0] (body Try.f40)):=by
 intro m hm st k r h
 obtain rfl:l40_0=m:=Option.some.inj hm
 unfold l40_0 at h
 split at h
 ·rename_i g0 t0 g1 t1 t5
  obtain ⟨hg,h⟩:=bif_some h
  simp only [Bool.and_eq_true] at hg
  obtain ⟨q0,q1⟩:=hg
  obtain rfl:=ctsEq_eq _ _ q0
  obtain rfl:=ctsEq_eq _ _ q1
  refine ⟨(((t0.length:Int) - t5:Int).toNat+1),?_⟩
  rw [← h]
  exact loop_run (E40_0 t0 t1) (K40_0 k) (st40_0 t0 t1 ce k) _ t5
 ·cases h
def q40 (a0 a1:List AV):Bool:=(bif !decide ((a0.length:Int)=(a1.length:Int)) then true else (ro (runW (R40_0 a0 a1) (((a0.length:Int) - 0:Int).toNat+1) 0) false (sumE (fun _=>true) (fun _=>true))))
def v40_0 (a0 a1:List AV):Bool:=(bif !decide ((a0.length:Int)=(a1.length:Int)) then false else (ro (runW (R40_0 a0 a1) (((a0.length:Int) - 0:Int).toNat+1) 0) false (sumE (fun _=>true) (fun _=>false))))
theorem e40 (a0 a1:List AV):funA c40 0 40 [AV.sl [.int .i64] a0,AV.sl [.int .i64] a1]=(bif !decide ((a0.length:Int)=(a1.length:Int)) then some (AV.bool false)
 else (ro (runW (R40_0 a0 a1) (((a0.length:Int) - 0:Int).toNat+1) 0) none (sumE (fun _=>some (AV.bool true)) (fun _=>some (AV.bool false))))):=by kernel_rfl
def m40:TModel
 | [.sl g0 a0,.sl g1 a1]=>bif ctsEq g0 ([.int .i64]) && ctsEq g1 ([.int .i64]) then some (q40 a0 a1,AV.bool (v40_0 a0 a1)) else none
 | _=>none
theorem k40:Known Try.prog 40:=⟨Try.f40,Try.func40,by kernel_rfl,by kernel_rfl⟩
theorem meets40:Meets Try.prog 40 m40:=by
 refine meet (f:=Try.f40) (l:=[(0,sub [1,1,0,1,0,0] (body Try.f40))]) (hs:=[(40,0,[0,1,5]),(40,999,[4]),(40,1000,[]),(40,1001,[0,1,5])]) (ts:=[]) (ws:=[]) (is:=[]) (ls:=[(40,0,l40_0)]) (lvl:=0) mixed k40 Try.func40 (by kernel_rfl) (loops_cons ok40_0 noLoop) allT_nil allM_nil noI fun w xs us r hl hv h=>?_
 unfold m40 at h
 split at h
 ·rename_i g0 a0 g1 a1
  obtain ⟨hg,h⟩:=bif_pair h
  simp only [Bool.and_eq_true] at hg
  obtain ⟨q0,q1⟩:=hg
  obtain rfl:=ctsEq_eq _ _ q0
  obtain rfl:=ctsEq_eq _ _ q1
  obtain ⟨h1,rfl⟩:=pair_inj h
  exact (e40 a0 a1).trans ((br (fun b=>some (AV.bool (bif b then false else (ro (runW (R40_0 a0 a1) (((a0.length:Int) - 0:Int).toNat+1) 0) false (sumE (fun _=>true) (fun _=>false)))))) (fun _=>rfl) (brO (fun o:Option (Unit ⊕ Unit)=>some (AV.bool (ro o false (sumE (fun _=>true) (fun _=>false))))) (brS (fun o:Unit ⊕ Unit=>some (AV.bool ((sumE (fun _=>true) (fun _=>false)) o))) (fun _=>(fun _=>rfl)) (fun _=>(fun _=>rfl))))) h1)
 ·cases h
def F41_0 (t0 t1:List AV) (t5:Int):Out (Int) (Unit ⊕ Unit):=(bif decide (t5<(t0.length:Int)) then (bif (decide (0≤t5) && decide (t5<(t0.length:Int))) then (bif (decide (0≤t5) && decide (t5<(t1.length:Int))) then (bif !(bif decide (fI (t0.getD t5.toNat .undef) 0=fI (t1.getD t5.toNat .undef) 0) then (bif decide (fI (t0.getD t5.toNat .undef) 1=fI (t1.getD t5.toNat .undef) 1) then true else false) else false) then .stop (.inr ())
 else .next (IntKind.i64.wrap (t5+1)))
 else .fail)
 else .fail)
 else .stop (.inl ()))
def R41_0 (t0 t1:List AV):(Int)→Out (Int) (Unit ⊕ Unit):=fun s:Int=>F41_0 t0 t1 s
def E41_0 (t0 t1:List AV):(Int)→St:=fun s:Int=>⟨[(0,AV.sl [.int .i64,.int .i64] t0),(1,AV.sl [.int .i64,.int .i64] t1),(5,Ai s)],[]⟩
def K41_0 (k:Kont):(Unit ⊕ Unit)→Option AV:=sumE (fun _:Unit=>k (.exit 0) ⟨[],[]⟩) (fun _:Unit=>k .ret ⟨[(4,AV.bool false)],[]⟩)
def l41_0:LModel:=fun _ _ st k=>match st with
 | ⟨[(0,.sl g0 t0),(1,.sl g1 t1),(5,.int .i64 t5)],[]⟩=>bif ctsEq g0 ([.int .i64,.int .i64]) && ctsEq g1 ([.int .i64,.int .i64]) then ro (runW (R41_0 t0 t1) (((t0.length:Int) - t5:Int).toNat+1) t5) none (K41_0 k) else none
 | _=>none
noncomputable def c41:Cfg:=cfg Try.prog [(41,0,[0,1,5]),(41,999,[4]),(41,1000,[]),(41,1001,[0,1,5])] [] [] [] [(41,0,l41_0)]
theorem s41_0 (ce:CallE) (t0 t1:List AV) (t5:Int) (next:St→Option AV) (k:Kont):stepA (codeA c41 ce [] 41 0 (sub [1,1,0,1,0,0] (body Try.f41))) (normA [] [0,1,5]) next ⟨[(0,AV.sl [.int .i64,.int .i64] t0),(1,AV.sl [.int .i64,.int .i64] t1),(5,Ai t5)],[]⟩ k=(bif decide (t5<(t0.length:Int)) then (bif (decide (0≤t5) && decide (t5<(t0.length:Int))) then (bif (decide (0≤t5) && decide (t5<(t1.length:Int))) then (bif !(bif decide (fI (t0.getD t5.toNat .undef) 0=fI (t1.getD t5.toNat .undef) 0) then (bif decide (fI (t0.getD t5.toNat .undef) 1=fI (t1.getD t5.toNat .undef) 1) then true else false) else false) then k .ret ⟨[(4,AV.bool false)],[]⟩
 else next ⟨[(0,AV.sl [.int .i64,.int .i64] t0),(1,AV.sl [.int .i64,.int .i64] t1),(5,Ai (IntKind.i64.wrap (t5+1)))],[]⟩)
 else none)
 else none)
 else k (.exit 0) ⟨[],[]⟩):=by kernel_rfl
theorem st41_0 (t0 t1:List AV) (ce:CallE) (k:Kont) (s:Int) (next:St→Option AV):stepA (codeA c41 ce [] 41 0 (sub [1,1,0,1,0,0] (body Try.f41))) (normA [] [0,1,5]) next ((E41_0 t0 t1) s) k=(R41_0 t0 t1 s).el none (fun s=>next ((E41_0 t0 t1) s)) (K41_0 k):=(s41_0 ce t0 t1 s next k).trans (by unfold R41_0;unfold F41_0;simp only [el_cond,el_ro,el_sum,el_fail,el_next,el_stop] <;> rfl)
theorem ok41_0 {ce:CallE}:LoopOK c41 ce [] 41 0 (sub [1,1,0,1,0,0] (body Try.f41)):=by
 intro m hm st k r h
 obtain rfl:l41_0=m:=Option.some.inj hm
 unfold l41_0 at h
 split at h
 ·rename_i g0 t0 g1 t1 t5
  obtain ⟨hg,h⟩:=bif_some h
  simp only [Bool.and_eq_true] at hg
  obtain ⟨q0,q1⟩:=hg
  obtain rfl:=ctsEq_eq _ _ q0
  obtain rfl:=ctsEq_eq _ _ q1
  refine ⟨(((t0.length:Int) - t5:Int).toNat+1),?_⟩
  rw [← h]
  exact loop_run (E41_0 t0 t1) (K41_0 k) (st41_0 t0 t1 ce k) _ t5
 ·cases h
def q41 (a0 a1:List AV):Bool:=(bif !decide ((a0.length:Int)=(a1.length:Int)) then true else (ro (runW (R41_0 a0 a1) (((a0.length:Int) - 0:Int).toNat+1) 0) false (sumE (fun _=>true) (fun _=>true))))
def v41_0 (a0 a1:List AV):Bool:=(bif !decide ((a0.length:Int)=(a1.length:Int)) then false else (ro (runW (R41_0 a0 a1) (((a0.length:Int) - 0:Int).toNat+1) 0) false (sumE (fun _=>true) (fun _=>false))))
theorem e41 (a0 a1:List AV):funA c41 0 41 [AV.sl [.int .i64,.int .i64] a0,AV.sl [.int .i64,.int .i64] a1]=(bif !decide ((a0.length:Int)=(a1.length:Int)) then some (AV.bool false)
 else (ro (runW (R41_0 a0 a1) (((a0.length:Int) - 0:Int).toNat+1) 0) none (sumE (fun _=>some (AV.bool true)) (fun _=>some (AV.bool false))))):=by kernel_rfl
def m41:TModel
 | [.sl g0 a0,.sl g1 a1]=>bif ctsEq g0 ([.int .i64,.int .i64]) && ctsEq g1 ([.int .i64,.int .i64]) then some (q41 a0 a1,AV.bool (v41_0 a0 a1)) else none
 | _=>none
theorem k41:Known Try.prog 41:=⟨Try.f41,Try.func41,by kernel_rfl,by kernel_rfl⟩
theorem meets41:Meets Try.prog 41 m41:=by
 refine meet (f:=Try.f41) (l:=[(0,sub [1,1,0,1,0,0] (body Try.f41))]) (hs:=[(41,0,[0,1,5]),(41,999,[4]),(41,1000,[]),(41,1001,[0,1,5])]) (ts:=[]) (ws:=[]) (is:=[]) (ls:=[(41,0,l41_0)]) (lvl:=0) mixed k41 Try.func41 (by kernel_rfl) (loops_cons ok41_0 noLoop) allT_nil allM_nil noI fun w xs us r hl hv h=>?_
 unfold m41 at h
 split at h
 ·rename_i g0 a0 g1 a1
  obtain ⟨hg,h⟩:=bif_pair h
  simp only [Bool.and_eq_true] at hg
  obtain ⟨q0,q1⟩:=hg
  obtain rfl:=ctsEq_eq _ _ q0
  obtain rfl:=ctsEq_eq _ _ q1
  obtain ⟨h1,rfl⟩:=pair_inj h
  exact (e41 a0 a1).trans ((br (fun b=>some (AV.bool (bif b then false else (ro (runW (R41_0 a0 a1) (((a0.length:Int) - 0:Int).toNat+1) 0) false (sumE (fun _=>true) (fun _=>false)))))) (fun _=>rfl) (brO (fun o:Option (Unit ⊕ Unit)=>some (AV.bool (ro o false (sumE (fun _=>true) (fun _=>false))))) (brS (fun o:Unit ⊕ Unit=>some (AV.bool ((sumE (fun _=>true) (fun _=>false)) o))) (fun _=>(fun _=>rfl)) (fun _=>(fun _=>rfl))))) h1)
 ·cases h
noncomputable def c9:Cfg:=cfg Try.prog [(9,999,[4])] [(40,m40),(41,m41)] [] [] []
def q9 (xa xb xc ya yb yc:List AV):Bool:=(q40 xa ya && (bif (v40_0 xa ya) then (q40 xb yb && (bif (v40_0 xb yb) then q41 xc yc else true)) else true))
def v9_0 (xa xb xc ya yb yc:List AV):Bool:=(bif (v40_0 xa ya) then (bif (v40_0 xb yb) then (v41_0 xc yc) else false) else false)
theorem e9 (xa xb xc ya yb yc:List AV):funA c9 0 9 [AV.agg [AV.sl [.int .i64] xa,AV.sl [.int .i64] xb,AV.sl [.int .i64,.int .i64] xc],AV.agg [AV.sl [.int .i64] ya,AV.sl [.int .i64] yb,AV.sl [.int .i64,.int .i64] yc]]=(bif q40 xa ya then (bif (v40_0 xa ya) then (bif q40 xb yb then (bif (v40_0 xb yb) then (bif q41 xc yc then some (AV.bool (v41_0 xc yc))
 else none)
 else some (AV.bool false))
 else none)
 else some (AV.bool false))
 else none):=by kernel_rfl
def m9:TModel
 | [.agg [.sl g0 xa,.sl g1 xb,.sl g2 xc],.agg [.sl g3 ya,.sl g4 yb,.sl g5 yc]]=>bif ctsEq g0 ([.int .i64]) && ctsEq g1 ([.int .i64]) && ctsEq g2 ([.int .i64,.int .i64]) && ctsEq g3 ([.int .i64]) && ctsEq g4 ([.int .i64]) && ctsEq g5 ([.int .i64,.int .i64]) then some (q9 xa xb xc ya yb yc,AV.bool (v9_0 xa xb xc ya yb yc)) else none
 | _=>none
theorem k9:Known Try.prog 9:=⟨Try.f9,Try.func9,by kernel_rfl,by kernel_rfl⟩
theorem meets9:Meets Try.prog 9 m9:=by
 refine meet (f:=Try.f9) (l:=[]) (hs:=[(9,999,[4])]) (ts:=[(40,m40),(41,m41)]) (ws:=[]) (is:=[]) (ls:=[]) (lvl:=0) mixed k9 Try.func9 (by kernel_rfl) noLoop (allT_cons meets40 (allT_cons meets41 allT_nil)) allM_nil noI fun w xs us r hl hv h=>?_
 unfold m9 at h
 split at h
 ·rename_i g0 xa g1 xb g2 xc g3 ya g4 yb g5 yc
  obtain ⟨hg,h⟩:=bif_pair h
  simp only [Bool.and_eq_true] at hg
  obtain ⟨⟨⟨⟨⟨q0,q1⟩,q2⟩,q3⟩,q4⟩,q5⟩:=hg
  obtain rfl:=ctsEq_eq _ _ q0
  obtain rfl:=ctsEq_eq _ _ q1
  obtain rfl:=ctsEq_eq _ _ q2
  obtain rfl:=ctsEq_eq _ _ q3
  obtain rfl:=ctsEq_eq _ _ q4
  obtain rfl:=ctsEq_eq _ _ q5
  obtain ⟨h1,rfl⟩:=pair_inj h
  exact (e9 xa xb xc ya yb yc).trans ((brL (br (fun b=>some (AV.bool (bif b then (bif (v40_0 xb yb) then (v41_0 xc yc) else false) else false))) (brL (br (fun b=>some (AV.bool (bif b then (v41_0 xc yc) else false))) (brL1 (fun _=>rfl)) (fun _=>rfl))) (fun _=>rfl))) h1)
 ·cases h
noncomputable def c89:Cfg:=cfg Try.prog [(89,999,[2])] [] [] [] []
def q89 (a0:Int):Bool:=true
def v89_0 (a0:Int):Bool:=(bif decide (a0 ≥ (-1000)) then decide (a0≤1000) else false)
theorem e89 (a0:Int):funA c89 0 89 [Ai a0]=(bif decide (a0 ≥ (-1000)) then some (AV.bool (decide (a0≤1000)))
 else some (AV.bool false)):=by kernel_rfl
def m89:TModel
 | [.int .i64 a0]=>some (true,AV.bool (v89_0 a0))
 | _=>none
theorem k89:Known Try.prog 89:=⟨Try.f89,Try.func89,by kernel_rfl,by kernel_rfl⟩
theorem meets89:Meets Try.prog 89 m89:=by
 refine meet (f:=Try.f89) (l:=[]) (hs:=[(89,999,[2])]) (ts:=[]) (ws:=[]) (is:=[]) (ls:=[]) (lvl:=0) mixed k89 Try.func89 (by kernel_rfl) noLoop allT_nil allM_nil noI fun w xs us r hl hv h=>?_
 unfold m89 at h
 split at h
 ·rename_i a0
  obtain ⟨h1,rfl⟩:=pair_inj h
  exact (e89 a0).trans (of_tt (brT (fun b=>some (AV.bool (bif b then decide (a0≤1000) else false))) (fun _=>rfl) (fun _=>rfl)))
 ·cases h
def F90_0 (t0:List AV) (t1 t7 t8:Int):Out (Int) (Unit ⊕ Int):=(bif decide (t8<t7) then (bif (decide (0≤t8) && decide (t8<(t0.length:Int))) then (bif decide (t1=fI (t0.getD t8.toNat .undef) 0) then .stop (.inr t8)
 else .next (IntKind.i64.wrap (t8+1)))
 else .fail)
 else .stop (.inl ()))
def R90_0 (t0:List AV) (t1 t7:Int):(Int)→Out (Int) (Unit ⊕ Int):=fun s:Int=>F90_0 t0 t1 t7 s
def E90_0 (t0:List AV) (t1 t7:Int):(Int)→St:=fun s:Int=>⟨[(0,AV.sl [.int .i64] t0),(1,Ai t1),(7,Ai t7),(8,Ai s)],[]⟩
def K90_0 (k:Kont):(Unit ⊕ Int)→Option AV:=sumE (fun _:Unit=>k (.exit 0) ⟨[],[]⟩) (fun p:Int=>k .ret ⟨[(4,Ai p)],[]⟩)
def l90_0:LModel:=fun _ _ st k=>match st with
 | ⟨[(0,.sl g0 t0),(1,.int .i64 t1),(7,.int .i64 t7),(8,.int .i64 t8)],[]⟩=>bif ctsEq g0 ([.int .i64]) then ro (runW (R90_0 t0 t1 t7) ((t7 - t8:Int).toNat+1) t8) none (K90_0 k) else none
 | _=>none
noncomputable def c90:Cfg:=cfg Try.prog [(90,0,[0,1,7,8]),(90,999,[4]),(90,1000,[]),(90,1001,[0,1,7,8])] [] [] [] [(90,0,l90_0)]
theorem s90_0 (ce:CallE) (t0:List AV) (t1 t7 t8:Int) (next:St→Option AV) (k:Kont):stepA (codeA c90 ce [] 90 0 (sub [1,0,1,0,0] (body Try.f90))) (normA [] [0,1,7,8]) next ⟨[(0,AV.sl [.int .i64] t0),(1,Ai t1),(7,Ai t7),(8,Ai t8)],[]⟩ k=(bif decide (t8<t7) then (bif (decide (0≤t8) && decide (t8<(t0.length:Int))) then (bif decide (t1=fI (t0.getD t8.toNat .undef) 0) then k .ret ⟨[(4,Ai t8)],[]⟩
 else next ⟨[(0,AV.sl [.int .i64] t0),(1,Ai t1),(7,Ai t7),(8,Ai (IntKind.i64.wrap (t8+1)))],[]⟩)
 else none)
 else k (.exit 0) ⟨[],[]⟩):=by kernel_rfl
theorem st90_0 (t0:List AV) (t1 t7:Int) (ce:CallE) (k:Kont) (s:Int) (next:St→Option AV):stepA (codeA c90 ce [] 90 0 (sub [1,0,1,0,0] (body Try.f90))) (normA [] [0,1,7,8]) next ((E90_0 t0 t1 t7) s) k=(R90_0 t0 t1 t7 s).el none (fun s=>next ((E90_0 t0 t1 t7) s)) (K90_0 k):=(s90_0 ce t0 t1 t7 s next k).trans (by unfold R90_0;unfold F90_0;simp only [el_cond,el_ro,el_sum,el_fail,el_next,el_stop] <;> rfl)
theorem ok90_0 {ce:CallE}:LoopOK c90 ce [] 90 0 (sub [1,0,1,0,0] (body Try.f90)):=by
 intro m hm st k r h
 obtain rfl:l90_0=m:=Option.some.inj hm
 unfold l90_0 at h
 split at h
 ·rename_i g0 t0 t1 t7 t8
  obtain ⟨hg,h⟩:=bif_some h
  have q0:=hg
  obtain rfl:=ctsEq_eq _ _ q0
  refine ⟨((t7 - t8:Int).toNat+1),?_⟩
  rw [← h]
  exact loop_run (E90_0 t0 t1 t7) (K90_0 k) (st90_0 t0 t1 t7 ce k) _ t8
 ·cases h
def q90 (a0:List AV) (a1:Int):Bool:=(ro (runW (R90_0 a0 a1 (a0.length:Int)) (((a0.length:Int) - 0:Int).toNat+1) 0) false (sumE (fun _=>true) (fun p51=>true)))
def v90_0 (a0:List AV) (a1:Int):Int:=(ro (runW (R90_0 a0 a1 (a0.length:Int)) (((a0.length:Int) - 0:Int).toNat+1) 0) 0 (sumE (fun _=>(-1)) (fun p51=>p51)))
theorem e90 (a0:List AV) (a1:Int):funA c90 0 90 [AV.sl [.int .i64] a0,Ai a1]=(ro (runW (R90_0 a0 a1 (a0.length:Int)) (((a0.length:Int) - 0:Int).toNat+1) 0) none (sumE (fun _=>some (Ai (-1))) (fun p51=>some (Ai p51)))):=by kernel_rfl
def m90:TModel
 | [.sl g0 a0,.int .i64 a1]=>bif ctsEq g0 ([.int .i64]) then some (q90 a0 a1,AV.int .i64 (v90_0 a0 a1)) else none
 | _=>none
theorem k90:Known Try.prog 90:=⟨Try.f90,Try.func90,by kernel_rfl,by kernel_rfl⟩
theorem meets90:Meets Try.prog 90 m90:=by
 refine meet (f:=Try.f90) (l:=[(0,sub [1,0,1,0,0] (body Try.f90))]) (hs:=[(90,0,[0,1,7,8]),(90,999,[4]),(90,1000,[]),(90,1001,[0,1,7,8])]) (ts:=[]) (ws:=[]) (is:=[]) (ls:=[(90,0,l90_0)]) (lvl:=0) mixed k90 Try.func90 (by kernel_rfl) (loops_cons ok90_0 noLoop) allT_nil allM_nil noI fun w xs us r hl hv h=>?_
 unfold m90 at h
 split at h
 ·rename_i g0 a0 a1
  obtain ⟨hg,h⟩:=bif_pair h
  have q0:=hg
  obtain rfl:=ctsEq_eq _ _ q0
  obtain ⟨h1,rfl⟩:=pair_inj h
  exact (e90 a0 a1).trans ((brO (fun o:Option (Unit ⊕ Int)=>some (Ai (ro o 0 (sumE (fun _=>(-1)) (fun p51=>p51))))) (brS (fun o:Unit ⊕ Int=>some (Ai ((sumE (fun _=>(-1)) (fun p51=>p51)) o))) (fun _=>(fun _=>rfl)) (fun p51=>(fun _=>rfl)))) h1)
 ·cases h
noncomputable def c88:Cfg:=cfg Try.prog [(88,999,[4])] [(90,m90)] [] [] []
def q88 (a0:List AV) (a1:Int):Bool:=q90 a0 a1
def v88_0 (a0:List AV) (a1:Int):Bool:=decide ((v90_0 a0 a1) ≥ 0)
theorem e88 (a0:List AV) (a1:Int):funA c88 0 88 [AV.sl [.int .i64] a0,Ai a1]=(bif q90 a0 a1 then some (AV.bool (decide ((v90_0 a0 a1) ≥ 0)))
 else none):=by kernel_rfl
def m88:TModel
 | [.sl g0 a0,.int .i64 a1]=>bif ctsEq g0 ([.int .i64]) then some (q88 a0 a1,AV.bool (v88_0 a0 a1)) else none
 | _=>none
theorem k88:Known Try.prog 88:=⟨Try.f88,Try.func88,by kernel_rfl,by kernel_rfl⟩
theorem meets88:Meets Try.prog 88 m88:=by
 refine meet (f:=Try.f88) (l:=[]) (hs:=[(88,999,[4])]) (ts:=[(90,m90)]) (ws:=[]) (is:=[]) (ls:=[]) (lvl:=0) mixed k88 Try.func88 (by kernel_rfl) noLoop (allT_cons meets90 allT_nil) allM_nil noI fun w xs us r hl hv h=>?_
 unfold m88 at h
 split at h
 ·rename_i g0 a0 a1
  obtain ⟨hg,h⟩:=bif_pair h
  have q0:=hg
  obtain rfl:=ctsEq_eq _ _ q0
  obtain ⟨h1,rfl⟩:=pair_inj h
  exact (e88 a0 a1).trans ((brL1 (fun _=>rfl)) h1)
 ·cases h
def F49_4 (t50:List AV) (t51 t52:Int) (t103:List AV) (t104:Int) (h0_0 h0_1 h0_2:List AV) (h1_0 h1_1 t105:Int):Out (Int) (Unit ⊕ Unit):=(bif decide (t105<t104) then (bif (decide (0≤t105) && decide (t105<(t103.length:Int))) then (bif !(decide (fI (t103.getD t105.toNat .undef) 0<h1_0) == decide (t105<h1_1)) then .stop (.inr ())
 else .next (IntKind.i64.wrap (t105+1)))
 else .fail)
 else .stop (.inl ()))
def R49_4 (t50:List AV) (t51 t52:Int) (t103:List AV) (t104:Int) (h0_0 h0_1 h0_2:List AV) (h1_0 h1_1:Int):(Int)→Out (Int) (Unit ⊕ Unit):=fun s:Int=>F49_4 t50 t51 t52 t103 t104 h0_0 h0_1 h0_2 h1_0 h1_1 s
def E49_4 (t50:List AV) (t51 t52:Int) (t103:List AV) (t104:Int) (h0_0 h0_1 h0_2:List AV) (h1_0 h1_1:Int):(Int)→St:=fun s:Int=>⟨[(1,AV.ptr [0,1] 0 0),(6,AV.ptr [0,6] 0 0),(50,AV.sl [.int .i64,.int .i64] t50),(51,Ai t51),(52,Ai t52),(103,AV.sl [.int .i64] t103),(104,Ai t104),(105,Ai s)],[([0,1],⟨true,[],[AV.agg [AV.sl [.int .i64] h0_0,AV.sl [.int .i64] h0_1,AV.sl [.int .i64,.int .i64] h0_2]]⟩),([0,6],⟨true,[],[AV.agg [Ai h1_0,Ai h1_1]]⟩)]⟩
def K49_4 (t50:List AV) (t51 t52:Int) (h0_0 h0_1 h0_2:List AV) (h1_0 h1_1:Int) (k:Kont):(Unit ⊕ Unit)→Option AV:=sumE (fun _:Unit=>k (.exit 4) ⟨[(1,AV.ptr [0,1] 0 0),(50,AV.sl [.int .i64,.int .i64] t50),(51,Ai t51),(52,Ai t52)],[([0,1],⟨true,[],[AV.agg [AV.sl [.int .i64] h0_0,AV.sl [.int .i64] h0_1,AV.sl [.int .i64,.int .i64] h0_2]]⟩),([0,6],⟨true,[],[AV.agg [Ai h1_0,Ai h1_1]]⟩)]⟩) (fun _:Unit=>k .ret ⟨[(2,AV.bool false)],[([0,1],⟨true,[],[AV.agg [AV.sl [.int .i64] h0_0,AV.sl [.int .i64] h0_1,AV.sl [.int .i64,.int .i64] h0_2]]⟩),([0,6],⟨true,[],[AV.agg [Ai h1_0,Ai h1_1]]⟩)]⟩)
def l49_4:LModel:=fun _ _ st k=>match st with
 | ⟨[(1,.ptr g0 g1 g2),(6,.ptr g3 g4 g5),(50,.sl g6 t50),(51,.int .i64 t51),(52,.int .i64 t52),(103,.sl g7 t103),(104,.int .i64 t104),(105,.int .i64 t105)],[(g8,⟨true,[],[.agg [.sl g9 h0_0,.sl g10 h0_1,.sl g11 h0_2]]⟩),(g12,⟨true,[],[.agg [.int .i64 h1_0,.int .i64 h1_1]]⟩)]⟩=>bif nmEq g0 ([0,1]) && Nat.beq g1 0 && Nat.beq g2 0 && nmEq g3 ([0,6]) && Nat.beq g4 0 && Nat.beq g5 0 && ctsEq g6 ([.int .i64,.int .i64]) && ctsEq g7 ([.int .i64]) && nmEq g8 ([0,1]) && ctsEq g9 ([.int .i64]) && ctsEq g10 ([.int .i64]) && ctsEq g11 ([.int .i64,.int .i64]) && nmEq g12 ([0,6]) then ro (runW (R49_4 t50 t51 t52 t103 t104 h0_0 h0_1 h0_2 h1_0 h1_1) ((t104 - t105:Int).toNat+1) t105) none (K49_4 t50 t51 t52 h0_0 h0_1 h0_2 h1_0 h1_1 k) else none
 | _=>none
def F49_2 (t50:List AV) (t51:Int) (h0_0 h0_1 h0_2:List AV) (t52:Int):Out (Int) (Unit ⊕ (Int × Int) ⊕ (Int × Int)):=(bif decide (t52<t51) then (bif (decide (0≤t52) && decide (t52<(t50.length:Int))) then (bif !(v89_0 (fI (t50.getD t52.toNat .undef) 0)) then .stop (.inr (.inl (fI (t50.getD t52.toNat .undef) 0,fI (t50.getD t52.toNat .undef) 1)))
 else (bif decide (fI (t50.getD t52.toNat .undef) 1<0) then .stop (.inr (.inl (fI (t50.getD t52.toNat .undef) 0,fI (t50.getD t52.toNat .undef) 1)))
 else (bif decide (fI (t50.getD t52.toNat .undef) 1 > (h0_0.length:Int)) then .stop (.inr (.inl (fI (t50.getD t52.toNat .undef) 0,fI (t50.getD t52.toNat .undef) 1)))
 else (bif decide (t52 > 0) then (bif (decide (0≤IntKind.i64.wrap (t52 - 1)) && decide (IntKind.i64.wrap (t52 - 1)<(h0_2.length:Int))) then (bif decide (fI (t50.getD t52.toNat .undef) 0≤fI (h0_2.getD (IntKind.i64.wrap (t52 - 1)).toNat .undef) 0) then .stop (.inr (.inl (fI (t50.getD t52.toNat .undef) 0,fI (t50.getD t52.toNat .undef) 1)))
 else (bif (decide (0≤IntKind.i64.wrap (t52 - 1)) && decide (IntKind.i64.wrap (t52 - 1)<(h0_2.length:Int))) then (bif decide (fI (t50.getD t52.toNat .undef) 1<fI (h0_2.getD (IntKind.i64.wrap (t52 - 1)).toNat .undef) 1) then .stop (.inr (.inl (fI (t50.getD t52.toNat .undef) 0,fI (t50.getD t52.toNat .undef) 1)))
 else (ro (runW (R49_4 t50 t51 t52 h0_0 (h0_0.length:Int) h0_0 h0_1 h0_2 (fI (t50.getD t52.toNat .undef) 0) (fI (t50.getD t52.toNat .undef) 1)) (((h0_0.length:Int) - 0:Int).toNat+1) 0) .fail (sumE (fun _ => .next (IntKind.i64.wrap (t52+1))) (fun _ => .stop (.inr (.inr (fI (t50.getD t52.toNat .undef) 0,fI (t50.getD t52.toNat .undef) 1)))))))
 else .fail))
 else .fail)
 else (ro (runW (R49_4 t50 t51 t52 h0_0 (h0_0.length:Int) h0_0 h0_1 h0_2 (fI (t50.getD t52.toNat .undef) 0) (fI (t50.getD t52.toNat .undef) 1)) (((h0_0.length:Int) - 0:Int).toNat+1) 0) .fail (sumE (fun _ => .next (IntKind.i64.wrap (t52+1))) (fun _ => .stop (.inr (.inr (fI (t50.getD t52.toNat .undef) 0,fI (t50.getD t52.toNat .undef) 1))))))))))
 else .fail)
 else .stop (.inl ()))
def R49_2 (t50:List AV) (t51:Int) (h0_0 h0_1 h0_2:List AV):(Int)→Out (Int) (Unit ⊕ (Int × Int) ⊕ (Int × Int)):=fun s:Int=>F49_2 t50 t51 h0_0 h0_1 h0_2 s
def E49_2 (t50:List AV) (t51:Int) (h0_0 h0_1 h0_2:List AV):(Int)→St:=fun s:Int=>⟨[(1,AV.ptr [0,1] 0 0),(50,AV.sl [.int .i64,.int .i64] t50),(51,Ai t51),(52,Ai s)],[([0,1],⟨true,[],[AV.agg [AV.sl [.int .i64] h0_0,AV.sl [.int .i64] h0_1,AV.sl [.int .i64,.int .i64] h0_2]]⟩)]⟩
def K49_2 (h0_0 h0_1 h0_2:List AV) (k:Kont):(Unit ⊕ (Int × Int) ⊕ (Int × Int))→Option AV:=sumE (fun _:Unit=>k (.exit 2) ⟨[],[([0,1],⟨true,[],[AV.agg [AV.sl [.int .i64] h0_0,AV.sl [.int .i64] h0_1,AV.sl [.int .i64,.int .i64] h0_2]]⟩)]⟩) (sumE (fun p:Int × Int=>k .ret ⟨[(2,AV.bool false)],[([0,1],⟨true,[],[AV.agg [AV.sl [.int .i64] h0_0,AV.sl [.int .i64] h0_1,AV.sl [.int .i64,.int .i64] h0_2]]⟩),([1,6],⟨true,[],[AV.agg [Ai p.1,Ai p.2]]⟩)]⟩) (fun p:Int × Int=>k .ret ⟨[(2,AV.bool false)],[([0,1],⟨true,[],[AV.agg [AV.sl [.int .i64] h0_0,AV.sl [.int .i64] h0_1,AV.sl [.int .i64,.int .i64] h0_2]]⟩),([0,6],⟨true,[],[AV.agg [Ai p.1,Ai p.2]]⟩)]⟩))
def l49_2:LModel:=fun _ _ st k=>match st with
 | ⟨[(1,.ptr g0 g1 g2),(50,.sl g3 t50),(51,.int .i64 t51),(52,.int .i64 t52)],[(g4,⟨true,[],[.agg [.sl g5 h0_0,.sl g6 h0_1,.sl g7 h0_2]]⟩)]⟩=>bif nmEq g0 ([0,1]) && Nat.beq g1 0 && Nat.beq g2 0 && ctsEq g3 ([.int .i64,.int .i64]) && nmEq g4 ([0,1]) && ctsEq g5 ([.int .i64]) && ctsEq g6 ([.int .i64]) && ctsEq g7 ([.int .i64,.int .i64]) then ro (runW (R49_2 t50 t51 h0_0 h0_1 h0_2) ((t51 - t52:Int).toNat+1) t52) none (K49_2 h0_0 h0_1 h0_2 k) else none
 | _=>none
def F49_0 (t35:List AV) (t36:Int) (h0_0 h0_1 h0_2:List AV) (t37:Int):Out (Int) (Unit ⊕ Unit):=(bif decide (t37<t36) then (bif (decide (0≤t37) && decide (t37<(t35.length:Int))) then (bif (decide (0≤0) && decide (0≤t37) && decide (t37≤(h0_1.length:Int))) then (bif q88 ((h0_1.take (Int.toNat t37)).drop (Int.toNat 0)) (fI (t35.getD t37.toNat .undef) 0) then (bif (v88_0 ((h0_1.take (Int.toNat t37)).drop (Int.toNat 0)) (fI (t35.getD t37.toNat .undef) 0)) then .stop (.inr ())
 else .next (IntKind.i64.wrap (t37+1)))
 else .fail)
 else .fail)
 else .fail)
 else .stop (.inl ()))
def R49_0 (t35:List AV) (t36:Int) (h0_0 h0_1 h0_2:List AV):(Int)→Out (Int) (Unit ⊕ Unit):=fun s:Int=>F49_0 t35 t36 h0_0 h0_1 h0_2 s
def E49_0 (t35:List AV) (t36:Int) (h0_0 h0_1 h0_2:List AV):(Int)→St:=fun s:Int=>⟨[(1,AV.ptr [0,1] 0 0),(35,AV.sl [.int .i64] t35),(36,Ai t36),(37,Ai s)],[([0,1],⟨true,[],[AV.agg [AV.sl [.int .i64] h0_0,AV.sl [.int .i64] h0_1,AV.sl [.int .i64,.int .i64] h0_2]]⟩)]⟩
def K49_0 (h0_0 h0_1 h0_2:List AV) (k:Kont):(Unit ⊕ Unit)→Option AV:=sumE (fun _:Unit=>k (.exit 0) ⟨[(1,AV.ptr [0,1] 0 0)],[([0,1],⟨true,[],[AV.agg [AV.sl [.int .i64] h0_0,AV.sl [.int .i64] h0_1,AV.sl [.int .i64,.int .i64] h0_2]]⟩)]⟩) (fun _:Unit=>k .ret ⟨[(2,AV.bool false)],[([0,1],⟨true,[],[AV.agg [AV.sl [.int .i64] h0_0,AV.sl [.int .i64] h0_1,AV.sl [.int .i64,.int .i64] h0_2]]⟩)]⟩)
def l49_0:LModel:=fun _ _ st k=>match st with
 | ⟨[(1,.ptr g0 g1 g2),(35,.sl g3 t35),(36,.int .i64 t36),(37,.int .i64 t37)],[(g4,⟨true,[],[.agg [.sl g5 h0_0,.sl g6 h0_1,.sl g7 h0_2]]⟩)]⟩=>bif nmEq g0 ([0,1]) && Nat.beq g1 0 && Nat.beq g2 0 && ctsEq g3 ([.int .i64]) && nmEq g4 ([0,1]) && ctsEq g5 ([.int .i64]) && ctsEq g6 ([.int .i64]) && ctsEq g7 ([.int .i64,.int .i64]) then ro (runW (R49_0 t35 t36 h0_0 h0_1 h0_2) ((t36 - t37:Int).toNat+1) t37) none (K49_0 h0_0 h0_1 h0_2 k) else none
 | _=>none
noncomputable def c49:Cfg:=cfg Try.prog [(49,0,[1,35,36,37]),(49,2,[1,50,51,52]),(49,4,[1,6,50,51,52,103,104,105]),(49,999,[2]),(49,1000,[1]),(49,1001,[1,35,36,37]),(49,1002,[]),(49,1003,[1,50,51,52]),(49,1004,[1,50,51,52]),(49,1005,[1,6,50,51,52,103,104,105])] [(30,m30),(64,m64),(88,m88),(89,m89)] [] [] [(49,0,l49_0),(49,2,l49_2),(49,4,l49_4)]
theorem s49_4 (ce:CallE) (t50:List AV) (t51 t52:Int) (t103:List AV) (t104 t105:Int) (h0_0 h0_1 h0_2:List AV) (h1_0 h1_1:Int) (next:St→Option AV) (k:Kont):stepA (codeA c49 ce [] 49 4 (sub [1,1,1,0,1,0,0,1,1,0,0,1,1,1,0,0] (body Try.f49))) (normA [] [1,6,50,51,52,103,104,105]) next ⟨[(1,AV.ptr [0,1] 0 0),(6,AV.ptr [0,6] 0 0),(50,AV.sl [.int .i64,.int .i64] t50),(51,Ai t51),(52,Ai t52),(103,AV.sl [.int .i64] t103),(104,Ai t104),(105,Ai t105)],[([0,1],⟨true,[],[AV.agg [AV.sl [.int .i64] h0_0,AV.sl [.int .i64] h0_1,AV.sl [.int .i64,.int .i64] h0_2]]⟩),([0,6],⟨true,[],[AV.agg [Ai h1_0,Ai h1_1]]⟩)]⟩ k=(bif decide (t105<t104) then (bif (decide (0≤t105) && decide (t105<(t103.length:Int))) then (bif !(decide (fI (t103.getD t105.toNat .undef) 0<h1_0) == decide (t105<h1_1)) then k .ret ⟨[(2,AV.bool false)],[([0,1],⟨true,[],[AV.agg [AV.sl [.int .i64] h0_0,AV.sl [.int .i64] h0_1,AV.sl [.int .i64,.int .i64] h0_2]]⟩),([0,6],⟨true,[],[AV.agg [Ai h1_0,Ai h1_1]]⟩)]⟩
 else next ⟨[(1,AV.ptr [0,1] 0 0),(6,AV.ptr [0,6] 0 0),(50,AV.sl [.int .i64,.int .i64] t50),(51,Ai t51),(52,Ai t52),(103,AV.sl [.int .i64] t103),(104,Ai t104),(105,Ai (IntKind.i64.wrap (t105+1)))],[([0,1],⟨true,[],[AV.agg [AV.sl [.int .i64] h0_0,AV.sl [.int .i64] h0_1,AV.sl [.int .i64,.int .i64] h0_2]]⟩),([0,6],⟨true,[],[AV.agg [Ai h1_0,Ai h1_1]]⟩)]⟩)
 else none)
 else k (.exit 4) ⟨[(1,AV.ptr [0,1] 0 0),(50,AV.sl [.int .i64,.int .i64] t50),(51,Ai t51),(52,Ai t52)],[([0,1],⟨true,[],[AV.agg [AV.sl [.int .i64] h0_0,AV.sl [.int .i64] h0_1,AV.sl [.int .i64,.int .i64] h0_2]]⟩),([0,6],⟨true,[],[AV.agg [Ai h1_0,Ai h1_1]]⟩)]⟩):=by kernel_rfl
theorem st49_4 (t50:List AV) (t51 t52:Int) (t103:List AV) (t104:Int) (h0_0 h0_1 h0_2:List AV) (h1_0 h1_1:Int) (ce:CallE) (k:Kont) (s:Int) (next:St→Option AV):stepA (codeA c49 ce [] 49 4 (sub [1,1,1,0,1,0,0,1,1,0,0,1,1,1,0,0] (body Try.f49))) (normA [] [1,6,50,51,52,103,104,105]) next ((E49_4 t50 t51 t52 t103 t104 h0_0 h0_1 h0_2 h1_0 h1_1) s) k=(R49_4 t50 t51 t52 t103 t104 h0_0 h0_1 h0_2 h1_0 h1_1 s).el none (fun s=>next ((E49_4 t50 t51 t52 t103 t104 h0_0 h0_1 h0_2 h1_0 h1_1) s)) (K49_4 t50 t51 t52 h0_0 h0_1 h0_2 h1_0 h1_1 k):=(s49_4 ce t50 t51 t52 t103 t104 s h0_0 h0_1 h0_2 h1_0 h1_1 next k).trans (by unfold R49_4;unfold F49_4;simp only [el_cond,el_ro,el_sum,el_fail,el_next,el_stop] <;> rfl)
theorem ok49_4 {ce:CallE}:LoopOK c49 ce [] 49 4 (sub [1,1,1,0,1,0,0,1,1,0,0,1,1,1,0,0] (body Try.f49)):=by
 intro m hm st k r h
 obtain rfl:l49_4=m:=Option.some.inj hm
 unfold l49_4 at h
 split at h
 ·rename_i g0 g1 g2 g3 g4 g5 g6 t50 t51 t52 g7 t103 t104 t105 g8 g9 h0_0 g10 h0_1 g11 h0_2 g12 h1_0 h1_1
  obtain ⟨hg,h⟩:=bif_some h
  simp only [Bool.and_eq_true] at hg
  obtain ⟨⟨⟨⟨⟨⟨⟨⟨⟨⟨⟨⟨q0,q1⟩,q2⟩,q3⟩,q4⟩,q5⟩,q6⟩,q7⟩,q8⟩,q9⟩,q10⟩,q11⟩,q12⟩:=hg
  obtain rfl:=(nmEq_iff _ _).1 q0
  obtain rfl:=Nat.eq_of_beq_eq_true q1
  obtain rfl:=Nat.eq_of_beq_eq_true q2
  obtain rfl:=(nmEq_iff _ _).1 q3
  obtain rfl:=Nat.eq_of_beq_eq_true q4
  obtain rfl:=Nat.eq_of_beq_eq_true q5
  obtain rfl:=ctsEq_eq _ _ q6
  obtain rfl:=ctsEq_eq _ _ q7
  obtain rfl:=(nmEq_iff _ _).1 q8
  obtain rfl:=ctsEq_eq _ _ q9
  obtain rfl:=ctsEq_eq _ _ q10
  obtain rfl:=ctsEq_eq _ _ q11
  obtain rfl:=(nmEq_iff _ _).1 q12
  refine ⟨((t104 - t105:Int).toNat+1),?_⟩
  rw [← h]
  exact loop_run (E49_4 t50 t51 t52 t103 t104 h0_0 h0_1 h0_2 h1_0 h1_1) (K49_4 t50 t51 t52 h0_0 h0_1 h0_2 h1_0 h1_1 k) (st49_4 t50 t51 t52 t103 t104 h0_0 h0_1 h0_2 h1_0 h1_1 ce k) _ t105
 ·cases h
theorem s49_2 (ce:CallE) (t50:List AV) (t51 t52:Int) (h0_0 h0_1 h0_2:List AV) (next:St→Option AV) (k:Kont):stepA (codeA c49 ce [] 49 2 (sub [1,1,1,0,1,0,0] (body Try.f49))) (normA [] [1,50,51,52]) next ⟨[(1,AV.ptr [0,1] 0 0),(50,AV.sl [.int .i64,.int .i64] t50),(51,Ai t51),(52,Ai t52)],[([0,1],⟨true,[],[AV.agg [AV.sl [.int .i64] h0_0,AV.sl [.int .i64] h0_1,AV.sl [.int .i64,.int .i64] h0_2]]⟩)]⟩ k=(bif decide (t52<t51) then (bif (decide (0≤t52) && decide (t52<(t50.length:Int))) then (bif !(v89_0 (fI (t50.getD t52.toNat .undef) 0)) then k .ret ⟨[(2,AV.bool false)],[([0,1],⟨true,[],[AV.agg [AV.sl [.int .i64] h0_0,AV.sl [.int .i64] h0_1,AV.sl [.int .i64,.int .i64] h0_2]]⟩),([1,6],⟨true,[],[AV.agg [Ai (fI (t50.getD t52.toNat .undef) 0),Ai (fI (t50.getD t52.toNat .undef) 1)]]⟩)]⟩
 else (bif decide (fI (t50.getD t52.toNat .undef) 1<0) then k .ret ⟨[(2,AV.bool false)],[([0,1],⟨true,[],[AV.agg [AV.sl [.int .i64] h0_0,AV.sl [.int .i64] h0_1,AV.sl [.int .i64,.int .i64] h0_2]]⟩),([1,6],⟨true,[],[AV.agg [Ai (fI (t50.getD t52.toNat .undef) 0),Ai (fI (t50.getD t52.toNat .undef) 1)]]⟩)]⟩
 else (bif decide (fI (t50.getD t52.toNat .undef) 1 > (h0_0.length:Int)) then k .ret ⟨[(2,AV.bool false)],[([0,1],⟨true,[],[AV.agg [AV.sl [.int .i64] h0_0,AV.sl [.int .i64] h0_1,AV.sl [.int .i64,.int .i64] h0_2]]⟩),([1,6],⟨true,[],[AV.agg [Ai (fI (t50.getD t52.toNat .undef) 0),Ai (fI (t50.getD t52.toNat .undef) 1)]]⟩)]⟩
 else (bif decide (t52 > 0) then (bif (decide (0≤IntKind.i64.wrap (t52 - 1)) && decide (IntKind.i64.wrap (t52 - 1)<(h0_2.length:Int))) then (bif decide (fI (t50.getD t52.toNat .undef) 0≤fI (h0_2.getD (IntKind.i64.wrap (t52 - 1)).toNat .undef) 0) then k .ret ⟨[(2,AV.bool false)],[([0,1],⟨true,[],[AV.agg [AV.sl [.int .i64] h0_0,AV.sl [.int .i64] h0_1,AV.sl [.int .i64,.int .i64] h0_2]]⟩),([1,6],⟨true,[],[AV.agg [Ai (fI (t50.getD t52.toNat .undef) 0),Ai (fI (t50.getD t52.toNat .undef) 1)]]⟩)]⟩
 else (bif (decide (0≤IntKind.i64.wrap (t52 - 1)) && decide (IntKind.i64.wrap (t52 - 1)<(h0_2.length:Int))) then (bif decide (fI (t50.getD t52.toNat .undef) 1<fI (h0_2.getD (IntKind.i64.wrap (t52 - 1)).toNat .undef) 1) then k .ret ⟨[(2,AV.bool false)],[([0,1],⟨true,[],[AV.agg [AV.sl [.int .i64] h0_0,AV.sl [.int .i64] h0_1,AV.sl [.int .i64,.int .i64] h0_2]]⟩),([1,6],⟨true,[],[AV.agg [Ai (fI (t50.getD t52.toNat .undef) 0),Ai (fI (t50.getD t52.toNat .undef) 1)]]⟩)]⟩
 else (ro (runW (R49_4 t50 t51 t52 h0_0 (h0_0.length:Int) h0_0 h0_1 h0_2 (fI (t50.getD t52.toNat .undef) 0) (fI (t50.getD t52.toNat .undef) 1)) (((h0_0.length:Int) - 0:Int).toNat+1) 0) none (sumE (fun _=>next ⟨[(1,AV.ptr [0,1] 0 0),(50,AV.sl [.int .i64,.int .i64] t50),(51,Ai t51),(52,Ai (IntKind.i64.wrap (t52+1)))],[([0,1],⟨true,[],[AV.agg [AV.sl [.int .i64] h0_0,AV.sl [.int .i64] h0_1,AV.sl [.int .i64,.int .i64] h0_2]]⟩)]⟩) (fun _=>k .ret ⟨[(2,AV.bool false)],[([0,1],⟨true,[],[AV.agg [AV.sl [.int .i64] h0_0,AV.sl [.int .i64] h0_1,AV.sl [.int .i64,.int .i64] h0_2]]⟩),([0,6],⟨true,[],[AV.agg [Ai (fI (t50.getD t52.toNat .undef) 0),Ai (fI (t50.getD t52.toNat .undef) 1)]]⟩)]⟩))))
 else none))
 else none)
 else (ro (runW (R49_4 t50 t51 t52 h0_0 (h0_0.length:Int) h0_0 h0_1 h0_2 (fI (t50.getD t52.toNat .undef) 0) (fI (t50.getD t52.toNat .undef) 1)) (((h0_0.length:Int) - 0:Int).toNat+1) 0) none (sumE (fun _=>next ⟨[(1,AV.ptr [0,1] 0 0),(50,AV.sl [.int .i64,.int .i64] t50),(51,Ai t51),(52,Ai (IntKind.i64.wrap (t52+1)))],[([0,1],⟨true,[],[AV.agg [AV.sl [.int .i64] h0_0,AV.sl [.int .i64] h0_1,AV.sl [.int .i64,.int .i64] h0_2]]⟩)]⟩) (fun _=>k .ret ⟨[(2,AV.bool false)],[([0,1],⟨true,[],[AV.agg [AV.sl [.int .i64] h0_0,AV.sl [.int .i64] h0_1,AV.sl [.int .i64,.int .i64] h0_2]]⟩),([0,6],⟨true,[],[AV.agg [Ai (fI (t50.getD t52.toNat .undef) 0),Ai (fI (t50.getD t52.toNat .undef) 1)]]⟩)]⟩)))))))
 else none)
 else k (.exit 2) ⟨[],[([0,1],⟨true,[],[AV.agg [AV.sl [.int .i64] h0_0,AV.sl [.int .i64] h0_1,AV.sl [.int .i64,.int .i64] h0_2]]⟩)]⟩):=by kernel_rfl
theorem st49_2 (t50:List AV) (t51:Int) (h0_0 h0_1 h0_2:List AV) (ce:CallE) (k:Kont) (s:Int) (next:St→Option AV):stepA (codeA c49 ce [] 49 2 (sub [1,1,1,0,1,0,0] (body Try.f49))) (normA [] [1,50,51,52]) next ((E49_2 t50 t51 h0_0 h0_1 h0_2) s) k=(R49_2 t50 t51 h0_0 h0_1 h0_2 s).el none (fun s=>next ((E49_2 t50 t51 h0_0 h0_1 h0_2) s)) (K49_2 h0_0 h0_1 h0_2 k):=(s49_2 ce t50 t51 s h0_0 h0_1 h0_2 next k).trans (by unfold R49_2;unfold F49_2;simp only [el_cond,el_ro,el_sum,el_fail,el_next,el_stop] <;> rfl)
theorem ok49_2 {ce:CallE}:LoopOK c49 ce [] 49 2 (sub [1,1,1,0,1,0,0] (body Try.f49)):=by
 intro m hm st k r h
 obtain rfl:l49_2=m:=Option.some.inj hm
 unfold l49_2 at h
 split at h
 ·rename_i g0 g1 g2 g3 t50 t51 t52 g4 g5 h0_0 g6 h0_1 g7 h0_2
  obtain ⟨hg,h⟩:=bif_some h
  simp only [Bool.and_eq_true] at hg
  obtain ⟨⟨⟨⟨⟨⟨⟨q0,q1⟩,q2⟩,q3⟩,q4⟩,q5⟩,q6⟩,q7⟩:=hg
  obtain rfl:=(nmEq_iff _ _).1 q0
  obtain rfl:=Nat.eq_of_beq_eq_true q1
  obtain rfl:=Nat.eq_of_beq_eq_true q2
  obtain rfl:=ctsEq_eq _ _ q3
  obtain rfl:=(nmEq_iff _ _).1 q4
  obtain rfl:=ctsEq_eq _ _ q5
  obtain rfl:=ctsEq_eq _ _ q6
  obtain rfl:=ctsEq_eq _ _ q7
  refine ⟨((t51 - t52:Int).toNat+1),?_⟩
  rw [← h]
  exact loop_run (E49_2 t50 t51 h0_0 h0_1 h0_2) (K49_2 h0_0 h0_1 h0_2 k) (st49_2 t50 t51 h0_0 h0_1 h0_2 ce k) _ t52
 ·cases h
theorem s49_0 (ce:CallE) (t35:List AV) (t36 t37:Int) (h0_0 h0_1 h0_2:List AV) (next:St→Option AV) (k:Kont):stepA (codeA c49 ce [] 49 0 (sub [1,1,0,1,0,0] (body Try.f49))) (normA [] [1,35,36,37]) next ⟨[(1,AV.ptr [0,1] 0 0),(35,AV.sl [.int .i64] t35),(36,Ai t36),(37,Ai t37)],[([0,1],⟨true,[],[AV.agg [AV.sl [.int .i64] h0_0,AV.sl [.int .i64] h0_1,AV.sl [.int .i64,.int .i64] h0_2]]⟩)]⟩ k=(bif decide (t37<t36) then (bif (decide (0≤t37) && decide (t37<(t35.length:Int))) then (bif (decide (0≤0) && decide (0≤t37) && decide (t37≤(h0_1.length:Int))) then (bif q88 ((h0_1.take (Int.toNat t37)).drop (Int.toNat 0)) (fI (t35.getD t37.toNat .undef) 0) then (bif (v88_0 ((h0_1.take (Int.toNat t37)).drop (Int.toNat 0)) (fI (t35.getD t37.toNat .undef) 0)) then k .ret ⟨[(2,AV.bool false)],[([0,1],⟨true,[],[AV.agg [AV.sl [.int .i64] h0_0,AV.sl [.int .i64] h0_1,AV.sl [.int .i64,.int .i64] h0_2]]⟩)]⟩
 else next ⟨[(1,AV.ptr [0,1] 0 0),(35,AV.sl [.int .i64] t35),(36,Ai t36),(37,Ai (IntKind.i64.wrap (t37+1)))],[([0,1],⟨true,[],[AV.agg [AV.sl [.int .i64] h0_0,AV.sl [.int .i64] h0_1,AV.sl [.int .i64,.int .i64] h0_2]]⟩)]⟩)
 else none)
 else none)
 else none)
 else k (.exit 0) ⟨[(1,AV.ptr [0,1] 0 0)],[([0,1],⟨true,[],[AV.agg [AV.sl [.int .i64] h0_0,AV.sl [.int .i64] h0_1,AV.sl [.int .i64,.int .i64] h0_2]]⟩)]⟩):=by kernel_rfl
theorem st49_0 (t35:List AV) (t36:Int) (h0_0 h0_1 h0_2:List AV) (ce:CallE) (k:Kont) (s:Int) (next:St→Option AV):stepA (codeA c49 ce [] 49 0 (sub [1,1,0,1,0,0] (body Try.f49))) (normA [] [1,35,36,37]) next ((E49_0 t35 t36 h0_0 h0_1 h0_2) s) k=(R49_0 t35 t36 h0_0 h0_1 h0_2 s).el none (fun s=>next ((E49_0 t35 t36 h0_0 h0_1 h0_2) s)) (K49_0 h0_0 h0_1 h0_2 k):=(s49_0 ce t35 t36 s h0_0 h0_1 h0_2 next k).trans (by unfold R49_0;unfold F49_0;simp only [el_cond,el_ro,el_sum,el_fail,el_next,el_stop] <;> rfl)
theorem ok49_0 {ce:CallE}:LoopOK c49 ce [] 49 0 (sub [1,1,0,1,0,0] (body Try.f49)):=by
 intro m hm st k r h
 obtain rfl:l49_0=m:=Option.some.inj hm
 unfold l49_0 at h
 split at h
 ·rename_i g0 g1 g2 g3 t35 t36 t37 g4 g5 h0_0 g6 h0_1 g7 h0_2
  obtain ⟨hg,h⟩:=bif_some h
  simp only [Bool.and_eq_true] at hg
  obtain ⟨⟨⟨⟨⟨⟨⟨q0,q1⟩,q2⟩,q3⟩,q4⟩,q5⟩,q6⟩,q7⟩:=hg
  obtain rfl:=(nmEq_iff _ _).1 q0
  obtain rfl:=Nat.eq_of_beq_eq_true q1
  obtain rfl:=Nat.eq_of_beq_eq_true q2
  obtain rfl:=ctsEq_eq _ _ q3
  obtain rfl:=(nmEq_iff _ _).1 q4
  obtain rfl:=ctsEq_eq _ _ q5
  obtain rfl:=ctsEq_eq _ _ q6
  obtain rfl:=ctsEq_eq _ _ q7
  refine ⟨((t36 - t37:Int).toNat+1),?_⟩
  rw [← h]
  exact loop_run (E49_0 t35 t36 h0_0 h0_1 h0_2) (K49_0 h0_0 h0_1 h0_2 k) (st49_0 t35 t36 h0_0 h0_1 h0_2 ce k) _ t37
 ·cases h
def q49 (xa xb xc:List AV):Bool:=(q30 xa && (bif !(v30_0 xa) then true else (bif !decide ((xb.length:Int)=(xa.length:Int)) then true else (q64 xb 0 999 && (bif !(v64_0 xb 0 999) then true else (bif decide ((xc.length:Int) > 2001) then true else (ro (runW (R49_0 xb (xb.length:Int) xa xb xc) (((xb.length:Int) - 0:Int).toNat+1) 0) false (sumE (fun _=>(ro (runW (R49_2 xc (xc.length:Int) xa xb xc) (((xc.length:Int) - 0:Int).toNat+1) 0) false (sumE (fun _=>true) (sumE (fun p58=>true) (fun p59=>true))))) (fun _=>true)))))))))
def v49_0 (xa xb xc:List AV):Bool:=(bif !(v30_0 xa) then false else (bif !decide ((xb.length:Int)=(xa.length:Int)) then false else (bif !(v64_0 xb 0 999) then false else (bif decide ((xc.length:Int) > 2001) then false else (ro (runW (R49_0 xb (xb.length:Int) xa xb xc) (((xb.length:Int) - 0:Int).toNat+1) 0) false (sumE (fun _=>(ro (runW (R49_2 xc (xc.length:Int) xa xb xc) (((xc.length:Int) - 0:Int).toNat+1) 0) false (sumE (fun _=>true) (sumE (fun p58=>false) (fun p59=>false))))) (fun _=>false)))))))
theorem e49 (xa xb xc:List AV):funA c49 0 49 [AV.agg [AV.sl [.int .i64] xa,AV.sl [.int .i64] xb,AV.sl [.int .i64,.int .i64] xc]]=(bif q30 xa then (bif !(v30_0 xa) then some (AV.bool false)
 else (bif !decide ((xb.length:Int)=(xa.length:Int)) then some (AV.bool false)
 else (bif q64 xb 0 999 then (bif !(v64_0 xb 0 999) then some (AV.bool false)
 else (bif decide ((xc.length:Int) > 2001) then some (AV.bool false)
 else (ro (runW (R49_0 xb (xb.length:Int) xa xb xc) (((xb.length:Int) - 0:Int).toNat+1) 0) none (sumE (fun _=>(ro (runW (R49_2 xc (xc.length:Int) xa xb xc) (((xc.length:Int) - 0:Int).toNat+1) 0) none (sumE (fun _=>some (AV.bool true)) (sumE (fun p58=>some (AV.bool false)) (fun p59=>some (AV.bool false)))))) (fun _=>some (AV.bool false))))))
 else none)))
 else none):=by kernel_rfl
def m49:TModel
 | [.agg [.sl g0 xa,.sl g1 xb,.sl g2 xc]]=>bif ctsEq g0 ([.int .i64]) && ctsEq g1 ([.int .i64]) && ctsEq g2 ([.int .i64,.int .i64]) then some (q49 xa xb xc,AV.bool (v49_0 xa xb xc)) else none
 | _=>none
theorem k49:Known Try.prog 49:=⟨Try.f49,Try.func49,by kernel_rfl,by kernel_rfl⟩
theorem meets49:Meets Try.prog 49 m49:=by
 refine meet (f:=Try.f49) (l:=[(0,sub [1,1,0,1,0,0] (body Try.f49)),(2,sub [1,1,1,0,1,0,0] (body Try.f49)),(4,sub [1,1,1,0,1,0,0,1,1,0,0,1,1,1,0,0] (body Try.f49))]) (hs:=[(49,0,[1,35,36,37]),(49,2,[1,50,51,52]),(49,4,[1,6,50,51,52,103,104,105]),(49,999,[2]),(49,1000,[1]),(49,1001,[1,35,36,37]),(49,1002,[]),(49,1003,[1,50,51,52]),(49,1004,[1,50,51,52]),(49,1005,[1,6,50,51,52,103,104,105])]) (ts:=[(30,m30),(64,m64),(88,m88),(89,m89)]) (ws:=[]) (is:=[]) (ls:=[(49,0,l49_0),(49,2,l49_2),(49,4,l49_4)]) (lvl:=0) mixed k49 Try.func49 (by kernel_rfl) (loops_cons ok49_0 (loops_cons ok49_2 (loops_cons ok49_4 noLoop))) (allT_cons meets30 (allT_cons meets64 (allT_cons meets88 (allT_cons meets89 allT_nil)))) allM_nil noI fun w xs us r hl hv h=>?_
 unfold m49 at h
 split at h
 ·rename_i g0 xa g1 xb g2 xc
  obtain ⟨hg,h⟩:=bif_pair h
  simp only [Bool.and_eq_true] at hg
  obtain ⟨⟨q0,q1⟩,q2⟩:=hg
  obtain rfl:=ctsEq_eq _ _ q0
  obtain rfl:=ctsEq_eq _ _ q1
  obtain rfl:=ctsEq_eq _ _ q2
  obtain ⟨h1,rfl⟩:=pair_inj h
  exact (e49 xa xb xc).trans ((brL (br (fun b=>some (AV.bool (bif b then false else (bif !decide ((xb.length:Int)=(xa.length:Int)) then false else (bif !(v64_0 xb 0 999) then false else (bif decide ((xc.length:Int) > 2001) then false else (ro (runW (R49_0 xb (xb.length:Int) xa xb xc) (((xb.length:Int) - 0:Int).toNat+1) 0) false (sumE (fun _=>(ro (runW (R49_2 xc (xc.length:Int) xa xb xc) (((xc.length:Int) - 0:Int).toNat+1) 0) false (sumE (fun _=>true) (sumE (fun p58=>false) (fun p59=>false))))) (fun _=>false))))))))) (fun _=>rfl) (br (fun b=>some (AV.bool (bif b then false else (bif !(v64_0 xb 0 999) then false else (bif decide ((xc.length:Int) > 2001) then false else (ro (runW (R49_0 xb (xb.length:Int) xa xb xc) (((xb.length:Int) - 0:Int).toNat+1) 0) false (sumE (fun _=>(ro (runW (R49_2 xc (xc.length:Int) xa xb xc) (((xc.length:Int) - 0:Int).toNat+1) 0) false (sumE (fun _=>true) (sumE (fun p58=>false) (fun p59=>false))))) (fun _=>false)))))))) (fun _=>rfl) (brL (br (fun b=>some (AV.bool (bif b then false else (bif decide ((xc.length:Int) > 2001) then false else (ro (runW (R49_0 xb (xb.length:Int) xa xb xc) (((xb.length:Int) - 0:Int).toNat+1) 0) false (sumE (fun _=>(ro (runW (R49_2 xc (xc.length:Int) xa xb xc) (((xc.length:Int) - 0:Int).toNat+1) 0) false (sumE (fun _=>true) (sumE (fun p58=>false) (fun p59=>false))))) (fun _=>false))))))) (fun _=>rfl) (br (fun b=>some (AV.bool (bif b then false else (ro (runW (R49_0 xb (xb.length:Int) xa xb xc) (((xb.length:Int) - 0:Int).toNat+1) 0) false (sumE (fun _=>(ro (runW (R49_2 xc (xc.length:Int) xa xb xc) (((xc.length:Int) - 0:Int).toNat+1) 0) false (sumE (fun _=>true) (sumE (fun p58=>false) (fun p59=>false))))) (fun _=>false)))))) (fun _=>rfl) (brO (fun o:Option (Unit ⊕ Unit)=>some (AV.bool (ro o false (sumE (fun _=>(ro (runW (R49_2 xc (xc.length:Int) xa xb xc) (((xc.length:Int) - 0:Int).toNat+1) 0) false (sumE (fun _=>true) (sumE (fun p58=>false) (fun p59=>false))))) (fun _=>false))))) (brS (fun o:Unit ⊕ Unit=>some (AV.bool ((sumE (fun _=>(ro (runW (R49_2 xc (xc.length:Int) xa xb xc) (((xc.length:Int) - 0:Int).toNat+1) 0) false (sumE (fun _=>true) (sumE (fun p58=>false) (fun p59=>false))))) (fun _=>false)) o))) (fun _=>(brO (fun o:Option (Unit ⊕ (Int × Int) ⊕ (Int × Int))=>some (AV.bool (ro o false (sumE (fun _=>true) (sumE (fun p58=>false) (fun p59=>false)))))) (brS (fun o:Unit ⊕ (Int × Int) ⊕ (Int × Int)=>some (AV.bool ((sumE (fun _=>true) (sumE (fun p58=>false) (fun p59=>false))) o))) (fun _=>(fun _=>rfl)) (brS (fun o:(Int × Int) ⊕ (Int × Int)=>some (AV.bool ((sumE (fun p58=>false) (fun p59=>false)) o))) (fun p58=>(fun _=>rfl)) (fun p59=>(fun _=>rfl)))))) (fun _=>(fun _=>rfl)))))))))) h1)
 ·cases h
noncomputable def c104:Cfg:=cfg Try.prog [(104,999,[4,5])] [(49,m49),(69,m69),(72,m72)] [] [] []
def q104 (xa xb xc:List AV) (ya yb:Int):Bool:=(q72 xa xb xc ya yb && (q49 xa xb xc && (bif !(v49_0 xa xb xc) then q69 xa xb xc else (q49 (v72_0 xa xb xc ya yb) (v72_1 xa xb xc ya yb) (v72_2 xa xb xc ya yb) && (bif !(v49_0 (v72_0 xa xb xc ya yb) (v72_1 xa xb xc ya yb) (v72_2 xa xb xc ya yb)) then q69 xa xb xc else true)))))
def v104_0 (xa xb xc:List AV) (ya yb:Int):List AV:=(bif !(v49_0 xa xb xc) then (v69_0 xa xb xc) else (bif !(v49_0 (v72_0 xa xb xc ya yb) (v72_1 xa xb xc ya yb) (v72_2 xa xb xc ya yb)) then (v69_0 xa xb xc) else (v72_0 xa xb xc ya yb)))
def v104_1 (xa xb xc:List AV) (ya yb:Int):List AV:=(bif !(v49_0 xa xb xc) then (v69_1 xa xb xc) else (bif !(v49_0 (v72_0 xa xb xc ya yb) (v72_1 xa xb xc ya yb) (v72_2 xa xb xc ya yb)) then (v69_1 xa xb xc) else (v72_1 xa xb xc ya yb)))
def v104_2 (xa xb xc:List AV) (ya yb:Int):List AV:=(bif !(v49_0 xa xb xc) then (v69_2 xa xb xc) else (bif !(v49_0 (v72_0 xa xb xc ya yb) (v72_1 xa xb xc ya yb) (v72_2 xa xb xc ya yb)) then (v69_2 xa xb xc) else (v72_2 xa xb xc ya yb)))
def v104_3 (xa xb xc:List AV) (ya yb:Int):Bool:=(bif !(v49_0 xa xb xc) then false else (bif !(v49_0 (v72_0 xa xb xc ya yb) (v72_1 xa xb xc ya yb) (v72_2 xa xb xc ya yb)) then false else true))
theorem e104 (xa xb xc:List AV) (ya yb:Int):funA c104 0 104 [AV.agg [AV.sl [.int .i64] xa,AV.sl [.int .i64] xb,AV.sl [.int .i64,.int .i64] xc],AV.agg [Ai ya,Ai yb]]=(bif q72 xa xb xc ya yb then (bif q49 xa xb xc then (bif !(v49_0 xa xb xc) then (bif q69 xa xb xc then some (AV.tup [AV.agg [AV.fl [.int .i64] (v69_0 xa xb xc),AV.fl [.int .i64] (v69_1 xa xb xc),AV.fl [.int .i64,.int .i64] (v69_2 xa xb xc)],AV.bool false])
 else none)
 else (bif q49 (v72_0 xa xb xc ya yb) (v72_1 xa xb xc ya yb) (v72_2 xa xb xc ya yb) then (bif !(v49_0 (v72_0 xa xb xc ya yb) (v72_1 xa xb xc ya yb) (v72_2 xa xb xc ya yb)) then (bif q69 xa xb xc then some (AV.tup [AV.agg [AV.fl [.int .i64] (v69_0 xa xb xc),AV.fl [.int .i64] (v69_1 xa xb xc),AV.fl [.int .i64,.int .i64] (v69_2 xa xb xc)],AV.bool false])
 else none)
 else some (AV.tup [AV.agg [AV.fl [.int .i64] (v72_0 xa xb xc ya yb),AV.fl [.int .i64] (v72_1 xa xb xc ya yb),AV.fl [.int .i64,.int .i64] (v72_2 xa xb xc ya yb)],AV.bool true]))
 else none))
 else none)
 else none):=by kernel_rfl
def m104:TModel
 | [.agg [.sl g0 xa,.sl g1 xb,.sl g2 xc],.agg [.int .i64 ya,.int .i64 yb]]=>bif ctsEq g0 ([.int .i64]) && ctsEq g1 ([.int .i64]) && ctsEq g2 ([.int .i64,.int .i64]) then some (q104 xa xb xc ya yb,AV.tup [AV.agg [AV.fl [.int .i64] (v104_0 xa xb xc ya yb),AV.fl [.int .i64] (v104_1 xa xb xc ya yb),AV.fl [.int .i64,.int .i64] (v104_2 xa xb xc ya yb)],AV.bool (v104_3 xa xb xc ya yb)]) else none
 | _=>none
theorem k104:Known Try.prog 104:=⟨Try.f104,Try.func104,by kernel_rfl,by kernel_rfl⟩
theorem meets104:Meets Try.prog 104 m104:=by
 refine meet (f:=Try.f104) (l:=[]) (hs:=[(104,999,[4,5])]) (ts:=[(49,m49),(69,m69),(72,m72)]) (ws:=[]) (is:=[]) (ls:=[]) (lvl:=0) mixed k104 Try.func104 (by kernel_rfl) noLoop (allT_cons meets49 (allT_cons meets69 (allT_cons meets72 allT_nil))) allM_nil noI fun w xs us r hl hv h=>?_
 unfold m104 at h
 split at h
 ·rename_i g0 xa g1 xb g2 xc ya yb
  obtain ⟨hg,h⟩:=bif_pair h
  simp only [Bool.and_eq_true] at hg
  obtain ⟨⟨q0,q1⟩,q2⟩:=hg
  obtain rfl:=ctsEq_eq _ _ q0
  obtain rfl:=ctsEq_eq _ _ q1
  obtain rfl:=ctsEq_eq _ _ q2
  obtain ⟨h1,rfl⟩:=pair_inj h
  exact (e104 xa xb xc ya yb).trans ((brL (brL (br (fun b=>some (AV.tup [AV.agg [AV.fl [.int .i64] (bif b then (v69_0 xa xb xc) else (bif !(v49_0 (v72_0 xa xb xc ya yb) (v72_1 xa xb xc ya yb) (v72_2 xa xb xc ya yb)) then (v69_0 xa xb xc) else (v72_0 xa xb xc ya yb))),AV.fl [.int .i64] (bif b then (v69_1 xa xb xc) else (bif !(v49_0 (v72_0 xa xb xc ya yb) (v72_1 xa xb xc ya yb) (v72_2 xa xb xc ya yb)) then (v69_1 xa xb xc) else (v72_1 xa xb xc ya yb))),AV.fl [.int .i64,.int .i64] (bif b then (v69_2 xa xb xc) else (bif !(v49_0 (v72_0 xa xb xc ya yb) (v72_1 xa xb xc ya yb) (v72_2 xa xb xc ya yb)) then (v69_2 xa xb xc) else (v72_2 xa xb xc ya yb)))],AV.bool (bif b then false else (bif !(v49_0 (v72_0 xa xb xc ya yb) (v72_1 xa xb xc ya yb) (v72_2 xa xb xc ya yb)) then false else true))])) (brL1 (fun _=>rfl)) (brL (br (fun b=>some (AV.tup [AV.agg [AV.fl [.int .i64] (bif b then (v69_0 xa xb xc) else (v72_0 xa xb xc ya yb)),AV.fl [.int .i64] (bif b then (v69_1 xa xb xc) else (v72_1 xa xb xc ya yb)),AV.fl [.int .i64,.int .i64] (bif b then (v69_2 xa xb xc) else (v72_2 xa xb xc ya yb))],AV.bool (bif b then false else true)])) (brL1 (fun _=>rfl)) (fun _=>rfl)))))) h1)
 ·cases h
noncomputable def c105:Cfg:=cfg Try.prog [(105,999,[2])] [] [] [] []
def q105 (a0:List AV):Bool:=decide (a0.length*16≤140737488355328) && decide (a0.length≤140737488355328)
def v105_0 (a0:List AV):List AV:=a0
theorem e105 (a0:List AV):funA c105 0 105 [AV.sl [.int .i64,.int .i64] a0]=(bif decide (0<a0.length) then (bif (decide ((([]:List AV).length+a0.length)*16≤140737488355328) && decide ((([]:List AV).length+a0.length)≤140737488355328)) then some (AV.fl [.int .i64,.int .i64] (([]:List AV)++a0))
 else none)
 else none):=by kernel_rfl
theorem e105n (b:Bool):funA c105 0 105 [AV.sle b [.int .i64,.int .i64]]=some (AV.fl [.int .i64,.int .i64] []):=by cases b <;> kernel_rfl
def m105:TModel
 | [.sl g0 a0]=>bif ctsEq g0 [.int .i64,.int .i64] then some (q105 a0,AV.fl [.int .i64,.int .i64] (v105_0 a0)) else none
 | _=>none
theorem k105:Known Try.prog 105:=⟨Try.f105,Try.func105,by kernel_rfl,by kernel_rfl⟩
theorem meets105:Meets Try.prog 105 m105:=by
 refine meet_nil (f:=Try.f105) (l:=[]) (hs:=[(105,999,[2])]) (ts:=[]) (ws:=[]) (is:=[]) (ls:=[]) (lvl:=0) (tys:=[.int .i64,.int .i64]) mixed k105 Try.func105 (by kernel_rfl) noLoop allT_nil allM_nil noI (fun xs r h=>?_) (fun b r h=>?_) (fun ys r h0 h=>?_)
 ·unfold m105 at h
  split at h
  ·rename_i g0 a0
   obtain ⟨hg,h⟩:=bif_pair h
   obtain rfl:=ctsEq_eq _ _ hg
   exact ⟨a0,rfl⟩
  ·cases h
 ·obtain ⟨hg,h⟩:=bif_pair (g:=ctsEq [.int .i64,.int .i64] [.int .i64,.int .i64]) h
  obtain ⟨_,rfl⟩:=pair_inj h
  exact e105n b
 ·obtain ⟨hg,h⟩:=bif_pair (g:=ctsEq [.int .i64,.int .i64] [.int .i64,.int .i64]) h
  obtain ⟨hq,rfl⟩:=pair_inj h
  refine (e105 ys).trans ?_
  unfold q105 at hq
  have e:([]:List AV).length+ys.length=ys.length:=by simp
  rw [e,hq,decide_eq_true h0]
  rfl
def F106_0 (t2 t3:Int) (h0:List AV):Out ((Int × Int × (List AV))) (((List AV))):=(bif decide (t2<t3) then (bif (decide (0≤t3) && decide (t3<(h0.length:Int))) then (bif (decide (0≤t2) && decide (t2<(h0.length:Int))) then (bif (decide (0≤t2) && decide (t2<(h0.length:Int))) then (bif (decide (0≤t3) && decide (t3<((h0.set t2.toNat (AV.agg [AV.int .i64 (fI (h0.getD t3.toNat .undef) 0),AV.int .i64 (fI (h0.getD t3.toNat .undef) 1)])).length:Int))) then .next (IntKind.i64.wrap (t2+1),IntKind.i64.wrap (t3 - 1),(h0.set t2.toNat (AV.agg [AV.int .i64 (fI (h0.getD t3.toNat .undef) 0),AV.int .i64 (fI (h0.getD t3.toNat .undef) 1)])).set t3.toNat (AV.agg [AV.int .i64 (fI (h0.getD t2.toNat .undef) 0),AV.int .i64 (fI (h0.getD t2.toNat .undef) 1)]))
 else .fail)
 else .fail)
 else .fail)
 else .fail)
 else .stop h0)
def R106_0:((Int × Int × (List AV)))→Out ((Int × Int × (List AV))) (((List AV))):=fun s:Int × Int × (List AV)=>F106_0 s.1 s.2.1 s.2.2
def E106_0:((Int × Int × (List AV)))→St:=fun s:Int × Int × (List AV)=>⟨[(0,AV.own [1]),(2,Ai s.1),(3,Ai s.2.1)],[([1],⟨false,[.int .i64,.int .i64],s.2.2⟩)]⟩
def K106_0 (k:Kont):(((List AV)))→Option AV:=fun p:(List AV)=>k (.exit 0) ⟨[],[([1],⟨false,[.int .i64,.int .i64],p⟩)]⟩
def l106_0:LModel:=fun _ _ st k=>match st with
 | ⟨[(0,.own g0),(2,.int .i64 t2),(3,.int .i64 t3)],[(g1,⟨false,g2,h0⟩)]⟩=>bif nmEq g0 ([1]) && nmEq g1 ([1]) && ctsEq g2 ([.int .i64,.int .i64]) then ro (runW (R106_0) ((t3 - t2:Int).toNat+1) (t2,t3,h0)) none (K106_0 k) else none
 | _=>none
noncomputable def c106:Cfg:=cfg Try.prog [(106,0,[0,2,3]),(106,999,[]),(106,1000,[]),(106,1001,[0,2,3])] [] [] [] [(106,0,l106_0)]
theorem s106_0 (ce:CallE) (t2 t3:Int) (h0:List AV) (next:St→Option AV) (k:Kont):stepA (codeA c106 ce [0] 106 0 (sub [1,0,0] (body Try.f106))) (normA [0] [0,2,3]) next ⟨[(0,AV.own [1]),(2,Ai t2),(3,Ai t3)],[([1],⟨false,[.int .i64,.int .i64],h0⟩)]⟩ k=(bif decide (t2<t3) then (bif (decide (0≤t3) && decide (t3<(h0.length:Int))) then (bif (decide (0≤t2) && decide (t2<(h0.length:Int))) then (bif (decide (0≤t2) && decide (t2<(h0.length:Int))) then (bif (decide (0≤t3) && decide (t3<((h0.set t2.toNat (AV.agg [Ai (fI (h0.getD t3.toNat .undef) 0),Ai (fI (h0.getD t3.toNat .undef) 1)])).length:Int))) then next ⟨[(0,AV.own [1]),(2,Ai (IntKind.i64.wrap (t2+1))),(3,Ai (IntKind.i64.wrap (t3 - 1)))],[([1],⟨false,[.int .i64,.int .i64],(h0.set t2.toNat (AV.agg [Ai (fI (h0.getD t3.toNat .undef) 0),Ai (fI (h0.getD t3.toNat .undef) 1)])).set t3.toNat (AV.agg [Ai (fI (h0.getD t2.toNat .undef) 0),Ai (fI (h0.getD t2.toNat .undef) 1)])⟩)]⟩
 else none)
 else none)
 else none)
 else none)
 else k (.exit 0) ⟨[],[([1],⟨false,[.int .i64,.int .i64],h0⟩)]⟩):=by kernel_rfl
theorem st106_0 (ce:CallE) (k:Kont) (s:(Int × Int × (List AV))) (next:St→Option AV):stepA (codeA c106 ce [0] 106 0 (sub [1,0,0] (body Try.f106))) (normA [0] [0,2,3]) next (E106_0 s) k=(R106_0 s).el none (fun s=>next (E106_0 s)) (K106_0 k):=(s106_0 ce s.1 s.2.1 s.2.2 next k).trans (by unfold R106_0;unfold F106_0;simp only [el_cond,el_ro,el_sum,el_fail,el_next,el_stop] <;> rfl)
theorem ok106_0 {ce:CallE}:LoopOK c106 ce [0] 106 0 (sub [1,0,0] (body Try.f106)):=by
 intro m hm st k r h
 obtain rfl:l106_0=m:=Option.some.inj hm
 unfold l106_0 at h
 split at h
 ·rename_i g0 t2 t3 g1 g2 h0
  obtain ⟨hg,h⟩:=bif_some h
  simp only [Bool.and_eq_true] at hg
  obtain ⟨⟨q0,q1⟩,q2⟩:=hg
  obtain rfl:=(nmEq_iff _ _).1 q0
  obtain rfl:=(nmEq_iff _ _).1 q1
  obtain rfl:=ctsEq_eq _ _ q2
  refine ⟨((t3 - t2:Int).toNat+1),?_⟩
  rw [← h]
  exact loop_run E106_0 (K106_0 k) (st106_0 ce k) _ (t2,t3,h0)
 ·cases h
def q106 (b0:List AV):Bool:=(ro (runW (R106_0) (((IntKind.i64.wrap ((b0.length:Int) - 1)) - 0:Int).toNat+1) (0,IntKind.i64.wrap ((b0.length:Int) - 1),b0)) false (fun p62=>true))
def v106_0 (b0:List AV):List AV:=(ro (runW (R106_0) (((IntKind.i64.wrap ((b0.length:Int) - 1)) - 0:Int).toNat+1) (0,IntKind.i64.wrap ((b0.length:Int) - 1),b0)) [] (fun p62=>p62))
theorem e106 (b0:List AV) (K:AV→List Blk→Option AV):inlA c106 1 106 [AV.own [1]] [0] (canH 1 [⟨false,[.int .i64,.int .i64],b0⟩]) (keepB 1 K)=(ro (runW (R106_0) (((IntKind.i64.wrap ((b0.length:Int) - 1)) - 0:Int).toNat+1) (0,IntKind.i64.wrap ((b0.length:Int) - 1),b0)) none (fun p62=>K (AV.tup []) [⟨false,[.int .i64,.int .i64],p62⟩])):=by kernel_rfl
theorem r106 (b0:List AV) (K:AV→List Blk→Option AV) (h:q106 b0=true):inlA c106 1 106 [AV.own [1]] [0] (canH 1 [⟨false,[.int .i64,.int .i64],b0⟩]) (keepB 1 K)=K (AV.tup []) [⟨false,[.int .i64,.int .i64],(v106_0 b0)⟩]:=(e106 b0 K).trans ((brO (fun o:Option (((List AV)))=>K (AV.tup []) [⟨false,[.int .i64,.int .i64],(ro o [] (fun p62=>p62))⟩]) (fun p62=>(fun _=>rfl))) h)
def m106:WModel
 | [.own g0],[⟨false,g1,b0⟩]=>bif nmEq g0 ([1]) && ctsEq g1 ([.int .i64,.int .i64]) then some (q106 b0,AV.tup [],[⟨false,[.int .i64,.int .i64],(v106_0 b0)⟩]) else none
 | _,_=>none
theorem k106:Known Try.prog 106:=⟨Try.f106,Try.func106,by kernel_rfl,by kernel_rfl⟩
theorem meets106:MeetsM Try.prog 106 m106:=by
 refine meetM (f:=Try.f106) (l:=[(0,sub [1,0,0] (body Try.f106))]) (hs:=[(106,0,[0,2,3]),(106,999,[]),(106,1000,[]),(106,1001,[0,2,3])]) (ts:=[]) (ws:=[]) (is:=[]) (ls:=[(106,0,l106_0)]) (lvl:=0) mixed k106 Try.func106 (by kernel_rfl) (loops_cons ok106_0 noLoop) allT_nil allM_nil noI fun C w xs us bs r bs' hl hv hh h K=>?_
 unfold m106 at h
 split at h
 ·rename_i g0 g1 b0
  obtain ⟨hg,h⟩:=bif_pair h
  simp only [Bool.and_eq_true] at hg
  obtain ⟨q0,q1⟩:=hg
  obtain rfl:=(nmEq_iff _ _).1 q0
  obtain rfl:=ctsEq_eq _ _ q1
  obtain ⟨h1,rfl,rfl⟩:=trip_inj h
  exact r106 b0 K h1
 ·cases h
noncomputable def c80:Cfg:=cfg Try.prog [(80,999,[4,5])] [(71,m71),(105,m105)] [(106,.w m106)] [] []
def q80 (xa xb xc a1:List AV):Bool:=(q105 a1 && (q106 (v105_0 a1) && q71 xa xb xc (v106_0 (v105_0 a1))))
def v80_0 (xa xb xc a1:List AV):List AV:=(v71_0 xa xb xc (v106_0 (v105_0 a1)))
def v80_1 (xa xb xc a1:List AV):List AV:=(v71_1 xa xb xc (v106_0 (v105_0 a1)))
def v80_2 (xa xb xc a1:List AV):List AV:=(v71_2 xa xb xc (v106_0 (v105_0 a1)))
def v80_3 (xa xb xc a1:List AV):Bool:=(v71_3 xa xb xc (v106_0 (v105_0 a1)))
theorem e80 (xa xb xc a1:List AV):funA c80 0 80 [AV.agg [AV.sl [.int .i64] xa,AV.sl [.int .i64] xb,AV.sl [.int .i64,.int .i64] xc],AV.sl [.int .i64,.int .i64] a1]=(bif q105 a1 then (bif q106 (v105_0 a1) then (bif q71 xa xb xc (v106_0 (v105_0 a1)) then some (AV.tup [AV.agg [AV.fl [.int .i64] (v71_0 xa xb xc (v106_0 (v105_0 a1))),AV.fl [.int .i64] (v71_1 xa xb xc (v106_0 (v105_0 a1))),AV.fl [.int .i64,.int .i64] (v71_2 xa xb xc (v106_0 (v105_0 a1)))],AV.bool (v71_3 xa xb xc (v106_0 (v105_0 a1)))])
 else none)
 else none)
 else none):=by kernel_rfl
def m80:TModel
 | [.agg [.sl g0 xa,.sl g1 xb,.sl g2 xc],.sl g3 a1]=>bif ctsEq g0 ([.int .i64]) && ctsEq g1 ([.int .i64]) && ctsEq g2 ([.int .i64,.int .i64]) && ctsEq g3 ([.int .i64,.int .i64]) then some (q80 xa xb xc a1,AV.tup [AV.agg [AV.fl [.int .i64] (v80_0 xa xb xc a1),AV.fl [.int .i64] (v80_1 xa xb xc a1),AV.fl [.int .i64,.int .i64] (v80_2 xa xb xc a1)],AV.bool (v80_3 xa xb xc a1)]) else none
 | _=>none
theorem k80:Known Try.prog 80:=⟨Try.f80,Try.func80,by kernel_rfl,by kernel_rfl⟩
theorem meets80:Meets Try.prog 80 m80:=by
 refine meet (f:=Try.f80) (l:=[]) (hs:=[(80,999,[4,5])]) (ts:=[(71,m71),(105,m105)]) (ws:=[(106,.w m106)]) (is:=[]) (ls:=[]) (lvl:=0) mixed k80 Try.func80 (by kernel_rfl) noLoop (allT_cons meets71 (allT_cons meets105 allT_nil)) (allM_cons meets106 allM_nil) noI fun w xs us r hl hv h=>?_
 unfold m80 at h
 split at h
 ·rename_i g0 xa g1 xb g2 xc g3 a1
  obtain ⟨hg,h⟩:=bif_pair h
  simp only [Bool.and_eq_true] at hg
  obtain ⟨⟨⟨q0,q1⟩,q2⟩,q3⟩:=hg
  obtain rfl:=ctsEq_eq _ _ q0
  obtain rfl:=ctsEq_eq _ _ q1
  obtain rfl:=ctsEq_eq _ _ q2
  obtain rfl:=ctsEq_eq _ _ q3
  obtain ⟨h1,rfl⟩:=pair_inj h
  exact (e80 xa xb xc a1).trans ((brL (brL (brL1 (fun _=>rfl)))) h1)
 ·cases h
end
end Go.Proofs.Ytkdnhnkhcldonaa
