import Derived.Test.YtcondihilccdpaaDoorVEzc
import Derived.Test.YtcondihilccdpaaDoorLAY9a
import Derived.Test.YtcondihilccdpaaDoorLIB9
import Derived.Test.YtcondihilccdpaaDoorGL9
import Derived.Test.YtcondihilccdpaaDoorProg
import Derived.KernelRfl
namespace Go.Proofs.YtcondihilccdpaaDoor
open Go Go.Proofs.VE
set_option linter.unusedVariables false
set_option linter.unusedSimpArgs false
set_option maxRecDepth 100000
set_option maxHeartbeats 4000000
theorem mixed:Tryd.prog.follows .mixedOrders=true:=by kernel_rfl
def F13_0 (t0:ByteArray) (t1:Int) (t6:ByteArray) (t7:Int) (h0:List AV):Out ((ByteArray × Int × (List AV))) ((ByteArray × (List AV))):=(bif decide (t7<(t0.size:Int)) then (bif (decide (0≤t7) && decide (t7<(t0.size:Int))) then (bif decide (strAt t0 t7.toNat=t1) then (bif (decide ((h0.length+([AV.str t6]).length)*16≤140737488355328) && decide ((h0.length+([AV.str t6]).length)≤140737488355328)) then .next (ByteArray.empty,IntKind.i64.wrap (t7+1),h0++([AV.str t6]))
 else .fail)
 else (bif (decide (0≤t7) && decide (t7≤IntKind.i64.wrap (t7+1)) && decide (IntKind.i64.wrap (t7+1)≤(t0.size:Int))) then (bif decide (t6.size+(t0.extract (Int.toNat t7) (Int.toNat (IntKind.i64.wrap (t7+1)))).size≤4611686018427387904) then .next (t6++(t0.extract (Int.toNat t7) (Int.toNat (IntKind.i64.wrap (t7+1)))),IntKind.i64.wrap (t7+1),h0)
 else .fail)
 else .fail))
 else .fail)
 else .stop (t6,h0))
def R13_0 (t0:ByteArray) (t1:Int):((ByteArray × Int × (List AV)))→Out ((ByteArray × Int × (List AV))) ((ByteArray × (List AV))):=fun s:ByteArray × Int × (List AV)=>F13_0 t0 t1 s.1 s.2.1 s.2.2
def E13_0 (t0:ByteArray) (t1:Int):((ByteArray × Int × (List AV)))→St:=fun s:ByteArray × Int × (List AV)=>⟨[(0,AV.str t0),(1,AV.int .u8 t1),(5,AV.own [0,5]),(6,AV.str s.1),(7,Ai s.2.1)],[([0,5],⟨false,[.str],s.2.2⟩)]⟩
def K13_0 (k:Kont):((ByteArray × (List AV)))→Option AV:=fun p:ByteArray × (List AV)=>k (.exit 0) ⟨[(5,AV.own [0,5]),(6,AV.str p.1)],[([0,5],⟨false,[.str],p.2⟩)]⟩
def l13_0:LModel:=fun _ _ st k=>match st with
 | ⟨[(0,.str t0),(1,.int .u8 t1),(5,.own g0),(6,.str t6),(7,.int .i64 t7)],[(g1,⟨false,g2,h0⟩)]⟩=>bif nmEq g0 ([0,5]) && nmEq g1 ([0,5]) && ctsEq g2 ([.str]) then ro (runW (R13_0 t0 t1) (((t0.size:Int) - t7:Int).toNat+1) (t6,t7,h0)) none (K13_0 k) else none
 | _=>none
noncomputable def c13:Cfg:=cfg Tryd.prog [(13,0,[0,1,5,6,7]),(13,999,[4]),(13,1000,[5,6]),(13,1001,[0,1,5,6,7])] [] [] [] [(13,0,l13_0)]
theorem s13_0 (ce:CallE) (t0:ByteArray) (t1:Int) (t6:ByteArray) (t7:Int) (h0:List AV) (next:St→Option AV) (k:Kont):stepA (codeA c13 ce [] 13 0 (sub [1,1,1,0,1,0,0] (body Tryd.f13))) (normA [] [0,1,5,6,7]) next ⟨[(0,AV.str t0),(1,AV.int .u8 t1),(5,AV.own [0,5]),(6,AV.str t6),(7,Ai t7)],[([0,5],⟨false,[.str],h0⟩)]⟩ k=(bif decide (t7<(t0.size:Int)) then (bif (decide (0≤t7) && decide (t7<(t0.size:Int))) then (bif decide (strAt t0 t7.toNat=t1) then (bif (decide ((h0.length+([AV.str t6]).length)*16≤140737488355328) && decide ((h0.length+([AV.str t6]).length)≤140737488355328)) then next ⟨[(0,AV.str t0),(1,AV.int .u8 t1),(5,AV.own [0,5]),(6,AV.str ByteArray.empty),(7,Ai (IntKind.i64.wrap (t7+1)))],[([0,5],⟨false,[.str],h0++([AV.str t6])⟩)]⟩
 else none)
 else (bif (decide (0≤t7) && decide (t7≤IntKind.i64.wrap (t7+1)) && decide (IntKind.i64.wrap (t7+1)≤(t0.size:Int))) then (bif decide (t6.size+(t0.extract (Int.toNat t7) (Int.toNat (IntKind.i64.wrap (t7+1)))).size≤4611686018427387904) then next ⟨[(0,AV.str t0),(1,AV.int .u8 t1),(5,AV.own [0,5]),(6,AV.str (t6++(t0.extract (Int.toNat t7) (Int.toNat (IntKind.i64.wrap (t7+1)))))),(7,Ai (IntKind.i64.wrap (t7+1)))],[([0,5],⟨false,[.str],h0⟩)]⟩
 else none)
 else none))
 else none)
 else k (.exit 0) ⟨[(5,AV.own [0,5]),(6,AV.str t6)],[([0,5],⟨false,[.str],h0⟩)]⟩):=by kernel_rfl
theorem st13_0 (t0:ByteArray) (t1:Int) (ce:CallE) (k:Kont) (s:(ByteArray × Int × (List AV))) (next:St→Option AV):stepA (codeA c13 ce [] 13 0 (sub [1,1,1,0,1,0,0] (body Tryd.f13))) (normA [] [0,1,5,6,7]) next ((E13_0 t0 t1) s) k=(R13_0 t0 t1 s).el none (fun s=>next ((E13_0 t0 t1) s)) (K13_0 k):=(s13_0 ce t0 t1 s.1 s.2.1 s.2.2 next k).trans (by unfold R13_0;unfold F13_0;simp only [el_cond,el_ro,el_sum,el_fail,el_next,el_stop] <;> rfl)
theorem ok13_0 {ce:CallE}:LoopOK c13 ce [] 13 0 (sub [1,1,1,0,1,0,0] (body Tryd.f13)):=by
 intro m hm st k r h
 obtain rfl:l13_0=m:=Option.some.inj hm
 unfold l13_0 at h
 split at h
 ·rename_i t0 t1 g0 t6 t7 g1 g2 h0
  obtain ⟨hg,h⟩:=bif_some h
  simp only [Bool.and_eq_true] at hg
  obtain ⟨⟨q0,q1⟩,q2⟩:=hg
  obtain rfl:=(nmEq_iff _ _).1 q0
  obtain rfl:=(nmEq_iff _ _).1 q1
  obtain rfl:=ctsEq_eq _ _ q2
  refine ⟨(((t0.size:Int) - t7:Int).toNat+1),?_⟩
  rw [← h]
  exact loop_run (E13_0 t0 t1) (K13_0 k) (st13_0 t0 t1 ce k) _ (t6,t7,h0)
 ·cases h
def q13 (a0:ByteArray) (a1:Int):Bool:=(ro (runW (R13_0 a0 a1) (((a0.size:Int) - 0:Int).toNat+1) (ByteArray.empty,0,([]:List AV))) false (fun p1=>(decide ((p1.2.length+([AV.str p1.1]).length)*16≤140737488355328) && decide ((p1.2.length+([AV.str p1.1]).length)≤140737488355328))))
def v13_0 (a0:ByteArray) (a1:Int):List AV:=(ro (runW (R13_0 a0 a1) (((a0.size:Int) - 0:Int).toNat+1) (ByteArray.empty,0,([]:List AV))) [] (fun p1=>p1.2++([AV.str p1.1])))
theorem e13 (a0:ByteArray) (a1:Int):funA c13 0 13 [AV.str a0,AV.int .u8 a1]=(ro (runW (R13_0 a0 a1) (((a0.size:Int) - 0:Int).toNat+1) (ByteArray.empty,0,([]:List AV))) none (fun p1=>(bif (decide ((p1.2.length+([AV.str p1.1]).length)*16≤140737488355328) && decide ((p1.2.length+([AV.str p1.1]).length)≤140737488355328)) then some (AV.fl [.str] (p1.2++([AV.str p1.1])))
 else none))):=by kernel_rfl
def m13:TModel
 | [.str a0,.int .u8 a1]=>some (q13 a0 a1,AV.fl [.str] (v13_0 a0 a1))
 | _=>none
theorem k13:Known Tryd.prog 13:=⟨Tryd.f13,Tryd.func13,by kernel_rfl,by kernel_rfl⟩
theorem meets13:Meets Tryd.prog 13 m13:=by
 refine meet (f:=Tryd.f13) (l:=[(0,sub [1,1,1,0,1,0,0] (body Tryd.f13))]) (hs:=[(13,0,[0,1,5,6,7]),(13,999,[4]),(13,1000,[5,6]),(13,1001,[0,1,5,6,7])]) (ts:=[]) (ws:=[]) (is:=[]) (ls:=[(13,0,l13_0)]) (lvl:=0) mixed k13 Tryd.func13 (by kernel_rfl) (loops_cons ok13_0 noLoop) allT_nil allM_nil noI fun w xs us r hl hv h=>?_
 unfold m13 at h
 split at h
 ·rename_i a0 a1
  obtain ⟨h1,rfl⟩:=pair_inj h
  exact (e13 a0 a1).trans ((brO (fun o:Option ((ByteArray × (List AV)))=>some (AV.fl [.str] (ro o [] (fun p1=>p1.2++([AV.str p1.1]))))) (fun p1=>(brL1 (fun _=>rfl)))) h1)
 ·cases h
def F26_0 (t4:Bool) (t0:Int) (t3:ByteArray):Out ((Int × ByteArray)) (ByteArray):=(bif !decide (t0=0) then (bif !decide (10=0) then (bif decide (Int.tmod t0 10<0) then (bif decide ((bytesA ([AV.int .u8 (IntKind.u8.wrap (IntKind.i64.wrap (48+IntKind.i64.wrap (0 - (Int.tmod t0 10)))))])).size+t3.size≤4611686018427387904) then (bif !decide (10=0) then .next (IntKind.i64.wrap (Int.tdiv t0 10),(bytesA ([AV.int .u8 (IntKind.u8.wrap (IntKind.i64.wrap (48+IntKind.i64.wrap (0 - (Int.tmod t0 10)))))]))++t3)
 else .fail)
 else .fail)
 else (bif decide ((bytesA ([AV.int .u8 (IntKind.u8.wrap (IntKind.i64.wrap (48+Int.tmod t0 10)))])).size+t3.size≤4611686018427387904) then (bif !decide (10=0) then .next (IntKind.i64.wrap (Int.tdiv t0 10),(bytesA ([AV.int .u8 (IntKind.u8.wrap (IntKind.i64.wrap (48+Int.tmod t0 10)))]))++t3)
 else .fail)
 else .fail))
 else .fail)
 else .stop t3)
def R26_0 (t4:Bool):((Int × ByteArray))→Out ((Int × ByteArray)) (ByteArray):=fun s:Int × ByteArray=>F26_0 t4 s.1 s.2
def E26_0 (t4:Bool):((Int × ByteArray))→St:=fun s:Int × ByteArray=>⟨[(0,Ai s.1),(3,AV.str s.2),(4,AV.bool t4)],[]⟩
def K26_0 (t4:Bool) (k:Kont):(ByteArray)→Option AV:=fun p:ByteArray=>k (.exit 0) ⟨[(3,AV.str p),(4,AV.bool t4)],[]⟩
def l26_0:LModel:=fun _ _ st k=>match st with
 | ⟨[(0,.int .i64 t0),(3,.str t3),(4,.bool t4)],[]⟩=>ro (runW (R26_0 t4) (t0.natAbs+1) (t0,t3)) none (K26_0 t4 k)
 | _=>none
noncomputable def c26:Cfg:=cfg Tryd.prog [(26,0,[0,3,4]),(26,999,[2]),(26,1000,[3,4]),(26,1001,[0,3,4])] [] [] [] [(26,0,l26_0)]
theorem s26_0 (ce:CallE) (t0:Int) (t3:ByteArray) (t4:Bool) (next:St→Option AV) (k:Kont):stepA (codeA c26 ce [] 26 0 (sub [1,1,1,1,0,0,0] (body Tryd.f26))) (normA [] [0,3,4]) next ⟨[(0,Ai t0),(3,AV.str t3),(4,AV.bool t4)],[]⟩ k=(bif !decide (t0=0) then (bif !decide (10=0) then (bif decide (Int.tmod t0 10<0) then (bif decide ((bytesA ([AV.int .u8 (IntKind.u8.wrap (IntKind.i64.wrap (48+IntKind.i64.wrap (0 - (Int.tmod t0 10)))))])).size+t3.size≤4611686018427387904) then (bif !decide (10=0) then next ⟨[(0,Ai (IntKind.i64.wrap (Int.tdiv t0 10))),(3,AV.str ((bytesA ([AV.int .u8 (IntKind.u8.wrap (IntKind.i64.wrap (48+IntKind.i64.wrap (0 - (Int.tmod t0 10)))))]))++t3)),(4,AV.bool t4)],[]⟩
 else none)
 else none)
 else (bif decide ((bytesA ([AV.int .u8 (IntKind.u8.wrap (IntKind.i64.wrap (48+Int.tmod t0 10)))])).size+t3.size≤4611686018427387904) then (bif !decide (10=0) then next ⟨[(0,Ai (IntKind.i64.wrap (Int.tdiv t0 10))),(3,AV.str ((bytesA ([AV.int .u8 (IntKind.u8.wrap (IntKind.i64.wrap (48+Int.tmod t0 10)))]))++t3)),(4,AV.bool t4)],[]⟩
 else none)
 else none))
 else none)
 else k (.exit 0) ⟨[(3,AV.str t3),(4,AV.bool t4)],[]⟩):=by kernel_rfl
theorem st26_0 (t4:Bool) (ce:CallE) (k:Kont) (s:(Int × ByteArray)) (next:St→Option AV):stepA (codeA c26 ce [] 26 0 (sub [1,1,1,1,0,0,0] (body Tryd.f26))) (normA [] [0,3,4]) next ((E26_0 t4) s) k=(R26_0 t4 s).el none (fun s=>next ((E26_0 t4) s)) (K26_0 t4 k):=(s26_0 ce s.1 s.2 t4 next k).trans (by unfold R26_0;unfold F26_0;simp only [el_cond,el_ro,el_sum,el_fail,el_next,el_stop] <;> rfl)
theorem ok26_0 {ce:CallE}:LoopOK c26 ce [] 26 0 (sub [1,1,1,1,0,0,0] (body Tryd.f26)):=by
 intro m hm st k r h
 obtain rfl:l26_0=m:=Option.some.inj hm
 unfold l26_0 at h
 split at h
 ·rename_i t0 t3 t4
  refine ⟨(t0.natAbs+1),?_⟩
  rw [← h]
  exact loop_run (E26_0 t4) (K26_0 t4 k) (st26_0 t4 ce k) _ (t0,t3)
 ·cases h
def q26 (a0:Int):Bool:=(bif decide (a0=0) then true else (ro (runW (R26_0 (decide (a0<0))) (a0.natAbs+1) (a0,ByteArray.empty)) false (fun p3=>(bif decide (a0<0) then decide ((ByteArray.mk #[45]).size+p3.size≤4611686018427387904) else true))))
def v26_0 (a0:Int):ByteArray:=(bif decide (a0=0) then (ByteArray.mk #[48]) else (ro (runW (R26_0 (decide (a0<0))) (a0.natAbs+1) (a0,ByteArray.empty)) ByteArray.empty (fun p3=>(bif decide (a0<0) then (ByteArray.mk #[45])++p3 else p3))))
theorem e26 (a0:Int):funA c26 0 26 [Ai a0]=(bif decide (a0=0) then some (AV.str (ByteArray.mk #[48]))
 else (ro (runW (R26_0 (decide (a0<0))) (a0.natAbs+1) (a0,ByteArray.empty)) none (fun p3=>(bif decide (a0<0) then (bif decide ((ByteArray.mk #[45]).size+p3.size≤4611686018427387904) then some (AV.str ((ByteArray.mk #[45])++p3))
 else none)
 else some (AV.str p3))))):=by kernel_rfl
def m26:TModel
 | [.int .i64 a0]=>some (q26 a0,AV.str (v26_0 a0))
 | _=>none
theorem k26:Known Tryd.prog 26:=⟨Tryd.f26,Tryd.func26,by kernel_rfl,by kernel_rfl⟩
theorem meets26:Meets Tryd.prog 26 m26:=by
 refine meet (f:=Tryd.f26) (l:=[(0,sub [1,1,1,1,0,0,0] (body Tryd.f26))]) (hs:=[(26,0,[0,3,4]),(26,999,[2]),(26,1000,[3,4]),(26,1001,[0,3,4])]) (ts:=[]) (ws:=[]) (is:=[]) (ls:=[(26,0,l26_0)]) (lvl:=0) mixed k26 Tryd.func26 (by kernel_rfl) (loops_cons ok26_0 noLoop) allT_nil allM_nil noI fun w xs us r hl hv h=>?_
 unfold m26 at h
 split at h
 ·rename_i a0
  obtain ⟨h1,rfl⟩:=pair_inj h
  exact (e26 a0).trans ((br (fun b=>some (AV.str (bif b then (ByteArray.mk #[48]) else (ro (runW (R26_0 (decide (a0<0))) (a0.natAbs+1) (a0,ByteArray.empty)) ByteArray.empty (fun p3=>(bif decide (a0<0) then (ByteArray.mk #[45])++p3 else p3)))))) (fun _=>rfl) (brO (fun o:Option (ByteArray)=>some (AV.str (ro o ByteArray.empty (fun p3=>(bif decide (a0<0) then (ByteArray.mk #[45])++p3 else p3))))) (fun p3=>(br (fun b=>some (AV.str (bif b then (ByteArray.mk #[45])++p3 else p3))) (brL1 (fun _=>rfl)) (fun _=>rfl))))) h1)
 ·cases h
def F24_0 (t0:ByteArray) (t4 t5 t6:Int):Out ((Int × Int × Int)) ((Int × Int)):=(bif decide (t6<(t0.size:Int)) then (bif decide (t6<11) then (bif (decide (0≤t6) && decide (t6<(t0.size:Int))) then (bif decide (strAt t0 t6.toNat ≥ 48) then (bif (decide (0≤t6) && decide (t6<(t0.size:Int))) then (bif decide (strAt t0 t6.toNat≤57) then (bif (decide (0≤t6) && decide (t6<(t0.size:Int))) then .next (IntKind.i64.wrap (IntKind.i64.wrap (t4*10)+IntKind.i64.wrap (IntKind.u8.wrap (strAt t0 t6.toNat - 48))),IntKind.i64.wrap (t5+1),IntKind.i64.wrap (t6+1))
 else .fail)
 else .next (t4,t5,IntKind.i64.wrap (t6+1)))
 else .fail)
 else .next (t4,t5,IntKind.i64.wrap (t6+1)))
 else .fail)
 else .stop (t4,t5))
 else .stop (t4,t5))
def R24_0 (t0:ByteArray):((Int × Int × Int))→Out ((Int × Int × Int)) ((Int × Int)):=fun s:Int × Int × Int=>F24_0 t0 s.1 s.2.1 s.2.2
def E24_0 (t0:ByteArray):((Int × Int × Int))→St:=fun s:Int × Int × Int=>⟨[(0,AV.str t0),(4,Ai s.1),(5,Ai s.2.1),(6,Ai s.2.2)],[]⟩
def K24_0 (t0:ByteArray) (k:Kont):((Int × Int))→Option AV:=fun p:Int × Int=>k (.exit 0) ⟨[(0,AV.str t0),(4,Ai p.1),(5,Ai p.2)],[]⟩
def l24_0:LModel:=fun _ _ st k=>match st with
 | ⟨[(0,.str t0),(4,.int .i64 t4),(5,.int .i64 t5),(6,.int .i64 t6)],[]⟩=>ro (runW (R24_0 t0) (((t0.size:Int) - t6:Int).toNat+1) (t4,t5,t6)) none (K24_0 t0 k)
 | _=>none
noncomputable def c24:Cfg:=cfg Tryd.prog [(24,0,[0,4,5,6]),(24,999,[2,3]),(24,1000,[0,4,5]),(24,1001,[0,4,5,6])] [(26,m26)] [] [] [(24,0,l24_0)]
theorem s24_0 (ce:CallE) (t0:ByteArray) (t4 t5 t6:Int) (next:St→Option AV) (k:Kont):stepA (codeA c24 ce [] 24 0 (sub [1,1,1,0,1,0,0] (body Tryd.f24))) (normA [] [0,4,5,6]) next ⟨[(0,AV.str t0),(4,Ai t4),(5,Ai t5),(6,Ai t6)],[]⟩ k=(bif decide (t6<(t0.size:Int)) then (bif decide (t6<11) then (bif (decide (0≤t6) && decide (t6<(t0.size:Int))) then (bif decide (strAt t0 t6.toNat ≥ 48) then (bif (decide (0≤t6) && decide (t6<(t0.size:Int))) then (bif decide (strAt t0 t6.toNat≤57) then (bif (decide (0≤t6) && decide (t6<(t0.size:Int))) then next ⟨[(0,AV.str t0),(4,Ai (IntKind.i64.wrap (IntKind.i64.wrap (t4*10)+IntKind.i64.wrap (IntKind.u8.wrap (strAt t0 t6.toNat - 48))))),(5,Ai (IntKind.i64.wrap (t5+1))),(6,Ai (IntKind.i64.wrap (t6+1)))],[]⟩
 else none)
 else next ⟨[(0,AV.str t0),(4,Ai t4),(5,Ai t5),(6,Ai (IntKind.i64.wrap (t6+1)))],[]⟩)
 else none)
 else next ⟨[(0,AV.str t0),(4,Ai t4),(5,Ai t5),(6,Ai (IntKind.i64.wrap (t6+1)))],[]⟩)
 else none)
 else k (.exit 0) ⟨[(0,AV.str t0),(4,Ai t4),(5,Ai t5)],[]⟩)
 else k (.exit 0) ⟨[(0,AV.str t0),(4,Ai t4),(5,Ai t5)],[]⟩):=by kernel_rfl
theorem st24_0 (t0:ByteArray) (ce:CallE) (k:Kont) (s:(Int × Int × Int)) (next:St→Option AV):stepA (codeA c24 ce [] 24 0 (sub [1,1,1,0,1,0,0] (body Tryd.f24))) (normA [] [0,4,5,6]) next ((E24_0 t0) s) k=(R24_0 t0 s).el none (fun s=>next ((E24_0 t0) s)) (K24_0 t0 k):=(s24_0 ce t0 s.1 s.2.1 s.2.2 next k).trans (by unfold R24_0;unfold F24_0;simp only [el_cond,el_ro,el_sum,el_fail,el_next,el_stop] <;> rfl)
theorem ok24_0 {ce:CallE}:LoopOK c24 ce [] 24 0 (sub [1,1,1,0,1,0,0] (body Tryd.f24)):=by
 intro m hm st k r h
 obtain rfl:l24_0=m:=Option.some.inj hm
 unfold l24_0 at h
 split at h
 ·rename_i t0 t4 t5 t6
  refine ⟨(((t0.size:Int) - t6:Int).toNat+1),?_⟩
  rw [← h]
  exact loop_run (E24_0 t0) (K24_0 t0 k) (st24_0 t0 ce k) _ (t4,t5,t6)
 ·cases h
def q24 (a0:ByteArray):Bool:=(ro (runW (R24_0 a0) (((a0.size:Int) - 0:Int).toNat+1) (0,0,0)) false (fun p2=>(bif decide ((a0.size:Int) > 0) then ((decide (0≤0) && decide (0<(a0.size:Int))) && (bif decide (strAt a0 (0:Int).toNat=45) then (bif decide (p2.2 > 9) then true else (bif decide ((a0.size:Int) > 10) then true else q26 (IntKind.i64.wrap (0 - p2.1)))) else (bif decide (p2.2 > 9) then true else (bif decide ((a0.size:Int) > 10) then true else q26 p2.1)))) else (bif decide (p2.2 > 9) then true else (bif decide ((a0.size:Int) > 10) then true else q26 p2.1)))))
def v24_0 (a0:ByteArray):Int:=(ro (runW (R24_0 a0) (((a0.size:Int) - 0:Int).toNat+1) (0,0,0)) 0 (fun p2=>(bif decide ((a0.size:Int) > 0) then (bif decide (strAt a0 (0:Int).toNat=45) then (bif decide (p2.2 > 9) then 0 else (bif decide ((a0.size:Int) > 10) then 0 else (bif !((v26_0 (IntKind.i64.wrap (0 - p2.1))).toList == a0.toList) then 0 else IntKind.i64.wrap (0 - p2.1)))) else (bif decide (p2.2 > 9) then 0 else (bif decide ((a0.size:Int) > 10) then 0 else (bif !((v26_0 p2.1).toList == a0.toList) then 0 else p2.1)))) else (bif decide (p2.2 > 9) then 0 else (bif decide ((a0.size:Int) > 10) then 0 else (bif !((v26_0 p2.1).toList == a0.toList) then 0 else p2.1))))))
def v24_1 (a0:ByteArray):Bool:=(ro (runW (R24_0 a0) (((a0.size:Int) - 0:Int).toNat+1) (0,0,0)) false (fun p2=>(bif decide ((a0.size:Int) > 0) then (bif decide (strAt a0 (0:Int).toNat=45) then (bif decide (p2.2 > 9) then false else (bif decide ((a0.size:Int) > 10) then false else (bif !((v26_0 (IntKind.i64.wrap (0 - p2.1))).toList == a0.toList) then false else true))) else (bif decide (p2.2 > 9) then false else (bif decide ((a0.size:Int) > 10) then false else (bif !((v26_0 p2.1).toList == a0.toList) then false else true)))) else (bif decide (p2.2 > 9) then false else (bif decide ((a0.size:Int) > 10) then false else (bif !((v26_0 p2.1).toList == a0.toList) then false else true))))))
theorem e24 (a0:ByteArray):funA c24 0 24 [AV.str a0]=(ro (runW (R24_0 a0) (((a0.size:Int) - 0:Int).toNat+1) (0,0,0)) none (fun p2=>(bif decide ((a0.size:Int) > 0) then (bif (decide (0≤0) && decide (0<(a0.size:Int))) then (bif decide (strAt a0 (0:Int).toNat=45) then (bif decide (p2.2 > 9) then some (AV.tup [Ai 0,AV.bool false])
 else (bif decide ((a0.size:Int) > 10) then some (AV.tup [Ai 0,AV.bool false])
 else (bif q26 (IntKind.i64.wrap (0 - p2.1)) then (bif !((v26_0 (IntKind.i64.wrap (0 - p2.1))).toList == a0.toList) then some (AV.tup [Ai 0,AV.bool false])
 else some (AV.tup [Ai (IntKind.i64.wrap (0 - p2.1)),AV.bool true]))
 else none)))
 else (bif decide (p2.2 > 9) then some (AV.tup [Ai 0,AV.bool false])
 else (bif decide ((a0.size:Int) > 10) then some (AV.tup [Ai 0,AV.bool false])
 else (bif q26 p2.1 then (bif !((v26_0 p2.1).toList == a0.toList) then some (AV.tup [Ai 0,AV.bool false])
 else some (AV.tup [Ai p2.1,AV.bool true]))
 else none))))
 else none)
 else (bif decide (p2.2 > 9) then some (AV.tup [Ai 0,AV.bool false])
 else (bif decide ((a0.size:Int) > 10) then some (AV.tup [Ai 0,AV.bool false])
 else (bif q26 p2.1 then (bif !((v26_0 p2.1).toList == a0.toList) then some (AV.tup [Ai 0,AV.bool false])
 else some (AV.tup [Ai p2.1,AV.bool true]))
 else none)))))):=by kernel_rfl
def m24:TModel
 | [.str a0]=>some (q24 a0,AV.tup [AV.int .i64 (v24_0 a0),AV.bool (v24_1 a0)])
 | _=>none
theorem k24:Known Tryd.prog 24:=⟨Tryd.f24,Tryd.func24,by kernel_rfl,by kernel_rfl⟩
theorem meets24:Meets Tryd.prog 24 m24:=by
 refine meet (f:=Tryd.f24) (l:=[(0,sub [1,1,1,0,1,0,0] (body Tryd.f24))]) (hs:=[(24,0,[0,4,5,6]),(24,999,[2,3]),(24,1000,[0,4,5]),(24,1001,[0,4,5,6])]) (ts:=[(26,m26)]) (ws:=[]) (is:=[]) (ls:=[(24,0,l24_0)]) (lvl:=0) mixed k24 Tryd.func24 (by kernel_rfl) (loops_cons ok24_0 noLoop) (allT_cons meets26 allT_nil) allM_nil noI fun w xs us r hl hv h=>?_
 unfold m24 at h
 split at h
 ·rename_i a0
  obtain ⟨h1,rfl⟩:=pair_inj h
  exact (e24 a0).trans ((brO (fun o:Option ((Int × Int))=>some (AV.tup [Ai (ro o 0 (fun p2=>(bif decide ((a0.size:Int) > 0) then (bif decide (strAt a0 (0:Int).toNat=45) then (bif decide (p2.2 > 9) then 0 else (bif decide ((a0.size:Int) > 10) then 0 else (bif !((v26_0 (IntKind.i64.wrap (0 - p2.1))).toList == a0.toList) then 0 else IntKind.i64.wrap (0 - p2.1)))) else (bif decide (p2.2 > 9) then 0 else (bif decide ((a0.size:Int) > 10) then 0 else (bif !((v26_0 p2.1).toList == a0.toList) then 0 else p2.1)))) else (bif decide (p2.2 > 9) then 0 else (bif decide ((a0.size:Int) > 10) then 0 else (bif !((v26_0 p2.1).toList == a0.toList) then 0 else p2.1)))))),AV.bool (ro o false (fun p2=>(bif decide ((a0.size:Int) > 0) then (bif decide (strAt a0 (0:Int).toNat=45) then (bif decide (p2.2 > 9) then false else (bif decide ((a0.size:Int) > 10) then false else (bif !((v26_0 (IntKind.i64.wrap (0 - p2.1))).toList == a0.toList) then false else true))) else (bif decide (p2.2 > 9) then false else (bif decide ((a0.size:Int) > 10) then false else (bif !((v26_0 p2.1).toList == a0.toList) then false else true)))) else (bif decide (p2.2 > 9) then false else (bif decide ((a0.size:Int) > 10) then false else (bif !((v26_0 p2.1).toList == a0.toList) then false else true))))))])) (fun p2=>(br (fun b=>some (AV.tup [Ai (bif b then (bif decide (strAt a0 (0:Int).toNat=45) then (bif decide (p2.2 > 9) then 0 else (bif decide ((a0.size:Int) > 10) then 0 else (bif !((v26_0 (IntKind.i64.wrap (0 - p2.1))).toList == a0.toList) then 0 else IntKind.i64.wrap (0 - p2.1)))) else (bif decide (p2.2 > 9) then 0 else (bif decide ((a0.size:Int) > 10) then 0 else (bif !((v26_0 p2.1).toList == a0.toList) then 0 else p2.1)))) else (bif decide (p2.2 > 9) then 0 else (bif decide ((a0.size:Int) > 10) then 0 else (bif !((v26_0 p2.1).toList == a0.toList) then 0 else p2.1)))),AV.bool (bif b then (bif decide (strAt a0 (0:Int).toNat=45) then (bif decide (p2.2 > 9) then false else (bif decide ((a0.size:Int) > 10) then false else (bif !((v26_0 (IntKind.i64.wrap (0 - p2.1))).toList == a0.toList) then false else true))) else (bif decide (p2.2 > 9) then false else (bif decide ((a0.size:Int) > 10) then false else (bif !((v26_0 p2.1).toList == a0.toList) then false else true)))) else (bif decide (p2.2 > 9) then false else (bif decide ((a0.size:Int) > 10) then false else (bif !((v26_0 p2.1).toList == a0.toList) then false else true))))])) (brL (br (fun b=>some (AV.tup [Ai (bif b then (bif decide (p2.2 > 9) then 0 else (bif decide ((a0.size:Int) > 10) then 0 else (bif !((v26_0 (IntKind.i64.wrap (0 - p2.1))).toList == a0.toList) then 0 else IntKind.i64.wrap (0 - p2.1)))) else (bif decide (p2.2 > 9) then 0 else (bif decide ((a0.size:Int) > 10) then 0 else (bif !((v26_0 p2.1).toList == a0.toList) then 0 else p2.1)))),AV.bool (bif b then (bif decide (p2.2 > 9) then false else (bif decide ((a0.size:Int) > 10) then false else (bif !((v26_0 (IntKind.i64.wrap (0 - p2.1))).toList == a0.toList) then false else true))) else (bif decide (p2.2 > 9) then false else (bif decide ((a0.size:Int) > 10) then false else (bif !((v26_0 p2.1).toList == a0.toList) then false else true))))])) (br (fun b=>some (AV.tup [Ai (bif b then 0 else (bif decide ((a0.size:Int) > 10) then 0 else (bif !((v26_0 (IntKind.i64.wrap (0 - p2.1))).toList == a0.toList) then 0 else IntKind.i64.wrap (0 - p2.1)))),AV.bool (bif b then false else (bif decide ((a0.size:Int) > 10) then false else (bif !((v26_0 (IntKind.i64.wrap (0 - p2.1))).toList == a0.toList) then false else true)))])) (fun _=>rfl) (br (fun b=>some (AV.tup [Ai (bif b then 0 else (bif !((v26_0 (IntKind.i64.wrap (0 - p2.1))).toList == a0.toList) then 0 else IntKind.i64.wrap (0 - p2.1))),AV.bool (bif b then false else (bif !((v26_0 (IntKind.i64.wrap (0 - p2.1))).toList == a0.toList) then false else true))])) (fun _=>rfl) (brL1 (brT (fun b=>some (AV.tup [Ai (bif b then 0 else IntKind.i64.wrap (0 - p2.1)),AV.bool (bif b then false else true)])) (fun _=>rfl) (fun _=>rfl))))) (br (fun b=>some (AV.tup [Ai (bif b then 0 else (bif decide ((a0.size:Int) > 10) then 0 else (bif !((v26_0 p2.1).toList == a0.toList) then 0 else p2.1))),AV.bool (bif b then false else (bif decide ((a0.size:Int) > 10) then false else (bif !((v26_0 p2.1).toList == a0.toList) then false else true)))])) (fun _=>rfl) (br (fun b=>some (AV.tup [Ai (bif b then 0 else (bif !((v26_0 p2.1).toList == a0.toList) then 0 else p2.1)),AV.bool (bif b then false else (bif !((v26_0 p2.1).toList == a0.toList) then false else true))])) (fun _=>rfl) (brL1 (brT (fun b=>some (AV.tup [Ai (bif b then 0 else p2.1),AV.bool (bif b then false else true)])) (fun _=>rfl) (fun _=>rfl))))))) (br (fun b=>some (AV.tup [Ai (bif b then 0 else (bif decide ((a0.size:Int) > 10) then 0 else (bif !((v26_0 p2.1).toList == a0.toList) then 0 else p2.1))),AV.bool (bif b then false else (bif decide ((a0.size:Int) > 10) then false else (bif !((v26_0 p2.1).toList == a0.toList) then false else true)))])) (fun _=>rfl) (br (fun b=>some (AV.tup [Ai (bif b then 0 else (bif !((v26_0 p2.1).toList == a0.toList) then 0 else p2.1)),AV.bool (bif b then false else (bif !((v26_0 p2.1).toList == a0.toList) then false else true))])) (fun _=>rfl) (brL1 (brT (fun b=>some (AV.tup [Ai (bif b then 0 else p2.1),AV.bool (bif b then false else true)])) (fun _=>rfl) (fun _=>rfl)))))))) h1)
 ·cases h
noncomputable def c15:Cfg:=cfg Tryd.prog [(15,999,[2])] [(24,m24)] [] [] []
def q15 (a0:ByteArray):Bool:=q24 a0
def v15_0 (a0:ByteArray):Int:=(bif !(v24_1 a0) then (-100000) else (v24_0 a0))
theorem e15 (a0:ByteArray):funA c15 0 15 [AV.str a0]=(bif q24 a0 then (bif !(v24_1 a0) then some (Ai (-100000))
 else some (Ai (v24_0 a0)))
 else none):=by kernel_rfl
def m15:TModel
 | [.str a0]=>some (q15 a0,AV.int .i64 (v15_0 a0))
 | _=>none
theorem k15:Known Tryd.prog 15:=⟨Tryd.f15,Tryd.func15,by kernel_rfl,by kernel_rfl⟩
theorem meets15:Meets Tryd.prog 15 m15:=by
 refine meet (f:=Tryd.f15) (l:=[]) (hs:=[(15,999,[2])]) (ts:=[(24,m24)]) (ws:=[]) (is:=[]) (ls:=[]) (lvl:=0) mixed k15 Tryd.func15 (by kernel_rfl) noLoop (allT_cons meets24 allT_nil) allM_nil noI fun w xs us r hl hv h=>?_
 unfold m15 at h
 split at h
 ·rename_i a0
  obtain ⟨h1,rfl⟩:=pair_inj h
  exact (e15 a0).trans ((brL1 (brT (fun b=>some (Ai (bif b then (-100000) else (v24_0 a0)))) (fun _=>rfl) (fun _=>rfl))) h1)
 ·cases h
noncomputable def c25:Cfg:=cfg Tryd.prog [(25,999,[6])] [] [] [] []
def q25 (a0 a1 a2:Int):Bool:=true
def v25_0 (a0 a1 a2:Int):Bool:=(bif decide (a0 ≥ a1) then decide (a0≤a2) else false)
theorem e25 (a0 a1 a2:Int):funA c25 0 25 [Ai a0,Ai a1,Ai a2]=(bif decide (a0 ≥ a1) then some (AV.bool (decide (a0≤a2)))
 else some (AV.bool false)):=by kernel_rfl
def m25:TModel
 | [.int .i64 a0,.int .i64 a1,.int .i64 a2]=>some (true,AV.bool (v25_0 a0 a1 a2))
 | _=>none
theorem k25:Known Tryd.prog 25:=⟨Tryd.f25,Tryd.func25,by kernel_rfl,by kernel_rfl⟩
theorem meets25:Meets Tryd.prog 25 m25:=by
 refine meet (f:=Tryd.f25) (l:=[]) (hs:=[(25,999,[6])]) (ts:=[]) (ws:=[]) (is:=[]) (ls:=[]) (lvl:=0) mixed k25 Tryd.func25 (by kernel_rfl) noLoop allT_nil allM_nil noI fun w xs us r hl hv h=>?_
 unfold m25 at h
 split at h
 ·rename_i a0 a1 a2
  obtain ⟨h1,rfl⟩:=pair_inj h
  exact (e25 a0 a1 a2).trans (of_tt (brT (fun b=>some (AV.bool (bif b then decide (a0≤a2) else false))) (fun _=>rfl) (fun _=>rfl)))
 ·cases h
noncomputable def c34:Cfg:=cfg Tryd.prog [(34,999,[2])] [(25,m25)] [] [] []
def q34 (xa xb:Int):Bool:=true
def v34_0 (xa xb:Int):Bool:=(bif (v25_0 xa (-1000) 1000) then (v25_0 xb xa 1000) else false)
theorem e34 (xa xb:Int):funA c34 0 34 [AV.agg [Ai xa,Ai xb]]=(bif (v25_0 xa (-1000) 1000) then some (AV.bool (v25_0 xb xa 1000))
 else some (AV.bool false)):=by kernel_rfl
def m34:TModel
 | [.agg [.int .i64 xa,.int .i64 xb]]=>some (true,AV.bool (v34_0 xa xb))
 | _=>none
theorem k34:Known Tryd.prog 34:=⟨Tryd.f34,Tryd.func34,by kernel_rfl,by kernel_rfl⟩
theorem meets34:Meets Tryd.prog 34 m34:=by
 refine meet (f:=Tryd.f34) (l:=[]) (hs:=[(34,999,[2])]) (ts:=[(25,m25)]) (ws:=[]) (is:=[]) (ls:=[]) (lvl:=0) mixed k34 Tryd.func34 (by kernel_rfl) noLoop (allT_cons meets25 allT_nil) allM_nil noI fun w xs us r hl hv h=>?_
 unfold m34 at h
 split at h
 ·rename_i xa xb
  obtain ⟨h1,rfl⟩:=pair_inj h
  exact (e34 xa xb).trans (of_tt (brT (fun b=>some (AV.bool (bif b then (v25_0 xb xa 1000) else false))) (fun _=>rfl) (fun _=>rfl)))
 ·cases h
noncomputable def c23:Cfg:=cfg Tryd.prog [(23,999,[2])] [(26,m26),(34,m34)] [] [] []
def q23 (xa xb:Int):Bool:=(bif !(v34_0 xa xb) then true else (q26 xa && (decide ((v26_0 xa).size+(ByteArray.mk #[46,46]).size≤4611686018427387904) && (q26 xb && decide (((v26_0 xa)++(ByteArray.mk #[46,46])).size+(v26_0 xb).size≤4611686018427387904)))))
def v23_0 (xa xb:Int):ByteArray:=(bif !(v34_0 xa xb) then ByteArray.empty else ((v26_0 xa)++(ByteArray.mk #[46,46]))++(v26_0 xb))
theorem e23 (xa xb:Int):funA c23 0 23 [AV.agg [Ai xa,Ai xb]]=(bif !(v34_0 xa xb) then some (AV.str ByteArray.empty)
 else (bif q26 xa then (bif decide ((v26_0 xa).size+(ByteArray.mk #[46,46]).size≤4611686018427387904) then (bif q26 xb then (bif decide (((v26_0 xa)++(ByteArray.mk #[46,46])).size+(v26_0 xb).size≤4611686018427387904) then some (AV.str (((v26_0 xa)++(ByteArray.mk #[46,46]))++(v26_0 xb)))
 else none)
 else none)
 else none)
 else none)):=by kernel_rfl
def m23:TModel
 | [.agg [.int .i64 xa,.int .i64 xb]]=>some (q23 xa xb,AV.str (v23_0 xa xb))
 | _=>none
theorem k23:Known Tryd.prog 23:=⟨Tryd.f23,Tryd.func23,by kernel_rfl,by kernel_rfl⟩
theorem meets23:Meets Tryd.prog 23 m23:=by
 refine meet (f:=Tryd.f23) (l:=[]) (hs:=[(23,999,[2])]) (ts:=[(26,m26),(34,m34)]) (ws:=[]) (is:=[]) (ls:=[]) (lvl:=0) mixed k23 Tryd.func23 (by kernel_rfl) noLoop (allT_cons meets26 (allT_cons meets34 allT_nil)) allM_nil noI fun w xs us r hl hv h=>?_
 unfold m23 at h
 split at h
 ·rename_i xa xb
  obtain ⟨h1,rfl⟩:=pair_inj h
  exact (e23 xa xb).trans ((br (fun b=>some (AV.str (bif b then ByteArray.empty else ((v26_0 xa)++(ByteArray.mk #[46,46]))++(v26_0 xb)))) (fun _=>rfl) (brL (brL (brL (brL1 (fun _=>rfl)))))) h1)
 ·cases h
def F14_0 (t0:ByteArray) (h0_0 h0_1 t4:Int):Out (Int) (Unit ⊕ (Bool × Int × Int × Int × Int)):=(bif decide (IntKind.i64.wrap (t4+1)<(t0.size:Int)) then (bif (decide (0≤t4) && decide (t4≤IntKind.i64.wrap (t4+2)) && decide (IntKind.i64.wrap (t4+2)≤(t0.size:Int))) then (bif ((t0.extract (Int.toNat t4) (Int.toNat (IntKind.i64.wrap (t4+2)))).toList == (ByteArray.mk #[46,46]).toList) then (bif (decide (0≤0) && decide (0≤t4) && decide (t4≤(t0.size:Int))) then (bif q15 (t0.extract (Int.toNat 0) (Int.toNat t4)) then (bif (decide (0≤IntKind.i64.wrap (t4+2)) && decide (IntKind.i64.wrap (t4+2)≤(t0.size:Int)) && decide ((t0.size:Int)≤(t0.size:Int))) then (bif q15 (t0.extract (Int.toNat (IntKind.i64.wrap (t4+2))) (Int.toNat (t0.size:Int))) then (bif q23 (v15_0 (t0.extract (Int.toNat 0) (Int.toNat t4))) (v15_0 (t0.extract (Int.toNat (IntKind.i64.wrap (t4+2))) (Int.toNat (t0.size:Int)))) then (bif ((v23_0 (v15_0 (t0.extract (Int.toNat 0) (Int.toNat t4))) (v15_0 (t0.extract (Int.toNat (IntKind.i64.wrap (t4+2))) (Int.toNat (t0.size:Int))))).toList == t0.toList) then .stop (.inr (true,(v15_0 (t0.extract (Int.toNat 0) (Int.toNat t4))),(v15_0 (t0.extract (Int.toNat (IntKind.i64.wrap (t4+2))) (Int.toNat (t0.size:Int)))),(v15_0 (t0.extract (Int.toNat 0) (Int.toNat t4))),(v15_0 (t0.extract (Int.toNat (IntKind.i64.wrap (t4+2))) (Int.toNat (t0.size:Int))))))
 else .stop (.inr (false,0,0,(v15_0 (t0.extract (Int.toNat 0) (Int.toNat t4))),(v15_0 (t0.extract (Int.toNat (IntKind.i64.wrap (t4+2))) (Int.toNat (t0.size:Int)))))))
 else .fail)
 else .fail)
 else .fail)
 else .fail)
 else .fail)
 else .next (IntKind.i64.wrap (t4+1)))
 else .fail)
 else .stop (.inl ()))
def R14_0 (t0:ByteArray) (h0_0 h0_1:Int):(Int)→Out (Int) (Unit ⊕ (Bool × Int × Int × Int × Int)):=fun s:Int=>F14_0 t0 h0_0 h0_1 s
def E14_0 (t0:ByteArray) (h0_0 h0_1:Int):(Int)→St:=fun s:Int=>⟨[(0,AV.str t0),(2,AV.ptr [0,2] 0 0),(4,Ai s)],[([0,2],⟨true,[],[AV.agg [Ai h0_0,Ai h0_1]]⟩)]⟩
def K14_0 (h0_0 h0_1:Int) (k:Kont):(Unit ⊕ (Bool × Int × Int × Int × Int))→Option AV:=sumE (fun _:Unit=>k (.exit 0) ⟨[(2,AV.ptr [0,2] 0 0)],[([0,2],⟨true,[],[AV.agg [Ai h0_0,Ai h0_1]]⟩)]⟩) (fun p:Bool × Int × Int × Int × Int=>k .ret ⟨[(2,AV.ptr [0,2] 0 0),(3,AV.bool p.1)],[([0,2],⟨true,[],[AV.agg [Ai p.2.1,Ai p.2.2.1]]⟩),([1,5],⟨true,[],[AV.agg [Ai p.2.2.2.1,Ai p.2.2.2.2]]⟩)]⟩)
def l14_0:LModel:=fun _ _ st k=>match st with
 | ⟨[(0,.str t0),(2,.ptr g0 g1 g2),(4,.int .i64 t4)],[(g3,⟨true,[],[.agg [.int .i64 h0_0,.int .i64 h0_1]]⟩)]⟩=>bif nmEq g0 ([0,2]) && Nat.beq g1 0 && Nat.beq g2 0 && nmEq g3 ([0,2]) then ro (runW (R14_0 t0 h0_0 h0_1) (((t0.size:Int) - (IntKind.i64.wrap (t4+1)):Int).toNat+1) t4) none (K14_0 h0_0 h0_1 k) else none
 | _=>none
noncomputable def c14:Cfg:=cfg Tryd.prog [(14,0,[0,2,4]),(14,999,[2,3]),(14,1000,[2]),(14,1001,[0,2,4])] [(15,m15),(23,m23)] [] [] [(14,0,l14_0)]
theorem s14_0 (ce:CallE) (t0:ByteArray) (t4 h0_0 h0_1:Int) (next:St→Option AV) (k:Kont):stepA (codeA c14 ce [] 14 0 (sub [1,0,1,0,0] (body Tryd.f14))) (normA [] [0,2,4]) next ⟨[(0,AV.str t0),(2,AV.ptr [0,2] 0 0),(4,Ai t4)],[([0,2],⟨true,[],[AV.agg [Ai h0_0,Ai h0_1]]⟩)]⟩ k=(bif decide (IntKind.i64.wrap (t4+1)<(t0.size:Int)) then (bif (decide (0≤t4) && decide (t4≤IntKind.i64.wrap (t4+2)) && decide (IntKind.i64.wrap (t4+2)≤(t0.size:Int))) then (bif ((t0.extract (Int.toNat t4) (Int.toNat (IntKind.i64.wrap (t4+2)))).toList == (ByteArray.mk #[46,46]).toList) then (bif (decide (0≤0) && decide (0≤t4) && decide (t4≤(t0.size:Int))) then (bif q15 (t0.extract (Int.toNat 0) (Int.toNat t4)) then (bif (decide (0≤IntKind.i64.wrap (t4+2)) && decide (IntKind.i64.wrap (t4+2)≤(t0.size:Int)) && decide ((t0.size:Int)≤(t0.size:Int))) then (bif q15 (t0.extract (Int.toNat (IntKind.i64.wrap (t4+2))) (Int.toNat (t0.size:Int))) then (bif q23 (v15_0 (t0.extract (Int.toNat 0) (Int.toNat t4))) (v15_0 (t0.extract (Int.toNat (IntKind.i64.wrap (t4+2))) (Int.toNat (t0.size:Int)))) then (bif ((v23_0 (v15_0 (t0.extract (Int.toNat 0) (Int.toNat t4))) (v15_0 (t0.extract (Int.toNat (IntKind.i64.wrap (t4+2))) (Int.toNat (t0.size:Int))))).toList == t0.toList) then k .ret ⟨[(2,AV.ptr [0,2] 0 0),(3,AV.bool true)],[([0,2],⟨true,[],[AV.agg [Ai (v15_0 (t0.extract (Int.toNat 0) (Int.toNat t4))),Ai (v15_0 (t0.extract (Int.toNat (IntKind.i64.wrap (t4+2))) (Int.toNat (t0.size:Int))))]]⟩),([1,5],⟨true,[],[AV.agg [Ai (v15_0 (t0.extract (Int.toNat 0) (Int.toNat t4))),Ai (v15_0 (t0.extract (Int.toNat (IntKind.i64.wrap (t4+2))) (Int.toNat (t0.size:Int))))]]⟩)]⟩
 else k .ret ⟨[(2,AV.ptr [0,2] 0 0),(3,AV.bool false)],[([0,2],⟨true,[],[AV.agg [Ai 0,Ai 0]]⟩),([1,5],⟨true,[],[AV.agg [Ai (v15_0 (t0.extract (Int.toNat 0) (Int.toNat t4))),Ai (v15_0 (t0.extract (Int.toNat (IntKind.i64.wrap (t4+2))) (Int.toNat (t0.size:Int))))]]⟩)]⟩)
 else none)
 else none)
 else none)
 else none)
 else none)
 else next ⟨[(0,AV.str t0),(2,AV.ptr [0,2] 0 0),(4,Ai (IntKind.i64.wrap (t4+1)))],[([0,2],⟨true,[],[AV.agg [Ai h0_0,Ai h0_1]]⟩)]⟩)
 else none)
 else k (.exit 0) ⟨[(2,AV.ptr [0,2] 0 0)],[([0,2],⟨true,[],[AV.agg [Ai h0_0,Ai h0_1]]⟩)]⟩):=by kernel_rfl
theorem st14_0 (t0:ByteArray) (h0_0 h0_1:Int) (ce:CallE) (k:Kont) (s:Int) (next:St→Option AV):stepA (codeA c14 ce [] 14 0 (sub [1,0,1,0,0] (body Tryd.f14))) (normA [] [0,2,4]) next ((E14_0 t0 h0_0 h0_1) s) k=(R14_0 t0 h0_0 h0_1 s).el none (fun s=>next ((E14_0 t0 h0_0 h0_1) s)) (K14_0 h0_0 h0_1 k):=(s14_0 ce t0 s h0_0 h0_1 next k).trans (by unfold R14_0;unfold F14_0;simp only [el_cond,el_ro,el_sum,el_fail,el_next,el_stop] <;> rfl)
theorem ok14_0 {ce:CallE}:LoopOK c14 ce [] 14 0 (sub [1,0,1,0,0] (body Tryd.f14)):=by
 intro m hm st k r h
 obtain rfl:l14_0=m:=Option.some.inj hm
 unfold l14_0 at h
 split at h
 ·rename_i t0 g0 g1 g2 t4 g3 h0_0 h0_1
  obtain ⟨hg,h⟩:=bif_some h
  simp only [Bool.and_eq_true] at hg
  obtain ⟨⟨⟨q0,q1⟩,q2⟩,q3⟩:=hg
  obtain rfl:=(nmEq_iff _ _).1 q0
  obtain rfl:=Nat.eq_of_beq_eq_true q1
  obtain rfl:=Nat.eq_of_beq_eq_true q2
  obtain rfl:=(nmEq_iff _ _).1 q3
  refine ⟨(((t0.size:Int) - (IntKind.i64.wrap (t4+1)):Int).toNat+1),?_⟩
  rw [← h]
  exact loop_run (E14_0 t0 h0_0 h0_1) (K14_0 h0_0 h0_1 k) (st14_0 t0 h0_0 h0_1 ce k) _ t4
 ·cases h
def q14 (a0:ByteArray):Bool:=(ro (runW (R14_0 a0 0 0) (((a0.size:Int) - (IntKind.i64.wrap (0+1)):Int).toNat+1) 0) false (sumE (fun _=>true) (fun p5=>true)))
def v14_0 (a0:ByteArray):Int:=(ro (runW (R14_0 a0 0 0) (((a0.size:Int) - (IntKind.i64.wrap (0+1)):Int).toNat+1) 0) 0 (sumE (fun _=>0) (fun p5=>p5.2.1)))
def v14_1 (a0:ByteArray):Int:=(ro (runW (R14_0 a0 0 0) (((a0.size:Int) - (IntKind.i64.wrap (0+1)):Int).toNat+1) 0) 0 (sumE (fun _=>0) (fun p5=>p5.2.2.1)))
def v14_2 (a0:ByteArray):Bool:=(ro (runW (R14_0 a0 0 0) (((a0.size:Int) - (IntKind.i64.wrap (0+1)):Int).toNat+1) 0) false (sumE (fun _=>false) (fun p5=>p5.1)))
theorem e14 (a0:ByteArray):funA c14 0 14 [AV.str a0]=(ro (runW (R14_0 a0 0 0) (((a0.size:Int) - (IntKind.i64.wrap (0+1)):Int).toNat+1) 0) none (sumE (fun _=>some (AV.tup [AV.agg [Ai 0,Ai 0],AV.bool false])) (fun p5=>some (AV.tup [AV.agg [Ai p5.2.1,Ai p5.2.2.1],AV.bool p5.1])))):=by kernel_rfl
def m14:TModel
 | [.str a0]=>some (q14 a0,AV.tup [AV.agg [AV.int .i64 (v14_0 a0),AV.int .i64 (v14_1 a0)],AV.bool (v14_2 a0)])
 | _=>none
theorem k14:Known Tryd.prog 14:=⟨Tryd.f14,Tryd.func14,by kernel_rfl,by kernel_rfl⟩
theorem meets14:Meets Tryd.prog 14 m14:=by
 refine meet (f:=Tryd.f14) (l:=[(0,sub [1,0,1,0,0] (body Tryd.f14))]) (hs:=[(14,0,[0,2,4]),(14,999,[2,3]),(14,1000,[2]),(14,1001,[0,2,4])]) (ts:=[(15,m15),(23,m23)]) (ws:=[]) (is:=[]) (ls:=[(14,0,l14_0)]) (lvl:=0) mixed k14 Tryd.func14 (by kernel_rfl) (loops_cons ok14_0 noLoop) (allT_cons meets15 (allT_cons meets23 allT_nil)) allM_nil noI fun w xs us r hl hv h=>?_
 unfold m14 at h
 split at h
 ·rename_i a0
  obtain ⟨h1,rfl⟩:=pair_inj h
  exact (e14 a0).trans ((brO (fun o:Option (Unit ⊕ (Bool × Int × Int × Int × Int))=>some (AV.tup [AV.agg [Ai (ro o 0 (sumE (fun _=>0) (fun p5=>p5.2.1))),Ai (ro o 0 (sumE (fun _=>0) (fun p5=>p5.2.2.1)))],AV.bool (ro o false (sumE (fun _=>false) (fun p5=>p5.1)))])) (brS (fun o:Unit ⊕ (Bool × Int × Int × Int × Int)=>some (AV.tup [AV.agg [Ai ((sumE (fun _=>0) (fun p5=>p5.2.1)) o),Ai ((sumE (fun _=>0) (fun p5=>p5.2.2.1)) o)],AV.bool ((sumE (fun _=>false) (fun p5=>p5.1)) o)])) (fun _=>(fun _=>rfl)) (fun p5=>(fun _=>rfl)))) h1)
 ·cases h
noncomputable def c16:Cfg:=cfg Tryd.prog [(16,999,[2]),(16,1000,[])] [(25,m25),(26,m26)] [] [] []
def q16 (xa xb xc xd:Int):Bool:=(bif decide (xa=1) then (bif (v25_0 xb (-1000) 1000) then (bif (v25_0 xc 0 xd) then (bif decide (xd≤64) then (q26 xb && (decide ((ByteArray.mk #[98,101,103,105,110,32]).size+(v26_0 xb).size≤4611686018427387904) && (decide (((ByteArray.mk #[98,101,103,105,110,32])++(v26_0 xb)).size+(ByteArray.mk #[32,105,110,32]).size≤4611686018427387904) && (q26 xc && (decide ((((ByteArray.mk #[98,101,103,105,110,32])++(v26_0 xb))++(ByteArray.mk #[32,105,110,32])).size+(v26_0 xc).size≤4611686018427387904) && (decide (((((ByteArray.mk #[98,101,103,105,110,32])++(v26_0 xb))++(ByteArray.mk #[32,105,110,32]))++(v26_0 xc)).size+(ByteArray.mk #[46,46]).size≤4611686018427387904) && (q26 xd && decide ((((((ByteArray.mk #[98,101,103,105,110,32])++(v26_0 xb))++(ByteArray.mk #[32,105,110,32]))++(v26_0 xc))++(ByteArray.mk #[46,46])).size+(v26_0 xd).size≤4611686018427387904)))))))) else true) else true) else true) else (bif decide (xa=2) then (bif (v25_0 xb 0 (IntKind.i64.wrap (xc - 1))) then (bif decide (xc<64) then (bif decide (xd=0) then (q26 xb && (decide ((ByteArray.mk #[115,119,97,112,32]).size+(v26_0 xb).size≤4611686018427387904) && (decide (((ByteArray.mk #[115,119,97,112,32])++(v26_0 xb)).size+(ByteArray.mk #[32]).size≤4611686018427387904) && (q26 xc && decide ((((ByteArray.mk #[115,119,97,112,32])++(v26_0 xb))++(ByteArray.mk #[32])).size+(v26_0 xc).size≤4611686018427387904))))) else true) else true) else true) else (bif decide (xa=3) then (bif (v25_0 xb (-1000) 1000) then (bif (v25_0 xc 0 64) then (bif decide (xd=0) then (q26 xb && (decide ((ByteArray.mk #[101,110,100,32]).size+(v26_0 xb).size≤4611686018427387904) && (decide (((ByteArray.mk #[101,110,100,32])++(v26_0 xb)).size+(ByteArray.mk #[32,97,116,32]).size≤4611686018427387904) && (q26 xc && decide ((((ByteArray.mk #[101,110,100,32])++(v26_0 xb))++(ByteArray.mk #[32,97,116,32])).size+(v26_0 xc).size≤4611686018427387904))))) else true) else true) else true) else true)))
def v16_0 (xa xb xc xd:Int):ByteArray:=(bif decide (xa=1) then (bif (v25_0 xb (-1000) 1000) then (bif (v25_0 xc 0 xd) then (bif decide (xd≤64) then (((((ByteArray.mk #[98,101,103,105,110,32])++(v26_0 xb))++(ByteArray.mk #[32,105,110,32]))++(v26_0 xc))++(ByteArray.mk #[46,46]))++(v26_0 xd) else ByteArray.empty) else ByteArray.empty) else ByteArray.empty) else (bif decide (xa=2) then (bif (v25_0 xb 0 (IntKind.i64.wrap (xc - 1))) then (bif decide (xc<64) then (bif decide (xd=0) then (((ByteArray.mk #[115,119,97,112,32])++(v26_0 xb))++(ByteArray.mk #[32]))++(v26_0 xc) else ByteArray.empty) else ByteArray.empty) else ByteArray.empty) else (bif decide (xa=3) then (bif (v25_0 xb (-1000) 1000) then (bif (v25_0 xc 0 64) then (bif decide (xd=0) then (((ByteArray.mk #[101,110,100,32])++(v26_0 xb))++(ByteArray.mk #[32,97,116,32]))++(v26_0 xc) else ByteArray.empty) else ByteArray.empty) else ByteArray.empty) else ByteArray.empty)))
theorem e16 (xa xb xc xd:Int):funA c16 0 16 [AV.agg [Ai xa,Ai xb,Ai xc,Ai xd]]=(bif decide (xa=1) then (bif (v25_0 xb (-1000) 1000) then (bif (v25_0 xc 0 xd) then (bif decide (xd≤64) then (bif q26 xb then (bif decide ((ByteArray.mk #[98,101,103,105,110,32]).size+(v26_0 xb).size≤4611686018427387904) then (bif decide (((ByteArray.mk #[98,101,103,105,110,32])++(v26_0 xb)).size+(ByteArray.mk #[32,105,110,32]).size≤4611686018427387904) then (bif q26 xc then (bif decide ((((ByteArray.mk #[98,101,103,105,110,32])++(v26_0 xb))++(ByteArray.mk #[32,105,110,32])).size+(v26_0 xc).size≤4611686018427387904) then (bif decide (((((ByteArray.mk #[98,101,103,105,110,32])++(v26_0 xb))++(ByteArray.mk #[32,105,110,32]))++(v26_0 xc)).size+(ByteArray.mk #[46,46]).size≤4611686018427387904) then (bif q26 xd then (bif decide ((((((ByteArray.mk #[98,101,103,105,110,32])++(v26_0 xb))++(ByteArray.mk #[32,105,110,32]))++(v26_0 xc))++(ByteArray.mk #[46,46])).size+(v26_0 xd).size≤4611686018427387904) then some (AV.str ((((((ByteArray.mk #[98,101,103,105,110,32])++(v26_0 xb))++(ByteArray.mk #[32,105,110,32]))++(v26_0 xc))++(ByteArray.mk #[46,46]))++(v26_0 xd)))
 else none)
 else none)
 else none)
 else none)
 else none)
 else none)
 else none)
 else none)
 else some (AV.str ByteArray.empty))
 else some (AV.str ByteArray.empty))
 else some (AV.str ByteArray.empty))
 else (bif decide (xa=2) then (bif (v25_0 xb 0 (IntKind.i64.wrap (xc - 1))) then (bif decide (xc<64) then (bif decide (xd=0) then (bif q26 xb then (bif decide ((ByteArray.mk #[115,119,97,112,32]).size+(v26_0 xb).size≤4611686018427387904) then (bif decide (((ByteArray.mk #[115,119,97,112,32])++(v26_0 xb)).size+(ByteArray.mk #[32]).size≤4611686018427387904) then (bif q26 xc then (bif decide ((((ByteArray.mk #[115,119,97,112,32])++(v26_0 xb))++(ByteArray.mk #[32])).size+(v26_0 xc).size≤4611686018427387904) then some (AV.str ((((ByteArray.mk #[115,119,97,112,32])++(v26_0 xb))++(ByteArray.mk #[32]))++(v26_0 xc)))
 else none)
 else none)
 else none)
 else none)
 else none)
 else some (AV.str ByteArray.empty))
 else some (AV.str ByteArray.empty))
 else some (AV.str ByteArray.empty))
 else (bif decide (xa=3) then (bif (v25_0 xb (-1000) 1000) then (bif (v25_0 xc 0 64) then (bif decide (xd=0) then (bif q26 xb then (bif decide ((ByteArray.mk #[101,110,100,32]).size+(v26_0 xb).size≤4611686018427387904) then (bif decide (((ByteArray.mk #[101,110,100,32])++(v26_0 xb)).size+(ByteArray.mk #[32,97,116,32]).size≤4611686018427387904) then (bif q26 xc then (bif decide ((((ByteArray.mk #[101,110,100,32])++(v26_0 xb))++(ByteArray.mk #[32,97,116,32])).size+(v26_0 xc).size≤4611686018427387904) then some (AV.str ((((ByteArray.mk #[101,110,100,32])++(v26_0 xb))++(ByteArray.mk #[32,97,116,32]))++(v26_0 xc)))
 else none)
 else none)
 else none)
 else none)
 else none)
 else some (AV.str ByteArray.empty))
 else some (AV.str ByteArray.empty))
 else some (AV.str ByteArray.empty))
 else some (AV.str ByteArray.empty)))):=by kernel_rfl
def m16:TModel
 | [.agg [.int .i64 xa,.int .i64 xb,.int .i64 xc,.int .i64 xd]]=>some (q16 xa xb xc xd,AV.str (v16_0 xa xb xc xd))
 | _=>none
theorem k16:Known Tryd.prog 16:=⟨Tryd.f16,Tryd.func16,by kernel_rfl,by kernel_rfl⟩
theorem meets16:Meets Tryd.prog 16 m16:=by
 refine meet (f:=Tryd.f16) (l:=[]) (hs:=[(16,999,[2]),(16,1000,[])]) (ts:=[(25,m25),(26,m26)]) (ws:=[]) (is:=[]) (ls:=[]) (lvl:=0) mixed k16 Tryd.func16 (by kernel_rfl) noLoop (allT_cons meets25 (allT_cons meets26 allT_nil)) allM_nil noI fun w xs us r hl hv h=>?_
 unfold m16 at h
 split at h
 ·rename_i xa xb xc xd
  obtain ⟨h1,rfl⟩:=pair_inj h
  exact (e16 xa xb xc xd).trans ((br (fun b=>some (AV.str (bif b then (bif (v25_0 xb (-1000) 1000) then (bif (v25_0 xc 0 xd) then (bif decide (xd≤64) then (((((ByteArray.mk #[98,101,103,105,110,32])++(v26_0 xb))++(ByteArray.mk #[32,105,110,32]))++(v26_0 xc))++(ByteArray.mk #[46,46]))++(v26_0 xd) else ByteArray.empty) else ByteArray.empty) else ByteArray.empty) else (bif decide (xa=2) then (bif (v25_0 xb 0 (IntKind.i64.wrap (xc - 1))) then (bif decide (xc<64) then (bif decide (xd=0) then (((ByteArray.mk #[115,119,97,112,32])++(v26_0 xb))++(ByteArray.mk #[32]))++(v26_0 xc) else ByteArray.empty) else ByteArray.empty) else ByteArray.empty) else (bif decide (xa=3) then (bif (v25_0 xb (-1000) 1000) then (bif (v25_0 xc 0 64) then (bif decide (xd=0) then (((ByteArray.mk #[101,110,100,32])++(v26_0 xb))++(ByteArray.mk #[32,97,116,32]))++(v26_0 xc) else ByteArray.empty) else ByteArray.empty) else ByteArray.empty) else ByteArray.empty))))) (br (fun b=>some (AV.str (bif b then (bif (v25_0 xc 0 xd) then (bif decide (xd≤64) then (((((ByteArray.mk #[98,101,103,105,110,32])++(v26_0 xb))++(ByteArray.mk #[32,105,110,32]))++(v26_0 xc))++(ByteArray.mk #[46,46]))++(v26_0 xd) else ByteArray.empty) else ByteArray.empty) else ByteArray.empty))) (br (fun b=>some (AV.str (bif b then (bif decide (xd≤64) then (((((ByteArray.mk #[98,101,103,105,110,32])++(v26_0 xb))++(ByteArray.mk #[32,105,110,32]))++(v26_0 xc))++(ByteArray.mk #[46,46]))++(v26_0 xd) else ByteArray.empty) else ByteArray.empty))) (br (fun b=>some (AV.str (bif b then (((((ByteArray.mk #[98,101,103,105,110,32])++(v26_0 xb))++(ByteArray.mk #[32,105,110,32]))++(v26_0 xc))++(ByteArray.mk #[46,46]))++(v26_0 xd) else ByteArray.empty))) (brL (brL (brL (brL (brL (brL (brL (brL1 (fun _=>rfl))))))))) (fun _=>rfl)) (fun _=>rfl)) (fun _=>rfl)) (br (fun b=>some (AV.str (bif b then (bif (v25_0 xb 0 (IntKind.i64.wrap (xc - 1))) then (bif decide (xc<64) then (bif decide (xd=0) then (((ByteArray.mk #[115,119,97,112,32])++(v26_0 xb))++(ByteArray.mk #[32]))++(v26_0 xc) else ByteArray.empty) else ByteArray.empty) else ByteArray.empty) else (bif decide (xa=3) then (bif (v25_0 xb (-1000) 1000) then (bif (v25_0 xc 0 64) then (bif decide (xd=0) then (((ByteArray.mk #[101,110,100,32])++(v26_0 xb))++(ByteArray.mk #[32,97,116,32]))++(v26_0 xc) else ByteArray.empty) else ByteArray.empty) else ByteArray.empty) else ByteArray.empty)))) (br (fun b=>some (AV.str (bif b then (bif decide (xc<64) then (bif decide (xd=0) then (((ByteArray.mk #[115,119,97,112,32])++(v26_0 xb))++(ByteArray.mk #[32]))++(v26_0 xc) else ByteArray.empty) else ByteArray.empty) else ByteArray.empty))) (br (fun b=>some (AV.str (bif b then (bif decide (xd=0) then (((ByteArray.mk #[115,119,97,112,32])++(v26_0 xb))++(ByteArray.mk #[32]))++(v26_0 xc) else ByteArray.empty) else ByteArray.empty))) (br (fun b=>some (AV.str (bif b then (((ByteArray.mk #[115,119,97,112,32])++(v26_0 xb))++(ByteArray.mk #[32]))++(v26_0 xc) else ByteArray.empty))) (brL (brL (brL (brL (brL1 (fun _=>rfl)))))) (fun _=>rfl)) (fun _=>rfl)) (fun _=>rfl)) (br (fun b=>some (AV.str (bif b then (bif (v25_0 xb (-1000) 1000) then (bif (v25_0 xc 0 64) then (bif decide (xd=0) then (((ByteArray.mk #[101,110,100,32])++(v26_0 xb))++(ByteArray.mk #[32,97,116,32]))++(v26_0 xc) else ByteArray.empty) else ByteArray.empty) else ByteArray.empty) else ByteArray.empty))) (br (fun b=>some (AV.str (bif b then (bif (v25_0 xc 0 64) then (bif decide (xd=0) then (((ByteArray.mk #[101,110,100,32])++(v26_0 xb))++(ByteArray.mk #[32,97,116,32]))++(v26_0 xc) else ByteArray.empty) else ByteArray.empty) else ByteArray.empty))) (br (fun b=>some (AV.str (bif b then (bif decide (xd=0) then (((ByteArray.mk #[101,110,100,32])++(v26_0 xb))++(ByteArray.mk #[32,97,116,32]))++(v26_0 xc) else ByteArray.empty) else ByteArray.empty))) (br (fun b=>some (AV.str (bif b then (((ByteArray.mk #[101,110,100,32])++(v26_0 xb))++(ByteArray.mk #[32,97,116,32]))++(v26_0 xc) else ByteArray.empty))) (brL (brL (brL (brL (brL1 (fun _=>rfl)))))) (fun _=>rfl)) (fun _=>rfl)) (fun _=>rfl)) (fun _=>rfl)))) h1)
 ·cases h
noncomputable def c5:Cfg:=cfg Tryd.prog [(5,999,[2,3]),(5,1000,[0,2,5])] [(13,m13),(14,m14),(15,m15),(16,m16)] [] [] []
def q5 (a0:ByteArray):Bool:=(q13 a0 32 && (bif decide (((v13_0 a0 32).length:Int)=4) then ((decide (0≤0) && decide (0<((v13_0 a0 32).length:Int))) && (bif ((fS ((v13_0 a0 32).getD (0:Int).toNat .undef) 0).toList == (ByteArray.mk #[98,101,103,105,110]).toList) then ((decide (0≤3) && decide (3<((v13_0 a0 32).length:Int))) && (q14 (fS ((v13_0 a0 32).getD (3:Int).toNat .undef) 0) && ((decide (0≤1) && decide (1<((v13_0 a0 32).length:Int))) && (q15 (fS ((v13_0 a0 32).getD (1:Int).toNat .undef) 0) && (bif (a0.toList == ByteArray.empty.toList) then true else q16 1 (v15_0 (fS ((v13_0 a0 32).getD (1:Int).toNat .undef) 0)) (v14_0 (fS ((v13_0 a0 32).getD (3:Int).toNat .undef) 0)) (v14_1 (fS ((v13_0 a0 32).getD (3:Int).toNat .undef) 0))))))) else (bif decide (((v13_0 a0 32).length:Int)=3) then ((decide (0≤1) && decide (1<((v13_0 a0 32).length:Int))) && (q15 (fS ((v13_0 a0 32).getD (1:Int).toNat .undef) 0) && ((decide (0≤2) && decide (2<((v13_0 a0 32).length:Int))) && (q15 (fS ((v13_0 a0 32).getD (2:Int).toNat .undef) 0) && (bif (a0.toList == ByteArray.empty.toList) then true else q16 2 (v15_0 (fS ((v13_0 a0 32).getD (1:Int).toNat .undef) 0)) (v15_0 (fS ((v13_0 a0 32).getD (2:Int).toNat .undef) 0)) 0))))) else (bif decide (((v13_0 a0 32).length:Int)=4) then ((decide (0≤1) && decide (1<((v13_0 a0 32).length:Int))) && (q15 (fS ((v13_0 a0 32).getD (1:Int).toNat .undef) 0) && ((decide (0≤3) && decide (3<((v13_0 a0 32).length:Int))) && (q15 (fS ((v13_0 a0 32).getD (3:Int).toNat .undef) 0) && (bif (a0.toList == ByteArray.empty.toList) then true else q16 3 (v15_0 (fS ((v13_0 a0 32).getD (1:Int).toNat .undef) 0)) (v15_0 (fS ((v13_0 a0 32).getD (3:Int).toNat .undef) 0)) 0))))) else (bif (a0.toList == ByteArray.empty.toList) then true else q16 0 0 0 0))))) else (bif decide (((v13_0 a0 32).length:Int)=3) then ((decide (0≤1) && decide (1<((v13_0 a0 32).length:Int))) && (q15 (fS ((v13_0 a0 32).getD (1:Int).toNat .undef) 0) && ((decide (0≤2) && decide (2<((v13_0 a0 32).length:Int))) && (q15 (fS ((v13_0 a0 32).getD (2:Int).toNat .undef) 0) && (bif (a0.toList == ByteArray.empty.toList) then true else q16 2 (v15_0 (fS ((v13_0 a0 32).getD (1:Int).toNat .undef) 0)) (v15_0 (fS ((v13_0 a0 32).getD (2:Int).toNat .undef) 0)) 0))))) else (bif decide (((v13_0 a0 32).length:Int)=4) then ((decide (0≤1) && decide (1<((v13_0 a0 32).length:Int))) && (q15 (fS ((v13_0 a0 32).getD (1:Int).toNat .undef) 0) && ((decide (0≤3) && decide (3<((v13_0 a0 32).length:Int))) && (q15 (fS ((v13_0 a0 32).getD (3:Int).toNat .undef) 0) && (bif (a0.toList == ByteArray.empty.toList) then true else q16 3 (v15_0 (fS ((v13_0 a0 32).getD (1:Int).toNat .undef) 0)) (v15_0 (fS ((v13_0 a0 32).getD (3:Int).toNat .undef) 0)) 0))))) else (bif (a0.toList == ByteArray.empty.toList) then true else q16 0 0 0 0)))))
def v5_0 (a0:ByteArray):Int:=(bif decide (((v13_0 a0 32).length:Int)=4) then (bif ((fS ((v13_0 a0 32).getD (0:Int).toNat .undef) 0).toList == (ByteArray.mk #[98,101,103,105,110]).toList) then (bif (a0.toList == ByteArray.empty.toList) then 0 else (bif !((v16_0 1 (v15_0 (fS ((v13_0 a0 32).getD (1:Int).toNat .undef) 0)) (v14_0 (fS ((v13_0 a0 32).getD (3:Int).toNat .undef) 0)) (v14_1 (fS ((v13_0 a0 32).getD (3:Int).toNat .undef) 0))).toList == a0.toList) then 0 else 1)) else (bif decide (((v13_0 a0 32).length:Int)=3) then (bif (a0.toList == ByteArray.empty.toList) then 0 else (bif !((v16_0 2 (v15_0 (fS ((v13_0 a0 32).getD (1:Int).toNat .undef) 0)) (v15_0 (fS ((v13_0 a0 32).getD (2:Int).toNat .undef) 0)) 0).toList == a0.toList) then 0 else 2)) else (bif decide (((v13_0 a0 32).length:Int)=4) then (bif (a0.toList == ByteArray.empty.toList) then 0 else (bif !((v16_0 3 (v15_0 (fS ((v13_0 a0 32).getD (1:Int).toNat .undef) 0)) (v15_0 (fS ((v13_0 a0 32).getD (3:Int).toNat .undef) 0)) 0).toList == a0.toList) then 0 else 3)) else 0))) else (bif decide (((v13_0 a0 32).length:Int)=3) then (bif (a0.toList == ByteArray.empty.toList) then 0 else (bif !((v16_0 2 (v15_0 (fS ((v13_0 a0 32).getD (1:Int).toNat .undef) 0)) (v15_0 (fS ((v13_0 a0 32).getD (2:Int).toNat .undef) 0)) 0).toList == a0.toList) then 0 else 2)) else (bif decide (((v13_0 a0 32).length:Int)=4) then (bif (a0.toList == ByteArray.empty.toList) then 0 else (bif !((v16_0 3 (v15_0 (fS ((v13_0 a0 32).getD (1:Int).toNat .undef) 0)) (v15_0 (fS ((v13_0 a0 32).getD (3:Int).toNat .undef) 0)) 0).toList == a0.toList) then 0 else 3)) else 0)))
def v5_1 (a0:ByteArray):Int:=(bif decide (((v13_0 a0 32).length:Int)=4) then (bif ((fS ((v13_0 a0 32).getD (0:Int).toNat .undef) 0).toList == (ByteArray.mk #[98,101,103,105,110]).toList) then (bif (a0.toList == ByteArray.empty.toList) then 0 else (bif !((v16_0 1 (v15_0 (fS ((v13_0 a0 32).getD (1:Int).toNat .undef) 0)) (v14_0 (fS ((v13_0 a0 32).getD (3:Int).toNat .undef) 0)) (v14_1 (fS ((v13_0 a0 32).getD (3:Int).toNat .undef) 0))).toList == a0.toList) then 0 else (v15_0 (fS ((v13_0 a0 32).getD (1:Int).toNat .undef) 0)))) else (bif decide (((v13_0 a0 32).length:Int)=3) then (bif (a0.toList == ByteArray.empty.toList) then 0 else (bif !((v16_0 2 (v15_0 (fS ((v13_0 a0 32).getD (1:Int).toNat .undef) 0)) (v15_0 (fS ((v13_0 a0 32).getD (2:Int).toNat .undef) 0)) 0).toList == a0.toList) then 0 else (v15_0 (fS ((v13_0 a0 32).getD (1:Int).toNat .undef) 0)))) else (bif decide (((v13_0 a0 32).length:Int)=4) then (bif (a0.toList == ByteArray.empty.toList) then 0 else (bif !((v16_0 3 (v15_0 (fS ((v13_0 a0 32).getD (1:Int).toNat .undef) 0)) (v15_0 (fS ((v13_0 a0 32).getD (3:Int).toNat .undef) 0)) 0).toList == a0.toList) then 0 else (v15_0 (fS ((v13_0 a0 32).getD (1:Int).toNat .undef) 0)))) else 0))) else (bif decide (((v13_0 a0 32).length:Int)=3) then (bif (a0.toList == ByteArray.empty.toList) then 0 else (bif !((v16_0 2 (v15_0 (fS ((v13_0 a0 32).getD (1:Int).toNat .undef) 0)) (v15_0 (fS ((v13_0 a0 32).getD (2:Int).toNat .undef) 0)) 0).toList == a0.toList) then 0 else (v15_0 (fS ((v13_0 a0 32).getD (1:Int).toNat .undef) 0)))) else (bif decide (((v13_0 a0 32).length:Int)=4) then (bif (a0.toList == ByteArray.empty.toList) then 0 else (bif !((v16_0 3 (v15_0 (fS ((v13_0 a0 32).getD (1:Int).toNat .undef) 0)) (v15_0 (fS ((v13_0 a0 32).getD (3:Int).toNat .undef) 0)) 0).toList == a0.toList) then 0 else (v15_0 (fS ((v13_0 a0 32).getD (1:Int).toNat .undef) 0)))) else 0)))
def v5_2 (a0:ByteArray):Int:=(bif decide (((v13_0 a0 32).length:Int)=4) then (bif ((fS ((v13_0 a0 32).getD (0:Int).toNat .undef) 0).toList == (ByteArray.mk #[98,101,103,105,110]).toList) then (bif (a0.toList == ByteArray.empty.toList) then 0 else (bif !((v16_0 1 (v15_0 (fS ((v13_0 a0 32).getD (1:Int).toNat .undef) 0)) (v14_0 (fS ((v13_0 a0 32).getD (3:Int).toNat .undef) 0)) (v14_1 (fS ((v13_0 a0 32).getD (3:Int).toNat .undef) 0))).toList == a0.toList) then 0 else (v14_0 (fS ((v13_0 a0 32).getD (3:Int).toNat .undef) 0)))) else (bif decide (((v13_0 a0 32).length:Int)=3) then (bif (a0.toList == ByteArray.empty.toList) then 0 else (bif !((v16_0 2 (v15_0 (fS ((v13_0 a0 32).getD (1:Int).toNat .undef) 0)) (v15_0 (fS ((v13_0 a0 32).getD (2:Int).toNat .undef) 0)) 0).toList == a0.toList) then 0 else (v15_0 (fS ((v13_0 a0 32).getD (2:Int).toNat .undef) 0)))) else (bif decide (((v13_0 a0 32).length:Int)=4) then (bif (a0.toList == ByteArray.empty.toList) then 0 else (bif !((v16_0 3 (v15_0 (fS ((v13_0 a0 32).getD (1:Int).toNat .undef) 0)) (v15_0 (fS ((v13_0 a0 32).getD (3:Int).toNat .undef) 0)) 0).toList == a0.toList) then 0 else (v15_0 (fS ((v13_0 a0 32).getD (3:Int).toNat .undef) 0)))) else 0))) else (bif decide (((v13_0 a0 32).length:Int)=3) then (bif (a0.toList == ByteArray.empty.toList) then 0 else (bif !((v16_0 2 (v15_0 (fS ((v13_0 a0 32).getD (1:Int).toNat .undef) 0)) (v15_0 (fS ((v13_0 a0 32).getD (2:Int).toNat .undef) 0)) 0).toList == a0.toList) then 0 else (v15_0 (fS ((v13_0 a0 32).getD (2:Int).toNat .undef) 0)))) else (bif decide (((v13_0 a0 32).length:Int)=4) then (bif (a0.toList == ByteArray.empty.toList) then 0 else (bif !((v16_0 3 (v15_0 (fS ((v13_0 a0 32).getD (1:Int).toNat .undef) 0)) (v15_0 (fS ((v13_0 a0 32).getD (3:Int).toNat .undef) 0)) 0).toList == a0.toList) then 0 else (v15_0 (fS ((v13_0 a0 32).getD (3:Int).toNat .undef) 0)))) else 0)))
def v5_3 (a0:ByteArray):Int:=(bif decide (((v13_0 a0 32).length:Int)=4) then (bif ((fS ((v13_0 a0 32).getD (0:Int).toNat .undef) 0).toList == (ByteArray.mk #[98,101,103,105,110]).toList) then (bif (a0.toList == ByteArray.empty.toList) then 0 else (bif !((v16_0 1 (v15_0 (fS ((v13_0 a0 32).getD (1:Int).toNat .undef) 0)) (v14_0 (fS ((v13_0 a0 32).getD (3:Int).toNat .undef) 0)) (v14_1 (fS ((v13_0 a0 32).getD (3:Int).toNat .undef) 0))).toList == a0.toList) then 0 else (v14_1 (fS ((v13_0 a0 32).getD (3:Int).toNat .undef) 0)))) else 0) else 0)
def v5_4 (a0:ByteArray):Bool:=(bif decide (((v13_0 a0 32).length:Int)=4) then (bif ((fS ((v13_0 a0 32).getD (0:Int).toNat .undef) 0).toList == (ByteArray.mk #[98,101,103,105,110]).toList) then (bif (a0.toList == ByteArray.empty.toList) then false else (bif !((v16_0 1 (v15_0 (fS ((v13_0 a0 32).getD (1:Int).toNat .undef) 0)) (v14_0 (fS ((v13_0 a0 32).getD (3:Int).toNat .undef) 0)) (v14_1 (fS ((v13_0 a0 32).getD (3:Int).toNat .undef) 0))).toList == a0.toList) then false else true)) else (bif decide (((v13_0 a0 32).length:Int)=3) then (bif (a0.toList == ByteArray.empty.toList) then false else (bif !((v16_0 2 (v15_0 (fS ((v13_0 a0 32).getD (1:Int).toNat .undef) 0)) (v15_0 (fS ((v13_0 a0 32).getD (2:Int).toNat .undef) 0)) 0).toList == a0.toList) then false else true)) else (bif decide (((v13_0 a0 32).length:Int)=4) then (bif (a0.toList == ByteArray.empty.toList) then false else (bif !((v16_0 3 (v15_0 (fS ((v13_0 a0 32).getD (1:Int).toNat .undef) 0)) (v15_0 (fS ((v13_0 a0 32).getD (3:Int).toNat .undef) 0)) 0).toList == a0.toList) then false else true)) else (bif (a0.toList == ByteArray.empty.toList) then false else (bif !((v16_0 0 0 0 0).toList == a0.toList) then false else true))))) else (bif decide (((v13_0 a0 32).length:Int)=3) then (bif (a0.toList == ByteArray.empty.toList) then false else (bif !((v16_0 2 (v15_0 (fS ((v13_0 a0 32).getD (1:Int).toNat .undef) 0)) (v15_0 (fS ((v13_0 a0 32).getD (2:Int).toNat .undef) 0)) 0).toList == a0.toList) then false else true)) else (bif decide (((v13_0 a0 32).length:Int)=4) then (bif (a0.toList == ByteArray.empty.toList) then false else (bif !((v16_0 3 (v15_0 (fS ((v13_0 a0 32).getD (1:Int).toNat .undef) 0)) (v15_0 (fS ((v13_0 a0 32).getD (3:Int).toNat .undef) 0)) 0).toList == a0.toList) then false else true)) else (bif (a0.toList == ByteArray.empty.toList) then false else (bif !((v16_0 0 0 0 0).toList == a0.toList) then false else true)))))
theorem e5 (a0:ByteArray):funA c5 0 5 [AV.str a0]=(bif q13 a0 32 then (bif decide (((v13_0 a0 32).length:Int)=4) then (bif (decide (0≤0) && decide (0<((v13_0 a0 32).length:Int))) then (bif ((fS ((v13_0 a0 32).getD (0:Int).toNat .undef) 0).toList == (ByteArray.mk #[98,101,103,105,110]).toList) then (bif (decide (0≤3) && decide (3<((v13_0 a0 32).length:Int))) then (bif q14 (fS ((v13_0 a0 32).getD (3:Int).toNat .undef) 0) then (bif (decide (0≤1) && decide (1<((v13_0 a0 32).length:Int))) then (bif q15 (fS ((v13_0 a0 32).getD (1:Int).toNat .undef) 0) then (bif (a0.toList == ByteArray.empty.toList) then some (AV.tup [AV.agg [Ai 0,Ai 0,Ai 0,Ai 0],AV.bool false])
 else (bif q16 1 (v15_0 (fS ((v13_0 a0 32).getD (1:Int).toNat .undef) 0)) (v14_0 (fS ((v13_0 a0 32).getD (3:Int).toNat .undef) 0)) (v14_1 (fS ((v13_0 a0 32).getD (3:Int).toNat .undef) 0)) then (bif !((v16_0 1 (v15_0 (fS ((v13_0 a0 32).getD (1:Int).toNat .undef) 0)) (v14_0 (fS ((v13_0 a0 32).getD (3:Int).toNat .undef) 0)) (v14_1 (fS ((v13_0 a0 32).getD (3:Int).toNat .undef) 0))).toList == a0.toList) then some (AV.tup [AV.agg [Ai 0,Ai 0,Ai 0,Ai 0],AV.bool false])
 else some (AV.tup [AV.agg [Ai 1,Ai (v15_0 (fS ((v13_0 a0 32).getD (1:Int).toNat .undef) 0)),Ai (v14_0 (fS ((v13_0 a0 32).getD (3:Int).toNat .undef) 0)),Ai (v14_1 (fS ((v13_0 a0 32).getD (3:Int).toNat .undef) 0))],AV.bool true]))
 else none))
 else none)
 else none)
 else none)
 else none)
 else (bif decide (((v13_0 a0 32).length:Int)=3) then (bif (decide (0≤1) && decide (1<((v13_0 a0 32).length:Int))) then (bif q15 (fS ((v13_0 a0 32).getD (1:Int).toNat .undef) 0) then (bif (decide (0≤2) && decide (2<((v13_0 a0 32).length:Int))) then (bif q15 (fS ((v13_0 a0 32).getD (2:Int).toNat .undef) 0) then (bif (a0.toList == ByteArray.empty.toList) then some (AV.tup [AV.agg [Ai 0,Ai 0,Ai 0,Ai 0],AV.bool false])
 else (bif q16 2 (v15_0 (fS ((v13_0 a0 32).getD (1:Int).toNat .undef) 0)) (v15_0 (fS ((v13_0 a0 32).getD (2:Int).toNat .undef) 0)) 0 then (bif !((v16_0 2 (v15_0 (fS ((v13_0 a0 32).getD (1:Int).toNat .undef) 0)) (v15_0 (fS ((v13_0 a0 32).getD (2:Int).toNat .undef) 0)) 0).toList == a0.toList) then some (AV.tup [AV.agg [Ai 0,Ai 0,Ai 0,Ai 0],AV.bool false])
 else some (AV.tup [AV.agg [Ai 2,Ai (v15_0 (fS ((v13_0 a0 32).getD (1:Int).toNat .undef) 0)),Ai (v15_0 (fS ((v13_0 a0 32).getD (2:Int).toNat .undef) 0)),Ai 0],AV.bool true]))
 else none))
 else none)
 else none)
 else none)
 else none)
 else (bif decide (((v13_0 a0 32).length:Int)=4) then (bif (decide (0≤1) && decide (1<((v13_0 a0 32).length:Int))) then (bif q15 (fS ((v13_0 a0 32).getD (1:Int).toNat .undef) 0) then (bif (decide (0≤3) && decide (3<((v13_0 a0 32).length:Int))) then (bif q15 (fS ((v13_0 a0 32).getD (3:Int).toNat .undef) 0) then (bif (a0.toList == ByteArray.empty.toList) then some (AV.tup [AV.agg [Ai 0,Ai 0,Ai 0,Ai 0],AV.bool false])
 else (bif q16 3 (v15_0 (fS ((v13_0 a0 32).getD (1:Int).toNat .undef) 0)) (v15_0 (fS ((v13_0 a0 32).getD (3:Int).toNat .undef) 0)) 0 then (bif !((v16_0 3 (v15_0 (fS ((v13_0 a0 32).getD (1:Int).toNat .undef) 0)) (v15_0 (fS ((v13_0 a0 32).getD (3:Int).toNat .undef) 0)) 0).toList == a0.toList) then some (AV.tup [AV.agg [Ai 0,Ai 0,Ai 0,Ai 0],AV.bool false])
 else some (AV.tup [AV.agg [Ai 3,Ai (v15_0 (fS ((v13_0 a0 32).getD (1:Int).toNat .undef) 0)),Ai (v15_0 (fS ((v13_0 a0 32).getD (3:Int).toNat .undef) 0)),Ai 0],AV.bool true]))
 else none))
 else none)
 else none)
 else none)
 else none)
 else (bif (a0.toList == ByteArray.empty.toList) then some (AV.tup [AV.agg [Ai 0,Ai 0,Ai 0,Ai 0],AV.bool false])
 else (bif q16 0 0 0 0 then (bif !((v16_0 0 0 0 0).toList == a0.toList) then some (AV.tup [AV.agg [Ai 0,Ai 0,Ai 0,Ai 0],AV.bool false])
 else some (AV.tup [AV.agg [Ai 0,Ai 0,Ai 0,Ai 0],AV.bool true]))
 else none)))))
 else none)
 else (bif decide (((v13_0 a0 32).length:Int)=3) then (bif (decide (0≤1) && decide (1<((v13_0 a0 32).length:Int))) then (bif q15 (fS ((v13_0 a0 32).getD (1:Int).toNat .undef) 0) then (bif (decide (0≤2) && decide (2<((v13_0 a0 32).length:Int))) then (bif q15 (fS ((v13_0 a0 32).getD (2:Int).toNat .undef) 0) then (bif (a0.toList == ByteArray.empty.toList) then some (AV.tup [AV.agg [Ai 0,Ai 0,Ai 0,Ai 0],AV.bool false])
 else (bif q16 2 (v15_0 (fS ((v13_0 a0 32).getD (1:Int).toNat .undef) 0)) (v15_0 (fS ((v13_0 a0 32).getD (2:Int).toNat .undef) 0)) 0 then (bif !((v16_0 2 (v15_0 (fS ((v13_0 a0 32).getD (1:Int).toNat .undef) 0)) (v15_0 (fS ((v13_0 a0 32).getD (2:Int).toNat .undef) 0)) 0).toList == a0.toList) then some (AV.tup [AV.agg [Ai 0,Ai 0,Ai 0,Ai 0],AV.bool false])
 else some (AV.tup [AV.agg [Ai 2,Ai (v15_0 (fS ((v13_0 a0 32).getD (1:Int).toNat .undef) 0)),Ai (v15_0 (fS ((v13_0 a0 32).getD (2:Int).toNat .undef) 0)),Ai 0],AV.bool true]))
 else none))
 else none)
 else none)
 else none)
 else none)
 else (bif decide (((v13_0 a0 32).length:Int)=4) then (bif (decide (0≤1) && decide (1<((v13_0 a0 32).length:Int))) then (bif q15 (fS ((v13_0 a0 32).getD (1:Int).toNat .undef) 0) then (bif (decide (0≤3) && decide (3<((v13_0 a0 32).length:Int))) then (bif q15 (fS ((v13_0 a0 32).getD (3:Int).toNat .undef) 0) then (bif (a0.toList == ByteArray.empty.toList) then some (AV.tup [AV.agg [Ai 0,Ai 0,Ai 0,Ai 0],AV.bool false])
 else (bif q16 3 (v15_0 (fS ((v13_0 a0 32).getD (1:Int).toNat .undef) 0)) (v15_0 (fS ((v13_0 a0 32).getD (3:Int).toNat .undef) 0)) 0 then (bif !((v16_0 3 (v15_0 (fS ((v13_0 a0 32).getD (1:Int).toNat .undef) 0)) (v15_0 (fS ((v13_0 a0 32).getD (3:Int).toNat .undef) 0)) 0).toList == a0.toList) then some (AV.tup [AV.agg [Ai 0,Ai 0,Ai 0,Ai 0],AV.bool false])
 else some (AV.tup [AV.agg [Ai 3,Ai (v15_0 (fS ((v13_0 a0 32).getD (1:Int).toNat .undef) 0)),Ai (v15_0 (fS ((v13_0 a0 32).getD (3:Int).toNat .undef) 0)),Ai 0],AV.bool true]))
 else none))
 else none)
 else none)
 else none)
 else none)
 else (bif (a0.toList == ByteArray.empty.toList) then some (AV.tup [AV.agg [Ai 0,Ai 0,Ai 0,Ai 0],AV.bool false])
 else (bif q16 0 0 0 0 then (bif !((v16_0 0 0 0 0).toList == a0.toList) then some (AV.tup [AV.agg [Ai 0,Ai 0,Ai 0,Ai 0],AV.bool false])
 else some (AV.tup [AV.agg [Ai 0,Ai 0,Ai 0,Ai 0],AV.bool true]))
 else none)))))
 else none):=by kernel_rfl
def m5:TModel
 | [.str a0]=>some (q5 a0,AV.tup [AV.agg [AV.int .i64 (v5_0 a0),AV.int .i64 (v5_1 a0),AV.int .i64 (v5_2 a0),AV.int .i64 (v5_3 a0)],AV.bool (v5_4 a0)])
 | _=>none
theorem k5:Known Tryd.prog 5:=⟨Tryd.f5,Tryd.func5,by kernel_rfl,by kernel_rfl⟩
theorem meets5:Meets Tryd.prog 5 m5:=by
 refine meet (f:=Tryd.f5) (l:=[]) (hs:=[(5,999,[2,3]),(5,1000,[0,2,5])]) (ts:=[(13,m13),(14,m14),(15,m15),(16,m16)]) (ws:=[]) (is:=[]) (ls:=[]) (lvl:=0) mixed k5 Tryd.func5 (by kernel_rfl) noLoop (allT_cons meets13 (allT_cons meets14 (allT_cons meets15 (allT_cons meets16 allT_nil)))) allM_nil noI fun w xs us r hl hv h=>?_
 unfold m5 at h
 split at h
 ·rename_i a0
  obtain ⟨h1,rfl⟩:=pair_inj h
  exact (e5 a0).trans ((brL (br (fun b=>some (AV.tup [AV.agg [Ai (bif b then (bif ((fS ((v13_0 a0 32).getD (0:Int).toNat .undef) 0).toList == (ByteArray.mk #[98,101,103,105,110]).toList) then (bif (a0.toList == ByteArray.empty.toList) then 0 else (bif !((v16_0 1 (v15_0 (fS ((v13_0 a0 32).getD (1:Int).toNat .undef) 0)) (v14_0 (fS ((v13_0 a0 32).getD (3:Int).toNat .undef) 0)) (v14_1 (fS ((v13_0 a0 32).getD (3:Int).toNat .undef) 0))).toList == a0.toList) then 0 else 1)) else (bif decide (((v13_0 a0 32).length:Int)=3) then (bif (a0.toList == ByteArray.empty.toList) then 0 else (bif !((v16_0 2 (v15_0 (fS ((v13_0 a0 32).getD (1:Int).toNat .undef) 0)) (v15_0 (fS ((v13_0 a0 32).getD (2:Int).toNat .undef) 0)) 0).toList == a0.toList) then 0 else 2)) else (bif decide (((v13_0 a0 32).length:Int)=4) then (bif (a0.toList == ByteArray.empty.toList) then 0 else (bif !((v16_0 3 (v15_0 (fS ((v13_0 a0 32).getD (1:Int).toNat .undef) 0)) (v15_0 (fS ((v13_0 a0 32).getD (3:Int).toNat .undef) 0)) 0).toList == a0.toList) then 0 else 3)) else 0))) else (bif decide (((v13_0 a0 32).length:Int)=3) then (bif (a0.toList == ByteArray.empty.toList) then 0 else (bif !((v16_0 2 (v15_0 (fS ((v13_0 a0 32).getD (1:Int).toNat .undef) 0)) (v15_0 (fS ((v13_0 a0 32).getD (2:Int).toNat .undef) 0)) 0).toList == a0.toList) then 0 else 2)) else (bif decide (((v13_0 a0 32).length:Int)=4) then (bif (a0.toList == ByteArray.empty.toList) then 0 else (bif !((v16_0 3 (v15_0 (fS ((v13_0 a0 32).getD (1:Int).toNat .undef) 0)) (v15_0 (fS ((v13_0 a0 32).getD (3:Int).toNat .undef) 0)) 0).toList == a0.toList) then 0 else 3)) else 0))),Ai (bif b then (bif ((fS ((v13_0 a0 32).getD (0:Int).toNat .undef) 0).toList == (ByteArray.mk #[98,101,103,105,110]).toList) then (bif (a0.toList == ByteArray.empty.toList) then 0 else (bif !((v16_0 1 (v15_0 (fS ((v13_0 a0 32).getD (1:Int).toNat .undef) 0)) (v14_0 (fS ((v13_0 a0 32).getD (3:Int).toNat .undef) 0)) (v14_1 (fS ((v13_0 a0 32).getD (3:Int).toNat .undef) 0))).toList == a0.toList) then 0 else (v15_0 (fS ((v13_0 a0 32).getD (1:Int).toNat .undef) 0)))) else (bif decide (((v13_0 a0 32).length:Int)=3) then (bif (a0.toList == ByteArray.empty.toList) then 0 else (bif !((v16_0 2 (v15_0 (fS ((v13_0 a0 32).getD (1:Int).toNat .undef) 0)) (v15_0 (fS ((v13_0 a0 32).getD (2:Int).toNat .undef) 0)) 0).toList == a0.toList) then 0 else (v15_0 (fS ((v13_0 a0 32).getD (1:Int).toNat .undef) 0)))) else (bif decide (((v13_0 a0 32).length:Int)=4) then (bif (a0.toList == ByteArray.empty.toList) then 0 else (bif !((v16_0 3 (v15_0 (fS ((v13_0 a0 32).getD (1:Int).toNat .undef) 0)) (v15_0 (fS ((v13_0 a0 32).getD (3:Int).toNat .undef) 0)) 0).toList == a0.toList) then 0 else (v15_0 (fS ((v13_0 a0 32).getD (1:Int).toNat .undef) 0)))) else 0))) else (bif decide (((v13_0 a0 32).length:Int)=3) then (bif (a0.toList == ByteArray.empty.toList) then 0 else (bif !((v16_0 2 (v15_0 (fS ((v13_0 a0 32).getD (1:Int).toNat .undef) 0)) (v15_0 (fS ((v13_0 a0 32).getD (2:Int).toNat .undef) 0)) 0).toList == a0.toList) then 0 else (v15_0 (fS ((v13_0 a0 32).getD (1:Int).toNat .undef) 0)))) else (bif decide (((v13_0 a0 32).length:Int)=4) then (bif (a0.toList == ByteArray.empty.toList) then 0 else (bif !((v16_0 3 (v15_0 (fS ((v13_0 a0 32).getD (1:Int).toNat .undef) 0)) (v15_0 (fS ((v13_0 a0 32).getD (3:Int).toNat .undef) 0)) 0).toList == a0.toList) then 0 else (v15_0 (fS ((v13_0 a0 32).getD (1:Int).toNat .undef) 0)))) else 0))),Ai (bif b then (bif ((fS ((v13_0 a0 32).getD (0:Int).toNat .undef) 0).toList == (ByteArray.mk #[98,101,103,105,110]).toList) then (bif (a0.toList == ByteArray.empty.toList) then 0 else (bif !((v16_0 1 (v15_0 (fS ((v13_0 a0 32).getD (1:Int).toNat .undef) 0)) (v14_0 (fS ((v13_0 a0 32).getD (3:Int).toNat .undef) 0)) (v14_1 (fS ((v13_0 a0 32).getD (3:Int).toNat .undef) 0))).toList == a0.toList) then 0 else (v14_0 (fS ((v13_0 a0 32).getD (3:Int).toNat .undef) 0)))) else (bif decide (((v13_0 a0 32).length:Int)=3) then (bif (a0.toList == ByteArray.empty.toList) then 0 else (bif !((v16_0 2 (v15_0 (fS ((v13_0 a0 32).getD (1:Int).toNat .undef) 0)) (v15_0 (fS ((v13_0 a0 32).getD (2:Int).toNat .undef) 0)) 0).toList == a0.toList) then 0 else (v15_0 (fS ((v13_0 a0 32).getD (2:Int).toNat .undef) 0)))) else (bif decide (((v13_0 a0 32).length:Int)=4) then (bif (a0.toList == ByteArray.empty.toList) then 0 else (bif !((v16_0 3 (v15_0 (fS ((v13_0 a0 32).getD (1:Int).toNat .undef) 0)) (v15_0 (fS ((v13_0 a0 32).getD (3:Int).toNat .undef) 0)) 0).toList == a0.toList) then 0 else (v15_0 (fS ((v13_0 a0 32).getD (3:Int).toNat .undef) 0)))) else 0))) else (bif decide (((v13_0 a0 32).length:Int)=3) then (bif (a0.toList == ByteArray.empty.toList) then 0 else (bif !((v16_0 2 (v15_0 (fS ((v13_0 a0 32).getD (1:Int).toNat .undef) 0)) (v15_0 (fS ((v13_0 a0 32).getD (2:Int).toNat .undef) 0)) 0).toList == a0.toList) then 0 else (v15_0 (fS ((v13_0 a0 32).getD (2:Int).toNat .undef) 0)))) else (bif decide (((v13_0 a0 32).length:Int)=4) then (bif (a0.toList == ByteArray.empty.toList) then 0 else (bif !((v16_0 3 (v15_0 (fS ((v13_0 a0 32).getD (1:Int).toNat .undef) 0)) (v15_0 (fS ((v13_0 a0 32).getD (3:Int).toNat .undef) 0)) 0).toList == a0.toList) then 0 else (v15_0 (fS ((v13_0 a0 32).getD (3:Int).toNat .undef) 0)))) else 0))),Ai (bif b then (bif ((fS ((v13_0 a0 32).getD (0:Int).toNat .undef) 0).toList == (ByteArray.mk #[98,101,103,105,110]).toList) then (bif (a0.toList == ByteArray.empty.toList) then 0 else (bif !((v16_0 1 (v15_0 (fS ((v13_0 a0 32).getD (1:Int).toNat .undef) 0)) (v14_0 (fS ((v13_0 a0 32).getD (3:Int).toNat .undef) 0)) (v14_1 (fS ((v13_0 a0 32).getD (3:Int).toNat .undef) 0))).toList == a0.toList) then 0 else (v14_1 (fS ((v13_0 a0 32).getD (3:Int).toNat .undef) 0)))) else 0) else 0)],AV.bool (bif b then (bif ((fS ((v13_0 a0 32).getD (0:Int).toNat .undef) 0).toList == (ByteArray.mk #[98,101,103,105,110]).toList) then (bif (a0.toList == ByteArray.empty.toList) then false else (bif !((v16_0 1 (v15_0 (fS ((v13_0 a0 32).getD (1:Int).toNat .undef) 0)) (v14_0 (fS ((v13_0 a0 32).getD (3:Int).toNat .undef) 0)) (v14_1 (fS ((v13_0 a0 32).getD (3:Int).toNat .undef) 0))).toList == a0.toList) then false else true)) else (bif decide (((v13_0 a0 32).length:Int)=3) then (bif (a0.toList == ByteArray.empty.toList) then false else (bif !((v16_0 2 (v15_0 (fS ((v13_0 a0 32).getD (1:Int).toNat .undef) 0)) (v15_0 (fS ((v13_0 a0 32).getD (2:Int).toNat .undef) 0)) 0).toList == a0.toList) then false else true)) else (bif decide (((v13_0 a0 32).length:Int)=4) then (bif (a0.toList == ByteArray.empty.toList) then false else (bif !((v16_0 3 (v15_0 (fS ((v13_0 a0 32).getD (1:Int).toNat .undef) 0)) (v15_0 (fS ((v13_0 a0 32).getD (3:Int).toNat .undef) 0)) 0).toList == a0.toList) then false else true)) else (bif (a0.toList == ByteArray.empty.toList) then false else (bif !((v16_0 0 0 0 0).toList == a0.toList) then false else true))))) else (bif decide (((v13_0 a0 32).length:Int)=3) then (bif (a0.toList == ByteArray.empty.toList) then false else (bif !((v16_0 2 (v15_0 (fS ((v13_0 a0 32).getD (1:Int).toNat .undef) 0)) (v15_0 (fS ((v13_0 a0 32).getD (2:Int).toNat .undef) 0)) 0).toList == a0.toList) then false else true)) else (bif decide (((v13_0 a0 32).length:Int)=4) then (bif (a0.toList == ByteArray.empty.toList) then false else (bif !((v16_0 3 (v15_0 (fS ((v13_0 a0 32).getD (1:Int).toNat .undef) 0)) (v15_0 (fS ((v13_0 a0 32).getD (3:Int).toNat .undef) 0)) 0).toList == a0.toList) then false else true)) else (bif (a0.toList == ByteArray.empty.toList) then false else (bif !((v16_0 0 0 0 0).toList == a0.toList) then false else true)))))])) (brL (br (fun b=>some (AV.tup [AV.agg [Ai (bif b then (bif (a0.toList == ByteArray.empty.toList) then 0 else (bif !((v16_0 1 (v15_0 (fS ((v13_0 a0 32).getD (1:Int).toNat .undef) 0)) (v14_0 (fS ((v13_0 a0 32).getD (3:Int).toNat .undef) 0)) (v14_1 (fS ((v13_0 a0 32).getD (3:Int).toNat .undef) 0))).toList == a0.toList) then 0 else 1)) else (bif decide (((v13_0 a0 32).length:Int)=3) then (bif (a0.toList == ByteArray.empty.toList) then 0 else (bif !((v16_0 2 (v15_0 (fS ((v13_0 a0 32).getD (1:Int).toNat .undef) 0)) (v15_0 (fS ((v13_0 a0 32).getD (2:Int).toNat .undef) 0)) 0).toList == a0.toList) then 0 else 2)) else (bif decide (((v13_0 a0 32).length:Int)=4) then (bif (a0.toList == ByteArray.empty.toList) then 0 else (bif !((v16_0 3 (v15_0 (fS ((v13_0 a0 32).getD (1:Int).toNat .undef) 0)) (v15_0 (fS ((v13_0 a0 32).getD (3:Int).toNat .undef) 0)) 0).toList == a0.toList) then 0 else 3)) else 0))),Ai (bif b then (bif (a0.toList == ByteArray.empty.toList) then 0 else (bif !((v16_0 1 (v15_0 (fS ((v13_0 a0 32).getD (1:Int).toNat .undef) 0)) (v14_0 (fS ((v13_0 a0 32).getD (3:Int).toNat .undef) 0)) (v14_1 (fS ((v13_0 a0 32).getD (3:Int).toNat .undef) 0))).toList == a0.toList) then 0 else (v15_0 (fS ((v13_0 a0 32).getD (1:Int).toNat .undef) 0)))) else (bif decide (((v13_0 a0 32).length:Int)=3) then (bif (a0.toList == ByteArray.empty.toList) then 0 else (bif !((v16_0 2 (v15_0 (fS ((v13_0 a0 32).getD (1:Int).toNat .undef) 0)) (v15_0 (fS ((v13_0 a0 32).getD (2:Int).toNat .undef) 0)) 0).toList == a0.toList) then 0 else (v15_0 (fS ((v13_0 a0 32).getD (1:Int).toNat .undef) 0)))) else (bif decide (((v13_0 a0 32).length:Int)=4) then (bif (a0.toList == ByteArray.empty.toList) then 0 else (bif !((v16_0 3 (v15_0 (fS ((v13_0 a0 32).getD (1:Int).toNat .undef) 0)) (v15_0 (fS ((v13_0 a0 32).getD (3:Int).toNat .undef) 0)) 0).toList == a0.toList) then 0 else (v15_0 (fS ((v13_0 a0 32).getD (1:Int).toNat .undef) 0)))) else 0))),Ai (bif b then (bif (a0.toList == ByteArray.empty.toList) then 0 else (bif !((v16_0 1 (v15_0 (fS ((v13_0 a0 32).getD (1:Int).toNat .undef) 0)) (v14_0 (fS ((v13_0 a0 32).getD (3:Int).toNat .undef) 0)) (v14_1 (fS ((v13_0 a0 32).getD (3:Int).toNat .undef) 0))).toList == a0.toList) then 0 else (v14_0 (fS ((v13_0 a0 32).getD (3:Int).toNat .undef) 0)))) else (bif decide (((v13_0 a0 32).length:Int)=3) then (bif (a0.toList == ByteArray.empty.toList) then 0 else (bif !((v16_0 2 (v15_0 (fS ((v13_0 a0 32).getD (1:Int).toNat .undef) 0)) (v15_0 (fS ((v13_0 a0 32).getD (2:Int).toNat .undef) 0)) 0).toList == a0.toList) then 0 else (v15_0 (fS ((v13_0 a0 32).getD (2:Int).toNat .undef) 0)))) else (bif decide (((v13_0 a0 32).length:Int)=4) then (bif (a0.toList == ByteArray.empty.toList) then 0 else (bif !((v16_0 3 (v15_0 (fS ((v13_0 a0 32).getD (1:Int).toNat .undef) 0)) (v15_0 (fS ((v13_0 a0 32).getD (3:Int).toNat .undef) 0)) 0).toList == a0.toList) then 0 else (v15_0 (fS ((v13_0 a0 32).getD (3:Int).toNat .undef) 0)))) else 0))),Ai (bif b then (bif (a0.toList == ByteArray.empty.toList) then 0 else (bif !((v16_0 1 (v15_0 (fS ((v13_0 a0 32).getD (1:Int).toNat .undef) 0)) (v14_0 (fS ((v13_0 a0 32).getD (3:Int).toNat .undef) 0)) (v14_1 (fS ((v13_0 a0 32).getD (3:Int).toNat .undef) 0))).toList == a0.toList) then 0 else (v14_1 (fS ((v13_0 a0 32).getD (3:Int).toNat .undef) 0)))) else 0)],AV.bool (bif b then (bif (a0.toList == ByteArray.empty.toList) then false else (bif !((v16_0 1 (v15_0 (fS ((v13_0 a0 32).getD (1:Int).toNat .undef) 0)) (v14_0 (fS ((v13_0 a0 32).getD (3:Int).toNat .undef) 0)) (v14_1 (fS ((v13_0 a0 32).getD (3:Int).toNat .undef) 0))).toList == a0.toList) then false else true)) else (bif decide (((v13_0 a0 32).length:Int)=3) then (bif (a0.toList == ByteArray.empty.toList) then false else (bif !((v16_0 2 (v15_0 (fS ((v13_0 a0 32).getD (1:Int).toNat .undef) 0)) (v15_0 (fS ((v13_0 a0 32).getD (2:Int).toNat .undef) 0)) 0).toList == a0.toList) then false else true)) else (bif decide (((v13_0 a0 32).length:Int)=4) then (bif (a0.toList == ByteArray.empty.toList) then false else (bif !((v16_0 3 (v15_0 (fS ((v13_0 a0 32).getD (1:Int).toNat .undef) 0)) (v15_0 (fS ((v13_0 a0 32).getD (3:Int).toNat .undef) 0)) 0).toList == a0.toList) then false else true)) else (bif (a0.toList == ByteArray.empty.toList) then false else (bif !((v16_0 0 0 0 0).toList == a0.toList) then false else true)))))])) (brL (brL (brL (brL (br (fun b=>some (AV.tup [AV.agg [Ai (bif b then 0 else (bif !((v16_0 1 (v15_0 (fS ((v13_0 a0 32).getD (1:Int).toNat .undef) 0)) (v14_0 (fS ((v13_0 a0 32).getD (3:Int).toNat .undef) 0)) (v14_1 (fS ((v13_0 a0 32).getD (3:Int).toNat .undef) 0))).toList == a0.toList) then 0 else 1)),Ai (bif b then 0 else (bif !((v16_0 1 (v15_0 (fS ((v13_0 a0 32).getD (1:Int).toNat .undef) 0)) (v14_0 (fS ((v13_0 a0 32).getD (3:Int).toNat .undef) 0)) (v14_1 (fS ((v13_0 a0 32).getD (3:Int).toNat .undef) 0))).toList == a0.toList) then 0 else (v15_0 (fS ((v13_0 a0 32).getD (1:Int).toNat .undef) 0)))),Ai (bif b then 0 else (bif !((v16_0 1 (v15_0 (fS ((v13_0 a0 32).getD (1:Int).toNat .undef) 0)) (v14_0 (fS ((v13_0 a0 32).getD (3:Int).toNat .undef) 0)) (v14_1 (fS ((v13_0 a0 32).getD (3:Int).toNat .undef) 0))).toList == a0.toList) then 0 else (v14_0 (fS ((v13_0 a0 32).getD (3:Int).toNat .undef) 0)))),Ai (bif b then 0 else (bif !((v16_0 1 (v15_0 (fS ((v13_0 a0 32).getD (1:Int).toNat .undef) 0)) (v14_0 (fS ((v13_0 a0 32).getD (3:Int).toNat .undef) 0)) (v14_1 (fS ((v13_0 a0 32).getD (3:Int).toNat .undef) 0))).toList == a0.toList) then 0 else (v14_1 (fS ((v13_0 a0 32).getD (3:Int).toNat .undef) 0))))],AV.bool (bif b then false else (bif !((v16_0 1 (v15_0 (fS ((v13_0 a0 32).getD (1:Int).toNat .undef) 0)) (v14_0 (fS ((v13_0 a0 32).getD (3:Int).toNat .undef) 0)) (v14_1 (fS ((v13_0 a0 32).getD (3:Int).toNat .undef) 0))).toList == a0.toList) then false else true))])) (fun _=>rfl) (brL1 (brT (fun b=>some (AV.tup [AV.agg [Ai (bif b then 0 else 1),Ai (bif b then 0 else (v15_0 (fS ((v13_0 a0 32).getD (1:Int).toNat .undef) 0))),Ai (bif b then 0 else (v14_0 (fS ((v13_0 a0 32).getD (3:Int).toNat .undef) 0))),Ai (bif b then 0 else (v14_1 (fS ((v13_0 a0 32).getD (3:Int).toNat .undef) 0)))],AV.bool (bif b then false else true)])) (fun _=>rfl) (fun _=>rfl)))))))) (br (fun b=>some (AV.tup [AV.agg [Ai (bif b then (bif (a0.toList == ByteArray.empty.toList) then 0 else (bif !((v16_0 2 (v15_0 (fS ((v13_0 a0 32).getD (1:Int).toNat .undef) 0)) (v15_0 (fS ((v13_0 a0 32).getD (2:Int).toNat .undef) 0)) 0).toList == a0.toList) then 0 else 2)) else (bif decide (((v13_0 a0 32).length:Int)=4) then (bif (a0.toList == ByteArray.empty.toList) then 0 else (bif !((v16_0 3 (v15_0 (fS ((v13_0 a0 32).getD (1:Int).toNat .undef) 0)) (v15_0 (fS ((v13_0 a0 32).getD (3:Int).toNat .undef) 0)) 0).toList == a0.toList) then 0 else 3)) else 0)),Ai (bif b then (bif (a0.toList == ByteArray.empty.toList) then 0 else (bif !((v16_0 2 (v15_0 (fS ((v13_0 a0 32).getD (1:Int).toNat .undef) 0)) (v15_0 (fS ((v13_0 a0 32).getD (2:Int).toNat .undef) 0)) 0).toList == a0.toList) then 0 else (v15_0 (fS ((v13_0 a0 32).getD (1:Int).toNat .undef) 0)))) else (bif decide (((v13_0 a0 32).length:Int)=4) then (bif (a0.toList == ByteArray.empty.toList) then 0 else (bif !((v16_0 3 (v15_0 (fS ((v13_0 a0 32).getD (1:Int).toNat .undef) 0)) (v15_0 (fS ((v13_0 a0 32).getD (3:Int).toNat .undef) 0)) 0).toList == a0.toList) then 0 else (v15_0 (fS ((v13_0 a0 32).getD (1:Int).toNat .undef) 0)))) else 0)),Ai (bif b then (bif (a0.toList == ByteArray.empty.toList) then 0 else (bif !((v16_0 2 (v15_0 (fS ((v13_0 a0 32).getD (1:Int).toNat .undef) 0)) (v15_0 (fS ((v13_0 a0 32).getD (2:Int).toNat .undef) 0)) 0).toList == a0.toList) then 0 else (v15_0 (fS ((v13_0 a0 32).getD (2:Int).toNat .undef) 0)))) else (bif decide (((v13_0 a0 32).length:Int)=4) then (bif (a0.toList == ByteArray.empty.toList) then 0 else (bif !((v16_0 3 (v15_0 (fS ((v13_0 a0 32).getD (1:Int).toNat .undef) 0)) (v15_0 (fS ((v13_0 a0 32).getD (3:Int).toNat .undef) 0)) 0).toList == a0.toList) then 0 else (v15_0 (fS ((v13_0 a0 32).getD (3:Int).toNat .undef) 0)))) else 0)),Ai 0],AV.bool (bif b then (bif (a0.toList == ByteArray.empty.toList) then false else (bif !((v16_0 2 (v15_0 (fS ((v13_0 a0 32).getD (1:Int).toNat .undef) 0)) (v15_0 (fS ((v13_0 a0 32).getD (2:Int).toNat .undef) 0)) 0).toList == a0.toList) then false else true)) else (bif decide (((v13_0 a0 32).length:Int)=4) then (bif (a0.toList == ByteArray.empty.toList) then false else (bif !((v16_0 3 (v15_0 (fS ((v13_0 a0 32).getD (1:Int).toNat .undef) 0)) (v15_0 (fS ((v13_0 a0 32).getD (3:Int).toNat .undef) 0)) 0).toList == a0.toList) then false else true)) else (bif (a0.toList == ByteArray.empty.toList) then false else (bif !((v16_0 0 0 0 0).toList == a0.toList) then false else true))))])) (brL (brL (brL (brL (br (fun b=>some (AV.tup [AV.agg [Ai (bif b then 0 else (bif !((v16_0 2 (v15_0 (fS ((v13_0 a0 32).getD (1:Int).toNat .undef) 0)) (v15_0 (fS ((v13_0 a0 32).getD (2:Int).toNat .undef) 0)) 0).toList == a0.toList) then 0 else 2)),Ai (bif b then 0 else (bif !((v16_0 2 (v15_0 (fS ((v13_0 a0 32).getD (1:Int).toNat .undef) 0)) (v15_0 (fS ((v13_0 a0 32).getD (2:Int).toNat .undef) 0)) 0).toList == a0.toList) then 0 else (v15_0 (fS ((v13_0 a0 32).getD (1:Int).toNat .undef) 0)))),Ai (bif b then 0 else (bif !((v16_0 2 (v15_0 (fS ((v13_0 a0 32).getD (1:Int).toNat .undef) 0)) (v15_0 (fS ((v13_0 a0 32).getD (2:Int).toNat .undef) 0)) 0).toList == a0.toList) then 0 else (v15_0 (fS ((v13_0 a0 32).getD (2:Int).toNat .undef) 0)))),Ai 0],AV.bool (bif b then false else (bif !((v16_0 2 (v15_0 (fS ((v13_0 a0 32).getD (1:Int).toNat .undef) 0)) (v15_0 (fS ((v13_0 a0 32).getD (2:Int).toNat .undef) 0)) 0).toList == a0.toList) then false else true))])) (fun _=>rfl) (brL1 (brT (fun b=>some (AV.tup [AV.agg [Ai (bif b then 0 else 2),Ai (bif b then 0 else (v15_0 (fS ((v13_0 a0 32).getD (1:Int).toNat .undef) 0))),Ai (bif b then 0 else (v15_0 (fS ((v13_0 a0 32).getD (2:Int).toNat .undef) 0))),Ai 0],AV.bool (bif b then false else true)])) (fun _=>rfl) (fun _=>rfl)))))))) (br (fun b=>some (AV.tup [AV.agg [Ai (bif b then (bif (a0.toList == ByteArray.empty.toList) then 0 else (bif !((v16_0 3 (v15_0 (fS ((v13_0 a0 32).getD (1:Int).toNat .undef) 0)) (v15_0 (fS ((v13_0 a0 32).getD (3:Int).toNat .undef) 0)) 0).toList == a0.toList) then 0 else 3)) else 0),Ai (bif b then (bif (a0.toList == ByteArray.empty.toList) then 0 else (bif !((v16_0 3 (v15_0 (fS ((v13_0 a0 32).getD (1:Int).toNat .undef) 0)) (v15_0 (fS ((v13_0 a0 32).getD (3:Int).toNat .undef) 0)) 0).toList == a0.toList) then 0 else (v15_0 (fS ((v13_0 a0 32).getD (1:Int).toNat .undef) 0)))) else 0),Ai (bif b then (bif (a0.toList == ByteArray.empty.toList) then 0 else (bif !((v16_0 3 (v15_0 (fS ((v13_0 a0 32).getD (1:Int).toNat .undef) 0)) (v15_0 (fS ((v13_0 a0 32).getD (3:Int).toNat .undef) 0)) 0).toList == a0.toList) then 0 else (v15_0 (fS ((v13_0 a0 32).getD (3:Int).toNat .undef) 0)))) else 0),Ai 0],AV.bool (bif b then (bif (a0.toList == ByteArray.empty.toList) then false else (bif !((v16_0 3 (v15_0 (fS ((v13_0 a0 32).getD (1:Int).toNat .undef) 0)) (v15_0 (fS ((v13_0 a0 32).getD (3:Int).toNat .undef) 0)) 0).toList == a0.toList) then false else true)) else (bif (a0.toList == ByteArray.empty.toList) then false else (bif !((v16_0 0 0 0 0).toList == a0.toList) then false else true)))])) (brL (brL (brL (brL (br (fun b=>some (AV.tup [AV.agg [Ai (bif b then 0 else (bif !((v16_0 3 (v15_0 (fS ((v13_0 a0 32).getD (1:Int).toNat .undef) 0)) (v15_0 (fS ((v13_0 a0 32).getD (3:Int).toNat .undef) 0)) 0).toList == a0.toList) then 0 else 3)),Ai (bif b then 0 else (bif !((v16_0 3 (v15_0 (fS ((v13_0 a0 32).getD (1:Int).toNat .undef) 0)) (v15_0 (fS ((v13_0 a0 32).getD (3:Int).toNat .undef) 0)) 0).toList == a0.toList) then 0 else (v15_0 (fS ((v13_0 a0 32).getD (1:Int).toNat .undef) 0)))),Ai (bif b then 0 else (bif !((v16_0 3 (v15_0 (fS ((v13_0 a0 32).getD (1:Int).toNat .undef) 0)) (v15_0 (fS ((v13_0 a0 32).getD (3:Int).toNat .undef) 0)) 0).toList == a0.toList) then 0 else (v15_0 (fS ((v13_0 a0 32).getD (3:Int).toNat .undef) 0)))),Ai 0],AV.bool (bif b then false else (bif !((v16_0 3 (v15_0 (fS ((v13_0 a0 32).getD (1:Int).toNat .undef) 0)) (v15_0 (fS ((v13_0 a0 32).getD (3:Int).toNat .undef) 0)) 0).toList == a0.toList) then false else true))])) (fun _=>rfl) (brL1 (brT (fun b=>some (AV.tup [AV.agg [Ai (bif b then 0 else 3),Ai (bif b then 0 else (v15_0 (fS ((v13_0 a0 32).getD (1:Int).toNat .undef) 0))),Ai (bif b then 0 else (v15_0 (fS ((v13_0 a0 32).getD (3:Int).toNat .undef) 0))),Ai 0],AV.bool (bif b then false else true)])) (fun _=>rfl) (fun _=>rfl)))))))) (br (fun b=>some (AV.tup [AV.agg [Ai 0,Ai 0,Ai 0,Ai 0],AV.bool (bif b then false else (bif !((v16_0 0 0 0 0).toList == a0.toList) then false else true))])) (fun _=>rfl) (brL1 (brT (fun b=>some (AV.tup [AV.agg [Ai 0,Ai 0,Ai 0,Ai 0],AV.bool (bif b then false else true)])) (fun _=>rfl) (fun _=>rfl)))))))) (br (fun b=>some (AV.tup [AV.agg [Ai (bif b then (bif (a0.toList == ByteArray.empty.toList) then 0 else (bif !((v16_0 2 (v15_0 (fS ((v13_0 a0 32).getD (1:Int).toNat .undef) 0)) (v15_0 (fS ((v13_0 a0 32).getD (2:Int).toNat .undef) 0)) 0).toList == a0.toList) then 0 else 2)) else (bif decide (((v13_0 a0 32).length:Int)=4) then (bif (a0.toList == ByteArray.empty.toList) then 0 else (bif !((v16_0 3 (v15_0 (fS ((v13_0 a0 32).getD (1:Int).toNat .undef) 0)) (v15_0 (fS ((v13_0 a0 32).getD (3:Int).toNat .undef) 0)) 0).toList == a0.toList) then 0 else 3)) else 0)),Ai (bif b then (bif (a0.toList == ByteArray.empty.toList) then 0 else (bif !((v16_0 2 (v15_0 (fS ((v13_0 a0 32).getD (1:Int).toNat .undef) 0)) (v15_0 (fS ((v13_0 a0 32).getD (2:Int).toNat .undef) 0)) 0).toList == a0.toList) then 0 else (v15_0 (fS ((v13_0 a0 32).getD (1:Int).toNat .undef) 0)))) else (bif decide (((v13_0 a0 32).length:Int)=4) then (bif (a0.toList == ByteArray.empty.toList) then 0 else (bif !((v16_0 3 (v15_0 (fS ((v13_0 a0 32).getD (1:Int).toNat .undef) 0)) (v15_0 (fS ((v13_0 a0 32).getD (3:Int).toNat .undef) 0)) 0).toList == a0.toList) then 0 else (v15_0 (fS ((v13_0 a0 32).getD (1:Int).toNat .undef) 0)))) else 0)),Ai (bif b then (bif (a0.toList == ByteArray.empty.toList) then 0 else (bif !((v16_0 2 (v15_0 (fS ((v13_0 a0 32).getD (1:Int).toNat .undef) 0)) (v15_0 (fS ((v13_0 a0 32).getD (2:Int).toNat .undef) 0)) 0).toList == a0.toList) then 0 else (v15_0 (fS ((v13_0 a0 32).getD (2:Int).toNat .undef) 0)))) else (bif decide (((v13_0 a0 32).length:Int)=4) then (bif (a0.toList == ByteArray.empty.toList) then 0 else (bif !((v16_0 3 (v15_0 (fS ((v13_0 a0 32).getD (1:Int).toNat .undef) 0)) (v15_0 (fS ((v13_0 a0 32).getD (3:Int).toNat .undef) 0)) 0).toList == a0.toList) then 0 else (v15_0 (fS ((v13_0 a0 32).getD (3:Int).toNat .undef) 0)))) else 0)),Ai 0],AV.bool (bif b then (bif (a0.toList == ByteArray.empty.toList) then false else (bif !((v16_0 2 (v15_0 (fS ((v13_0 a0 32).getD (1:Int).toNat .undef) 0)) (v15_0 (fS ((v13_0 a0 32).getD (2:Int).toNat .undef) 0)) 0).toList == a0.toList) then false else true)) else (bif decide (((v13_0 a0 32).length:Int)=4) then (bif (a0.toList == ByteArray.empty.toList) then false else (bif !((v16_0 3 (v15_0 (fS ((v13_0 a0 32).getD (1:Int).toNat .undef) 0)) (v15_0 (fS ((v13_0 a0 32).getD (3:Int).toNat .undef) 0)) 0).toList == a0.toList) then false else true)) else (bif (a0.toList == ByteArray.empty.toList) then false else (bif !((v16_0 0 0 0 0).toList == a0.toList) then false else true))))])) (brL (brL (brL (brL (br (fun b=>some (AV.tup [AV.agg [Ai (bif b then 0 else (bif !((v16_0 2 (v15_0 (fS ((v13_0 a0 32).getD (1:Int).toNat .undef) 0)) (v15_0 (fS ((v13_0 a0 32).getD (2:Int).toNat .undef) 0)) 0).toList == a0.toList) then 0 else 2)),Ai (bif b then 0 else (bif !((v16_0 2 (v15_0 (fS ((v13_0 a0 32).getD (1:Int).toNat .undef) 0)) (v15_0 (fS ((v13_0 a0 32).getD (2:Int).toNat .undef) 0)) 0).toList == a0.toList) then 0 else (v15_0 (fS ((v13_0 a0 32).getD (1:Int).toNat .undef) 0)))),Ai (bif b then 0 else (bif !((v16_0 2 (v15_0 (fS ((v13_0 a0 32).getD (1:Int).toNat .undef) 0)) (v15_0 (fS ((v13_0 a0 32).getD (2:Int).toNat .undef) 0)) 0).toList == a0.toList) then 0 else (v15_0 (fS ((v13_0 a0 32).getD (2:Int).toNat .undef) 0)))),Ai 0],AV.bool (bif b then false else (bif !((v16_0 2 (v15_0 (fS ((v13_0 a0 32).getD (1:Int).toNat .undef) 0)) (v15_0 (fS ((v13_0 a0 32).getD (2:Int).toNat .undef) 0)) 0).toList == a0.toList) then false else true))])) (fun _=>rfl) (brL1 (brT (fun b=>some (AV.tup [AV.agg [Ai (bif b then 0 else 2),Ai (bif b then 0 else (v15_0 (fS ((v13_0 a0 32).getD (1:Int).toNat .undef) 0))),Ai (bif b then 0 else (v15_0 (fS ((v13_0 a0 32).getD (2:Int).toNat .undef) 0))),Ai 0],AV.bool (bif b then false else true)])) (fun _=>rfl) (fun _=>rfl)))))))) (br (fun b=>some (AV.tup [AV.agg [Ai (bif b then (bif (a0.toList == ByteArray.empty.toList) then 0 else (bif !((v16_0 3 (v15_0 (fS ((v13_0 a0 32).getD (1:Int).toNat .undef) 0)) (v15_0 (fS ((v13_0 a0 32).getD (3:Int).toNat .undef) 0)) 0).toList == a0.toList) then 0 else 3)) else 0),Ai (bif b then (bif (a0.toList == ByteArray.empty.toList) then 0 else (bif !((v16_0 3 (v15_0 (fS ((v13_0 a0 32).getD (1:Int).toNat .undef) 0)) (v15_0 (fS ((v13_0 a0 32).getD (3:Int).toNat .undef) 0)) 0).toList == a0.toList) then 0 else (v15_0 (fS ((v13_0 a0 32).getD (1:Int).toNat .undef) 0)))) else 0),Ai (bif b then (bif (a0.toList == ByteArray.empty.toList) then 0 else (bif !((v16_0 3 (v15_0 (fS ((v13_0 a0 32).getD (1:Int).toNat .undef) 0)) (v15_0 (fS ((v13_0 a0 32).getD (3:Int).toNat .undef) 0)) 0).toList == a0.toList) then 0 else (v15_0 (fS ((v13_0 a0 32).getD (3:Int).toNat .undef) 0)))) else 0),Ai 0],AV.bool (bif b then (bif (a0.toList == ByteArray.empty.toList) then false else (bif !((v16_0 3 (v15_0 (fS ((v13_0 a0 32).getD (1:Int).toNat .undef) 0)) (v15_0 (fS ((v13_0 a0 32).getD (3:Int).toNat .undef) 0)) 0).toList == a0.toList) then false else true)) else (bif (a0.toList == ByteArray.empty.toList) then false else (bif !((v16_0 0 0 0 0).toList == a0.toList) then false else true)))])) (brL (brL (brL (brL (br (fun b=>some (AV.tup [AV.agg [Ai (bif b then 0 else (bif !((v16_0 3 (v15_0 (fS ((v13_0 a0 32).getD (1:Int).toNat .undef) 0)) (v15_0 (fS ((v13_0 a0 32).getD (3:Int).toNat .undef) 0)) 0).toList == a0.toList) then 0 else 3)),Ai (bif b then 0 else (bif !((v16_0 3 (v15_0 (fS ((v13_0 a0 32).getD (1:Int).toNat .undef) 0)) (v15_0 (fS ((v13_0 a0 32).getD (3:Int).toNat .undef) 0)) 0).toList == a0.toList) then 0 else (v15_0 (fS ((v13_0 a0 32).getD (1:Int).toNat .undef) 0)))),Ai (bif b then 0 else (bif !((v16_0 3 (v15_0 (fS ((v13_0 a0 32).getD (1:Int).toNat .undef) 0)) (v15_0 (fS ((v13_0 a0 32).getD (3:Int).toNat .undef) 0)) 0).toList == a0.toList) then 0 else (v15_0 (fS ((v13_0 a0 32).getD (3:Int).toNat .undef) 0)))),Ai 0],AV.bool (bif b then false else (bif !((v16_0 3 (v15_0 (fS ((v13_0 a0 32).getD (1:Int).toNat .undef) 0)) (v15_0 (fS ((v13_0 a0 32).getD (3:Int).toNat .undef) 0)) 0).toList == a0.toList) then false else true))])) (fun _=>rfl) (brL1 (brT (fun b=>some (AV.tup [AV.agg [Ai (bif b then 0 else 3),Ai (bif b then 0 else (v15_0 (fS ((v13_0 a0 32).getD (1:Int).toNat .undef) 0))),Ai (bif b then 0 else (v15_0 (fS ((v13_0 a0 32).getD (3:Int).toNat .undef) 0))),Ai 0],AV.bool (bif b then false else true)])) (fun _=>rfl) (fun _=>rfl)))))))) (br (fun b=>some (AV.tup [AV.agg [Ai 0,Ai 0,Ai 0,Ai 0],AV.bool (bif b then false else (bif !((v16_0 0 0 0 0).toList == a0.toList) then false else true))])) (fun _=>rfl) (brL1 (brT (fun b=>some (AV.tup [AV.agg [Ai 0,Ai 0,Ai 0,Ai 0],AV.bool (bif b then false else true)])) (fun _=>rfl) (fun _=>rfl)))))))) h1)
 ·cases h
def q17 (a0 a1:ByteArray):Bool:=decide (a0.size<4294967281) && decide (1≤a1.size)
def v17_0 (a0 a1:ByteArray):List AV:=splitL a0 a1
def m17:TModel:=splitM
theorem k17:Known Tryd.prog 17:=⟨Tryd.f17,Tryd.func17,by kernel_rfl,by kernel_rfl⟩
theorem meets17:Meets Tryd.prog 17 m17:=split_meets (splitWalk k17)
def q18 (a0:ByteArray):Bool:=decide (a0.size≤281474976710656)
def v18_0 (a0:ByteArray):Int:=(pintN a0).getD 0
def v18_1 (a0:ByteArray):Bool:=(pintN a0).isSome
def m18:TModel:=pintM
theorem k18:Known Tryd.prog 18:=⟨Tryd.f18,Tryd.func18,by kernel_rfl,by kernel_rfl⟩
theorem meets18:Meets Tryd.prog 18 m18:=pint_meets (pintWalk k18)
def q40 (a0:Int):Bool:=decide (-9223372036854775808≤a0) && decide (a0≤9223372036854775807)
def v40_0 (a0:Int):ByteArray:=itoaB a0
def m40:TModel:=itoaM
theorem k40:Known Tryd.prog 40:=⟨Tryd.f40,Tryd.func40,by kernel_rfl,by kernel_rfl⟩
theorem meets40:Meets Tryd.prog 40 m40:=itoa_meets ⟨k40,fun n w h0 h1 hG=>Any.strconv_Itoa lays171 n h0 h1 w (show GOk w from hG).tab⟩
noncomputable def c29:Cfg:=cfg Tryd.prog [(29,999,[2])] [(40,m40)] [] [] []
def q29 (a0:Int):Bool:=q40 a0
def v29_0 (a0:Int):ByteArray:=(v40_0 a0)
theorem e29 (a0:Int):funA c29 0 29 [Ai a0]=(bif q40 a0 then some (AV.str (v40_0 a0))
 else none):=by kernel_rfl
def m29:TModel
 | [.int .i64 a0]=>some (q29 a0,AV.str (v29_0 a0))
 | _=>none
theorem k29:Known Tryd.prog 29:=⟨Tryd.f29,Tryd.func29,by kernel_rfl,by kernel_rfl⟩
theorem meets29:Meets Tryd.prog 29 m29:=by
 refine meet (f:=Tryd.f29) (l:=[]) (hs:=[(29,999,[2])]) (ts:=[(40,m40)]) (ws:=[]) (is:=[]) (ls:=[]) (lvl:=0) mixed k29 Tryd.func29 (by kernel_rfl) noLoop (allT_cons meets40 allT_nil) allM_nil noI fun w xs us r hl hv h=>?_
 unfold m29 at h
 split at h
 ·rename_i a0
  obtain ⟨h1,rfl⟩:=pair_inj h
  exact (e29 a0).trans ((brL1 (fun _=>rfl)) h1)
 ·cases h
noncomputable def c30:Cfg:=cfg Tryd.prog [(30,999,[2])] [] [] [] []
def q30 (a0:Int):Bool:=true
def v30_0 (a0:Int):Bool:=(bif decide (a0 ≥ (-1000)) then decide (a0≤1000) else false)
theorem e30 (a0:Int):funA c30 0 30 [Ai a0]=(bif decide (a0 ≥ (-1000)) then some (AV.bool (decide (a0≤1000)))
 else some (AV.bool false)):=by kernel_rfl
def m30:TModel
 | [.int .i64 a0]=>some (true,AV.bool (v30_0 a0))
 | _=>none
theorem k30:Known Tryd.prog 30:=⟨Tryd.f30,Tryd.func30,by kernel_rfl,by kernel_rfl⟩
theorem meets30:Meets Tryd.prog 30 m30:=by
 refine meet (f:=Tryd.f30) (l:=[]) (hs:=[(30,999,[2])]) (ts:=[]) (ws:=[]) (is:=[]) (ls:=[]) (lvl:=0) mixed k30 Tryd.func30 (by kernel_rfl) noLoop allT_nil allM_nil noI fun w xs us r hl hv h=>?_
 unfold m30 at h
 split at h
 ·rename_i a0
  obtain ⟨h1,rfl⟩:=pair_inj h
  exact (e30 a0).trans (of_tt (brT (fun b=>some (AV.bool (bif b then decide (a0≤1000) else false))) (fun _=>rfl) (fun _=>rfl)))
 ·cases h
end Go.Proofs.YtcondihilccdpaaDoor
