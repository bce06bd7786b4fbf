import Derived.Test.YtcondihilccdpaaDoorVEzc
import Derived.Test.YtcondihilccdpaaDoorLAY9a
import Derived.Test.YtcondihilccdpaaDoorLIB9
import Derived.Test.YtcondihilccdpaaDoorGL9
import Derived.Test.YtcondihilccdpaaDoorProg
import Derived.KernelRfl
namespace Go.Proofs.YtcondihilccdpaaDoor
open Go Go.Proofs.VE
set_option linter.unusedVariables false
set_option linter.unusedSimpArgs false
set_option maxRecDepth 100000
set_option maxHeartbeats 4000000
theorem mixed:Tryd.prog.follows .mixedOrders=true:=by kernel_rfl
def F13_0 (t0:ByteArray) (t1:Int) (t6:ByteArray) (t7:Int) (h0:List AV):Out ((ByteArray × Int × (List AV))) ((ByteArray × (List AV))):=(bif decide (t7<(t0.size:Int)) then (bif (decide (0≤t7) && decide (t7<(t0.size:Int))) then (bif decide (strAt t0 t7.toNat=t1) then (bif (decide ((h0.length+([AV.str t6]).length)*16≤140737488355328) && decide ((h0.length+([AV.str t6]).length)≤140737488355328)) then .next (ByteArray.empty,IntKind.i64.wrap (t7+1),h0++([AV.str t6]))
 else .fail)
 else (bif (decide (0≤t7) && decide (t7≤IntKind.i64.wrap (t7+1)) && decide (IntKind.i64.wrap (t7+1)≤(t0.size:Int))) then (bif decide (t6.size+(t0.extract (Int.toNat t7) (Int.toNat (IntKind.i64.wrap (t7+1)))).size≤4611686018427387904) then .next (t6++(t0.extract (Int.toNat t7) (Int.toNat (IntKind.i64.wrap (t7+1)))),IntKind.i64.wrap (t7+1),h0)
 else .fail)
 else .fail))
 else .fail)
 else .stop (t6,h0))
def R13_0 (t0:ByteArray) (t1:Int):((ByteArray × Int × (List AV)))→Out ((ByteArray × Int × (List AV))) ((ByteArray × (List AV))):=fun s:ByteArray × Int × (List AV)=>F13_0 t0 t1 s.1 s.2.1 s.2.2
def E13_0 (t0:ByteArray) (t1:Int):((ByteArray × Int × (List AV)))→St:=fun s:ByteArray × Int × (List AV)=>⟨[(0,AV.str t0),(1,AV.int .u8 t1),(5,AV.own [0,5]),(6,AV.str s.1),(7,Ai s.2.1)],[([0,5],⟨false,[.str],s.2.2⟩)]⟩
def K13_0 (k:Kont):((ByteArray × (List AV)))→Option AV:=fun p:ByteArray × (List AV)=>k (.exit 0) ⟨[(5,AV.own [0,5]),(6,AV.str p.1)],[([0,5],⟨false,[.str],p.2⟩)]⟩
def l13_0:LModel:=fun _ _ st k=>match st with
 | ⟨[(0,.str t0),(1,.int .u8 t1),(5,.own g0),(6,.str t6),(7,.int .i64 t7)],[(g1,⟨false,g2,h0⟩)]⟩=>bif nmEq g0 ([0,5]) && nmEq g1 ([0,5]) && ctsEq g2 ([.str]) then ro (runW (R13_0 t0 t1) (((t0.size:Int) - t7:Int).toNat+1) (t6,t7,h0)) none (K13_0 k) else none
 | _=>none
noncomputable def c13:Cfg:=cfg Tryd.prog [(13,0,[0,1,5,6,7]),(13,999,[4]),(13,1000,[5,6]),(13,1001,[0,1,5,6,7])] [] [] [] [(13,0,l13_0)]
theorem s13_0 (ce:CallE) (t0:ByteArray) (t1:Int) (t6:ByteArray) (t7:Int) (h0:List AV) (next:St→Option AV) (k:Kont):stepA (codeA c13 ce [] 13 0 (sub [1,1,1,0,1,0,0] (body Tryd.f13))) (normA [] [0,1,5,6,7]) next ⟨[(0,AV.str t0),(1,AV.int .u8 t1),(5,AV.own [0,5]),(6,AV.str t6),(7,Ai t7)],[([0,5],⟨false,[.str],h0⟩)]⟩ k=(bif decide (t7<(t0.size:Int)) then (bif (decide (0≤t7) && decide (t7<(t0.size:Int))) then (bif decide (strAt t0 t7.toNat=t1) then (bif (decide ((h0.length+([AV.str t6]).length)*16≤140737488355328) && decide ((h0.length+([AV.str t6]).length)≤140737488355328)) then next ⟨[(0,AV.str t0),(1,AV.int .u8 t1),(5,AV.own [0,5]),(6,AV.str ByteArray.empty),(7,Ai (IntKind.i64.wrap (t7+1)))],[([0,5],⟨false,[.str],h0++([AV.str t6])⟩)]⟩
 else none)
 else (bif (decide (0≤t7) && decide (t7≤IntKind.i64.wrap (t7+1)) && decide (IntKind.i64.wrap (t7+1)≤(t0.size:Int))) then (bif decide (t6.size+(t0.extract (Int.toNat t7) (Int.toNat (IntKind.i64.wrap (t7+1)))).size≤4611686018427387904) then next ⟨[(0,AV.str t0),(1,AV.int .u8 t1),(5,AV.own [0,5]),(6,AV.str (t6++(t0.extract (Int.toNat t7) (Int.toNat (IntKind.i64.wrap (t7+1)))))),(7,Ai (IntKind.i64.wrap (t7+1)))],[([0,5],⟨false,[.str],h0⟩)]⟩
 else none)
 else none))
 else none)
 else k (.exit 0) ⟨[(5,AV.own [0,5]),(6,AV.str t6)],[([0,5],⟨false,[.str],h0⟩)]⟩):=by kernel_rfl
theorem st13_0 (t0:ByteArray) (t1:Int) (ce:CallE) (k:Kont) (s:(ByteArray × Int × (List AV))) (next:St→Option AV):stepA (codeA c13 ce [] 13 0 (sub [1,1,1,0,1,0,0] (body Tryd.f13))) (normA [] [0,1,5,6,7]) next ((E13_0 t0 t1) s) k=(R13_0 t0 t1 s).el none (fun s=>next ((E13_0 t0 t1) s)) (K13_0 k):=(s13_0 ce t0 t1 s.1 s.2.1 s.2.2 next k).trans (by unfold R13_0;unfold F13_0;simp only [el_cond,el_ro,el_sum,el_fail,el_next,el_stop] <;> rfl)
theorem ok13_0 {ce:CallE}:LoopOK c13 ce [] 13 0 (sub [1,1,1,0,1,0,0] (body Tryd.f13)):=by
 intro m hm st k r h
 obtain rfl:l13_0=m:=Option.some.inj hm
 unfold l13_0 at h
 split at h
 ·rename_i t0 t1 g0 t6 t7 g1 g2 h0
  obtain ⟨hg,h⟩:=bif_some h
  simp only [Bool.and_eq_true] at hg
  obtain ⟨⟨q0,q1⟩,q2⟩:=hg
  obtain rfl:=(nmEq_iff _ _).1 q0
  obtain rfl:=(nmEq_iff _ _).1 q1
  obtain rfl:=ctsEq_eq _ _ q2
  refine ⟨(((t0.size:Int) - t7:Int).toNat+1),?_⟩
  rw [← h]
  exact loop_run (E13_0 t0 t1) (K13_0 k) (st13_0 t0 t1 ce k) _ (t6,t7,h0)
 ·cases h
def q13 (a0:ByteArray) (a1:Int):Bool:=(ro (runW (R13_0 a0 a1) (((a0.size:Int) - 0:Int).toNat+1) (ByteArray.empty,0,([]:List AV))) false (fun p1=>(decide ((p1.2.length+([AV.str p1.1]).length)*16≤140737488355328) && decide ((p1.2.length+([AV.str p1.1]).length)≤140737488355328))))
def v13_0 (a0:ByteArray) (a1:Int):List AV:=(ro (runW (R13_0 a0 a1) (((a0.size:Int) - 0:Int).toNat+1) (ByteArray.empty,0,([]:List AV))) [] (fun p1=>p1.2++([AV.str p1.1])))
theorem e13 (a0:ByteArray) (a1:Int):funA c13 0 13 [AV.str a0,AV.int .u8 a1]=(ro (runW (R13_0 a0 a1) (((a0.size:Int) - 0:Int).toNat+1) (ByteArray.empty,0,([]:List AV))) none (fun p1=>(bif (decide ((p1.2.length+([AV.str p1.1]).length)*16≤140737488355328) && decide ((p1.2.length+([AV.str p1.1]).length)≤140737488355328)) then some (AV.fl [.str] (p1.2++([AV.str p1.1])))
 else none))):=by kernel_rfl
def m13:TModel
 | [.str a0,.int .u8 a1]=>some (q13 a0 a1,AV.fl [.str] (v13_0 a0 a1))
 | _=>none
theorem k13:Known Tryd.prog 13:=⟨Tryd.f13,Tryd.func13,by kernel_rfl,by kernel_rfl⟩
theorem meets13:Meets Tryd.prog 13 m13:=by
 refine meet (f:=Tryd.f13) (l:=[(0,sub [1,1,1,0,1,0,0] (body Tryd.f13))]) (hs:=[(13,0,[0,1,5,6,7]),(13,999,[4]),(13,1000,[5,6]),(13,1001,[0,1,5,6,7])]) (ts:=[]) (ws:=[]) (is:=[]) (ls:=[(13,0,l13_0)]) (lvl:=0) mixed k13 Tryd.func13 (by kernel_rfl) (loops_cons ok13_0 noLoop) allT_nil allM_nil noI fun w xs us r hl hv h=>?_
 unfold m13 at h
 split at h
 ·rename_i a0 a1
  obtain ⟨h1,rfl⟩:=pair_inj h
  exact (e13 a0 a1).trans ((brO (fun o:Option ((ByteArray × (List AV)))=>some (AV.fl [.str] (ro o [] (fun p1=>p1.2++([AV.str p1.1]))))) (fun p1=>(brL1 (fun _=>rfl)))) h1)
 ·cases h
def F26_0 (t4:Bool) (t0:Int) (t3:ByteArray):Out ((Int × ByteArray)) (ByteArray):=(bif !decide (t0=0) then (bif !decide (10=0) then (bif decide (Int.tmod t0 10<0) then (bif decide ((bytesA ([AV.int .u8 (IntKind.u8.wrap (IntKind.i64.wrap (48+IntKind.i64.wrap (0 - (Int.tmod t0 10)))))])).size+t3.size≤4611686018427387904) then (bif !decide (10=0) then .next (IntKind.i64.wrap (Int.tdiv t0 10),(bytesA ([AV.int .u8 (IntKind.u8.wrap (IntKind.i64.wrap (48+IntKind.i64.wrap (0 - (Int.tmod t0 10)))))]))++t3)
 else .fail)
 else .fail)
 else (bif decide ((bytesA ([AV.int .u8 (IntKind.u8.wrap (IntKind.i64.wrap (48+Int.tmod t0 10)))])).size+t3.size≤4611686018427387904) then (bif !decide (10=0) then .next (IntKind.i64.wrap (Int.tdiv t0 10),(bytesA ([AV.int .u8 (IntKind.u8.wrap (IntKind.i64.wrap (48+Int.tmod t0 10)))]))++t3)
 else .fail)
 else .fail))
 else .fail)
 else .stop t3)
def R26_0 (t4:Bool):((Int × ByteArray))→Out ((Int × ByteArray)) (ByteArray):=fun s:Int × ByteArray=>F26_0 t4 s.1 s.2
def E26_0 (t4:Bool):((Int × ByteArray))→St:=fun s:Int × ByteArray=>⟨[(0,Ai s.1),(3,AV.str s.2),(4,AV.bool t4)],[]⟩
def K26_0 (t4:Bool) (k:Kont):(ByteArray)→Option AV:=fun p:ByteArray=>k (.exit 0) ⟨[(3,AV.str p),(4,AV.bool t4)],[]⟩
def l26_0:LModel:=fun _ _ st k=>match st with
 | ⟨[(0,.int .i64 t0),(3,.str t3),(4,.bool t4)],[]⟩=>ro (runW (R26_0 t4) (t0.natAbs+1) (t0,t3)) none (K26_0 t4 k)
 | _=>none
noncomputable def c26:Cfg:=cfg Tryd.prog [(26,0,[0,3,4]),(26,999,[2]),(26,1000,[3,4]),(26,1001,[0,3,4])] [] [] [] [(26,0,l26_0)]
theorem s26_0 (ce:CallE) (t0:Int) (t3:ByteArray) (t4:Bool) (next:St→Option AV) (k:Kont):stepA (codeA c26 ce [] 26 0 (sub [1,1,1,1,0,0,0] (body Tryd.f26))) (normA [] [0,3,4]) next ⟨[(0,Ai t0),(3,AV.str t3),(4,AV.bool t4)],[]⟩ k=(bif !decide (t0=0) then (bif !decide (10=0) then (bif decide (Int.tmod t0 10<0) then (bif decide ((bytesA ([AV.int .u8 (IntKind.u8.wrap (IntKind.i64.wrap (48+IntKind.i64.wrap (0 - (Int.tmod t0 10)))))])).size+t3.size≤4611686018427387904) then (bif !decide (10=0) then next ⟨[(0,Ai (IntKind.i64.wrap (Int.tdiv t0 10))),(3,AV.str ((bytesA ([AV.int .u8 (IntKind.u8.wrap (IntKind.i64.wrap (48+IntKind.i64.wrap (0 - (Int.tmod t0 10)))))]))++t3)),(4,AV.bool t4)],[]⟩
 else none)
 else none)
 else (bif decide ((bytesA ([AV.int .u8 (IntKind.u8.wrap (IntKind.i64.wrap (48+Int.tmod t0 10)))])).size+t3.size≤4611686018427387904) then (bif !decide (10=0) then next ⟨[(0,Ai (IntKind.i64.wrap (Int.tdiv t0 10))),(3,AV.str ((bytesA ([AV.int .u8 (IntKind.u8.wrap (IntKind.i64.wrap (48+Int.tmod t0 10)))]))++t3)),(4,AV.bool t4)],[]⟩
 else none)
 else none))
 else none)
 else k (.exit 0) ⟨[(3,AV.str t3),(4,AV.bool t4)],[]⟩):=by kernel_rfl
theorem st26_0 (t4:Bool) (ce:CallE) (k:Kont) (s:(Int × ByteArray)) (next:St→Option AV):stepA (codeA c26 ce [] 26 0 (sub [1,1,1,1,0,0,0] (body Tryd.f26))) (normA [] [0,3,4]) next ((E26_0 t4) s) k=(R26_0 t4 s).el none (fun s=>next ((E26_0 t4) s)) (K26_0 t4 k):=(s26_0 ce s.1 s.2 t4 next k).trans (by unfold R26_0;unfold F26_0;simp only [el_cond,el_ro,el_sum,el_fail,el_next,el_stop] <;> rfl)
theorem ok26_0 {ce:CallE}:LoopOK c26 ce [] 26 0 (sub [1,1,1,1,0,0,0] (body Tryd.f26)):=by
 intro m hm st k r h
 obtain rfl:l26_0=m:=Option.some.inj hm
 unfold l26_0 at h
 split at h
 ·rename_i t0 t3 t4
  refine ⟨(t0.natAbs+1),?_⟩
  rw [← h]
  exact loop_run (E26_0 t4) (K26_0 t4 k) (st26_0 t4 ce k) _ (t0,t3)
 ·cases h
def q26 (a0:Int):Bool:=(bif decide (a0=0) then true else (ro (runW (R26_0 (decide (a0<0))) (a0.natAbs+1) (a0,ByteArray.empty)) false (fun p3=>(bif decide (a0<0) then decide ((ByteArray.mk #[45]).size+p3.size≤4611686018427387904) else true))))
def v26_0 (a0:Int):ByteArray:=(bif decide (a0=0) then (ByteArray.mk #[48]) else (ro (runW (R26_0 (decide (a0<0))) (a0.natAbs+1) (a0,ByteArray.empty)) ByteArray.empty (fun p3=>(bif decide (a0<0) then (ByteArray.mk #[45])++p3 else p3))))
theorem e26 (a0:Int):funA c26 0 26 [Ai a0]=(bif decide (a0=0) then some (AV.str (ByteArray.mk #[48]))
 else (ro (runW (R26_0 (decide (a0<0))) (a0.natAbs+1) (a0,ByteArray.empty)) none (fun p3=>(bif decide (a0<0) then (bif decide ((ByteArray.mk #[45]).size+p3.size≤4611686018427387904) then some (AV.str ((ByteArray.mk #[45])++p3))
 else none)
 else some (AV.str p3))))):=by kernel_rfl
def m26:TModel
 | [.int .i64 a0]=>some (q26 a0,AV.str (v26_0 a0))
 | _=>none
theorem k26:Known Tryd.prog 26:=⟨Tryd.f26,Tryd.func26,by kernel_rfl,by kernel_rfl⟩
theorem meets26:Meets Tryd.prog 26 m26:=by
 refine meet (f:=Tryd.f26) (l:=[(0,sub [1,1,1,1,0,0,0] (body Tryd.f26))]) (hs:=[(26,0,[0,3,4]),(26,999,[2]),(26,1000,[3,4]),(26,1001,[0,3,4])]) (ts:=[]) (ws:=[]) (is:=[]) (ls:=[(26,0,l26_0)]) (lvl:=0) mixed k26 Tryd.func26 (by kernel_rfl) (loops_cons ok26_0 noLoop) allT_nil allM_nil noI fun w xs us r hl hv h=>?_
 unfold m26 at h
 split at h
 ·rename_i a0
  obtain ⟨h1,rfl⟩:=pair_inj h
  exact (e26 a0).trans ((br (fun b=>some (AV.str (bif b then (ByteArray.mk #[48]) else (ro (runW (R26_0 (decide (a0<0))) (a0.natAbs+1) (a0,ByteArray.empty)) ByteArray.empty (fun p3=>(bif decide (a0<0) then (ByteArray.mk #[45])++p3 else p3)))))) (fun _=>rfl) (brO (fun o:Option (ByteArray)=>some (AV.str (ro o ByteArray.empty (fun p3=>(bif decide (a0<0) then (ByteArray.mk #[45])++p3 else p3))))) (fun p3=>(br (fun b=>some (AV.str (bif b then (ByteArray.mk #[45])++p3 else p3))) (brL1 (fun _=>rfl)) (fun _=>rfl))))) h1)
 ·cases h
def F24_0 (t0:ByteArray) (t4 t5 t6:Int):Out ((Int × Int × Int)) ((Int × Int)):=(bif decide (t6<(t0.size:Int)) then (bif decide (t6<11) then (bif (decide (0≤t6) && decide (t6<(t0.size:Int))) then (bif decide (strAt t0 t6.toNat ≥ 48) then (bif (decide (0≤t6) && decide (t6<(t0.size:Int))) then (bif decide (strAt t0 t6.toNat≤57) then (bif (decide (0≤t6) && decide (t6<(t0.size:Int))) then .next (IntKind.i64.wrap (IntKind.i64.wrap (t4*10)+IntKind.i64.wrap (IntKind.u8.wrap (strAt t0 t6.toNat - 48))),IntKind.i64.wrap (t5+1),IntKind.i64.wrap (t6+1))
 else .fail)
 else .next (t4,t5,IntKind.i64.wrap (t6+1)))
 else .fail)
 else .next (t4,t5,IntKind.i64.wrap (t6+1)))
 else .fail)
 else .stop (t4,t5))
 else .stop (t4,t5))
def R24_0 (t0:ByteArray):((Int × Int × Int))→Out ((Int × Int × Int)) ((Int × Int)):=fun s:Int × Int × Int=>F24_0 t0 s.1 s.2.1 s.2.2
def E24_0 (t0:ByteArray):((Int × Int × Int))→St:=fun s:Int × Int × Int=>⟨[(0,AV.str t0),(4,Ai s.1),(5,Ai s.2.1),(6,Ai s.2.2)],[]⟩
def K24_0 (t0:ByteArray) (k:Kont):((Int × Int))→Option AV:=fun p:Int × Int=>k (.exit 0) ⟨[(0,AV.str t0),(4,Ai p.1),(5,Ai p.2)],[]⟩
def l24_0:LModel:=fun _ _ st k=>match st with
 | ⟨[(0,.str t0),(4,.int .i64 t4),(5,.int .i64 t5),(6,.int .i64 t6)],[]⟩=>ro (runW (R24_0 t0) (((t0.size:Int) - t6:Int).toNat+1) (t4,t5,t6)) none (K24_0 t0 k)
 | _=>none
noncomputable def c24:Cfg:=cfg Tryd.prog [(24,0,[0,4,5,6]),(24,999,[2,3]),(24,1000,[0,4,5]),(24,1001,[0,4,5,6])] [(26,m26)] [] [] [(24,0,l24_0)]
theorem s24_0 (ce:CallE) (t0:ByteArray) (t4 t5 t6:Int) (next:St→Option AV) (k:Kont):stepA (codeA c24 ce [] 24 0 (sub [1,1,1,0,1,0,0] (body Tryd.f24))) (normA [] [0,4,5,6]) next ⟨[(0,AV.str t0),(4,Ai t4),(5,Ai t5),(6,Ai t6)],[]⟩ k=(bif decide (t6<(t0.size:Int)) then (bif decide (t6<11) then (bif (decide (0≤t6) && decide (t6<(t0.size:Int))) then (bif decide (strAt t0 t6.toNat ≥ 48) then (bif (decide (0≤t6) && decide (t6<(t0.size:Int))) then (bif decide (strAt t0 t6.toNat≤57) then (bif (decide (0≤t6) && decide (t6<(t0.size:Int))) then next ⟨[(0,AV.str t0),(4,Ai (IntKind.i64.wrap (IntKind.i64.wrap (t4*10)+IntKind.i64.wrap (IntKind.u8.wrap (strAt t0 t6.toNat - 48))))),(5,Ai (IntKind.i64.wrap (t5+1))),(6,Ai (IntKind.i64.wrap (t6+1)))],[]⟩
 else none)
 else next ⟨[(0,AV.str t0),(4,Ai t4),(5,Ai t5),(6,Ai (IntKind.i64.wrap (t6+1)))],[]⟩)
 else none)
 else next ⟨[(0,AV.str t0),(4,Ai t4),(5,Ai t5),(6,Ai (IntKind.i64.wrap (t6+1)))],[]⟩)
 else none)
 else k (.exit 0) ⟨[(0,AV.str t0),(4,Ai t4),(5,Ai t5)],[]⟩)
 else k (.exit 0) ⟨[(0,AV.str t0),(4,Ai t4),(5,Ai t5)],[]⟩):=by kernel_rfl
theorem st24_0 (t0:ByteArray) (ce:CallE) (k:Kont) (s:(Int × Int × Int)) (next:St→Option AV):stepA (codeA c24 ce [] 24 0 (sub [1,1,1,0,1,0,0] (body Tryd.f24))) (normA [] [0,4,5,6]) next ((E24_0 t0) s) k=(R24_0 t0 s).el none (fun s=>next ((E24_0 t0) s)) (K24_0 t0 k):=(s24_0 ce t0 s.1 s.2.1 s.2.2 next k).trans (by unfold R24_0;unfold F24_0;simp only [el_cond,el_ro,el_sum,el_fail,el_next,el_stop] <;> rfl)
theorem ok24_0 {ce:CallE}:LoopOK c24 ce [] 24 0 (sub [1,1,1,0,1,0,0] (body Tryd.f24)):=by
 intro m hm st k r h
 obtain rfl:l24_0=m:=Option.some.inj hm
 unfold l24_0 at h
 split at h
 ·rename_i t0 t4 t5 t6
  refine ⟨(((t0.size:Int) - t6:Int).toNat+1),?_⟩
  rw [← h]
  exact loop_run (E24_0 t0) (K24_0 t0 k) (st24_0 t0 ce k) _ (t4,t5,t6)
 ·cases h
def q24 (a0:ByteArray):Bool:=(ro (runW (R24_0 a0) (((a0.size:Int) - 0:Int).toNat+1) (0,0,0)) false (fun p2=>(bif decide ((a0.size:Int) > 0) then ((decide (0≤0) && decide (0<(a0.size:Int))) && (bif decide (strAt a0 (0:Int).toNat=45) then (bif decide (p2.2 > 9) then true else (bif decide ((a0.size:Int) > 10) then true else q26 (IntKind.i64.wrap (0 - p2.1)))) else (bif decide (p2.2 > 9) then true else (bif decide ((a0.size:Int) > 10) then true else q26 p2.1)))) else (bif decide (p2.2 > 9) then true else (bif decide ((a0.size:Int) > 10) then true else q26 p2.1)))))
def v24_0 (a0:ByteArray):Int:=(ro (runW (R24_0 a0) (((a0.size:Int) - 0:Int).toNat+1) (0,0,0)) 0 (fun p2=>(bif decide ((a0.size:Int) > 0) then (bif decide (strAt a0 (0:Int).toNat=45) then (bif decide (p2.2 > 9) then 0 else (bif decide ((a0.size:Int) > 10) then 0 else (bif !((v26_0 (IntKind.i64.wrap (0 - p2.1))).toList == a0.toList) then 0 else IntKind.i64.wrap (0 - p2.1)))) else (bif decide (p2.2 > 9) then 0 else (bif decide ((a0.size:Int) > 10) then 0 else (bif !((v26_0 p2.1).toList == a0.toList) then 0 else p2.1)))) else (bif decide (p2.2 > 9) then 0 else (bif decide ((a0.size:Int) > 10) then 0 else (bif !((v26_0 p2.1).toList == a0.toList) then 0 else p2.1))))))
def v24_1 (a0:ByteArray):Bool:=(ro (runW (R24_0 a0) (((a0.size:Int) - 0:Int).toNat+1) (0,0,0)) false (fun p2=>(bif decide ((a0.size:Int) > 0) then (bif decide (strAt a0 (0:Int).toNat=45) then (bif decide (p2.2 > 9) then false else (bif decide ((a0.size:Int) > 10) then false else (bif !((v26_0 (IntKind.i64.wrap (0 - p2.1))).toList == a0.toList) then false else true))) else (bif decide (p2.2 > 9) then false else (bif decide ((a0.size:Int) > 10) then false else (bif !((v26_0 p2.1).toList == a0.toList) then false else true)))) else (bif decide (p2.2 > 9) then false else (bif decide ((a0.size:Int) > 10) then false else (bif !((v26_0 p2.1).toList == a0.toList) then false else true))))))
theorem e24 (a0:ByteArray):funA c24 0 24 [AV.str a0]=(ro (runW (R24_0 a0) (((a0.size:Int) - 0:Int).toNat+1) (0,0,0)) none (fun p2=>(bif decide ((a0.size:Int) > 0) then (bif (decide (0≤0) && decide (0<(a0.size:Int))) then (bif decide (strAt a0 (0:Int).toNat=45) then (bif decide (p2.2 > 9) then some (AV.tup [Ai 0,AV.bool false])
 else (bif decide ((a0.size:Int) > 10) then some (AV.tup [Ai 0,AV.bool false])
 else (bif q26 (IntKind.i64.wrap (0 - p2.1)) then (bif !((v26_0 (IntKind.i64.wrap (0 - p2.1))).toList == a0.toList) then some (AV.tup [Ai 0,AV.bool false])
 else some (AV.tup [Ai (IntKind.i64.wrap (0 - p2.1)),AV.bool true]))
 else none)))
 else (bif decide (p2.2 > 9) then some (AV.tup [Ai 0,AV.bool false])
 else (bif decide ((a0.size:Int) > 10) then some (AV.tup [Ai 0,AV.bool false])
 else (bif q26 p2.1 then (bif !((v26_0 p2.1).toList == a0.toList) then some (AV.tup [Ai 0,AV.bool false])
 else some (AV.tup [Ai p2.1,AV.bool true]))
 else none))))
 else none)
 else (bif decide (p2.2 > 9) then some (AV.tup [Ai 0,AV.bool false])
 else (bif decide ((a0.size:Int) > 10) then some (AV.tup [Ai 0,AV.bool false])
 else (bif q26 p2.1 then (bif !((v26_0 p2.1).toList == a0.toList) then some (AV.tup [Ai 0,AV.bool false])
 else some (AV.tup [Ai p2.1,AV.bool true]))
 else none)))))):=by kernel_rfl
def m24:TModel
 | [.str a0]=>some (q24 a0,AV.tup [AV.int .i64 (v24_0 a0),AV.bool (v24_1 a0)])
 | _=>none
theorem k24:Known Tryd.prog 24:=⟨Tryd.f24,Tryd.func24,by kernel_rfl,by kernel_rfl⟩
theorem meets24:Meets Tryd.prog 24 m24:=by
 refine meet (f:=Tryd.f24) (l:=[(0,sub [1,1,1,0,1,0,0] (body Tryd.f24))]) (hs:=[(24,0,[0,4,5,6]),(24,999,[2,3]),(24,1000,[0,4,5]),(24,1001,[0,4,5,6])]) (ts:=[(26,m26)]) (ws:=[]) (is:=[]) (ls:=[(24,0,l24_0)]) (lvl:=0) mixed k24 Tryd.func24 (by kernel_rfl) (loops_cons ok24_0 noLoop) (allT_cons meets26 allT_nil) allM_nil noI fun w xs us r hl hv h=>?_
 unfold m24 at h
 split at h
 ·rename_i a0
  obtain ⟨h1,rfl⟩:=pair_inj h
  exact (e24 a0).trans ((brO (fun o:Option ((Int × Int))=>some (AV.tup [Ai (ro o 0 (fun p2=>(bif decide ((a0.size:Int) > 0) then (bif decide (strAt a0 (0:Int).toNat=45) then (bif decide (p2.2 > 9) then 0 else (bif decide ((a0.size:Int) > 10) then 0 else (bif !((v26_0 (IntKind.i64.wrap (0 - p2.1))).toList == a0.toList) then 0 else IntKind.i64.wrap (0 - p2.1)))) else (bif decide (p2.2 > 9) then 0 else (bif decide ((a0.size:Int) > 10) then 0 else (bif !((v26_0 p2.1).toList == a0.toList) then 0 else p2.1)))) else (bif decide (p2.2 > 9) then 0 else (bif decide ((a0.size:Int) > 10) then 0 else (bif !((v26_0 p2.1).toList == a0.toList) then 0 else p2.1)))))),AV.bool (ro o false (fun p2=>(bif decide ((a0.size:Int) > 0) then (bif decide (strAt a0 (0:Int).toNat=45) then (bif decide (p2.2 > 9) then false else (bif decide ((a0.size:Int) > 10) then false else (bif !((v26_0 (IntKind.i64.wrap (0 - p2.1))).toList == a0.toList) then false else true))) else (bif decide (p2.2 > 9) then false else (bif decide ((a0.size:Int) > 10) then false else (bif !((v26_0 p2.1).toList == a0.toList) then false else true)))) else (bif decide (p2.2 > 9) then false else (bif decide ((a0.size:Int) > 10) then false else (bif !((v26_0 p2.1).toList == a0.toList) then false else true))))))])) (fun p2=>(br (fun b=>some (AV.tup [Ai (bif b then (bif decide (strAt a0 (0:Int).toNat=45) then (bif decide (p2.2 > 9) then 0 else (bif decide ((a0.size:Int) > 10) then 0 else (bif !((v26_0 (IntKind.i64.wrap (0 - p2.1))).toList == a0.toList) then 0 else IntKind.i64.wrap (0 - p2.1)))) else (bif decide (p2.2 > 9) then 0 else (bif decide ((a0.size:Int) > 10) then 0 else (bif !((v26_0 p2.1).toList == a0.toList) then 0 else p2.1)))) else (bif decide (p2.2 > 9) then 0 else (bif decide ((a0.size:Int) > 10) then 0 else (bif !((v26_0 p2.1).toList == a0.toList) then 0 else p2.1)))),AV.bool (bif b then (bif decide (strAt a0 (0:Int).toNat=45) then (bif decide (p2.2 > 9) then false else (bif decide ((a0.size:Int) > 10) then false else (bif !((v26_0 (IntKind.i64.wrap (0 - p2.1))).toList == a0.toList) then false else true))) else (bif decide (p2.2 > 9) then false else (bif decide ((a0.size:Int) > 10) then false else (bif !((v26_0 p2.1).toList == a0.toList) then false else true)))) else (bif decide (p2.2 > 9) then false else (bif decide ((a0.size:Int) > 10) then false else (bif !((v26_0 p2.1).toList == a0.toList) then false else true))))])) (brL (br (fun b=>some (AV.tup [Ai (bif b then (bif decide (p2.2 > 9) then 0 else (bif decide ((a0.size:Int) > 10) then 0 else (bif !((v26_0 (IntKind.i64.wrap (0 - p2.1))).toList == a0.toList) then 0 else IntKind.i64.wrap (0 - p2.1)))) else (bif decide (p2.2 > 9) then 0 else (bif decide ((a0.size:Int) > 10) then 0 else (bif !((v26_0 p2.1).toList == a0.toList) then 0 else p2.1)))),AV.bool (bif b then (bif decide (p2.2 > 9) then false else (bif decide ((a0.size:Int) > 10) then false else (bif !((v26_0 (IntKind.i64.wrap (0 - p2.1))).toList == a0.toList) then false else true))) else (bif decide (p2.2 > 9) then false else (bif decide ((a0.size:Int) > 10) then false else (bif !((v26_0 p2.1).toList == a0.toList) then false else true))))])) (br (fun b=>some (AV.tup [Ai (bif b then 0 else (bif decide ((a0.size:Int) > 10) then 0 else (bif !((v26_0 (IntKind.i64.wrap (0 - p2.1))).toList == a0.toList) then 0 else IntKind.i64.wrap (0 - p2.1)))),AV.bool (bif b then false else (bif decide ((a0.size:Int) > 10) then false else (bif !((v26_0 (IntKind.i64.wrap (0 - p2.1))).toList == a0.toList) then false else true)))])) (fun _=>rfl) (br (fun b=>some (AV.tup [Ai (bif b then 0 else (bif !((v26_0 (IntKind.i64.wrap (0 - p2.1))).toList == a0.toList) then 0 else IntKind.i64.wrap (0 - p2.1))),AV.bool (bif b then false else (bif !((v26_0 (IntKind.i64.wrap (0 - p2.1))).toList == a0.toList) then false else true))])) (fun _=>rfl) (brL1 (brT (fun b=>some (AV.tup [Ai (bif b then 0 else IntKind.i64.wrap (0 - p2.1)),AV.bool (bif b then false else true)])) (fun _=>rfl) (fun _=>rfl))))) (br (fun b=>some (AV.tup [Ai (bif b then 0 else (bif decide ((a0.size:Int) > 10) then 0 else (bif !((v26_0 p2.1).toList == a0.toList) then 0 else p2.1))),AV.bool (bif b then false else (bif decide ((a0.size:Int) > 10) then false else (bif !((v26_0 p2.1).toList == a0.toList) then false else true)))])) (fun _=>rfl) (br (fun b=>some (AV.tup [Ai (bif b then 0 else (bif !((v26_0 p2.1).toList == a0.toList) then 0 else p2.1)),AV.bool (bif b then false else (bif !((v26_0 p2.1).toList == a0.toList) then false else true))])) (fun _=>rfl) (brL1 (brT (fun b=>some (AV.tup [Ai (bif b then 0 else p2.1),AV.bool (bif b then false else true)])) (fun _=>rfl) (fun _=>rfl))))))) (br (fun b=>some (AV.tup [Ai (bif b then 0 else (bif decide ((a0.size:Int) > 10) then 0 else (bif !((v26_0 p2.1).toList == a0.toList) then 0 else p2.1))),AV.bool (bif b then false else (bif decide ((a0.size:Int) > 10) then false else (bif !((v26_0 p2.1).toList == a0.toList) then false else true)))])) (fun _=>rfl) (br (fun b=>some (AV.tup [Ai (bif b then 0 else (bif !((v26_0 p2.1).toList == a0.toList) then 0 else p2.1)),AV.bool (bif b then false else (bif !((v26_0 p2.1).toList == a0.toList) then false else true))])) (fun _=>rfl) (brL1 (brT (fun b=>some (AV.tup [Ai (bif b then 0 else p2.1),AV.bool (bif b then false else true)])) (fun _=>rfl) (fun _=>rfl)))))))) h1)
 ·cases h
noncomputable def c15:Cfg:=cfg Tryd.prog [(15,999,[2])] [(24,m24)] [] [] []
def q15 (a0:ByteArray):Bool:=q24 a0
def v15_0 (a0:ByteArray):Int:=(bif !(v24_1 a0) then (-100000) else (v24_0 a0))
theorem e15 (a0:ByteArray):funA c15 0 15 [AV.str a0]=(bif q24 a0 then (bif !(v24_1 a0) then some (Ai (-100000))
 else some (Ai (v24_0 a0)))
 else none):=by kernel_rfl
def m15:TModel
 | [.str a0]=>some (q15 a0,AV.int .i64 (v15_0 a0))
 | _=>none
theorem k15:Known Tryd.prog 15:=⟨Tryd.f15,Tryd.func15,by kernel_rfl,by kernel_rfl⟩
theorem meets15:Meets Tryd.prog 15 m15:=by
 refine meet (f:=Tryd.f15) (l:=[]) (hs:=[(15,999,[2])]) (ts:=[(24,m24)]) (ws:=[]) (is:=[]) (ls:=[]) (lvl:=0) mixed k15 Tryd.func15 (by kernel_rfl) noLoop (allT_cons meets24 allT_nil) allM_nil noI fun w xs us r hl hv h=>?_
 unfold m15 at h
 split at h
 ·rename_i a0
  obtain ⟨h1,rfl⟩:=pair_inj h
  exact (e15 a0).trans ((brL1 (brT (fun b=>some (Ai (bif b then (-100000) else (v24_0 a0)))) (fun _=>rfl) (fun _=>rfl))) h1)
 ·cases h
noncomputable def c25:Cfg:=cfg Tryd.prog [(25,999,[6])] [] [] [] []
def q25 (a0 a1 a2:Int):Bool:=true
def v25_0 (a0 a1 a2:Int):Bool:=(bif decide (a0 ≥ a1) then decide (a0≤a2) else false)
theorem e25 (a0 a1 a2:Int):funA c25 0 25 [Ai a0,Ai a1,Ai a2]=(bif decide (a0 ≥ a1) then some (AV.bool (decide (a0≤a2)))
 else some (AV.bool false)):=by kernel_rfl
def m25:TModel
 | [.int .i64 a0,.int .i64 a1,.int .i64 a2]=>some (true,AV.bool (v25_0 a0 a1 a2))
 | _=>none
theorem k25:Known Tryd.prog 25:=⟨Tryd.f25,Tryd.func25,by kernel_rfl,by kernel_rfl⟩
theorem meets25:Meets Tryd.prog 25 m25:=by
 refine meet (f:=Tryd.f25) (l:=[]) (hs:=[(25,999,[6])]) (ts:=[]) (ws:=[]) (is:=[]) (ls:=[]) (lvl:=0) mixed k25 Tryd.func25 (by kernel_rfl) noLoop allT_nil allM_nil noI fun w xs us r hl hv h=>?_
 unfold m25 at h
 split at h
 ·rename_i a0 a1 a2
  obtain ⟨h1,rfl⟩:=pair_inj h
  exact (e25 a0 a1 a2).trans (of_tt (brT (fun b=>some (AV.bool (bif b then decide (a0≤a2) else false))) (fun _=>rfl) (fun _=>rfl)))
 ·cases h
noncomputable def c34:Cfg:=cfg Tryd.prog [(34,999,[2])] [(25,m25)] [] [] []
def q34 (xa xb:Int):Bool:=true
def v34_0 (xa xb:Int):Bool:=(bif (v25_0 xa (-1000) 1000) then (v25_0 xb xa 1000) else false)
theorem e34 (xa xb:Int):funA c34 0 34 [AV.agg [Ai xa,Ai xb]]=(bif (v25_0 xa (-1000) 1000) then some (AV.bool (v25_0 xb xa 1000))
 else some (AV.bool false)):=by kernel_rfl
def m34:TModel
 | [.agg [.int .i64 xa,.int .i64 xb]]=>some (true,AV.bool (v34_0 xa xb))
 | _=>none
theorem k34:Known Tryd.prog 34:=⟨Tryd.f34,Tryd.func34,by kernel_rfl,by kernel_rfl⟩
theorem meets34:Meets Tryd.prog 34 m34:=by
 refine meet (f:=Tryd.f34) (l:=[]) (hs:=[(34,999,[2])]) (ts:=[(25,m25)]) (ws:=[]) (is:=[]) (ls:=[]) (lvl:=0) mixed k34 Tryd.func34 (by kernel_rfl) noLoop (allT_cons meets25 allT_nil) allM_nil noI fun w xs us r hl hv h=>?_
 unfold m34 at h
 split at h
 ·rename_i xa xb
  obtain ⟨h1,rfl⟩:=pair_inj h
  exact (e34 xa xb).trans (of_tt (brT (fun b=>some (AV.bool (bif b then (v25_0 xb xa 1000) else false))) (fun _=>rfl) (fun _=>rfl)))
 ·cases h
noncomputable def c23:Cfg:=cfg Tryd.prog [(23,999,[2])] [(26,m26),(34,m34)] [] [] []
def q23 (xa xb:Int):Bool:=(bif !(v34_0 xa xb) then true else (q26 xa && (decide ((v26_0 xa).size+(ByteArray.mk #[46,46]).size≤4611686018427387904) && (q26 xb && decide (((v26_0 xa)++(ByteArray.mk #[46,46])).size+(v26_0 xb).size≤4611686018427387904)))))
def v23_0 (xa xb:Int):ByteArray:=(bif !(v34_0 xa xb) then ByteArray.empty else ((v26_0 xa)++(ByteArray.mk #[46,46]))++(v26_0 xb))
theorem e23 (xa xb:Int):funA c23 0 23 [AV.agg [Ai xa,Ai xb]]=(bif !(v34_0 xa xb) then some (AV.str ByteArray.empty)
 else (bif q26 xa then (bif decide ((v26_0 xa).size+(ByteArray.mk #[46,46]).size≤4611686018427387904) then (bif q26 xb then (bif decide (((v26_0 xa)++(ByteArray.mk #[46,46])).size+(v26_0 xb).size≤4611686018427387904) then some (AV.str (((v26_0 xa)++(ByteArray.mk #[46,46]))++(v26_0 xb)))
 else none)
 else none)
 else none)
 else none)):=by kernel_rfl
def m23:TModel
 | [.agg [.int .i64 xa,.int .i64 xb]]=>some (q23 xa xb,AV.str (v23_0 xa xb))
 | _=>none
theorem k23:Known Tryd.prog 23:=⟨Tryd.f23,Tryd.func23,by kernel_rfl,by kernel_rfl⟩
theorem meets23:Meets Tryd.prog 23 m23:=by
 refine meet (f:=Tryd.f23) (l:=[]) (hs:=[(23,999,[2])]) (ts:=[(26,m26),(34,m34)]) (ws:=[]) (is:=[]) (ls:=[]) (lvl:=0) mixed k23 Tryd.func23 (by kernel_rfl) noLoop (allT_cons meets26 (allT_cons meets34 allT_nil)) allM_nil noI fun w xs us r hl hv h=>?_
 unfold m23 at h
 split at h
 ·rename_i xa xb
  obtain ⟨h1,rfl⟩:=pair_inj h
  exact (e23 xa xb).trans ((br (fun b=>some (AV.str (bif b then ByteArray.empty else ((v26_0 xa)++(ByteArray.mk #[46,46]))++(v26_0 xb)))) (fun _=>rfl) (brL (brL (brL (brL1 (fun _=>rfl)))))) h1)
 ·cases h
def F14_0 (t0:ByteArray) (h0_0 h0_1 t4:Int):Out (Int) (Unit ⊕ (Bool × Int × Int × Int × Int)):=(bif decide (IntKind.i64.wrap (t4+1)<(t0.size:Int)) then (bif (decide (0≤t4) && decide (t4≤IntKind.i64.wrap (t4+2)) && decide (IntKind.i64.wrap (t4+2)≤(t0.size:Int))) then (bif ((t0.extract (Int.toNat t4) (Int.toNat (IntKind.i64.wrap (t4+2)))).toList == (ByteArray.mk #[46,46]).toList) then (bif (decide (0≤0) && decide (0≤t4) && decide (t4≤(t0.size:Int))) then (bif q15 (t0.extract (Int.toNat 0) (Int.toNat t4)) then (bif (decide (0≤IntKind.i64.wrap (t4+2)) && decide (IntKind.i64.wrap (t4+2)≤(t0.size:Int)) && decide ((t0.size:Int)≤(t0.size:Int))) then (bif q15 (t0.extract (Int.toNat (IntKind.i64.wrap (t4+2))) (Int.toNat (t0.size:Int))) then (bif q23 (v15_0 (t0.extract (Int.toNat 0) (Int.toNat t4))) (v15_0 (t0.extract (Int.toNat (IntKind.i64.wrap (t4+2))) (Int.toNat (t0.size:Int)))) then (bif ((v23_0 (v15_0 (t0.extract (Int.toNat 0) (Int.toNat t4))) (v15_0 (t0.extract (Int.toNat (IntKind.i64.wrap (t4+2))) (Int.toNat (t0.size:Int))))).toList == t0.toList) then .stop (.inr (true,(v15_0 (t0.extract (Int.toNat 0) (Int.toNat t4))),(v15_0 (t0.extract (Int.toNat (IntKind.i64.wrap (t4+2))) (Int.toNat (t0.size:Int)))),(v15_0 (t0.extract (Int.toNat 0) (Int.toNat t4))),(v15_0 (t0.extract (Int.toNat (IntKind.i64.wrap (t4+2))) (Int.toNat (t0.size:Int))))))
 else .stop (.inr (false,0,0,(v15_0 (t0.extract (Int.toNat 0) (Int.toNat t4))),(v15_0 (t0.extract (Int.toNat (IntKind.i64.wrap (t4+2))) (Int.toNat (t0.size:Int)))))))
 else .fail)
 else .fail)
 else .fail)
 else .fail)
 else .fail)
 else .next (IntKind.i64.wrap (t4+1)))
 else .fail)
 else .stop (.inl ()))
def R14_0 (t0:ByteArray) (h0_0 h0_1:Int):(Int)→Out (Int) (Unit ⊕ (Bool × Int × Int × Int × Int)):=fun s:Int=>F14_0 t0 h0_0 h0_1 s
def E14_0 (t0:ByteArray) (h0_0 h0_1:Int):(Int)→St:=fun s:Int=>⟨[(0,AV.str t0),(2,AV.ptr [0,2] 0 0),(4,Ai s)],[([0,2],⟨true,[],[AV.agg [Ai h0_0,Ai h0_1]]⟩)]⟩
def K14_0 (h0_0 h0_1:Int) (k:Kont):(Unit ⊕ (Bool × Int × Int × Int × Int))→Option AV:=sumE (fun _:Unit=>k (.exit 0) ⟨[(2,AV.ptr [0,2] 0 0)],[([0,2],⟨true,[],[AV.agg [Ai h0_0,Ai h0_1]]⟩)]⟩) (fun p:Bool × Int × Int × Int × Int=>k .ret ⟨[(2,AV.ptr [0,2] 0 0),(3,AV.bool p.1)],[([0,2],⟨true,[],[AV.agg [Ai p.2.1,Ai p.2.2.1]]⟩),([1,5],⟨true,[],[AV.agg [Ai p.2.2.2.1,Ai p.2.2.2.2]]⟩)]⟩)
def l14_0:LModel:=fun _ _ st k=>match st with
 | ⟨[(0,.str t0),(2,.ptr g0 g1 g2),(4,.int .i64 t4)],[(g3,⟨true,[],[.agg [.int .i64 h0_0,.int .i64 h0_1]]⟩)]⟩=>bif nmEq g0 ([0,2]) && Nat.beq g1 0 && Nat.beq g2 0 && nmEq g3 ([0,2]) then ro (runW (R14_0 t0 h0_0 h0_1) (((t0.size:Int) - (IntKind.i64.wrap (t4+1)):Int).toNat+1) t4) none (K14_0 h0_0 h0_1 k) else none
 | _=>none
noncomputable def c14:Cfg:=cfg Tryd.prog [(14,0,[0,2,4]),(14,999,[2,3]),(14,1000,[2]),(14,1001,[0,2,4])] [(15,m15),(23,m23)] [] [] [(14,0,l14_0)]
theorem s14_0 (ce:CallE) (t0:ByteArray) (t4 h0_0 h0_1:Int) (next:St→Option AV) (k:Kont):stepA (codeA c14 ce [] 14 0 (sub [1,0,1,0,0] (body Tryd.f14))) (normA [] [0,2,4]) next ⟨[(0,AV.str t0),(2,AV.ptr [0,2] 0 0),(4,Ai t4)],[([0,2],⟨true,[],[AV.agg [Ai h0_0,Ai h0_1]]⟩)]⟩ k=(bif decide (IntKind.i64.wrap (t4+1)<(t0.size:Int)) then (bif (decide (0≤t4) && decide (t4≤IntKind.i64.wrap (t4+2)) && decide (IntKind.i64.wrap (t4+2)≤(t0.size:Int))) then (bif ((t0.extract (Int.toNat t4) (Int.toNat (IntKind.i64.wrap (t4+2)))).toList == (ByteArray.mk #[46,46]).toList) then (bif (decide (0≤0) && decide (0≤t4) && decide (t4≤(t0.size:Int))) then (bif q15 (t0.extract (Int.toNat 0) (Int.toNat t4)) then (bif (decide (0≤IntKind.i64.wrap (t4+2)) && decide (IntKind.i64.wrap (t4+2)≤(t0.size:Int)) && decide ((t0.size:Int)≤(t0.size:Int))) then (bif q15 (t0.extract (Int.toNat (IntKind.i64.wrap (t4+2))) (Int.toNat (t0.size:Int))) then (bif q23 (v15_0 (t0.extract (Int.toNat 0) (Int.toNat t4))) (v15_0 (t0.extract (Int.toNat (IntKind.i64.wrap (t4+2))) (Int.toNat (t0.size:Int)))) then (bif ((v23_0 (v15_0 (t0.extract (Int.toNat 0) (Int.toNat t4))) (v15_0 (t0.extract (Int.toNat (IntKind.i64.wrap (t4+2))) (Int.toNat (t0.size:Int))))).toList == t0.toList) then k .ret ⟨[(2,AV.ptr [0,2] 0 0),(3,AV.bool true)],[([0,2],⟨true,[],[AV.agg [Ai (v15_0 (t0.extract (Int.toNat 0) (Int.toNat t4))),Ai (v15_0 (t0.extract (Int.toNat (IntKind.i64.wrap (t4+2))) (Int.toNat (t0.size:Int))))]]⟩),([1,5],⟨true,[],[AV.agg [Ai (v15_0 (t0.extract (Int.toNat 0) (Int.toNat t4))),Ai (v15_0 (t0.extract (Int.toNat (IntKind.i64.wrap (t4+2))) (Int.toNat (t0.size:Int))))]]⟩)]⟩
 else k .ret ⟨[(2,AV.ptr [0,2] 0 0),(3,AV.bool false)],[([0,2],⟨true,[],[AV.agg [Ai 0,Ai 0]]⟩),([1,5],⟨true,[],[AV.agg [Ai (v15_0 (t0.extract (Int.toNat 0) (Int.toNat t4))),Ai (v15_0 (t0.extract (Int.toNat (IntKind.i64.wrap (t4+2))) (Int.toNat (t0.size:Int))))]]⟩)]⟩)
 else none)
 else none)
 else none)
 else none)
 else none)
 else next ⟨[(0,AV.str t0),(2,AV.ptr [0,2] 0 0),(4,Ai (IntKind.i64.wrap (t4+1)))],[([0,2],⟨true,[],[AV.agg [Ai h0_0,Ai h0_1]]⟩)]⟩)
 else none)
 else k (.exit 0) ⟨[(2,AV.ptr [0,2] 0 0)],[([0,2],⟨true,[],[AV.agg [Ai h0_0,Ai h0_1]]⟩)]⟩):=by kernel_rfl
theorem st14_0 (t0:ByteArray) (h0_0 h0_1:Int) (ce:CallE) (k:Kont) (s:Int) (next:St→Option AV):stepA (codeA c14 ce [] 14 0 (sub [1,0,1,0,0] (body Tryd.f14))) (normA [] [0,2,4]) next ((E14_0 t0 h0_0 h0_1) s) k=(R14_0 t0 h0_0 h0_1 s).el none (fun s=>next ((E14_0 t0 h0_0 h0_1) s)) (K14_0 h0_0 h0_1 k):=(s14_0 ce t0 s h0_0 h0_1 next k).trans (by unfold R14_0;unfold F14_0;simp only [el_cond,el_ro,el_sum,el_fail,el_next,el_stop] <;> rfl)
theorem ok14_0 {ce:CallE}:LoopOK c14 ce [] 14 0 (sub [1,0,1,0,0] (body Tryd.f14)):=by
 intro m hm st k r h
 obtain rfl:l14_0=m:=Option.some.inj hm
 unfold l14_0 at h
 split at h
 ·rename_i t0 g0 g1 g2 t4 g3 h0_0 h0_1
  obtain ⟨hg,h⟩:=bif_some h
  simp only [Bool.and_eq_true] at hg
  obtain ⟨⟨⟨q0,q1⟩,q2⟩,q3⟩:=hg
  obtain rfl:=(nmEq_iff _ _).1 q0
  obtain rfl:=Nat.eq_of_beq_eq_true q1
  obtain rfl:=Nat.eq_of_beq_eq_true q2
  obtain rfl:=(nmEq_iff _ _).1 q3
  refine ⟨(((t0.size:Int) - (IntKind.i64.wrap (t4+1)):Int).toNat+1),?_⟩
  rw [← h]
  exact loop_run (E14_0 t0 h0_0 h0_1) (K14_0 h0_0 h0_1 k) (st14_0 t0 h0_0 h0_1 ce k) _ t4
 ·cases h
def q14 (a0:ByteArray):Bool:=(ro (runW (R14_0 a0 0 0) (((a0.size:Int) - (IntKind.i64.wrap (0+1)):Int).toNat+1) 0) false (sumE (fun _=>true) (fun p5=>true)))
def v14_0 (a0:ByteArray):Int:=(ro (runW (R14_0 a0 0 0) (((a0.size:Int) - (IntKind.i64.wrap (0+1)):Int).toNat+1) 0) 0 (sumE (fun _=>0) (fun p5=>p5.2.1)))
def v14_1 (a0:ByteArray):Int:=(ro (runW (R14_0 a0 0 0) (((a0.size:Int) - (IntKind.i64.wrap (0+1)):Int).toNat+1) 0) 0 (sumE (fun _=>0) (fun p5=>p5.2.2.1)))
def v14_2 (a0:ByteArray):Bool:=(ro (runW (R14_0 a0 0 0) (((a0.size:Int) - (IntKind.i64.wrap (0+1)):Int).toNat+1) 0) false (sumE (fun _=>false) (fun p5=>p5.1)))
theorem e14 (a0:ByteArray):funA c14 0 14 [AV.str a0]=(ro (runW (R14_0 a0 0 0) (((a0.size:Int) - (IntKind.i64.wrap (0+1)):Int).toNat+1) 0) none (sumE (fun _=>some (AV.tup [AV.agg [Ai 0,Ai 0],AV.bool false])) (fun p5=>some (AV.tup [AV.agg [Ai p5.2.1,Ai p5.2.2.1],AV.bool p5.1])))):=by kernel_rfl
def m14:TModel
 | [.str a0]=>some (q14 a0,AV.tup [AV.agg [AV.int .i64 (v14_0 a0),AV.int .i64 (v14_1 a0)],AV.bool (v14_2 a0)])
 | _=>none
theorem k14:Known Tryd.prog 14:=⟨Tryd.f14,Tryd.func14,by kernel_rfl,by kernel_rfl⟩
theorem meets14:Meets Tryd.prog 14 m14:=by
 refine meet (f:=Tryd.f14) (l:=[(0,sub [1,0,1,0,0] (body Tryd.f14))]) (hs:=[(14,0,[0,2,4]),(14,999,[2,3]),(14,1000,[2]),(14,1001,[0,2,4])]) (ts:=[(15,m15),(23,m23)]) (ws:=[]) (is:=[]) (ls:=[(14,0,l14_0)]) (lvl:=0) mixed k14 Tryd.func14 (by kernel_rfl) (loops_cons ok14_0 noLoop) (allT_cons meets15 (allT_cons meets23 allT_nil)) allM_nil noI fun w xs us r hl hv h=>?_
 unfold m14 at h
 split at h
 ·rename_i a0
  obtain ⟨h1,rfl⟩:=pair_inj h
  exact (e14 a0).trans ((brO (fun o:Option (Unit ⊕ (Bool × Int × Int × Int × Int))=>some (AV.tup [AV.agg [Ai (ro o 0 (sumE (fun _=>0) (fun p5=>p5.2.1))),Ai (ro o 0 (sumE (fun _=>0) (fun p5=>p5.2.2.1)))],AV.bool (ro o false (sumE (fun _=>false) (fun p5=>p5.1)))])) (brS (fun o:Unit ⊕ (Bool × Int × Int × Int × Int)=>some (AV.tup [AV.agg [Ai ((sumE (fun _=>0) (fun p5=>p5.2.1)) o),Ai ((sumE (fun _=>0) (fun p5=>p5.2.2.1)) o)],AV.bool ((sumE (fun _=>false) (fun p5=>p5.1)) o)])) (fun _=>(fun _=>rfl)) (fun p5=>(fun _=>rfl)))) h1)
 ·cases h
def F31_0 (t0:List AV) (t3:Int):Out (Int) (Unit ⊕ Unit):=(bif decide (t3<(t0.length:Int)) then (bif (decide (0≤t3) && decide (t3<(t0.length:Int))) then (bif !(v34_0 (fI (t0.getD t3.toNat .undef) 0) (fI (t0.getD t3.toNat .undef) 1)) then .stop (.inr ())
 else .next (IntKind.i64.wrap (t3+1)))
 else .fail)
 else .stop (.inl ()))
def R31_0 (t0:List AV):(Int)→Out (Int) (Unit ⊕ Unit):=fun s:Int=>F31_0 t0 s
def E31_0 (t0:List AV):(Int)→St:=fun s:Int=>⟨[(0,AV.sl [.int .i64,.int .i64] t0),(3,Ai s)],[]⟩
def K31_0 (t0:List AV) (k:Kont):(Unit ⊕ Unit)→Option AV:=sumE (fun _:Unit=>k (.exit 0) ⟨[(0,AV.sl [.int .i64,.int .i64] t0)],[]⟩) (fun _:Unit=>k .ret ⟨[(2,AV.bool false)],[]⟩)
def l31_0:LModel:=fun _ _ st k=>match st with
 | ⟨[(0,.sl g0 t0),(3,.int .i64 t3)],[]⟩=>bif ctsEq g0 ([.int .i64,.int .i64]) then ro (runW (R31_0 t0) (((t0.length:Int) - t3:Int).toNat+1) t3) none (K31_0 t0 k) else none
 | _=>none
noncomputable def c31:Cfg:=cfg Tryd.prog [(31,0,[0,3]),(31,999,[2]),(31,1000,[0]),(31,1001,[0,3])] [(34,m34)] [] [] [(31,0,l31_0)]
theorem s31_0 (ce:CallE) (t0:List AV) (t3:Int) (next:St→Option AV) (k:Kont):stepA (codeA c31 ce [] 31 0 (sub [1,0,1,0,0] (body Tryd.f31))) (normA [] [0,3]) next ⟨[(0,AV.sl [.int .i64,.int .i64] t0),(3,Ai t3)],[]⟩ k=(bif decide (t3<(t0.length:Int)) then (bif (decide (0≤t3) && decide (t3<(t0.length:Int))) then (bif !(v34_0 (fI (t0.getD t3.toNat .undef) 0) (fI (t0.getD t3.toNat .undef) 1)) then k .ret ⟨[(2,AV.bool false)],[]⟩
 else next ⟨[(0,AV.sl [.int .i64,.int .i64] t0),(3,Ai (IntKind.i64.wrap (t3+1)))],[]⟩)
 else none)
 else k (.exit 0) ⟨[(0,AV.sl [.int .i64,.int .i64] t0)],[]⟩):=by kernel_rfl
theorem st31_0 (t0:List AV) (ce:CallE) (k:Kont) (s:Int) (next:St→Option AV):stepA (codeA c31 ce [] 31 0 (sub [1,0,1,0,0] (body Tryd.f31))) (normA [] [0,3]) next ((E31_0 t0) s) k=(R31_0 t0 s).el none (fun s=>next ((E31_0 t0) s)) (K31_0 t0 k):=(s31_0 ce t0 s next k).trans (by unfold R31_0;unfold F31_0;simp only [el_cond,el_ro,el_sum,el_fail,el_next,el_stop] <;> rfl)
theorem ok31_0 {ce:CallE}:LoopOK c31 ce [] 31 0 (sub [1,0,1,0,0] (body Tryd.f31)):=by
 intro m hm st k r h
 obtain rfl:l31_0=m:=Option.some.inj hm
 unfold l31_0 at h
 split at h
 ·rename_i g0 t0 t3
  obtain ⟨hg,h⟩:=bif_some h
  have q0:=hg
  obtain rfl:=ctsEq_eq _ _ q0
  refine ⟨(((t0.length:Int) - t3:Int).toNat+1),?_⟩
  rw [← h]
  exact loop_run (E31_0 t0) (K31_0 t0 k) (st31_0 t0 ce k) _ t3
 ·cases h
def q31 (a0:List AV):Bool:=(ro (runW (R31_0 a0) (((a0.length:Int) - 0:Int).toNat+1) 0) false (sumE (fun _=>true) (fun _=>true)))
def v31_0 (a0:List AV):Bool:=(ro (runW (R31_0 a0) (((a0.length:Int) - 0:Int).toNat+1) 0) false (sumE (fun _=>decide ((a0.length:Int)≤30)) (fun _=>false)))
theorem e31 (a0:List AV):funA c31 0 31 [AV.sl [.int .i64,.int .i64] a0]=(ro (runW (R31_0 a0) (((a0.length:Int) - 0:Int).toNat+1) 0) none (sumE (fun _=>some (AV.bool (decide ((a0.length:Int)≤30)))) (fun _=>some (AV.bool false)))):=by kernel_rfl
def m31:TModel
 | [.sl g0 a0]=>bif ctsEq g0 ([.int .i64,.int .i64]) then some (q31 a0,AV.bool (v31_0 a0)) else none
 | _=>none
theorem k31:Known Tryd.prog 31:=⟨Tryd.f31,Tryd.func31,by kernel_rfl,by kernel_rfl⟩
theorem meets31:Meets Tryd.prog 31 m31:=by
 refine meet (f:=Tryd.f31) (l:=[(0,sub [1,0,1,0,0] (body Tryd.f31))]) (hs:=[(31,0,[0,3]),(31,999,[2]),(31,1000,[0]),(31,1001,[0,3])]) (ts:=[(34,m34)]) (ws:=[]) (is:=[]) (ls:=[(31,0,l31_0)]) (lvl:=0) mixed k31 Tryd.func31 (by kernel_rfl) (loops_cons ok31_0 noLoop) (allT_cons meets34 allT_nil) allM_nil noI fun w xs us r hl hv h=>?_
 unfold m31 at h
 split at h
 ·rename_i g0 a0
  obtain ⟨hg,h⟩:=bif_pair h
  have q0:=hg
  obtain rfl:=ctsEq_eq _ _ q0
  obtain ⟨h1,rfl⟩:=pair_inj h
  exact (e31 a0).trans ((brO (fun o:Option (Unit ⊕ Unit)=>some (AV.bool (ro o false (sumE (fun _=>decide ((a0.length:Int)≤30)) (fun _=>false))))) (brS (fun o:Unit ⊕ Unit=>some (AV.bool ((sumE (fun _=>decide ((a0.length:Int)≤30)) (fun _=>false)) o))) (fun _=>(fun _=>rfl)) (fun _=>(fun _=>rfl)))) h1)
 ·cases h
def F20_0 (t0:List AV) (t3:ByteArray) (t4:Int):Out ((ByteArray × Int)) (ByteArray):=(bif decide (t4<(t0.length:Int)) then (bif decide (t4 > 0) then (bif decide (t3.size+(ByteArray.mk #[32]).size≤4611686018427387904) then (bif (decide (0≤t4) && decide (t4<(t0.length:Int))) then (bif q23 (fI (t0.getD t4.toNat .undef) 0) (fI (t0.getD t4.toNat .undef) 1) then (bif decide ((t3++(ByteArray.mk #[32])).size+(v23_0 (fI (t0.getD t4.toNat .undef) 0) (fI (t0.getD t4.toNat .undef) 1)).size≤4611686018427387904) then .next ((t3++(ByteArray.mk #[32]))++(v23_0 (fI (t0.getD t4.toNat .undef) 0) (fI (t0.getD t4.toNat .undef) 1)),IntKind.i64.wrap (t4+1))
 else .fail)
 else .fail)
 else .fail)
 else .fail)
 else (bif (decide (0≤t4) && decide (t4<(t0.length:Int))) then (bif q23 (fI (t0.getD t4.toNat .undef) 0) (fI (t0.getD t4.toNat .undef) 1) then (bif decide (t3.size+(v23_0 (fI (t0.getD t4.toNat .undef) 0) (fI (t0.getD t4.toNat .undef) 1)).size≤4611686018427387904) then .next (t3++(v23_0 (fI (t0.getD t4.toNat .undef) 0) (fI (t0.getD t4.toNat .undef) 1)),IntKind.i64.wrap (t4+1))
 else .fail)
 else .fail)
 else .fail))
 else .stop t3)
def R20_0 (t0:List AV):((ByteArray × Int))→Out ((ByteArray × Int)) (ByteArray):=fun s:ByteArray × Int=>F20_0 t0 s.1 s.2
def E20_0 (t0:List AV):((ByteArray × Int))→St:=fun s:ByteArray × Int=>⟨[(0,AV.sl [.int .i64,.int .i64] t0),(3,AV.str s.1),(4,Ai s.2)],[]⟩
def K20_0 (k:Kont):(ByteArray)→Option AV:=fun p:ByteArray=>k (.exit 0) ⟨[(3,AV.str p)],[]⟩
def l20_0:LModel:=fun _ _ st k=>match st with
 | ⟨[(0,.sl g0 t0),(3,.str t3),(4,.int .i64 t4)],[]⟩=>bif ctsEq g0 ([.int .i64,.int .i64]) then ro (runW (R20_0 t0) (((t0.length:Int) - t4:Int).toNat+1) (t3,t4)) none (K20_0 k) else none
 | _=>none
noncomputable def c20:Cfg:=cfg Tryd.prog [(20,0,[0,3,4]),(20,999,[2]),(20,1000,[3]),(20,1001,[0,3,4])] [(23,m23),(31,m31)] [] [] [(20,0,l20_0)]
theorem s20_0 (ce:CallE) (t0:List AV) (t3:ByteArray) (t4:Int) (next:St→Option AV) (k:Kont):stepA (codeA c20 ce [] 20 0 (sub [1,1,1,0,1,0,0] (body Tryd.f20))) (normA [] [0,3,4]) next ⟨[(0,AV.sl [.int .i64,.int .i64] t0),(3,AV.str t3),(4,Ai t4)],[]⟩ k=(bif decide (t4<(t0.length:Int)) then (bif decide (t4 > 0) then (bif decide (t3.size+(ByteArray.mk #[32]).size≤4611686018427387904) then (bif (decide (0≤t4) && decide (t4<(t0.length:Int))) then (bif q23 (fI (t0.getD t4.toNat .undef) 0) (fI (t0.getD t4.toNat .undef) 1) then (bif decide ((t3++(ByteArray.mk #[32])).size+(v23_0 (fI (t0.getD t4.toNat .undef) 0) (fI (t0.getD t4.toNat .undef) 1)).size≤4611686018427387904) then next ⟨[(0,AV.sl [.int .i64,.int .i64] t0),(3,AV.str ((t3++(ByteArray.mk #[32]))++(v23_0 (fI (t0.getD t4.toNat .undef) 0) (fI (t0.getD t4.toNat .undef) 1)))),(4,Ai (IntKind.i64.wrap (t4+1)))],[]⟩
 else none)
 else none)
 else none)
 else none)
 else (bif (decide (0≤t4) && decide (t4<(t0.length:Int))) then (bif q23 (fI (t0.getD t4.toNat .undef) 0) (fI (t0.getD t4.toNat .undef) 1) then (bif decide (t3.size+(v23_0 (fI (t0.getD t4.toNat .undef) 0) (fI (t0.getD t4.toNat .undef) 1)).size≤4611686018427387904) then next ⟨[(0,AV.sl [.int .i64,.int .i64] t0),(3,AV.str (t3++(v23_0 (fI (t0.getD t4.toNat .undef) 0) (fI (t0.getD t4.toNat .undef) 1)))),(4,Ai (IntKind.i64.wrap (t4+1)))],[]⟩
 else none)
 else none)
 else none))
 else k (.exit 0) ⟨[(3,AV.str t3)],[]⟩):=by kernel_rfl
theorem st20_0 (t0:List AV) (ce:CallE) (k:Kont) (s:(ByteArray × Int)) (next:St→Option AV):stepA (codeA c20 ce [] 20 0 (sub [1,1,1,0,1,0,0] (body Tryd.f20))) (normA [] [0,3,4]) next ((E20_0 t0) s) k=(R20_0 t0 s).el none (fun s=>next ((E20_0 t0) s)) (K20_0 k):=(s20_0 ce t0 s.1 s.2 next k).trans (by unfold R20_0;unfold F20_0;simp only [el_cond,el_ro,el_sum,el_fail,el_next,el_stop] <;> rfl)
theorem ok20_0 {ce:CallE}:LoopOK c20 ce [] 20 0 (sub [1,1,1,0,1,0,0] (body Tryd.f20)):=by
 intro m hm st k r h
 obtain rfl:l20_0=m:=Option.some.inj hm
 unfold l20_0 at h
 split at h
 ·rename_i g0 t0 t3 t4
  obtain ⟨hg,h⟩:=bif_some h
  have q0:=hg
  obtain rfl:=ctsEq_eq _ _ q0
  refine ⟨(((t0.length:Int) - t4:Int).toNat+1),?_⟩
  rw [← h]
  exact loop_run (E20_0 t0) (K20_0 k) (st20_0 t0 ce k) _ (t3,t4)
 ·cases h
def q20 (a0:List AV):Bool:=(q31 a0 && (bif !(v31_0 a0) then true else (ro (runW (R20_0 a0) (((a0.length:Int) - 0:Int).toNat+1) (ByteArray.empty,0)) false (fun p9=>true))))
def v20_0 (a0:List AV):ByteArray:=(bif !(v31_0 a0) then ByteArray.empty else (ro (runW (R20_0 a0) (((a0.length:Int) - 0:Int).toNat+1) (ByteArray.empty,0)) ByteArray.empty (fun p9=>(bif (p9.toList == ByteArray.empty.toList) then (ByteArray.mk #[110,111,110,101]) else p9))))
theorem e20 (a0:List AV):funA c20 0 20 [AV.sl [.int .i64,.int .i64] a0]=(bif q31 a0 then (bif !(v31_0 a0) then some (AV.str ByteArray.empty)
 else (ro (runW (R20_0 a0) (((a0.length:Int) - 0:Int).toNat+1) (ByteArray.empty,0)) none (fun p9=>(bif (p9.toList == ByteArray.empty.toList) then some (AV.str (ByteArray.mk #[110,111,110,101]))
 else some (AV.str p9)))))
 else none):=by kernel_rfl
def m20:TModel
 | [.sl g0 a0]=>bif ctsEq g0 ([.int .i64,.int .i64]) then some (q20 a0,AV.str (v20_0 a0)) else none
 | _=>none
theorem k20:Known Tryd.prog 20:=⟨Tryd.f20,Tryd.func20,by kernel_rfl,by kernel_rfl⟩
theorem meets20:Meets Tryd.prog 20 m20:=by
 refine meet (f:=Tryd.f20) (l:=[(0,sub [1,1,1,0,1,0,0] (body Tryd.f20))]) (hs:=[(20,0,[0,3,4]),(20,999,[2]),(20,1000,[3]),(20,1001,[0,3,4])]) (ts:=[(23,m23),(31,m31)]) (ws:=[]) (is:=[]) (ls:=[(20,0,l20_0)]) (lvl:=0) mixed k20 Tryd.func20 (by kernel_rfl) (loops_cons ok20_0 noLoop) (allT_cons meets23 (allT_cons meets31 allT_nil)) allM_nil noI fun w xs us r hl hv h=>?_
 unfold m20 at h
 split at h
 ·rename_i g0 a0
  obtain ⟨hg,h⟩:=bif_pair h
  have q0:=hg
  obtain rfl:=ctsEq_eq _ _ q0
  obtain ⟨h1,rfl⟩:=pair_inj h
  exact (e20 a0).trans ((brL (br (fun b=>some (AV.str (bif b then ByteArray.empty else (ro (runW (R20_0 a0) (((a0.length:Int) - 0:Int).toNat+1) (ByteArray.empty,0)) ByteArray.empty (fun p9=>(bif (p9.toList == ByteArray.empty.toList) then (ByteArray.mk #[110,111,110,101]) else p9)))))) (fun _=>rfl) (brO (fun o:Option (ByteArray)=>some (AV.str (ro o ByteArray.empty (fun p9=>(bif (p9.toList == ByteArray.empty.toList) then (ByteArray.mk #[110,111,110,101]) else p9))))) (fun p9=>(brT (fun b=>some (AV.str (bif b then (ByteArray.mk #[110,111,110,101]) else p9))) (fun _=>rfl) (fun _=>rfl)))))) h1)
 ·cases h
def F8_0 (t0:ByteArray) (h0:List AV) (t6:Int) (h1:List AV):Out ((Int × (List AV))) (((List AV))):=(bif decide (t6<(h0.length:Int)) then (bif (decide (0≤t6) && decide (t6<(h0.length:Int))) then (bif q14 (fS (h0.getD t6.toNat .undef) 0) then (bif (decide ((h1.length+([AV.agg [AV.int .i64 (v14_0 (fS (h0.getD t6.toNat .undef) 0)),AV.int .i64 (v14_1 (fS (h0.getD t6.toNat .undef) 0))]]).length)*16≤140737488355328) && decide ((h1.length+([AV.agg [AV.int .i64 (v14_0 (fS (h0.getD t6.toNat .undef) 0)),AV.int .i64 (v14_1 (fS (h0.getD t6.toNat .undef) 0))]]).length)≤140737488355328)) then .next (IntKind.i64.wrap (t6+1),h1++([AV.agg [AV.int .i64 (v14_0 (fS (h0.getD t6.toNat .undef) 0)),AV.int .i64 (v14_1 (fS (h0.getD t6.toNat .undef) 0))]]))
 else .fail)
 else .fail)
 else .fail)
 else .stop h1)
def R8_0 (t0:ByteArray) (h0:List AV):((Int × (List AV)))→Out ((Int × (List AV))) (((List AV))):=fun s:Int × (List AV)=>F8_0 t0 h0 s.1 s.2
def E8_0 (t0:ByteArray) (h0:List AV):((Int × (List AV)))→St:=fun s:Int × (List AV)=>⟨[(0,AV.str t0),(4,AV.own [0,4]),(5,AV.own [0,5]),(6,Ai s.1)],[([0,4],⟨false,[.str],h0⟩),([0,5],⟨false,[.int .i64,.int .i64],s.2⟩)]⟩
def K8_0 (t0:ByteArray) (h0:List AV) (k:Kont):(((List AV)))→Option AV:=fun p:(List AV)=>k (.exit 0) ⟨[(0,AV.str t0),(5,AV.own [0,5])],[([0,4],⟨false,[.str],h0⟩),([0,5],⟨false,[.int .i64,.int .i64],p⟩)]⟩
def l8_0:LModel:=fun _ _ st k=>match st with
 | ⟨[(0,.str t0),(4,.own g0),(5,.own g1),(6,.int .i64 t6)],[(g2,⟨false,g3,h0⟩),(g4,⟨false,g5,h1⟩)]⟩=>bif nmEq g0 ([0,4]) && nmEq g1 ([0,5]) && nmEq g2 ([0,4]) && ctsEq g3 ([.str]) && nmEq g4 ([0,5]) && ctsEq g5 ([.int .i64,.int .i64]) then ro (runW (R8_0 t0 h0) (((h0.length:Int) - t6:Int).toNat+1) (t6,h1)) none (K8_0 t0 h0 k) else none
 | _=>none
noncomputable def c8:Cfg:=cfg Tryd.prog [(8,0,[0,4,5,6]),(8,999,[2,3]),(8,1000,[0,5]),(8,1001,[0,4,5,6])] [(13,m13),(14,m14),(20,m20)] [] [] [(8,0,l8_0)]
theorem s8_0 (ce:CallE) (t0:ByteArray) (t6:Int) (h0 h1:List AV) (next:St→Option AV) (k:Kont):stepA (codeA c8 ce [] 8 0 (sub [1,1,1,1,0,1,0,0] (body Tryd.f8))) (normA [] [0,4,5,6]) next ⟨[(0,AV.str t0),(4,AV.own [0,4]),(5,AV.own [0,5]),(6,Ai t6)],[([0,4],⟨false,[.str],h0⟩),([0,5],⟨false,[.int .i64,.int .i64],h1⟩)]⟩ k=(bif decide (t6<(h0.length:Int)) then (bif (decide (0≤t6) && decide (t6<(h0.length:Int))) then (bif q14 (fS (h0.getD t6.toNat .undef) 0) then (bif (decide ((h1.length+([AV.agg [Ai (v14_0 (fS (h0.getD t6.toNat .undef) 0)),Ai (v14_1 (fS (h0.getD t6.toNat .undef) 0))]]).length)*16≤140737488355328) && decide ((h1.length+([AV.agg [Ai (v14_0 (fS (h0.getD t6.toNat .undef) 0)),Ai (v14_1 (fS (h0.getD t6.toNat .undef) 0))]]).length)≤140737488355328)) then next ⟨[(0,AV.str t0),(4,AV.own [0,4]),(5,AV.own [0,5]),(6,Ai (IntKind.i64.wrap (t6+1)))],[([0,4],⟨false,[.str],h0⟩),([0,5],⟨false,[.int .i64,.int .i64],h1++([AV.agg [Ai (v14_0 (fS (h0.getD t6.toNat .undef) 0)),Ai (v14_1 (fS (h0.getD t6.toNat .undef) 0))]])⟩)]⟩
 else none)
 else none)
 else none)
 else k (.exit 0) ⟨[(0,AV.str t0),(5,AV.own [0,5])],[([0,4],⟨false,[.str],h0⟩),([0,5],⟨false,[.int .i64,.int .i64],h1⟩)]⟩):=by kernel_rfl
theorem st8_0 (t0:ByteArray) (h0:List AV) (ce:CallE) (k:Kont) (s:(Int × (List AV))) (next:St→Option AV):stepA (codeA c8 ce [] 8 0 (sub [1,1,1,1,0,1,0,0] (body Tryd.f8))) (normA [] [0,4,5,6]) next ((E8_0 t0 h0) s) k=(R8_0 t0 h0 s).el none (fun s=>next ((E8_0 t0 h0) s)) (K8_0 t0 h0 k):=(s8_0 ce t0 s.1 h0 s.2 next k).trans (by unfold R8_0;unfold F8_0;simp only [el_cond,el_ro,el_sum,el_fail,el_next,el_stop] <;> rfl)
theorem ok8_0 {ce:CallE}:LoopOK c8 ce [] 8 0 (sub [1,1,1,1,0,1,0,0] (body Tryd.f8)):=by
 intro m hm st k r h
 obtain rfl:l8_0=m:=Option.some.inj hm
 unfold l8_0 at h
 split at h
 ·rename_i t0 g0 g1 t6 g2 g3 h0 g4 g5 h1
  obtain ⟨hg,h⟩:=bif_some h
  simp only [Bool.and_eq_true] at hg
  obtain ⟨⟨⟨⟨⟨q0,q1⟩,q2⟩,q3⟩,q4⟩,q5⟩:=hg
  obtain rfl:=(nmEq_iff _ _).1 q0
  obtain rfl:=(nmEq_iff _ _).1 q1
  obtain rfl:=(nmEq_iff _ _).1 q2
  obtain rfl:=ctsEq_eq _ _ q3
  obtain rfl:=(nmEq_iff _ _).1 q4
  obtain rfl:=ctsEq_eq _ _ q5
  refine ⟨(((h0.length:Int) - t6:Int).toNat+1),?_⟩
  rw [← h]
  exact loop_run (E8_0 t0 h0) (K8_0 t0 h0 k) (st8_0 t0 h0 ce k) _ (t6,h1)
 ·cases h
def q8 (a0:ByteArray):Bool:=(bif (a0.toList == (ByteArray.mk #[110,111,110,101]).toList) then true else (q13 a0 32 && (ro (runW (R8_0 a0 (v13_0 a0 32)) ((((v13_0 a0 32).length:Int) - 0:Int).toNat+1) (0,([]:List AV))) false (fun p6=>q20 p6))))
def v8_0 (a0:ByteArray):List AV:=(bif (a0.toList == (ByteArray.mk #[110,111,110,101]).toList) then ([]:List AV) else (ro (runW (R8_0 a0 (v13_0 a0 32)) ((((v13_0 a0 32).length:Int) - 0:Int).toNat+1) (0,([]:List AV))) [] (fun p6=>(bif !((v20_0 p6).toList == a0.toList) then ([]:List AV) else p6))))
def v8_1 (a0:ByteArray):Bool:=(bif (a0.toList == (ByteArray.mk #[110,111,110,101]).toList) then true else (ro (runW (R8_0 a0 (v13_0 a0 32)) ((((v13_0 a0 32).length:Int) - 0:Int).toNat+1) (0,([]:List AV))) false (fun p6=>(bif !((v20_0 p6).toList == a0.toList) then false else true))))
theorem e8 (a0:ByteArray):funA c8 0 8 [AV.str a0]=(bif (a0.toList == (ByteArray.mk #[110,111,110,101]).toList) then some (AV.tup [AV.fl [.int .i64,.int .i64] ([]:List AV),AV.bool true])
 else (bif q13 a0 32 then (ro (runW (R8_0 a0 (v13_0 a0 32)) ((((v13_0 a0 32).length:Int) - 0:Int).toNat+1) (0,([]:List AV))) none (fun p6=>(bif q20 p6 then (bif !((v20_0 p6).toList == a0.toList) then some (AV.tup [AV.fl [.int .i64,.int .i64] ([]:List AV),AV.bool false])
 else some (AV.tup [AV.fl [.int .i64,.int .i64] p6,AV.bool true]))
 else none)))
 else none)):=by kernel_rfl
def m8:TModel
 | [.str a0]=>some (q8 a0,AV.tup [AV.fl [.int .i64,.int .i64] (v8_0 a0),AV.bool (v8_1 a0)])
 | _=>none
theorem k8:Known Tryd.prog 8:=⟨Tryd.f8,Tryd.func8,by kernel_rfl,by kernel_rfl⟩
theorem meets8:Meets Tryd.prog 8 m8:=by
 refine meet (f:=Tryd.f8) (l:=[(0,sub [1,1,1,1,0,1,0,0] (body Tryd.f8))]) (hs:=[(8,0,[0,4,5,6]),(8,999,[2,3]),(8,1000,[0,5]),(8,1001,[0,4,5,6])]) (ts:=[(13,m13),(14,m14),(20,m20)]) (ws:=[]) (is:=[]) (ls:=[(8,0,l8_0)]) (lvl:=0) mixed k8 Tryd.func8 (by kernel_rfl) (loops_cons ok8_0 noLoop) (allT_cons meets13 (allT_cons meets14 (allT_cons meets20 allT_nil))) allM_nil noI fun w xs us r hl hv h=>?_
 unfold m8 at h
 split at h
 ·rename_i a0
  obtain ⟨h1,rfl⟩:=pair_inj h
  exact (e8 a0).trans ((br (fun b=>some (AV.tup [AV.fl [.int .i64,.int .i64] (bif b then ([]:List AV) else (ro (runW (R8_0 a0 (v13_0 a0 32)) ((((v13_0 a0 32).length:Int) - 0:Int).toNat+1) (0,([]:List AV))) [] (fun p6=>(bif !((v20_0 p6).toList == a0.toList) then ([]:List AV) else p6)))),AV.bool (bif b then true else (ro (runW (R8_0 a0 (v13_0 a0 32)) ((((v13_0 a0 32).length:Int) - 0:Int).toNat+1) (0,([]:List AV))) false (fun p6=>(bif !((v20_0 p6).toList == a0.toList) then false else true))))])) (fun _=>rfl) (brL (brO (fun o:Option (((List AV)))=>some (AV.tup [AV.fl [.int .i64,.int .i64] (ro o [] (fun p6=>(bif !((v20_0 p6).toList == a0.toList) then ([]:List AV) else p6))),AV.bool (ro o false (fun p6=>(bif !((v20_0 p6).toList == a0.toList) then false else true)))])) (fun p6=>(brL1 (brT (fun b=>some (AV.tup [AV.fl [.int .i64,.int .i64] (bif b then ([]:List AV) else p6),AV.bool (bif b then false else true)])) (fun _=>rfl) (fun _=>rfl))))))) h1)
 ·cases h
def q17 (a0 a1:ByteArray):Bool:=decide (a0.size<4294967281) && decide (1≤a1.size)
def v17_0 (a0 a1:ByteArray):List AV:=splitL a0 a1
def m17:TModel:=splitM
theorem k17:Known Tryd.prog 17:=⟨Tryd.f17,Tryd.func17,by kernel_rfl,by kernel_rfl⟩
theorem meets17:Meets Tryd.prog 17 m17:=split_meets (splitWalk k17)
def q32 (a0 a1:ByteArray):Bool:=decide (a0.size<4294967281)
def v32_0 (a0 a1:ByteArray):ByteArray:=cutA a0 a1
def v32_1 (a0 a1:ByteArray):ByteArray:=cutB a0 a1
def v32_2 (a0 a1:ByteArray):Bool:=(Lib.cut a0.data.toList a1.data.toList).2.2
def m32:TModel:=cutM
theorem k32:Known Tryd.prog 32:=⟨Tryd.f32,Tryd.func32,by kernel_rfl,by kernel_rfl⟩
theorem meets32:Meets Tryd.prog 32 m32:=cut_meets (cutWalk k32)
def q18 (a0:ByteArray):Bool:=decide (a0.size≤281474976710656)
def v18_0 (a0:ByteArray):Int:=(pintN a0).getD 0
def v18_1 (a0:ByteArray):Bool:=(pintN a0).isSome
def m18:TModel:=pintM
theorem k18:Known Tryd.prog 18:=⟨Tryd.f18,Tryd.func18,by kernel_rfl,by kernel_rfl⟩
theorem meets18:Meets Tryd.prog 18 m18:=pint_meets (pintWalk k18)
noncomputable def c42:Cfg:=cfg Tryd.prog [(42,999,[2])] [] [] [] []
def q42 (xa xb:Int):Bool:=true
def v42_0 (xa xb:Int):Bool:=(bif decide ((-1000)≤xa) then (bif decide (xa≤xb) then decide (xb≤1000) else false) else false)
theorem e42 (xa xb:Int):funA c42 0 42 [AV.agg [Ai xa,Ai xb]]=(bif decide ((-1000)≤xa) then (bif decide (xa≤xb) then some (AV.bool (decide (xb≤1000)))
 else some (AV.bool false))
 else some (AV.bool false)):=by kernel_rfl
def m42:TModel
 | [.agg [.int .i64 xa,.int .i64 xb]]=>some (true,AV.bool (v42_0 xa xb))
 | _=>none
theorem k42:Known Tryd.prog 42:=⟨Tryd.f42,Tryd.func42,by kernel_rfl,by kernel_rfl⟩
theorem meets42:Meets Tryd.prog 42 m42:=by
 refine meet (f:=Tryd.f42) (l:=[]) (hs:=[(42,999,[2])]) (ts:=[]) (ws:=[]) (is:=[]) (ls:=[]) (lvl:=0) mixed k42 Tryd.func42 (by kernel_rfl) noLoop allT_nil allM_nil noI fun w xs us r hl hv h=>?_
 unfold m42 at h
 split at h
 ·rename_i xa xb
  obtain ⟨h1,rfl⟩:=pair_inj h
  exact (e42 xa xb).trans (of_tt (brT (fun b=>some (AV.bool (bif b then (bif decide (xa≤xb) then decide (xb≤1000) else false) else false))) (brT (fun b=>some (AV.bool (bif b then decide (xb≤1000) else false))) (fun _=>rfl) (fun _=>rfl)) (fun _=>rfl)))
 ·cases h
def q40 (a0:Int):Bool:=decide (-9223372036854775808≤a0) && decide (a0≤9223372036854775807)
def v40_0 (a0:Int):ByteArray:=itoaB a0
def m40:TModel:=itoaM
theorem k40:Known Tryd.prog 40:=⟨Tryd.f40,Tryd.func40,by kernel_rfl,by kernel_rfl⟩
theorem meets40:Meets Tryd.prog 40 m40:=itoa_meets ⟨k40,fun n w h0 h1 hG=>Any.strconv_Itoa lays171 n h0 h1 w (show GOk w from hG).tab⟩
noncomputable def c29:Cfg:=cfg Tryd.prog [(29,999,[2])] [(40,m40)] [] [] []
def q29 (a0:Int):Bool:=q40 a0
def v29_0 (a0:Int):ByteArray:=(v40_0 a0)
theorem e29 (a0:Int):funA c29 0 29 [Ai a0]=(bif q40 a0 then some (AV.str (v40_0 a0))
 else none):=by kernel_rfl
def m29:TModel
 | [.int .i64 a0]=>some (q29 a0,AV.str (v29_0 a0))
 | _=>none
theorem k29:Known Tryd.prog 29:=⟨Tryd.f29,Tryd.func29,by kernel_rfl,by kernel_rfl⟩
theorem meets29:Meets Tryd.prog 29 m29:=by
 refine meet (f:=Tryd.f29) (l:=[]) (hs:=[(29,999,[2])]) (ts:=[(40,m40)]) (ws:=[]) (is:=[]) (ls:=[]) (lvl:=0) mixed k29 Tryd.func29 (by kernel_rfl) noLoop (allT_cons meets40 allT_nil) allM_nil noI fun w xs us r hl hv h=>?_
 unfold m29 at h
 split at h
 ·rename_i a0
  obtain ⟨h1,rfl⟩:=pair_inj h
  exact (e29 a0).trans ((brL1 (fun _=>rfl)) h1)
 ·cases h
noncomputable def c33:Cfg:=cfg Tryd.prog [(33,999,[2])] [(29,m29),(42,m42)] [] [] []
def q33 (xa xb:Int):Bool:=(bif !(v42_0 xa xb) then true else (q29 xa && (decide ((v29_0 xa).size+(ByteArray.mk #[46,46]).size≤4611686018427387904) && (q29 xb && decide (((v29_0 xa)++(ByteArray.mk #[46,46])).size+(v29_0 xb).size≤4611686018427387904)))))
def v33_0 (xa xb:Int):ByteArray:=(bif !(v42_0 xa xb) then ByteArray.empty else ((v29_0 xa)++(ByteArray.mk #[46,46]))++(v29_0 xb))
theorem e33 (xa xb:Int):funA c33 0 33 [AV.agg [Ai xa,Ai xb]]=(bif !(v42_0 xa xb) then some (AV.str ByteArray.empty)
 else (bif q29 xa then (bif decide ((v29_0 xa).size+(ByteArray.mk #[46,46]).size≤4611686018427387904) then (bif q29 xb then (bif decide (((v29_0 xa)++(ByteArray.mk #[46,46])).size+(v29_0 xb).size≤4611686018427387904) then some (AV.str (((v29_0 xa)++(ByteArray.mk #[46,46]))++(v29_0 xb)))
 else none)
 else none)
 else none)
 else none)):=by kernel_rfl
def m33:TModel
 | [.agg [.int .i64 xa,.int .i64 xb]]=>some (q33 xa xb,AV.str (v33_0 xa xb))
 | _=>none
theorem k33:Known Tryd.prog 33:=⟨Tryd.f33,Tryd.func33,by kernel_rfl,by kernel_rfl⟩
theorem meets33:Meets Tryd.prog 33 m33:=by
 refine meet (f:=Tryd.f33) (l:=[]) (hs:=[(33,999,[2])]) (ts:=[(29,m29),(42,m42)]) (ws:=[]) (is:=[]) (ls:=[]) (lvl:=0) mixed k33 Tryd.func33 (by kernel_rfl) noLoop (allT_cons meets29 (allT_cons meets42 allT_nil)) allM_nil noI fun w xs us r hl hv h=>?_
 unfold m33 at h
 split at h
 ·rename_i xa xb
  obtain ⟨h1,rfl⟩:=pair_inj h
  exact (e33 xa xb).trans ((br (fun b=>some (AV.str (bif b then ByteArray.empty else ((v29_0 xa)++(ByteArray.mk #[46,46]))++(v29_0 xb)))) (fun _=>rfl) (brL (brL (brL (brL1 (fun _=>rfl)))))) h1)
 ·cases h
noncomputable def c21:Cfg:=cfg Tryd.prog [(21,999,[2,3])] [(18,m18),(32,m32),(33,m33)] [] [] []
def q21 (a0:ByteArray):Bool:=(q32 a0 (ByteArray.mk #[46,46]) && (q18 (v32_0 a0 (ByteArray.mk #[46,46])) && (q18 (v32_1 a0 (ByteArray.mk #[46,46])) && (bif (a0.toList == ByteArray.empty.toList) then true else q33 (v18_0 (v32_0 a0 (ByteArray.mk #[46,46]))) (v18_0 (v32_1 a0 (ByteArray.mk #[46,46])))))))
def v21_0 (a0:ByteArray):Int:=(bif (a0.toList == ByteArray.empty.toList) then 0 else (bif !((v33_0 (v18_0 (v32_0 a0 (ByteArray.mk #[46,46]))) (v18_0 (v32_1 a0 (ByteArray.mk #[46,46])))).toList == a0.toList) then 0 else (v18_0 (v32_0 a0 (ByteArray.mk #[46,46])))))
def v21_1 (a0:ByteArray):Int:=(bif (a0.toList == ByteArray.empty.toList) then 0 else (bif !((v33_0 (v18_0 (v32_0 a0 (ByteArray.mk #[46,46]))) (v18_0 (v32_1 a0 (ByteArray.mk #[46,46])))).toList == a0.toList) then 0 else (v18_0 (v32_1 a0 (ByteArray.mk #[46,46])))))
def v21_2 (a0:ByteArray):Bool:=(bif (a0.toList == ByteArray.empty.toList) then false else (bif !((v33_0 (v18_0 (v32_0 a0 (ByteArray.mk #[46,46]))) (v18_0 (v32_1 a0 (ByteArray.mk #[46,46])))).toList == a0.toList) then false else true))
theorem e21 (a0:ByteArray):funA c21 0 21 [AV.str a0]=(bif q32 a0 (ByteArray.mk #[46,46]) then (bif q18 (v32_0 a0 (ByteArray.mk #[46,46])) then (bif q18 (v32_1 a0 (ByteArray.mk #[46,46])) then (bif (a0.toList == ByteArray.empty.toList) then some (AV.tup [AV.agg [Ai 0,Ai 0],AV.bool false])
 else (bif q33 (v18_0 (v32_0 a0 (ByteArray.mk #[46,46]))) (v18_0 (v32_1 a0 (ByteArray.mk #[46,46]))) then (bif !((v33_0 (v18_0 (v32_0 a0 (ByteArray.mk #[46,46]))) (v18_0 (v32_1 a0 (ByteArray.mk #[46,46])))).toList == a0.toList) then some (AV.tup [AV.agg [Ai 0,Ai 0],AV.bool false])
 else some (AV.tup [AV.agg [Ai (v18_0 (v32_0 a0 (ByteArray.mk #[46,46]))),Ai (v18_0 (v32_1 a0 (ByteArray.mk #[46,46])))],AV.bool true]))
 else none))
 else none)
 else none)
 else none):=by kernel_rfl
def m21:TModel
 | [.str a0]=>some (q21 a0,AV.tup [AV.agg [AV.int .i64 (v21_0 a0),AV.int .i64 (v21_1 a0)],AV.bool (v21_2 a0)])
 | _=>none
theorem k21:Known Tryd.prog 21:=⟨Tryd.f21,Tryd.func21,by kernel_rfl,by kernel_rfl⟩
theorem meets21:Meets Tryd.prog 21 m21:=by
 refine meet (f:=Tryd.f21) (l:=[]) (hs:=[(21,999,[2,3])]) (ts:=[(18,m18),(32,m32),(33,m33)]) (ws:=[]) (is:=[]) (ls:=[]) (lvl:=0) mixed k21 Tryd.func21 (by kernel_rfl) noLoop (allT_cons meets18 (allT_cons meets32 (allT_cons meets33 allT_nil))) allM_nil noI fun w xs us r hl hv h=>?_
 unfold m21 at h
 split at h
 ·rename_i a0
  obtain ⟨h1,rfl⟩:=pair_inj h
  exact (e21 a0).trans ((brL (brL (brL (br (fun b=>some (AV.tup [AV.agg [Ai (bif b then 0 else (bif !((v33_0 (v18_0 (v32_0 a0 (ByteArray.mk #[46,46]))) (v18_0 (v32_1 a0 (ByteArray.mk #[46,46])))).toList == a0.toList) then 0 else (v18_0 (v32_0 a0 (ByteArray.mk #[46,46]))))),Ai (bif b then 0 else (bif !((v33_0 (v18_0 (v32_0 a0 (ByteArray.mk #[46,46]))) (v18_0 (v32_1 a0 (ByteArray.mk #[46,46])))).toList == a0.toList) then 0 else (v18_0 (v32_1 a0 (ByteArray.mk #[46,46])))))],AV.bool (bif b then false else (bif !((v33_0 (v18_0 (v32_0 a0 (ByteArray.mk #[46,46]))) (v18_0 (v32_1 a0 (ByteArray.mk #[46,46])))).toList == a0.toList) then false else true))])) (fun _=>rfl) (brL1 (brT (fun b=>some (AV.tup [AV.agg [Ai (bif b then 0 else (v18_0 (v32_0 a0 (ByteArray.mk #[46,46])))),Ai (bif b then 0 else (v18_0 (v32_1 a0 (ByteArray.mk #[46,46]))))],AV.bool (bif b then false else true)])) (fun _=>rfl) (fun _=>rfl))))))) h1)
 ·cases h
def F9_0 (t14:Int) (h1:List AV) (t15:Int) (h0:List AV):Out ((Int × (List AV))) (((List AV)) ⊕ ((List AV) × Int × Int)):=(bif decide (t15<t14) then (bif (decide (0≤t15) && decide (t15<(h1.length:Int))) then (bif q21 (fS (h1.getD t15.toNat .undef) 0) then (bif !(v21_2 (fS (h1.getD t15.toNat .undef) 0)) then .stop (.inr (h0,(v21_0 (fS (h1.getD t15.toNat .undef) 0)),(v21_1 (fS (h1.getD t15.toNat .undef) 0))))
 else (bif decide ((h0.length:Int)=30) then .stop (.inr (h0,(v21_0 (fS (h1.getD t15.toNat .undef) 0)),(v21_1 (fS (h1.getD t15.toNat .undef) 0))))
 else (bif (decide ((h0.length+([AV.agg [AV.int .i64 (v21_0 (fS (h1.getD t15.toNat .undef) 0)),AV.int .i64 (v21_1 (fS (h1.getD t15.toNat .undef) 0))]]).length)*16≤140737488355328) && decide ((h0.length+([AV.agg [AV.int .i64 (v21_0 (fS (h1.getD t15.toNat .undef) 0)),AV.int .i64 (v21_1 (fS (h1.getD t15.toNat .undef) 0))]]).length)≤140737488355328)) then .next (IntKind.i64.wrap (t15+1),h0++([AV.agg [AV.int .i64 (v21_0 (fS (h1.getD t15.toNat .undef) 0)),AV.int .i64 (v21_1 (fS (h1.getD t15.toNat .undef) 0))]]))
 else .fail)))
 else .fail)
 else .fail)
 else .stop (.inl h0))
def R9_0 (t14:Int) (h1:List AV):((Int × (List AV)))→Out ((Int × (List AV))) (((List AV)) ⊕ ((List AV) × Int × Int)):=fun s:Int × (List AV)=>F9_0 t14 h1 s.1 s.2
def E9_0 (t14:Int) (h1:List AV):((Int × (List AV)))→St:=fun s:Int × (List AV)=>⟨[(4,AV.own [0,4]),(13,AV.own [0,13]),(14,Ai t14),(15,Ai s.1)],[([0,4],⟨false,[.int .i64,.int .i64],s.2⟩),([0,13],⟨false,[.str],h1⟩)]⟩
def K9_0 (h1:List AV) (k:Kont):(((List AV)) ⊕ ((List AV) × Int × Int))→Option AV:=sumE (fun p:(List AV)=>k (.exit 0) ⟨[(4,AV.own [0,4])],[([0,4],⟨false,[.int .i64,.int .i64],p⟩),([0,13],⟨false,[.str],h1⟩)]⟩) (fun p:(List AV) × Int × Int=>k .ret ⟨[(2,AV.snil),(3,AV.bool false)],[([0,4],⟨false,[.int .i64,.int .i64],p.1⟩),([0,13],⟨false,[.str],h1⟩),([1,7],⟨true,[],[AV.agg [Ai p.2.1,Ai p.2.2]]⟩)]⟩)
def l9_0:LModel:=fun _ _ st k=>match st with
 | ⟨[(4,.own g0),(13,.own g1),(14,.int .i64 t14),(15,.int .i64 t15)],[(g2,⟨false,g3,h0⟩),(g4,⟨false,g5,h1⟩)]⟩=>bif nmEq g0 ([0,4]) && nmEq g1 ([0,13]) && nmEq g2 ([0,4]) && ctsEq g3 ([.int .i64,.int .i64]) && nmEq g4 ([0,13]) && ctsEq g5 ([.str]) then ro (runW (R9_0 t14 h1) ((t14 - t15:Int).toNat+1) (t15,h0)) none (K9_0 h1 k) else none
 | _=>none
noncomputable def c9:Cfg:=cfg Tryd.prog [(9,0,[4,13,14,15]),(9,999,[2,3]),(9,1000,[4]),(9,1001,[4,13,14,15])] [(17,m17),(21,m21)] [] [] [(9,0,l9_0)]
theorem s9_0 (ce:CallE) (t14 t15:Int) (h0 h1:List AV) (next:St→Option AV) (k:Kont):stepA (codeA c9 ce [] 9 0 (sub [1,1,1,0,1,0,0] (body Tryd.f9))) (normA [] [4,13,14,15]) next ⟨[(4,AV.own [0,4]),(13,AV.own [0,13]),(14,Ai t14),(15,Ai t15)],[([0,4],⟨false,[.int .i64,.int .i64],h0⟩),([0,13],⟨false,[.str],h1⟩)]⟩ k=(bif decide (t15<t14) then (bif (decide (0≤t15) && decide (t15<(h1.length:Int))) then (bif q21 (fS (h1.getD t15.toNat .undef) 0) then (bif !(v21_2 (fS (h1.getD t15.toNat .undef) 0)) then k .ret ⟨[(2,AV.snil),(3,AV.bool false)],[([0,4],⟨false,[.int .i64,.int .i64],h0⟩),([0,13],⟨false,[.str],h1⟩),([1,7],⟨true,[],[AV.agg [Ai (v21_0 (fS (h1.getD t15.toNat .undef) 0)),Ai (v21_1 (fS (h1.getD t15.toNat .undef) 0))]]⟩)]⟩
 else (bif decide ((h0.length:Int)=30) then k .ret ⟨[(2,AV.snil),(3,AV.bool false)],[([0,4],⟨false,[.int .i64,.int .i64],h0⟩),([0,13],⟨false,[.str],h1⟩),([1,7],⟨true,[],[AV.agg [Ai (v21_0 (fS (h1.getD t15.toNat .undef) 0)),Ai (v21_1 (fS (h1.getD t15.toNat .undef) 0))]]⟩)]⟩
 else (bif (decide ((h0.length+([AV.agg [Ai (v21_0 (fS (h1.getD t15.toNat .undef) 0)),Ai (v21_1 (fS (h1.getD t15.toNat .undef) 0))]]).length)*16≤140737488355328) && decide ((h0.length+([AV.agg [Ai (v21_0 (fS (h1.getD t15.toNat .undef) 0)),Ai (v21_1 (fS (h1.getD t15.toNat .undef) 0))]]).length)≤140737488355328)) then next ⟨[(4,AV.own [0,4]),(13,AV.own [0,13]),(14,Ai t14),(15,Ai (IntKind.i64.wrap (t15+1)))],[([0,4],⟨false,[.int .i64,.int .i64],h0++([AV.agg [Ai (v21_0 (fS (h1.getD t15.toNat .undef) 0)),Ai (v21_1 (fS (h1.getD t15.toNat .undef) 0))]])⟩),([0,13],⟨false,[.str],h1⟩)]⟩
 else none)))
 else none)
 else none)
 else k (.exit 0) ⟨[(4,AV.own [0,4])],[([0,4],⟨false,[.int .i64,.int .i64],h0⟩),([0,13],⟨false,[.str],h1⟩)]⟩):=by kernel_rfl
theorem st9_0 (t14:Int) (h1:List AV) (ce:CallE) (k:Kont) (s:(Int × (List AV))) (next:St→Option AV):stepA (codeA c9 ce [] 9 0 (sub [1,1,1,0,1,0,0] (body Tryd.f9))) (normA [] [4,13,14,15]) next ((E9_0 t14 h1) s) k=(R9_0 t14 h1 s).el none (fun s=>next ((E9_0 t14 h1) s)) (K9_0 h1 k):=(s9_0 ce t14 s.1 s.2 h1 next k).trans (by unfold R9_0;unfold F9_0;simp only [el_cond,el_ro,el_sum,el_fail,el_next,el_stop] <;> rfl)
theorem ok9_0 {ce:CallE}:LoopOK c9 ce [] 9 0 (sub [1,1,1,0,1,0,0] (body Tryd.f9)):=by
 intro m hm st k r h
 obtain rfl:l9_0=m:=Option.some.inj hm
 unfold l9_0 at h
 split at h
 ·rename_i g0 g1 t14 t15 g2 g3 h0 g4 g5 h1
  obtain ⟨hg,h⟩:=bif_some h
  simp only [Bool.and_eq_true] at hg
  obtain ⟨⟨⟨⟨⟨q0,q1⟩,q2⟩,q3⟩,q4⟩,q5⟩:=hg
  obtain rfl:=(nmEq_iff _ _).1 q0
  obtain rfl:=(nmEq_iff _ _).1 q1
  obtain rfl:=(nmEq_iff _ _).1 q2
  obtain rfl:=ctsEq_eq _ _ q3
  obtain rfl:=(nmEq_iff _ _).1 q4
  obtain rfl:=ctsEq_eq _ _ q5
  refine ⟨((t14 - t15:Int).toNat+1),?_⟩
  rw [← h]
  exact loop_run (E9_0 t14 h1) (K9_0 h1 k) (st9_0 t14 h1 ce k) _ (t15,h0)
 ·cases h
def q9 (a0:ByteArray):Bool:=(bif (a0.toList == (ByteArray.mk #[110,111,110,101]).toList) then true else (q17 a0 (ByteArray.mk #[32]) && (ro (runW (R9_0 ((v17_0 a0 (ByteArray.mk #[32])).length:Int) (v17_0 a0 (ByteArray.mk #[32]))) ((((v17_0 a0 (ByteArray.mk #[32])).length:Int) - 0:Int).toNat+1) (0,([]:List AV))) false (sumE (fun p10=>true) (fun p11=>true)))))
def v9_0 (a0:ByteArray):List AV:=(bif (a0.toList == (ByteArray.mk #[110,111,110,101]).toList) then ([]:List AV) else (ro (runW (R9_0 ((v17_0 a0 (ByteArray.mk #[32])).length:Int) (v17_0 a0 (ByteArray.mk #[32]))) ((((v17_0 a0 (ByteArray.mk #[32])).length:Int) - 0:Int).toNat+1) (0,([]:List AV))) [] (sumE (fun p10=>p10) (fun p11=>([]:List AV)))))
def v9_1 (a0:ByteArray):Bool:=(bif (a0.toList == (ByteArray.mk #[110,111,110,101]).toList) then true else (ro (runW (R9_0 ((v17_0 a0 (ByteArray.mk #[32])).length:Int) (v17_0 a0 (ByteArray.mk #[32]))) ((((v17_0 a0 (ByteArray.mk #[32])).length:Int) - 0:Int).toNat+1) (0,([]:List AV))) false (sumE (fun p10=>true) (fun p11=>false))))
theorem e9 (a0:ByteArray):funA c9 0 9 [AV.str a0]=(bif (a0.toList == (ByteArray.mk #[110,111,110,101]).toList) then some (AV.tup [AV.fl [.int .i64,.int .i64] ([]:List AV),AV.bool true])
 else (bif q17 a0 (ByteArray.mk #[32]) then (ro (runW (R9_0 ((v17_0 a0 (ByteArray.mk #[32])).length:Int) (v17_0 a0 (ByteArray.mk #[32]))) ((((v17_0 a0 (ByteArray.mk #[32])).length:Int) - 0:Int).toNat+1) (0,([]:List AV))) none (sumE (fun p10=>some (AV.tup [AV.fl [.int .i64,.int .i64] p10,AV.bool true])) (fun p11=>some (AV.tup [AV.fl [.int .i64,.int .i64] ([]:List AV),AV.bool false]))))
 else none)):=by kernel_rfl
def m9:TModel
 | [.str a0]=>some (q9 a0,AV.tup [AV.fl [.int .i64,.int .i64] (v9_0 a0),AV.bool (v9_1 a0)])
 | _=>none
theorem k9:Known Tryd.prog 9:=⟨Tryd.f9,Tryd.func9,by kernel_rfl,by kernel_rfl⟩
theorem meets9:Meets Tryd.prog 9 m9:=by
 refine meet (f:=Tryd.f9) (l:=[(0,sub [1,1,1,0,1,0,0] (body Tryd.f9))]) (hs:=[(9,0,[4,13,14,15]),(9,999,[2,3]),(9,1000,[4]),(9,1001,[4,13,14,15])]) (ts:=[(17,m17),(21,m21)]) (ws:=[]) (is:=[]) (ls:=[(9,0,l9_0)]) (lvl:=0) mixed k9 Tryd.func9 (by kernel_rfl) (loops_cons ok9_0 noLoop) (allT_cons meets17 (allT_cons meets21 allT_nil)) allM_nil noI fun w xs us r hl hv h=>?_
 unfold m9 at h
 split at h
 ·rename_i a0
  obtain ⟨h1,rfl⟩:=pair_inj h
  exact (e9 a0).trans ((br (fun b=>some (AV.tup [AV.fl [.int .i64,.int .i64] (bif b then ([]:List AV) else (ro (runW (R9_0 ((v17_0 a0 (ByteArray.mk #[32])).length:Int) (v17_0 a0 (ByteArray.mk #[32]))) ((((v17_0 a0 (ByteArray.mk #[32])).length:Int) - 0:Int).toNat+1) (0,([]:List AV))) [] (sumE (fun p10=>p10) (fun p11=>([]:List AV))))),AV.bool (bif b then true else (ro (runW (R9_0 ((v17_0 a0 (ByteArray.mk #[32])).length:Int) (v17_0 a0 (ByteArray.mk #[32]))) ((((v17_0 a0 (ByteArray.mk #[32])).length:Int) - 0:Int).toNat+1) (0,([]:List AV))) false (sumE (fun p10=>true) (fun p11=>false))))])) (fun _=>rfl) (brL (brO (fun o:Option (((List AV)) ⊕ ((List AV) × Int × Int))=>some (AV.tup [AV.fl [.int .i64,.int .i64] (ro o [] (sumE (fun p10=>p10) (fun p11=>([]:List AV)))),AV.bool (ro o false (sumE (fun p10=>true) (fun p11=>false)))])) (brS (fun o:((List AV)) ⊕ ((List AV) × Int × Int)=>some (AV.tup [AV.fl [.int .i64,.int .i64] ((sumE (fun p10=>p10) (fun p11=>([]:List AV))) o),AV.bool ((sumE (fun p10=>true) (fun p11=>false)) o)])) (fun p10=>(fun _=>rfl)) (fun p11=>(fun _=>rfl)))))) h1)
 ·cases h
noncomputable def c22:Cfg:=cfg Tryd.prog [(22,999,[4])] [] [] [] []
def q22 (xa xb ya yb:Int):Bool:=true
def v22_0 (xa xb ya yb:Int):Bool:=(bif !decide (xa=ya) then false else (bif !decide (xb=yb) then false else true))
theorem e22 (xa xb ya yb:Int):funA c22 0 22 [AV.agg [Ai xa,Ai xb],AV.agg [Ai ya,Ai yb]]=(bif !decide (xa=ya) then some (AV.bool false)
 else (bif !decide (xb=yb) then some (AV.bool false)
 else some (AV.bool true))):=by kernel_rfl
def m22:TModel
 | [.agg [.int .i64 xa,.int .i64 xb],.agg [.int .i64 ya,.int .i64 yb]]=>some (true,AV.bool (v22_0 xa xb ya yb))
 | _=>none
theorem k22:Known Tryd.prog 22:=⟨Tryd.f22,Tryd.func22,by kernel_rfl,by kernel_rfl⟩
theorem meets22:Meets Tryd.prog 22 m22:=by
 refine meet (f:=Tryd.f22) (l:=[]) (hs:=[(22,999,[4])]) (ts:=[]) (ws:=[]) (is:=[]) (ls:=[]) (lvl:=0) mixed k22 Tryd.func22 (by kernel_rfl) noLoop allT_nil allM_nil noI fun w xs us r hl hv h=>?_
 unfold m22 at h
 split at h
 ·rename_i xa xb ya yb
  obtain ⟨h1,rfl⟩:=pair_inj h
  exact (e22 xa xb ya yb).trans (of_tt (brT (fun b=>some (AV.bool (bif b then false else (bif !decide (xb=yb) then false else true)))) (fun _=>rfl) (brT (fun b=>some (AV.bool (bif b then false else true))) (fun _=>rfl) (fun _=>rfl))))
 ·cases h
def F10_0 (t0 t1:List AV) (t5:Int):Out (Int) (Unit ⊕ Unit):=(bif decide (t5<(t0.length:Int)) then (bif (decide (0≤t5) && decide (t5<(t0.length:Int))) then (bif (decide (0≤t5) && decide (t5<(t1.length:Int))) then (bif !(v22_0 (fI (t0.getD t5.toNat .undef) 0) (fI (t0.getD t5.toNat .undef) 1) (fI (t1.getD t5.toNat .undef) 0) (fI (t1.getD t5.toNat .undef) 1)) then .stop (.inr ())
 else .next (IntKind.i64.wrap (t5+1)))
 else .fail)
 else .fail)
 else .stop (.inl ()))
def R10_0 (t0 t1:List AV):(Int)→Out (Int) (Unit ⊕ Unit):=fun s:Int=>F10_0 t0 t1 s
def E10_0 (t0 t1:List AV):(Int)→St:=fun s:Int=>⟨[(0,AV.sl [.int .i64,.int .i64] t0),(1,AV.sl [.int .i64,.int .i64] t1),(5,Ai s)],[]⟩
def K10_0 (k:Kont):(Unit ⊕ Unit)→Option AV:=sumE (fun _:Unit=>k (.exit 0) ⟨[],[]⟩) (fun _:Unit=>k .ret ⟨[(4,AV.bool false)],[]⟩)
def l10_0:LModel:=fun _ _ st k=>match st with
 | ⟨[(0,.sl g0 t0),(1,.sl g1 t1),(5,.int .i64 t5)],[]⟩=>bif ctsEq g0 ([.int .i64,.int .i64]) && ctsEq g1 ([.int .i64,.int .i64]) then ro (runW (R10_0 t0 t1) (((t0.length:Int) - t5:Int).toNat+1) t5) none (K10_0 k) else none
 | _=>none
noncomputable def c10:Cfg:=cfg Tryd.prog [(10,0,[0,1,5]),(10,999,[4]),(10,1000,[]),(10,1001,[0,1,5])] [(22,m22)] [] [] [(10,0,l10_0)]
theorem s10_0 (ce:CallE) (t0 t1:List AV) (t5:Int) (next:St→Option AV) (k:Kont):stepA (codeA c10 ce [] 10 0 (sub [1,1,0,1,0,0] (body Tryd.f10))) (normA [] [0,1,5]) next ⟨[(0,AV.sl [.int .i64,.int .i64] t0),(1,AV.sl [.int .i64,.int .i64] t1),(5,Ai t5)],[]⟩ k=(bif decide (t5<(t0.length:Int)) then (bif (decide (0≤t5) && decide (t5<(t0.length:Int))) then (bif (decide (0≤t5) && decide (t5<(t1.length:Int))) then (bif !(v22_0 (fI (t0.getD t5.toNat .undef) 0) (fI (t0.getD t5.toNat .undef) 1) (fI (t1.getD t5.toNat .undef) 0) (fI (t1.getD t5.toNat .undef) 1)) then k .ret ⟨[(4,AV.bool false)],[]⟩
 else next ⟨[(0,AV.sl [.int .i64,.int .i64] t0),(1,AV.sl [.int .i64,.int .i64] t1),(5,Ai (IntKind.i64.wrap (t5+1)))],[]⟩)
 else none)
 else none)
 else k (.exit 0) ⟨[],[]⟩):=by kernel_rfl
theorem st10_0 (t0 t1:List AV) (ce:CallE) (k:Kont) (s:Int) (next:St→Option AV):stepA (codeA c10 ce [] 10 0 (sub [1,1,0,1,0,0] (body Tryd.f10))) (normA [] [0,1,5]) next ((E10_0 t0 t1) s) k=(R10_0 t0 t1 s).el none (fun s=>next ((E10_0 t0 t1) s)) (K10_0 k):=(s10_0 ce t0 t1 s next k).trans (by unfold R10_0;unfold F10_0;simp only [el_cond,el_ro,el_sum,el_fail,el_next,el_stop] <;> rfl)
theorem ok10_0 {ce:CallE}:LoopOK c10 ce [] 10 0 (sub [1,1,0,1,0,0] (body Tryd.f10)):=by
 intro m hm st k r h
 obtain rfl:l10_0=m:=Option.some.inj hm
 unfold l10_0 at h
 split at h
 ·rename_i g0 t0 g1 t1 t5
  obtain ⟨hg,h⟩:=bif_some h
  simp only [Bool.and_eq_true] at hg
  obtain ⟨q0,q1⟩:=hg
  obtain rfl:=ctsEq_eq _ _ q0
  obtain rfl:=ctsEq_eq _ _ q1
  refine ⟨(((t0.length:Int) - t5:Int).toNat+1),?_⟩
  rw [← h]
  exact loop_run (E10_0 t0 t1) (K10_0 k) (st10_0 t0 t1 ce k) _ t5
 ·cases h
def q10 (a0 a1:List AV):Bool:=(bif !decide ((a0.length:Int)=(a1.length:Int)) then true else (ro (runW (R10_0 a0 a1) (((a0.length:Int) - 0:Int).toNat+1) 0) false (sumE (fun _=>true) (fun _=>true))))
def v10_0 (a0 a1:List AV):Bool:=(bif !decide ((a0.length:Int)=(a1.length:Int)) then false else (ro (runW (R10_0 a0 a1) (((a0.length:Int) - 0:Int).toNat+1) 0) false (sumE (fun _=>true) (fun _=>false))))
theorem e10 (a0 a1:List AV):funA c10 0 10 [AV.sl [.int .i64,.int .i64] a0,AV.sl [.int .i64,.int .i64] a1]=(bif !decide ((a0.length:Int)=(a1.length:Int)) then some (AV.bool false)
 else (ro (runW (R10_0 a0 a1) (((a0.length:Int) - 0:Int).toNat+1) 0) none (sumE (fun _=>some (AV.bool true)) (fun _=>some (AV.bool false))))):=by kernel_rfl
def m10:TModel
 | [.sl g0 a0,.sl g1 a1]=>bif ctsEq g0 ([.int .i64,.int .i64]) && ctsEq g1 ([.int .i64,.int .i64]) then some (q10 a0 a1,AV.bool (v10_0 a0 a1)) else none
 | _=>none
theorem k10:Known Tryd.prog 10:=⟨Tryd.f10,Tryd.func10,by kernel_rfl,by kernel_rfl⟩
theorem meets10:Meets Tryd.prog 10 m10:=by
 refine meet (f:=Tryd.f10) (l:=[(0,sub [1,1,0,1,0,0] (body Tryd.f10))]) (hs:=[(10,0,[0,1,5]),(10,999,[4]),(10,1000,[]),(10,1001,[0,1,5])]) (ts:=[(22,m22)]) (ws:=[]) (is:=[]) (ls:=[(10,0,l10_0)]) (lvl:=0) mixed k10 Tryd.func10 (by kernel_rfl) (loops_cons ok10_0 noLoop) (allT_cons meets22 allT_nil) allM_nil noI fun w xs us r hl hv h=>?_
 unfold m10 at h
 split at h
 ·rename_i g0 a0 g1 a1
  obtain ⟨hg,h⟩:=bif_pair h
  simp only [Bool.and_eq_true] at hg
  obtain ⟨q0,q1⟩:=hg
  obtain rfl:=ctsEq_eq _ _ q0
  obtain rfl:=ctsEq_eq _ _ q1
  obtain ⟨h1,rfl⟩:=pair_inj h
  exact (e10 a0 a1).trans ((br (fun b=>some (AV.bool (bif b then false else (ro (runW (R10_0 a0 a1) (((a0.length:Int) - 0:Int).toNat+1) 0) false (sumE (fun _=>true) (fun _=>false)))))) (fun _=>rfl) (brO (fun o:Option (Unit ⊕ Unit)=>some (AV.bool (ro o false (sumE (fun _=>true) (fun _=>false))))) (brS (fun o:Unit ⊕ Unit=>some (AV.bool ((sumE (fun _=>true) (fun _=>false)) o))) (fun _=>(fun _=>rfl)) (fun _=>(fun _=>rfl))))) h1)
 ·cases h
def F11_0 (t1 t5:Int) (h0:List AV):Out ((Int × Int × (List AV))) ((Int × (List AV))):=(bif decide (t5<(h0.length:Int)) then (bif (decide (0≤t5) && decide (t5<(h0.length:Int))) then (bif (decide (0≤t5) && decide (t5<((h0.set t5.toNat (AV.agg [AV.int .i64 t1,AV.int .i64 (fI (h0.getD t5.toNat .undef) 1)])).length:Int))) then .next (IntKind.i64.wrap (IntKind.i64.wrap (t1+1)+1),IntKind.i64.wrap (t5+1),(h0.set t5.toNat (AV.agg [AV.int .i64 t1,AV.int .i64 (fI (h0.getD t5.toNat .undef) 1)])).set t5.toNat (AV.agg [AV.int .i64 (fI ((h0.set t5.toNat (AV.agg [AV.int .i64 t1,AV.int .i64 (fI (h0.getD t5.toNat .undef) 1)])).getD t5.toNat .undef) 0),AV.int .i64 (IntKind.i64.wrap (t1+1))]))
 else .fail)
 else .fail)
 else .stop (t1,h0))
def R11_0:((Int × Int × (List AV)))→Out ((Int × Int × (List AV))) ((Int × (List AV))):=fun s:Int × Int × (List AV)=>F11_0 s.1 s.2.1 s.2.2
def E11_0:((Int × Int × (List AV)))→St:=fun s:Int × Int × (List AV)=>⟨[(0,AV.own [1]),(1,Ai s.1),(5,Ai s.2.1)],[([1],⟨false,[.int .i64,.int .i64],s.2.2⟩)]⟩
def K11_0 (k:Kont):((Int × (List AV)))→Option AV:=fun p:Int × (List AV)=>k (.exit 0) ⟨[(1,Ai p.1)],[([1],⟨false,[.int .i64,.int .i64],p.2⟩)]⟩
def l11_0:LModel:=fun _ _ st k=>match st with
 | ⟨[(0,.own g0),(1,.int .i64 t1),(5,.int .i64 t5)],[(g1,⟨false,g2,h0⟩)]⟩=>bif nmEq g0 ([1]) && nmEq g1 ([1]) && ctsEq g2 ([.int .i64,.int .i64]) then ro (runW (R11_0) (((h0.length:Int) - t5:Int).toNat+1) (t1,t5,h0)) none (K11_0 k) else none
 | _=>none
noncomputable def c11:Cfg:=cfg Tryd.prog [(11,0,[0,1,5]),(11,999,[4]),(11,1000,[1]),(11,1001,[0,1,5])] [] [] [] [(11,0,l11_0)]
theorem s11_0 (ce:CallE) (t1 t5:Int) (h0:List AV) (next:St→Option AV) (k:Kont):stepA (codeA c11 ce [0] 11 0 (sub [1,0,1,0,0] (body Tryd.f11))) (normA [0] [0,1,5]) next ⟨[(0,AV.own [1]),(1,Ai t1),(5,Ai t5)],[([1],⟨false,[.int .i64,.int .i64],h0⟩)]⟩ k=(bif decide (t5<(h0.length:Int)) then (bif (decide (0≤t5) && decide (t5<(h0.length:Int))) then (bif (decide (0≤t5) && decide (t5<((h0.set t5.toNat (AV.agg [Ai t1,Ai (fI (h0.getD t5.toNat .undef) 1)])).length:Int))) then next ⟨[(0,AV.own [1]),(1,Ai (IntKind.i64.wrap (IntKind.i64.wrap (t1+1)+1))),(5,Ai (IntKind.i64.wrap (t5+1)))],[([1],⟨false,[.int .i64,.int .i64],(h0.set t5.toNat (AV.agg [Ai t1,Ai (fI (h0.getD t5.toNat .undef) 1)])).set t5.toNat (AV.agg [Ai (fI ((h0.set t5.toNat (AV.agg [Ai t1,Ai (fI (h0.getD t5.toNat .undef) 1)])).getD t5.toNat .undef) 0),Ai (IntKind.i64.wrap (t1+1))])⟩)]⟩
 else none)
 else none)
 else k (.exit 0) ⟨[(1,Ai t1)],[([1],⟨false,[.int .i64,.int .i64],h0⟩)]⟩):=by kernel_rfl
theorem st11_0 (ce:CallE) (k:Kont) (s:(Int × Int × (List AV))) (next:St→Option AV):stepA (codeA c11 ce [0] 11 0 (sub [1,0,1,0,0] (body Tryd.f11))) (normA [0] [0,1,5]) next (E11_0 s) k=(R11_0 s).el none (fun s=>next (E11_0 s)) (K11_0 k):=(s11_0 ce s.1 s.2.1 s.2.2 next k).trans (by unfold R11_0;unfold F11_0;simp only [el_cond,el_ro,el_sum,el_fail,el_next,el_stop] <;> rfl)
theorem ok11_0 {ce:CallE}:LoopOK c11 ce [0] 11 0 (sub [1,0,1,0,0] (body Tryd.f11)):=by
 intro m hm st k r h
 obtain rfl:l11_0=m:=Option.some.inj hm
 unfold l11_0 at h
 split at h
 ·rename_i g0 t1 t5 g1 g2 h0
  obtain ⟨hg,h⟩:=bif_some h
  simp only [Bool.and_eq_true] at hg
  obtain ⟨⟨q0,q1⟩,q2⟩:=hg
  obtain rfl:=(nmEq_iff _ _).1 q0
  obtain rfl:=(nmEq_iff _ _).1 q1
  obtain rfl:=ctsEq_eq _ _ q2
  refine ⟨(((h0.length:Int) - t5:Int).toNat+1),?_⟩
  rw [← h]
  exact loop_run E11_0 (K11_0 k) (st11_0 ce k) _ (t1,t5,h0)
 ·cases h
def q11 (a1:Int) (b0:List AV):Bool:=(ro (runW (R11_0) (((b0.length:Int) - 0:Int).toNat+1) (a1,0,b0)) false (fun p14=>true))
def v11_0 (a1:Int) (b0:List AV):Int:=(ro (runW (R11_0) (((b0.length:Int) - 0:Int).toNat+1) (a1,0,b0)) 0 (fun p14=>p14.1))
def v11_1 (a1:Int) (b0:List AV):List AV:=(ro (runW (R11_0) (((b0.length:Int) - 0:Int).toNat+1) (a1,0,b0)) [] (fun p14=>p14.2))
theorem e11 (a1:Int) (b0:List AV) (K:AV→List Blk→Option AV):inlA c11 1 11 [AV.own [1],Ai a1] [0] (canH 1 [⟨false,[.int .i64,.int .i64],b0⟩]) (keepB 1 K)=(ro (runW (R11_0) (((b0.length:Int) - 0:Int).toNat+1) (a1,0,b0)) none (fun p14=>K (Ai p14.1) [⟨false,[.int .i64,.int .i64],p14.2⟩])):=by kernel_rfl
theorem r11 (a1:Int) (b0:List AV) (K:AV→List Blk→Option AV) (h:q11 a1 b0=true):inlA c11 1 11 [AV.own [1],AV.int .i64 a1] [0] (canH 1 [⟨false,[.int .i64,.int .i64],b0⟩]) (keepB 1 K)=K (AV.int .i64 (v11_0 a1 b0)) [⟨false,[.int .i64,.int .i64],(v11_1 a1 b0)⟩]:=(e11 a1 b0 K).trans ((brO (fun o:Option ((Int × (List AV)))=>K (AV.int .i64 (ro o 0 (fun p14=>p14.1))) [⟨false,[.int .i64,.int .i64],(ro o [] (fun p14=>p14.2))⟩]) (fun p14=>(fun _=>rfl))) h)
def m11:WModel
 | [.own g0,.int .i64 a1],[⟨false,g1,b0⟩]=>bif nmEq g0 ([1]) && ctsEq g1 ([.int .i64,.int .i64]) then some (q11 a1 b0,AV.int .i64 (v11_0 a1 b0),[⟨false,[.int .i64,.int .i64],(v11_1 a1 b0)⟩]) else none
 | _,_=>none
theorem k11:Known Tryd.prog 11:=⟨Tryd.f11,Tryd.func11,by kernel_rfl,by kernel_rfl⟩
theorem meets11:MeetsM Tryd.prog 11 m11:=by
 refine meetM (f:=Tryd.f11) (l:=[(0,sub [1,0,1,0,0] (body Tryd.f11))]) (hs:=[(11,0,[0,1,5]),(11,999,[4]),(11,1000,[1]),(11,1001,[0,1,5])]) (ts:=[]) (ws:=[]) (is:=[]) (ls:=[(11,0,l11_0)]) (lvl:=0) mixed k11 Tryd.func11 (by kernel_rfl) (loops_cons ok11_0 noLoop) allT_nil allM_nil noI fun C w xs us bs r bs' hl hv hh h K=>?_
 unfold m11 at h
 split at h
 ·rename_i g0 a1 g1 b0
  obtain ⟨hg,h⟩:=bif_pair h
  simp only [Bool.and_eq_true] at hg
  obtain ⟨q0,q1⟩:=hg
  obtain rfl:=(nmEq_iff _ _).1 q0
  obtain rfl:=ctsEq_eq _ _ q1
  obtain ⟨h1,rfl,rfl⟩:=trip_inj h
  exact r11 a1 b0 K h1
 ·cases h
def F12_0 (t0:List AV) (t1 t5:Int):Out ((Int × Int)) (Int ⊕ Unit):=(bif decide (t5<(t0.length:Int)) then (bif (decide (0≤t5) && decide (t5<(t0.length:Int))) then (bif !decide (fI (t0.getD t5.toNat .undef) 0=t1) then .stop (.inr ())
 else (bif (decide (0≤t5) && decide (t5<(t0.length:Int))) then (bif !decide (fI (t0.getD t5.toNat .undef) 1=IntKind.i64.wrap (t1+1)) then .stop (.inr ())
 else .next (IntKind.i64.wrap (IntKind.i64.wrap (t1+1)+1),IntKind.i64.wrap (t5+1)))
 else .fail))
 else .fail)
 else .stop (.inl t1))
def R12_0 (t0:List AV):((Int × Int))→Out ((Int × Int)) (Int ⊕ Unit):=fun s:Int × Int=>F12_0 t0 s.1 s.2
def E12_0 (t0:List AV):((Int × Int))→St:=fun s:Int × Int=>⟨[(0,AV.sl [.int .i64,.int .i64] t0),(1,Ai s.1),(5,Ai s.2)],[]⟩
def K12_0 (k:Kont):(Int ⊕ Unit)→Option AV:=sumE (fun p:Int=>k (.exit 0) ⟨[(1,Ai p)],[]⟩) (fun _:Unit=>k .ret ⟨[(4,Ai (-1))],[]⟩)
def l12_0:LModel:=fun _ _ st k=>match st with
 | ⟨[(0,.sl g0 t0),(1,.int .i64 t1),(5,.int .i64 t5)],[]⟩=>bif ctsEq g0 ([.int .i64,.int .i64]) then ro (runW (R12_0 t0) (((t0.length:Int) - t5:Int).toNat+1) (t1,t5)) none (K12_0 k) else none
 | _=>none
noncomputable def c12:Cfg:=cfg Tryd.prog [(12,0,[0,1,5]),(12,999,[4]),(12,1000,[1]),(12,1001,[0,1,5])] [] [] [] [(12,0,l12_0)]
theorem s12_0 (ce:CallE) (t0:List AV) (t1 t5:Int) (next:St→Option AV) (k:Kont):stepA (codeA c12 ce [] 12 0 (sub [1,0,1,0,0] (body Tryd.f12))) (normA [] [0,1,5]) next ⟨[(0,AV.sl [.int .i64,.int .i64] t0),(1,Ai t1),(5,Ai t5)],[]⟩ k=(bif decide (t5<(t0.length:Int)) then (bif (decide (0≤t5) && decide (t5<(t0.length:Int))) then (bif !decide (fI (t0.getD t5.toNat .undef) 0=t1) then k .ret ⟨[(4,Ai (-1))],[]⟩
 else (bif (decide (0≤t5) && decide (t5<(t0.length:Int))) then (bif !decide (fI (t0.getD t5.toNat .undef) 1=IntKind.i64.wrap (t1+1)) then k .ret ⟨[(4,Ai (-1))],[]⟩
 else next ⟨[(0,AV.sl [.int .i64,.int .i64] t0),(1,Ai (IntKind.i64.wrap (IntKind.i64.wrap (t1+1)+1))),(5,Ai (IntKind.i64.wrap (t5+1)))],[]⟩)
 else none))
 else none)
 else k (.exit 0) ⟨[(1,Ai t1)],[]⟩):=by kernel_rfl
theorem st12_0 (t0:List AV) (ce:CallE) (k:Kont) (s:(Int × Int)) (next:St→Option AV):stepA (codeA c12 ce [] 12 0 (sub [1,0,1,0,0] (body Tryd.f12))) (normA [] [0,1,5]) next ((E12_0 t0) s) k=(R12_0 t0 s).el none (fun s=>next ((E12_0 t0) s)) (K12_0 k):=(s12_0 ce t0 s.1 s.2 next k).trans (by unfold R12_0;unfold F12_0;simp only [el_cond,el_ro,el_sum,el_fail,el_next,el_stop] <;> rfl)
theorem ok12_0 {ce:CallE}:LoopOK c12 ce [] 12 0 (sub [1,0,1,0,0] (body Tryd.f12)):=by
 intro m hm st k r h
 obtain rfl:l12_0=m:=Option.some.inj hm
 unfold l12_0 at h
 split at h
 ·rename_i g0 t0 t1 t5
  obtain ⟨hg,h⟩:=bif_some h
  have q0:=hg
  obtain rfl:=ctsEq_eq _ _ q0
  refine ⟨(((t0.length:Int) - t5:Int).toNat+1),?_⟩
  rw [← h]
  exact loop_run (E12_0 t0) (K12_0 k) (st12_0 t0 ce k) _ (t1,t5)
 ·cases h
def q12 (a0:List AV) (a1:Int):Bool:=(ro (runW (R12_0 a0) (((a0.length:Int) - 0:Int).toNat+1) (a1,0)) false (sumE (fun p15=>true) (fun _=>true)))
def v12_0 (a0:List AV) (a1:Int):Int:=(ro (runW (R12_0 a0) (((a0.length:Int) - 0:Int).toNat+1) (a1,0)) 0 (sumE (fun p15=>p15) (fun _=>(-1))))
theorem e12 (a0:List AV) (a1:Int):funA c12 0 12 [AV.sl [.int .i64,.int .i64] a0,Ai a1]=(ro (runW (R12_0 a0) (((a0.length:Int) - 0:Int).toNat+1) (a1,0)) none (sumE (fun p15=>some (Ai p15)) (fun _=>some (Ai (-1))))):=by kernel_rfl
def m12:TModel
 | [.sl g0 a0,.int .i64 a1]=>bif ctsEq g0 ([.int .i64,.int .i64]) then some (q12 a0 a1,AV.int .i64 (v12_0 a0 a1)) else none
 | _=>none
theorem k12:Known Tryd.prog 12:=⟨Tryd.f12,Tryd.func12,by kernel_rfl,by kernel_rfl⟩
theorem meets12:Meets Tryd.prog 12 m12:=by
 refine meet (f:=Tryd.f12) (l:=[(0,sub [1,0,1,0,0] (body Tryd.f12))]) (hs:=[(12,0,[0,1,5]),(12,999,[4]),(12,1000,[1]),(12,1001,[0,1,5])]) (ts:=[]) (ws:=[]) (is:=[]) (ls:=[(12,0,l12_0)]) (lvl:=0) mixed k12 Tryd.func12 (by kernel_rfl) (loops_cons ok12_0 noLoop) allT_nil allM_nil noI fun w xs us r hl hv h=>?_
 unfold m12 at h
 split at h
 ·rename_i g0 a0 a1
  obtain ⟨hg,h⟩:=bif_pair h
  have q0:=hg
  obtain rfl:=ctsEq_eq _ _ q0
  obtain ⟨h1,rfl⟩:=pair_inj h
  exact (e12 a0 a1).trans ((brO (fun o:Option (Int ⊕ Unit)=>some (Ai (ro o 0 (sumE (fun p15=>p15) (fun _=>(-1)))))) (brS (fun o:Int ⊕ Unit=>some (Ai ((sumE (fun p15=>p15) (fun _=>(-1))) o))) (fun p15=>(fun _=>rfl)) (fun _=>(fun _=>rfl)))) h1)
 ·cases h
noncomputable def c4:Cfg:=cfg Tryd.prog [(4,999,[2])] [(8,m8),(9,m9),(10,m10),(12,m12)] [(11,.w m11)] [] []
def raw4 (a0:ByteArray):Option AV:=(bif decide ((a0.size:Int) > 1048576) then some (AV.bool true)
 else (bif q8 a0 then (bif q9 a0 then (bif q10 (v9_0 a0) (v8_0 a0) then (bif !(v10_0 (v9_0 a0) (v8_0 a0)) then some (AV.bool false)
 else (bif !((v9_1 a0) == (v8_1 a0)) then some (AV.bool false)
 else (bif q11 1 (v9_0 a0) then (bif q12 (v11_1 1 (v9_0 a0)) 1 then (bif decide ((v12_0 (v11_1 1 (v9_0 a0)) 1)<0) then some (AV.bool false)
 else (bif !decide ((v12_0 (v11_1 1 (v9_0 a0)) 1)=(v11_0 1 (v9_0 a0))) then some (AV.bool false)
 else (bif q9 a0 then (bif q10 (v9_0 a0) (v8_0 a0) then (bif !(v10_0 (v9_0 a0) (v8_0 a0)) then some (AV.bool false)
 else (bif !((v9_1 a0) == (v8_1 a0)) then some (AV.bool false)
 else (bif q12 (v11_1 1 (v9_0 a0)) 1 then (bif decide ((v12_0 (v11_1 1 (v9_0 a0)) 1)<0) then some (AV.bool false)
 else (bif !decide ((v12_0 (v11_1 1 (v9_0 a0)) 1)=(v11_0 1 (v9_0 a0))) then some (AV.bool false)
 else some (AV.bool true)))
 else none)))
 else none)
 else none)))
 else none)
 else none)))
 else none)
 else none)
 else none))
theorem e4 (a0:ByteArray):funA c4 0 4 [AV.str a0]=raw4 a0:=by kernel_rfl
def m4:TModel
 | [.str a0]=>(raw4 a0).map fun r=>(true,r)
 | _=>none
theorem k4:Known Tryd.prog 4:=⟨Tryd.f4,Tryd.func4,by kernel_rfl,by kernel_rfl⟩
theorem meets4:Meets Tryd.prog 4 m4:=by
 refine meet (f:=Tryd.f4) (l:=[]) (hs:=[(4,999,[2])]) (ts:=[(8,m8),(9,m9),(10,m10),(12,m12)]) (ws:=[(11,.w m11)]) (is:=[]) (ls:=[]) (lvl:=0) mixed k4 Tryd.func4 (by kernel_rfl) noLoop (allT_cons meets8 (allT_cons meets9 (allT_cons meets10 (allT_cons meets12 allT_nil)))) (allM_cons meets11 allM_nil) noI fun w xs us r hl hv h=>?_
 unfold m4 at h
 split at h
 ·rename_i a0
  obtain ⟨r',h1,h2⟩:=Option.map_eq_some_iff.1 h
  obtain ⟨_,rfl⟩:=Prod.mk.inj h2
  exact (e4 a0).trans h1
 ·cases h
end Go.Proofs.YtcondihilccdpaaDoor
