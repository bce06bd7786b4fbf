import Derived.Test.YtealoedecngaoaaGreatDoorP15
namespace Go.Proofs.YtealoedecngaoaaGreatDoor
open Go Go.Proofs.VE
set_option linter.unusedVariables false
set_option linter.unusedSimpArgs false
structure SumC (cs:List AV) (S:Int):Prop where
 s0:0≤S
 s1:S≤12000000
 up:∀ j:Int,0≤j→j<cs.length→el cs j≤S
theorem sumC {cs:List AV} (h:cs.length≤30) (hb:∀ j:Int,0≤j→j<cs.length→0≤el cs j∧el cs j≤400000):SumC cs (v93_0 cs):=by
 obtain ⟨r,h1,h2⟩:=runW_ends (f:=R93_0 cs) (fun s:Int × Int=>0≤s.2∧s.2≤cs.length∧0≤s.1∧s.1≤400000*s.2∧∀ j:Int,0≤j→j<s.2→el cs j≤s.1) (fun r=>SumC cs r) (fun s=>((cs.length:Int) - s.2).toNat) (fun s hI=>by
  obtain ⟨t,k⟩:=s
  obtain ⟨k0,k1,t0,t1,up⟩:=hI
  simp only at k0 k1 t0 t1 up
  by_cases hk:k<cs.length
  ·have d1:decide (k<(cs.length:Int))=true:=decide_eq_true hk
   have d2:decide (0≤k)=true:=decide_eq_true k0
   have wk:IntKind.i64.wrap (k+1)=k+1:=wrap_in (by omega) (by omega)
   obtain ⟨b0,b1⟩:=hb k k0 hk
   have e:fI (cs.getD k.toNat AV.undef) 0=el cs k:=rfl
   have wt:IntKind.i64.wrap (t+el cs k)=t+el cs k:=wrap_in (by omega) (by omega)
   refine .inl ⟨(t+el cs k,k+1),by simp only [R93_0,F93_0,G93_0,d1,d2,e,wk,wt,Bool.and_self,cond_true],⟨by simp only;omega,by simp only;omega,by simp only;omega,by simp only;omega,fun j j0 j1=>?_⟩,by simp only;omega⟩
   simp only at j1 ⊢
   by_cases ej:j=k
   ·rw [ej];omega
   ·have:=up j j0 (by omega)
    omega
  ·have d1:decide (k<(cs.length:Int))=false:=decide_eq_false hk
   exact .inr ⟨t,by simp only [R93_0,F93_0,G93_0,d1,cond_false],t0,by omega,fun j j0 j1=>up j j0 (by omega)⟩) (((cs.length:Int) - 0).toNat+1) (0,0) ⟨Int.le_refl 0,by simp only;omega,Int.le_refl 0,by simp only;omega,fun j j0 j1=>by simp only at j1;omega⟩ (by simp only;omega)
 unfold v93_0
 rw [h1]
 exact h2
theorem top_le {cs:List AV} {m S:Int} (h:Top cs cs.length m) (hs:SumC cs S):m≤S:=by
 rcases h.is with e|⟨k,k0,k1,e⟩
 ·rw [e];exact hs.s0
 ·rw [← e];exact hs.up k k0 k1
theorem ends_in {vs rs ps:List AV} (h:Col vs rs ps):(v85_0 vs rs ps).length=ps.length+1∧∀ k:Int,0≤k→k<(v85_0 vs rs ps).length→0≤el (v85_0 vs rs ps) k∧el (v85_0 vs rs ps) k≤vs.length:=by
 have hf:=col_few h
 have n:=h.n64
 obtain ⟨c1,c2⟩:=P85 vs rs ps (by omega) (by omega)
 rw [c2]
 have lp:(ps++[mk2 0 vs.length]).length=ps.length+1:=by simp
 refine ⟨by rw [List.length_map,lp],fun k k0 k1=>?_⟩
 rw [List.length_map] at k1
 have e:el ((ps++[mk2 0 vs.length]).map cE) k=pat (ps++[mk2 0 vs.length]) k:=by
  unfold el
  rw [getD_mapA cE _ k k0 (by omega)]
  rfl
 rw [e,pat_app ps _ k k0 (by omega)]
 split
 ·exact h.pa k k0 (by assumption)
 ·show 0≤(vs.length:Int)∧(vs.length:Int)≤vs.length
  omega
theorem largest_in {vs rs ps:List AV} (h:Col vs rs ps):0≤v129_0 vs rs ps∧v129_0 vs rs ps≤vs.length:=by
 have hf:=col_few h
 have n:=h.n64
 have hlen:=h.len
 obtain ⟨l1,l2⟩:=ends_in h
 obtain ⟨a1,a2⟩:=P71 vs rs ps (by omega) (by omega) (by omega)
 rw [(isC_iff vs rs ps (by omega)).2 h] at a2
 unfold v129_0
 generalize v85_0 vs rs ps=E at *
 obtain ⟨r,h1,h2⟩:=runW_ends (f:=R129_0 vs rs ps E) (fun s:Int × Int × Int=>0≤s.2.2∧s.2.2≤E.length∧0≤s.1∧s.1≤vs.length∧0≤s.2.1∧s.2.1≤vs.length) (fun r=>0≤r∧r≤vs.length) (fun s=>((E.length:Int) - s.2.2).toNat) (fun s hI=>by
  obtain ⟨m,t,k⟩:=s
  obtain ⟨k0,k1,m0,m1,t0,t1⟩:=hI
  simp only at k0 k1 m0 m1 t0 t1
  by_cases hk:k<E.length
  ·have d1:decide (k<(E.length:Int))=true:=decide_eq_true hk
   have d2:decide (0≤k)=true:=decide_eq_true k0
   have wk:IntKind.i64.wrap (k+1)=k+1:=wrap_in (by omega) (by omega)
   obtain ⟨b0,b1⟩:=l2 k k0 hk
   have e:fI (E.getD k.toNat AV.undef) 0=el E k:=rfl
   have wt:IntKind.i64.wrap (el E k - t)=el E k - t:=wrap_in (by omega) (by omega)
   refine .inl ⟨((if el E k - t > m then el E k - t else m),el E k,k+1),?_,⟨by simp only;omega,by simp only;omega,by simp only;split <;> omega,by simp only;split <;> omega,b0,b1⟩,by simp only;omega⟩
   show F129_0 vs rs ps E m t k=_
   unfold F129_0 G129_0
   simp only [d1,d2,a1,a2,e,wk,wt,Bool.and_self,cond_true]
  ·have d1:decide (k<(E.length:Int))=false:=decide_eq_false hk
   refine .inr ⟨m,?_,m0,m1⟩
   show F129_0 vs rs ps E m t k=_
   unfold F129_0 G129_0
   simp only [d1,cond_false]) (((E.length:Int) - 0).toNat+1) (0,0,0) ⟨Int.le_refl 0,by simp only;omega,Int.le_refl 0,by simp only;omega,Int.le_refl 0,by simp only;omega⟩ (by simp only;omega)
 rw [h1]
 exact h2
theorem count_in {vs rs ps:List AV} (h:Col vs rs ps):In64 (v34_0 vs rs ps):=by
 have hf:=col_few h
 have n:=h.n64
 have hlen:=h.len
 obtain ⟨l1,l2⟩:=ends_in h
 obtain ⟨a1,a2⟩:=P71 vs rs ps (by omega) (by omega) (by omega)
 rw [(isC_iff vs rs ps (by omega)).2 h] at a2
 unfold v34_0
 generalize v85_0 vs rs ps=E at *
 obtain ⟨r,h1,h2⟩:=runW_ends (f:=R34_0 vs rs ps E) (fun s:Int × Int × Int=>0≤s.2.2∧s.2.2≤E.length∧0≤s.1∧s.1≤s.2.2) (fun r=>0≤r∧r≤E.length) (fun s=>((E.length:Int) - s.2.2).toNat) (fun s hI=>by
  obtain ⟨m,t,k⟩:=s
  obtain ⟨k0,k1,m0,m1⟩:=hI
  simp only at k0 k1 m0 m1
  by_cases hk:k<E.length
  ·have d1:decide (k<(E.length:Int))=true:=decide_eq_true hk
   have d2:decide (0≤k)=true:=decide_eq_true k0
   have wk:IntKind.i64.wrap (k+1)=k+1:=wrap_in (by omega) (by omega)
   have wm:IntKind.i64.wrap (m+1)=m+1:=wrap_in (by omega) (by omega)
   have e:fI (E.getD k.toNat AV.undef) 0=el E k:=rfl
   refine .inl ⟨((bif decide (el E k > t) then m+1 else m),el E k,k+1),?_,⟨by simp only;omega,by simp only;omega,by simp only;cases decide (el E k > t) <;> simp only [cond_true,cond_false] <;> omega,by simp only;cases decide (el E k > t) <;> simp only [cond_true,cond_false] <;> omega⟩,by simp only;omega⟩
   show F34_0 vs rs ps E m t k=_
   unfold F34_0 G34_0
   simp only [d1,d2,a1,a2,e,wk,wm,Bool.and_self,cond_true]
   cases decide (el E k > t) <;> rfl
  ·have d1:decide (k<(E.length:Int))=false:=decide_eq_false hk
   refine .inr ⟨m,?_,by omega,by omega⟩
   show F34_0 vs rs ps E m t k=_
   unfold F34_0 G34_0
   simp only [d1,cond_false]) (((E.length:Int) - 0).toNat+1) (0,0,0) ⟨Int.le_refl 0,by simp only;omega,Int.le_refl 0,by simp only;omega⟩ (by simp only;omega)
 rw [h1]
 show In64 r
 unfold In64
 omega
theorem outcome_in (vs qs:List AV) (pol thr seed:Int) (hl:vs.length≤1048576) (hq:qs.length≤1048576) (h:v60_5 vs pol thr seed qs=true) :
  0≤v60_2 vs pol thr seed qs∧v60_2 vs pol thr seed qs≤v60_1 vs pol thr seed qs∧v60_1 vs pol thr seed qs≤12000000∧0≤v60_4 vs pol thr seed qs∧v60_4 vs pol thr seed qs≤vs.length∧v60_4 vs pol thr seed qs≤64∧In64 (v60_3 vs pol thr seed qs):=by
 unfold v60_5 at h
 unfold v60_1 v60_2 v60_3 v60_4
 cases h1:v100_0 vs with
 | false=>rw [h1] at h;cases h
 | true =>
  cases h2:v126_0 pol thr seed with
  | false=>rw [h1,h2] at h;cases h
  | true =>
   cases h3:v127_0 qs with
   | false=>rw [h1,h2,h3] at h;cases h
   | true =>
    obtain ⟨vs',rs',ps',cs,W⟩:=rq_both hl hq h1 h2 h3
    obtain ⟨s0,s1,s2,s3,s4⟩:=W.spec
    have lc:=W.l
    obtain ⟨m,y1,y2⟩:=run60 cs 0 0 0 0 0 pol (v93_0 cs) (v34_0 vs' rs' ps') (v129_0 vs' rs' ps') (by omega)
    have S:=sumC lc W.cb
    obtain ⟨g0,g1⟩:=largest_in W.ok
    have n64:=W.ok.n64
    have lv:=W.lv
    rw [s1,s2,s3,s4,y1]
    refine ⟨y2.m0,top_le y2 S,S.s1,g0,?_,?_,?_⟩
    ·show v129_0 vs' rs' ps'≤_
     omega
    ·show v129_0 vs' rs' ps'≤_
     omega
    ·show In64 (v34_0 vs' rs' ps')
     exact count_in W.ok
theorem best_min (l:List AV) (hl:l.length≤1048576):∃ r,runW (R52_0 l) (((l.length:Int) - 0:Int).toNat+1) ((-1),0)=some r∧(l.length=0→r = -1)∧(0<l.length→0≤r∧r<l.length∧∀ j:Int,0≤j→j<l.length→fI (l.getD r.toNat .undef) 2≤fI (l.getD j.toNat .undef) 2):=by
 refine runW_ends (f:=R52_0 l) (fun s:Int × Int=>0≤s.2∧s.2≤l.length∧((s.2=0∧s.1 = -1)∨(0≤s.1∧s.1<s.2∧∀ j:Int,0≤j→j<s.2→fI (l.getD s.1.toNat .undef) 2≤fI (l.getD j.toNat .undef) 2))) (fun r=>(l.length=0→r = -1)∧(0<l.length→0≤r∧r<l.length∧∀ j:Int,0≤j→j<l.length→fI (l.getD r.toNat .undef) 2≤fI (l.getD j.toNat .undef) 2)) (fun s=>((l.length:Int) - s.2).toNat) (fun s hI=>?_) (((l.length:Int) - 0:Int).toNat+1) ((-1),0) ⟨Int.le_refl 0,by simp only;omega,.inl ⟨rfl,rfl⟩⟩ (by simp only;omega)
 obtain ⟨b,i⟩:=s
 obtain ⟨i0,i1,hB⟩:=hI
 simp only at i0 i1 hB
 by_cases hi:i<l.length
 ·have w:IntKind.i64.wrap (i+1)=i+1:=wrap_in (by omega) (by omega)
  have d1:decide (i<(l.length:Int))=true:=decide_eq_true hi
  have d2:decide (0≤i)=true:=decide_eq_true i0
  rcases hB with ⟨e1,e2⟩|⟨b0,b1,b2⟩
  ·subst e2
   have d3:decide ((-1:Int)<0)=true:=rfl
   refine .inl ⟨(i,i+1),?_,⟨by simp only;omega,by simp only;omega,.inr ⟨i0,by simp only;omega,fun j j0 j1=>?_⟩⟩,by simp only;omega⟩
   ·show F52_0 l (-1) i=_
    unfold F52_0 G52_0
    simp only [d1,d2,d3,w,Bool.and_self,cond_true]
   ·simp only at j1 ⊢
    rw [show j=i by omega]
    exact Int.le_refl _
  ·have d3:decide (b<0)=false:=decide_eq_false (by omega)
   have d4:decide (0≤b)=true:=decide_eq_true b0
   have d5:decide (b<(l.length:Int))=true:=decide_eq_true (by omega)
   by_cases c1:fI (l.getD i.toNat .undef) 2<fI (l.getD b.toNat .undef) 2
   ·refine .inl ⟨(i,i+1),?_,⟨by simp only;omega,by simp only;omega,.inr ⟨i0,by simp only;omega,fun j j0 j1=>?_⟩⟩,by simp only;omega⟩
    ·show F52_0 l b i=_
     unfold F52_0 G52_0
     simp only [d1,d2,d3,d4,d5,decide_eq_true c1,w,Bool.and_self,cond_true,cond_false]
    ·simp only at j1 ⊢
     by_cases ej:j=i
     ·rw [ej];exact Int.le_refl _
     ·have:=b2 j j0 (by omega)
      omega
   ·have stay:∀ j:Int,0≤j→j<i+1→fI (l.getD b.toNat .undef) 2≤fI (l.getD j.toNat .undef) 2:=fun j j0 j1=>by
     by_cases ej:j=i
     ·rw [ej];omega
     ·exact b2 j j0 (by omega)
    by_cases c2:fI (l.getD i.toNat .undef) 2=fI (l.getD b.toNat .undef) 2
    ·by_cases c3:fI (l.getD i.toNat .undef) 1<fI (l.getD b.toNat .undef) 1
     ·refine .inl ⟨(i,i+1),?_,⟨by simp only;omega,by simp only;omega,.inr ⟨i0,by simp only;omega,fun j j0 j1=>by have:=stay j j0 j1;simp only;omega⟩⟩,by simp only;omega⟩
      show F52_0 l b i=_
      unfold F52_0 G52_0
      simp only [d1,d2,d3,d4,d5,decide_eq_false c1,decide_eq_true c2,decide_eq_true c3,w,Bool.and_self,cond_true,cond_false]
     ·refine .inl ⟨(b,i+1),?_,⟨by simp only;omega,by simp only;omega,.inr ⟨b0,by simp only;omega,fun j j0 j1=>stay j j0 j1⟩⟩,by simp only;omega⟩
      show F52_0 l b i=_
      unfold F52_0 G52_0
      simp only [d1,d2,d3,d4,d5,decide_eq_false c1,decide_eq_true c2,decide_eq_false c3,w,Bool.and_self,cond_true,cond_false]
    ·refine .inl ⟨(b,i+1),?_,⟨by simp only;omega,by simp only;omega,.inr ⟨b0,by simp only;omega,fun j j0 j1=>stay j j0 j1⟩⟩,by simp only;omega⟩
     show F52_0 l b i=_
     unfold F52_0 G52_0
     simp only [d1,d2,d3,d4,d5,decide_eq_false c1,decide_eq_false c2,w,Bool.and_self,cond_true,cond_false]
 ·have d1:decide (i<(l.length:Int))=false:=decide_eq_false hi
  refine .inr ⟨b,?_,fun e=>?_,fun e=>?_⟩
  ·show F52_0 l b i=_
   unfold F52_0 G52_0
   simp only [d1,cond_false]
  ·rcases hB with ⟨e1,e2⟩|⟨b0,b1,b2⟩
   ·exact e2
   ·omega
  ·rcases hB with ⟨e1,e2⟩|⟨b0,b1,b2⟩
   ·omega
   ·exact ⟨b0,by omega,fun j j0 j1=>b2 j j0 (by omega)⟩
theorem worst_both (cs:List AV) (h:cs.length≤1048576):q56 cs=true∧q57 cs=true∧v56_0 cs=v57_0 cs∧(0<cs.length→0≤v57_0 cs∧v57_0 cs<cs.length∧∀ j:Int,0≤j→j<cs.length→el cs j≤el cs (v57_0 cs)):=by
 obtain ⟨r,r',k1,k2,k3,k4⟩:=runW_pair (f:=R56_0 cs cs cs.length) (g:=R57_0 cs) (fun s s':Int × Int=>s'=s∧0≤s.2∧s.2≤cs.length∧((s.2=0∧s.1 = -1)∨(0≤s.1∧s.1<s.2∧∀ j:Int,0≤j→j<s.2→el cs j≤el cs s.1)))
  (fun r r':Int=>r'=r∧(0<cs.length→0≤r∧r<cs.length∧∀ j:Int,0≤j→j<cs.length→el cs j≤el cs r)) (fun s=>((cs.length:Int) - s.2).toNat) (fun s s' hI=>by
   obtain ⟨b,i⟩:=s
   obtain ⟨rfl,i0,i1,hB⟩:=hI
   simp only at i0 i1 hB
   show (∃ x y,F56_0 cs cs cs.length b i = .next x∧F57_0 cs b i = .next y∧_)∨∃ r r',F56_0 cs cs cs.length b i = .stop r∧F57_0 cs b i = .stop r'∧_
   by_cases hi:i<cs.length
   ·have w:IntKind.i64.wrap (i+1)=i+1:=wrap_in (by omega) (by omega)
    have d1:decide (i<(cs.length:Int))=true:=decide_eq_true hi
    have d2:decide (0≤i)=true:=decide_eq_true i0
    have m:((cs.length:Int) - (i+1)).toNat<((cs.length:Int) - i).toNat:=by omega
    unfold F56_0 G56_0 F57_0 G57_0
    rcases hB with ⟨e1,e2⟩|⟨b0,b1,b2⟩
    ·subst e2
     have d3:decide ((-1:Int)<0)=true:=rfl
     simp only [d1,d2,d3,w,Bool.and_self,cond_true]
     refine .inl ⟨_,_,rfl,rfl,⟨rfl,by simp only;omega,by simp only;omega,.inr ⟨i0,by simp only;omega,fun j j0 j1=>?_⟩⟩,m⟩
     simp only at j1 ⊢
     rw [show j=i by omega]
     exact Int.le_refl _
    ·have d3:decide (b<0)=false:=decide_eq_false (by omega)
     have d4:decide (0≤b)=true:=decide_eq_true b0
     have d5:decide (b<(cs.length:Int))=true:=decide_eq_true (by omega)
     simp only [d1,d2,d3,d4,d5,w,Bool.and_self,cond_true,cond_false]
     by_cases c1:fI (cs.getD i.toNat AV.undef) 0 > fI (cs.getD b.toNat AV.undef) 0
     ·simp only [decide_eq_true c1,cond_true]
      refine .inl ⟨_,_,rfl,rfl,⟨rfl,by simp only;omega,by simp only;omega,.inr ⟨i0,by simp only;omega,fun j j0 j1=>?_⟩⟩,m⟩
      simp only at j1 ⊢
      by_cases ej:j=i
      ·rw [ej];exact Int.le_refl _
      ·have a:=b2 j j0 (by omega)
       have c:el cs b<el cs i:=c1
       omega
     ·simp only [decide_eq_false c1,cond_false]
      refine .inl ⟨_,_,rfl,rfl,⟨rfl,by simp only;omega,by simp only;omega,.inr ⟨b0,by simp only;omega,fun j j0 j1=>?_⟩⟩,m⟩
      simp only at j1 ⊢
      by_cases ej:j=i
      ·rw [ej]
       have c:¬ el cs i > el cs b:=c1
       omega
      ·exact b2 j j0 (by omega)
   ·have d1:decide (i<(cs.length:Int))=false:=decide_eq_false hi
    unfold F56_0 G56_0 F57_0 G57_0
    simp only [d1,cond_false]
    refine .inr ⟨_,_,rfl,rfl,rfl,fun e=>?_⟩
    rcases hB with ⟨e1,e2⟩|⟨b0,b1,b2⟩
    ·omega
    ·exact ⟨b0,by omega,fun j j0 j1=>b2 j j0 (by omega)⟩) (((cs.length:Int) - 0:Int).toNat+1) (((cs.length:Int) - 0:Int).toNat+1) ((-1),0) ((-1),0) ⟨rfl,Int.le_refl 0,by simp only;omega,.inl ⟨rfl,rfl⟩⟩ (by simp only;omega) (by simp only;omega)
 subst k3
 unfold q56 q57 v56_0 v57_0
 rw [k1,k2]
 exact ⟨rfl,rfl,rfl,k4⟩
end Go.Proofs.YtealoedecngaoaaGreatDoor

namespace Go.Proofs.YtealoedecngaoaaGreatDoor
open Go Go.Proofs.VE
set_option linter.unusedVariables false
set_option linter.unusedSimpArgs false
theorem g132 {b0_0:List AV} {b0_1:Int} {b0_2:Int} {b1:List AV} {x0:Int} {x1:List AV} {x2:Int} {x3:Int} {x4:List AV} (h:W132 b0_0 b0_1 b0_2 b1=some (x0,x1,x2,x3,x4)):q132 b0_0 b0_1 b0_2 b1=true∧v132_0 b0_0 b0_1 b0_2 b1=x0∧v132_1 b0_0 b0_1 b0_2 b1=x1∧v132_2 b0_0 b0_1 b0_2 b1=x2∧v132_3 b0_0 b0_1 b0_2 b1=x3∧v132_4 b0_0 b0_1 b0_2 b1=x4:=by
 unfold q132 v132_0 v132_1 v132_2 v132_3 v132_4
 rw [h]
 exact ⟨rfl,rfl,rfl,rfl,rfl,rfl⟩
theorem g91 {a1:Int} {b0_0:List AV} {b0_1:Int} {b0_2:Int} {x0:List AV} {x1:List AV} {x2:Int} {x3:Int} (h:W91 a1 b0_0 b0_1 b0_2=some (x0,x1,x2,x3)):q91 a1 b0_0 b0_1 b0_2=true∧v91_0 a1 b0_0 b0_1 b0_2=x0∧v91_1 a1 b0_0 b0_1 b0_2=x1∧v91_2 a1 b0_0 b0_1 b0_2=x2∧v91_3 a1 b0_0 b0_1 b0_2=x3:=by
 unfold q91 v91_0 v91_1 v91_2 v91_3
 rw [h]
 exact ⟨rfl,rfl,rfl,rfl,rfl⟩
theorem g119 {a1:Int} {b0_0:List AV} {b0_1:Int} {b0_2:Int} {x0:Bool} {x1:List AV} {x2:Int} {x3:Int} (h:W119 a1 b0_0 b0_1 b0_2=some (x0,x1,x2,x3)):q119 a1 b0_0 b0_1 b0_2=true∧v119_0 a1 b0_0 b0_1 b0_2=x0∧v119_1 a1 b0_0 b0_1 b0_2=x1∧v119_2 a1 b0_0 b0_1 b0_2=x2∧v119_3 a1 b0_0 b0_1 b0_2=x3:=by
 unfold q119 v119_0 v119_1 v119_2 v119_3
 rw [h]
 exact ⟨rfl,rfl,rfl,rfl,rfl⟩
theorem g172 {b0_0:List AV} {b0_1:Int} {b0_2:Int} {x0:Int} {x1:Int} {x2:Int} {x3:List AV} {x4:Int} {x5:Int} (h:W172 b0_0 b0_1 b0_2=some (x0,x1,x2,x3,x4,x5)):q172 b0_0 b0_1 b0_2=true∧v172_0 b0_0 b0_1 b0_2=x0∧v172_1 b0_0 b0_1 b0_2=x1∧v172_2 b0_0 b0_1 b0_2=x2∧v172_3 b0_0 b0_1 b0_2=x3∧v172_4 b0_0 b0_1 b0_2=x4∧v172_5 b0_0 b0_1 b0_2=x5:=by
 unfold q172 v172_0 v172_1 v172_2 v172_3 v172_4 v172_5
 rw [h]
 exact ⟨rfl,rfl,rfl,rfl,rfl,rfl,rfl⟩
theorem g109 {b0_0:List AV} {b0_1:Int} {b0_2:Int} {b1:List AV} {b2:List AV} {b3:List AV} {x0:Int} {x1:List AV} {x2:Int} {x3:Int} {x4:List AV} {x5:List AV} {x6:List AV} (h:W109 b0_0 b0_1 b0_2 b1 b2 b3=some (x0,x1,x2,x3,x4,x5,x6)):q109 b0_0 b0_1 b0_2 b1 b2 b3=true∧v109_0 b0_0 b0_1 b0_2 b1 b2 b3=x0∧v109_1 b0_0 b0_1 b0_2 b1 b2 b3=x1∧v109_2 b0_0 b0_1 b0_2 b1 b2 b3=x2∧v109_3 b0_0 b0_1 b0_2 b1 b2 b3=x3∧v109_4 b0_0 b0_1 b0_2 b1 b2 b3=x4∧v109_5 b0_0 b0_1 b0_2 b1 b2 b3=x5∧v109_6 b0_0 b0_1 b0_2 b1 b2 b3=x6:=by
 unfold q109 v109_0 v109_1 v109_2 v109_3 v109_4 v109_5 v109_6
 rw [h]
 exact ⟨rfl,rfl,rfl,rfl,rfl,rfl,rfl,rfl⟩
theorem g222 {b0_0:List AV} {b0_1:Int} {b0_2:Int} {x0:Int} {x1:Int} {x2:List AV} {x3:Int} {x4:Int} (h:W222 b0_0 b0_1 b0_2=some (x0,x1,x2,x3,x4)):q222 b0_0 b0_1 b0_2=true∧v222_0 b0_0 b0_1 b0_2=x0∧v222_1 b0_0 b0_1 b0_2=x1∧v222_2 b0_0 b0_1 b0_2=x2∧v222_3 b0_0 b0_1 b0_2=x3∧v222_4 b0_0 b0_1 b0_2=x4:=by
 unfold q222 v222_0 v222_1 v222_2 v222_3 v222_4
 rw [h]
 exact ⟨rfl,rfl,rfl,rfl,rfl,rfl⟩
theorem g198 {b0_0:List AV} {b0_1:Int} {b0_2:Int} {x0:Int} {x1:Int} {x2:List AV} {x3:Int} {x4:Int} (h:W198 b0_0 b0_1 b0_2=some (x0,x1,x2,x3,x4)):q198 b0_0 b0_1 b0_2=true∧v198_0 b0_0 b0_1 b0_2=x0∧v198_1 b0_0 b0_1 b0_2=x1∧v198_2 b0_0 b0_1 b0_2=x2∧v198_3 b0_0 b0_1 b0_2=x3∧v198_4 b0_0 b0_1 b0_2=x4:=by
 unfold q198 v198_0 v198_1 v198_2 v198_3 v198_4
 rw [h]
 exact ⟨rfl,rfl,rfl,rfl,rfl,rfl⟩
theorem g173 {b0_0:List AV} {b0_1:Int} {b0_2:Int} {b1:List AV} {b2:List AV} {b3:List AV} {x0:Int} {x1:Int} {x2:List AV} {x3:Int} {x4:Int} {x5:List AV} {x6:List AV} {x7:List AV} (h:W173 b0_0 b0_1 b0_2 b1 b2 b3=some (x0,x1,x2,x3,x4,x5,x6,x7)):q173 b0_0 b0_1 b0_2 b1 b2 b3=true∧v173_0 b0_0 b0_1 b0_2 b1 b2 b3=x0∧v173_1 b0_0 b0_1 b0_2 b1 b2 b3=x1∧v173_2 b0_0 b0_1 b0_2 b1 b2 b3=x2∧v173_3 b0_0 b0_1 b0_2 b1 b2 b3=x3∧v173_4 b0_0 b0_1 b0_2 b1 b2 b3=x4∧v173_5 b0_0 b0_1 b0_2 b1 b2 b3=x5∧v173_6 b0_0 b0_1 b0_2 b1 b2 b3=x6∧v173_7 b0_0 b0_1 b0_2 b1 b2 b3=x7:=by
 unfold q173 v173_0 v173_1 v173_2 v173_3 v173_4 v173_5 v173_6 v173_7
 rw [h]
 exact ⟨rfl,rfl,rfl,rfl,rfl,rfl,rfl,rfl,rfl⟩
theorem g118 {b0_0:List AV} {b0_1:Int} {b0_2:Int} {x0:List AV} {x1:Int} {x2:Int} {x3:Int} {x4:List AV} {x5:List AV} {x6:Int} {x7:Int} (h:W118 b0_0 b0_1 b0_2=some (x0,x1,x2,x3,x4,x5,x6,x7)):q118 b0_0 b0_1 b0_2=true∧v118_0 b0_0 b0_1 b0_2=x0∧v118_1 b0_0 b0_1 b0_2=x1∧v118_2 b0_0 b0_1 b0_2=x2∧v118_3 b0_0 b0_1 b0_2=x3∧v118_4 b0_0 b0_1 b0_2=x4∧v118_5 b0_0 b0_1 b0_2=x5∧v118_6 b0_0 b0_1 b0_2=x6∧v118_7 b0_0 b0_1 b0_2=x7:=by
 unfold q118 v118_0 v118_1 v118_2 v118_3 v118_4 v118_5 v118_6 v118_7
 rw [h]
 exact ⟨rfl,rfl,rfl,rfl,rfl,rfl,rfl,rfl,rfl⟩
theorem g48 {a0:List AV} {x0:List AV} {x1:Int} {x2:Int} {x3:List AV} (h:W48 a0=some (x0,x1,x2,x3)):q48 a0=true∧v48_0 a0=x0∧v48_1 a0=x1∧v48_2 a0=x2∧v48_3 a0=x3:=by
 unfold q48 v48_0 v48_1 v48_2 v48_3
 rw [h]
 exact ⟨rfl,rfl,rfl,rfl,rfl⟩
theorem g55 {a0:List AV} {x0:List AV} (h:W55 a0=some x0):q55 a0=true∧v55_0 a0=x0:=by
 unfold q55 v55_0
 rw [h]
 exact ⟨rfl,rfl⟩
theorem g120 {b0_0:List AV} {b0_1:Int} {b0_2:Int} {x0:Int} {x1:Int} {x2:Int} {x3:List AV} {x4:Int} {x5:Int} (h:W120 b0_0 b0_1 b0_2=some (x0,x1,x2,x3,x4,x5)):q120 b0_0 b0_1 b0_2=true∧v120_0 b0_0 b0_1 b0_2=x0∧v120_1 b0_0 b0_1 b0_2=x1∧v120_2 b0_0 b0_1 b0_2=x2∧v120_3 b0_0 b0_1 b0_2=x3∧v120_4 b0_0 b0_1 b0_2=x4∧v120_5 b0_0 b0_1 b0_2=x5:=by
 unfold q120 v120_0 v120_1 v120_2 v120_3 v120_4 v120_5
 rw [h]
 exact ⟨rfl,rfl,rfl,rfl,rfl,rfl,rfl⟩
theorem g58 {a0:List AV} {x0:List AV} {x1:Int} {x2:Int} {x3:Int} {x4:List AV} (h:W58 a0=some (x0,x1,x2,x3,x4)):q58 a0=true∧v58_0 a0=x0∧v58_1 a0=x1∧v58_2 a0=x2∧v58_3 a0=x3∧v58_4 a0=x4:=by
 unfold q58 v58_0 v58_1 v58_2 v58_3 v58_4
 rw [h]
 exact ⟨rfl,rfl,rfl,rfl,rfl,rfl⟩
def Cur (b:List AV) (i:Int):Prop:=0≤i∧i≤b.length∧b.length≤1048576
theorem and255 (x:Int):0≤IntKind.i64.wrap ((BitVec.ofInt 64 x &&& BitVec.ofInt 64 255).toNat:Int)∧IntKind.i64.wrap ((BitVec.ofInt 64 x &&& BitVec.ofInt 64 255).toNat:Int)≤255:=by
 have h:(BitVec.ofInt 64 x &&& BitVec.ofInt 64 255).toNat≤255:=by
  rw [BitVec.toNat_and]
  exact Nat.and_le_right
 rw [wrap_in (by omega) (by omega)]
 omega
theorem byte {b:List AV} {i:Int} (hc:Cur b i) (h:Int):q182 b i h=true∧(0≤v182_0 b i h∧v182_0 b i h≤255)∧Cur b (v182_2 b i h):=by
 obtain ⟨h0,h1,h2⟩:=hc
 unfold q182 v182_0 v182_2
 rw [hid_eq,hid_eq]
 by_cases c:i<b.length
 ·rw [decide_eq_true c,decide_eq_true h0]
  simp only [cond_true]
  refine ⟨rfl,and255 _,?_⟩
  rw [wrap_in (by omega) (by omega)]
  exact ⟨by omega,by omega,h2⟩
 ·rw [decide_eq_false c]
  simp only [cond_false]
  exact ⟨trivial,and255 _,h0,h1,h2⟩
theorem tmod_in {x n:Int} (x0:0≤x) (n0:0<n):0≤Int.tmod x n∧Int.tmod x n<n:=⟨Int.tmod_nonneg _ x0,Int.tmod_lt_of_pos _ n0⟩
theorem four {x y z w:Int} (hx:0≤x∧x≤255) (hy:0≤y∧y≤255) (hz:0≤z∧z≤255) (hw:0≤w∧w≤255):0≤IntKind.i64.wrap (IntKind.i64.wrap (IntKind.i64.wrap (IntKind.i64.wrap (x*16777216)+IntKind.i64.wrap (y*65536))+IntKind.i64.wrap (z*256))+w):=by
 rw [wrap_in (a:=x*16777216) (by omega) (by omega),wrap_in (a:=y*65536) (by omega) (by omega),wrap_in (a:=z*256) (by omega) (by omega),wrap_in (a:=x*16777216+y*65536) (by omega) (by omega),wrap_in (a:=x*16777216+y*65536+z*256) (by omega) (by omega),wrap_in (by omega) (by omega)]
 omega
theorem below {b:List AV} {i:Int} (hc:Cur b i) (h:Int) {n:Int} (n0:0<n):∃ x i' h',q131 n b i h=true∧v131_0 n b i h=x∧v131_1 n b i h=b∧v131_2 n b i h=i'∧v131_3 n b i h=h'∧0≤x∧x<n∧Cur b i':=by
 obtain ⟨x0,x1,x2⟩:=byte hc h
 obtain ⟨y0,y1,y2⟩:=byte x2 (v182_3 b i h)
 obtain ⟨z0,z1,z2⟩:=byte y2 (v182_3 b (v182_2 b i h) (v182_3 b i h))
 obtain ⟨w0,w1,w2⟩:=byte z2 (v182_3 b (v182_2 b (v182_2 b i h) (v182_3 b i h)) (v182_3 b (v182_2 b i h) (v182_3 b i h)))
 have d1:decide (n≤0)=false:=decide_eq_false (by omega)
 have d2:decide (n=0)=false:=decide_eq_false (by omega)
 refine ⟨_,_,_,?_,rfl,?_,rfl,rfl,?_⟩
 ·unfold q131
  simp only [v182_1]
  rw [d1,d2,x0,y0,z0,w0]
  cases decide (n≤256) <;> rfl
 ·unfold v131_1
  first|rfl|(rw [hid_eq];simp only [v182_1];cases decide (n≤0) <;> cases decide (n≤256) <;> rfl)|(simp only [v182_1];cases decide (n≤0) <;> cases decide (n≤256) <;> rfl)
 ·unfold v131_0 v131_2
  rw [hid_eq,hid_eq]
  simp only [v182_1]
  rw [d1]
  simp only [cond_false]
  by_cases c:n≤256
  ·rw [decide_eq_true c]
   simp only [cond_true]
   exact ⟨(tmod_in x1.1 n0).1,(tmod_in x1.1 n0).2,x2⟩
  ·rw [decide_eq_false c]
   simp only [cond_false]
   exact ⟨(tmod_in (four x1 y1 z1 w1) n0).1,(tmod_in (four x1 y1 z1 w1) n0).2,w2⟩
theorem inL {L:List AV} {x:Int} (x0:0≤x) (x1:x<(L.length:Int)):(decide (0≤x) && decide (x<(L.length:Int)))=true:=by
 rw [decide_eq_true x0,decide_eq_true x1];rfl
theorem rm8 (L:List AV) (y:AV) (h:L.length≤2000000):(decide ((L.length+[y].length)*8≤140737488355328) && decide (L.length+[y].length≤140737488355328))=true:=by
 simp only [List.length_singleton,Bool.and_eq_true,decide_eq_true_eq]
 omega
theorem rm16 (L:List AV) (y:AV) (h:L.length≤2000000):(decide ((L.length+[y].length)*16≤140737488355328) && decide (L.length+[y].length≤140737488355328))=true:=by
 simp only [List.length_singleton,Bool.and_eq_true,decide_eq_true_eq]
 omega
theorem wrap1 {t:Int} (h:0<t) (h':t≤9223372036854775807):IntKind.i64.wrap (t - 1)=t - 1:=wrap_in (by omega) (by omega)
theorem wide_pos {x:Int} (h:∃ j:Nat,j<([AV.int .i64 3,AV.int .i64 10,AV.int .i64 30,AV.int .i64 1000]:List AV).length∧x=fI (([AV.int .i64 3,AV.int .i64 10,AV.int .i64 30,AV.int .i64 1000]:List AV).getD j .undef) 0):0<x:=by
 obtain ⟨j,hj,rfl⟩:=h
 have:j<4:=hj
 obtain rfl|rfl|rfl|rfl:j=0∨j=1∨j=2∨j=3:=by omega
 all_goals decide
theorem pick {b:List AV} {i:Int} (hc:Cur b i) (h:Int) {L:List AV} (L0:0<L.length):∃ x i' h',W132 b i h L=some (x,b,i',h',L)∧Cur b i'∧∃ j:Nat,j<L.length∧x=fI (L.getD j .undef) 0:=by
 obtain ⟨x,i1,h1,a0,a1,a2,a3,a4,x0,x1,c1⟩:=below hc h (n:=(L.length:Int)) (by omega)
 unfold W132 T132
 simp only [a0,a1,a2,a3,a4,inL x0 x1,cond_true]
 exact ⟨_,_,_,rfl,c1,x.toNat,by omega,rfl⟩
theorem once {b:List AV} {i:Int} (hc:Cur b i) (h:Int) {n:Int} (n0:0<n):∃ o i' h',W119 n b i h=some (o,b,i',h')∧Cur b i':=by
 obtain ⟨x,i1,h1,a0,a1,a2,a3,a4,x0,x1,c1⟩:=below hc h n0
 unfold W119 T119
 simp only [a0,a1,a2,a3,a4,cond_true]
 exact ⟨_,_,_,rfl,c1⟩
theorem values {b:List AV} {i:Int} (hc:Cur b i) (h:Int) {M:Int} (m0:0≤M) (m1:M≤100):∃ xs i' h',W91 M b i h=some (xs,b,i',h')∧xs.length≤100∧Cur b i':=by
 obtain ⟨w,i1,h1,hW,c1,hw⟩:=pick hc h (L:=[AV.int .i64 3,AV.int .i64 10,AV.int .i64 30,AV.int .i64 1000]) (by decide)
 obtain ⟨a0,a1,a2,a3,a4,_⟩:=g132 hW
 have pos:=wide_pos hw
 have wM:IntKind.i64.wrap (M+1)=M+1:=wrap_in (by omega) (by omega)
 obtain ⟨m,i2,h2,b0,b1,b2,b3,b4,n0,n1,c2⟩:=below c1 h1 (n:=M+1) (by omega)
 obtain ⟨r,r1,r2,r3,r4⟩:=runW_ends (f:=R91_0 w) (fun s:Int × List AV × List AV × Int × Int=>0≤s.1∧s.2.1.length+s.1=m∧s.2.2.1=b∧Cur b s.2.2.2.1) (fun r=>r.1.length≤100∧r.2.1=b∧Cur b r.2.2.1) (fun s=>s.1.toNat) (fun s hI=>by
   obtain ⟨t,L,b',k,g⟩:=s
   obtain ⟨t0,tl,rfl,hk⟩:=hI
   simp only at t0 tl hk
   by_cases ct:t > 0
   ·obtain ⟨y,k1,g1,e0,e1,e2,e3,e4,_,_,hk1⟩:=below hk g pos
    have d1:decide (t > 0)=true:=decide_eq_true ct
    have d3:(!decide ((3:Int)=0))=true:=rfl
    refine .inl ⟨(t - 1,L++[AV.int .i64 (IntKind.i64.wrap (y - IntKind.i64.wrap (Int.tdiv w 3)))],b',k1,g1),?_,⟨by simp only;omega,by simp only [List.length_append,List.length_singleton];omega,rfl,hk1⟩,by simp only;omega⟩
    show F91_0 w t L b' k g=_
    unfold F91_0 G91_0
    simp only [d1,d3,e0,e1,e2,e3,e4,rm8 L _ (by omega),wrap1 ct (by omega),cond_true] <;> rfl
   ·have d1:decide (t > 0)=false:=decide_eq_false ct
    refine .inr ⟨(L,b',k,g),?_,by simp only;omega,rfl,hk⟩
    show F91_0 w t L b' k g=_
    unfold F91_0 G91_0
    simp only [d1,cond_false]) ((m - 0).toNat+1) (m,[],b,i2,h2) ⟨n0,by simp,rfl,c2⟩ (by simp only;omega)
 obtain ⟨xs,b',i3,h3⟩:=r
 simp only at r2 r3 r4
 subst r3
 unfold W91 T91
 simp only [a0,a1,a2,a3,a4,wM,b0,b1,b2,b3,b4,r1,cond_true,ro]
 exact ⟨_,_,_,rfl,r2,r4⟩
theorem value {b:List AV} {i:Int} (hc:Cur b i) (h:Int) {x:List AV} (hx:x.length≤1048576) (y z:List AV):∃ v i' h',W109 b i h x y z=some (v,b,i',h',x,y,z)∧Cur b i':=by
 have six:0<[AV.int .i64 0,AV.int .i64 3,AV.int .i64 (-2),AV.int .i64 (-1000),AV.int .i64 1000,AV.int .i64 50].length:=by decide
 unfold W109 T109
 by_cases c:(x.length:Int) > 0
 ·obtain ⟨o,i1,h1,hW,c1⟩:=once hc h (n:=4) (by decide)
  obtain ⟨a0,a1,a2,a3,a4⟩:=g119 hW
  obtain ⟨u,i2,h2,hW2,c2,_⟩:=pick c1 h1 six
  obtain ⟨e0,e1,e2,e3,e4,e5⟩:=g132 hW2
  obtain ⟨p,i3,h3,b0,b1,b2,b3,b4,p0,p1,c3⟩:=below c1 h1 (n:=(x.length:Int)) (by omega)
  obtain ⟨r,i4,h4,f0,f1,f2,f3,f4,r0,r1,c4⟩:=below c3 h3 (n:=3) (by decide)
  simp only [decide_eq_true c,a0,a1,a2,a3,a4,e0,e1,e2,e3,e4,b0,b1,b2,b3,b4,f0,f1,f2,f3,f4,inL p0 p1,cond_true]
  cases o with
  | true=>exact ⟨_,_,_,rfl,c2⟩
  | false=>exact ⟨_,_,_,rfl,c4⟩
 ·obtain ⟨u,i2,h2,hW2,c2,_⟩:=pick hc h six
  obtain ⟨e0,e1,e2,e3,e4,e5⟩:=g132 hW2
  simp only [decide_eq_false c,e0,e1,e2,e3,e4,cond_true,cond_false]
  exact ⟨_,_,_,rfl,c2⟩
theorem range3 {b:List AV} {i:Int} (hc:Cur b i) (h:Int):∃ x y i' h',W222 b i h=some (x,y,b,i',h')∧Cur b i':=by
 obtain ⟨w,i1,h1,hW,c1,hw⟩:=pick hc h (L:=[AV.int .i64 3,AV.int .i64 10,AV.int .i64 30,AV.int .i64 1000]) (by decide)
 obtain ⟨a0,a1,a2,a3,a4,_⟩:=g132 hW
 have pos:=wide_pos hw
 obtain ⟨y,i2,h2,b0,b1,b2,b3,b4,_,_,c2⟩:=below c1 h1 pos
 obtain ⟨z,i3,h3,d0,d1,d2,d3,d4,_,_,c3⟩:=below c2 h2 pos
 have t3:(!decide ((3:Int)=0))=true:=rfl
 unfold W222 T222
 simp only [a0,a1,a2,a3,a4,b0,b1,b2,b3,b4,d0,d1,d2,d3,d4,t3,cond_true]
 exact ⟨_,_,_,_,rfl,c3⟩
theorem rangeAny {b:List AV} {i:Int} (hc:Cur b i) (h:Int):∃ x y i' h',W198 b i h=some (x,y,b,i',h')∧Cur b i':=by
 obtain ⟨x,y,i1,h1,hW,c1⟩:=range3 hc h
 obtain ⟨a0,a1,a2,a3,a4,a5⟩:=g222 hW
 obtain ⟨m,i2,h2,b0,b1,b2,b3,b4,_,_,c2⟩:=below c1 h1 (n:=10) (by decide)
 obtain ⟨u,i3,h3,hW2,c3,_⟩:=pick c2 h2 (L:=[AV.int .i64 (-1001),AV.int .i64 (-1000),AV.int .i64 1000,AV.int .i64 1001]) (by decide)
 obtain ⟨e0,e1,e2,e3,e4,e5⟩:=g132 hW2
 unfold W198 T198
 simp only [a0,a1,a2,a3,a4,a5,b0,b1,b2,b3,b4,e0,e1,e2,e3,e4,cond_true]
 cases decide (m=0) with
 | true=>exact ⟨_,_,_,_,rfl,c3⟩
 | false =>
  cases decide (m=1) with
  | true=>exact ⟨_,_,_,_,rfl,c3⟩
  | false=>exact ⟨_,_,_,_,rfl,c2⟩
theorem range6 {b:List AV} {i:Int} (hc:Cur b i) (h:Int) {x:List AV} (hx:x.length≤1048576) (y z:List AV):∃ a c i' h',W173 b i h x y z=some (a,c,b,i',h',x,y,z)∧Cur b i':=by
 obtain ⟨v,i1,h1,hW,c1⟩:=value hc h hx y z
 obtain ⟨a0,a1,a2,a3,a4,a5,a6,a7⟩:=g109 hW
 obtain ⟨w,i2,h2,hW2,c2⟩:=value c1 h1 hx y z
 obtain ⟨b0,b1,b2,b3,b4,b5,b6,b7⟩:=g109 hW2
 obtain ⟨o,i3,h3,hW3,c3⟩:=once c2 h2 (n:=12) (by decide)
 obtain ⟨d0,d1,d2,d3,d4⟩:=g119 hW3
 obtain ⟨m,m',i4,h4,hW4,c4⟩:=rangeAny c3 h3
 obtain ⟨e0,e1,e2,e3,e4,e5⟩:=g198 hW4
 unfold W173 T173
 simp only [a0,a1,a2,a3,a4,a5,a6,a7,b0,b1,b2,b3,b4,b5,b6,b7,d0,d1,d2,d3,d4,e0,e1,e2,e3,e4,e5,cond_true]
 cases o with
 | true=>exact ⟨_,_,_,_,rfl,c4⟩
 | false=>exact ⟨_,_,_,_,rfl,c3⟩
theorem start_of {f:Int × Int→Out (Int × Int) Int} (code:List AV) (h1:∀ g k:Int,0≤k→k<code.length→(∃ g',f (g,k) = .next (g',k+1))∨f (g,k) = .stop g) (h2:∀ g k:Int,¬ k<code.length→f (g,k) = .stop g) (x:Int):∃ r,runW f (((code.length:Int) - 0).toNat+1) (x,0)=some r:=by
 obtain ⟨r,r1,_⟩:=runW_ends (f:=f) (fun s:Int × Int=>0≤s.2∧s.2≤code.length) (fun _=>True) (fun s=>((code.length:Int) - s.2).toNat) (fun s hI=>by
   obtain ⟨g,k⟩:=s
   obtain ⟨k0,k1⟩:=hI
   simp only at k0 k1
   by_cases ck:k<code.length
   ·rcases h1 g k k0 ck with ⟨g',e⟩|e
    ·exact .inl ⟨(g',k+1),e,⟨by simp only;omega,by simp only;omega⟩,by simp only;omega⟩
    ·exact .inr ⟨g,e,trivial⟩
   ·exact .inr ⟨g,h2 g k ck,trivial⟩) (((code.length:Int) - 0).toNat+1) (x,0) ⟨Int.le_refl 0,by simp only;omega⟩ (by simp only;omega)
 exact ⟨r,r1⟩
theorem settings {b:List AV} {i:Int} (hc:Cur b i) (h:Int):∃ p t s i' h',W172 b i h=some (p,t,s,b,i',h')∧Cur b i':=by
 obtain ⟨x,i1,h1,a0,a1,a2,a3,a4,_,_,c1⟩:=below hc h (n:=3) (by decide)
 obtain ⟨y,i2,h2,hW,c2,_⟩:=pick c1 h1 (L:=[AV.int .i64 1,AV.int .i64 2,AV.int .i64 3,AV.int .i64 5,AV.int .i64 64]) (by decide)
 obtain ⟨e0,e1,e2,e3,e4,e5⟩:=g132 hW
 obtain ⟨z,i3,h3,b0,b1,b2,b3,b4,_,_,c3⟩:=below c2 h2 (n:=10007) (by decide)
 unfold W172 T172
 simp only [a0,a1,a2,a3,a4,e0,e1,e2,e3,e4,e5,b0,b1,b2,b3,b4,cond_true]
 exact ⟨_,_,_,_,_,rfl,c3⟩
theorem workload {b:List AV} {i:Int} (hc:Cur b i) (h:Int):∃ v p t s l i' h',W118 b i h=some (v,p,t,s,l,b,i',h')∧v.length≤100∧l.length≤100∧Cur b i':=by
 obtain ⟨xs,i1,h1,hW1,x1,c1⟩:=values hc h (M:=14) (by decide) (by decide)
 obtain ⟨a0,a1,a2,a3,a4⟩:=g91 hW1
 obtain ⟨o,i2,h2,hW2,c2⟩:=once c1 h1 (n:=4) (by decide)
 obtain ⟨d0,d1,d2,d3,d4⟩:=g119 hW2
 obtain ⟨p,t,s,i3,h3,hW3,c3⟩:=settings c2 h2
 obtain ⟨e0,e1,e2,e3,e4,e5,e6⟩:=g172 hW3
 obtain ⟨m,i4,h4,f0,f1,f2,f3,f4,m0,m1,c4⟩:=below c3 h3 (n:=7) (by decide)
 have go:∀ V:List AV,V.length≤100→q99 V=true∧∃ r,runW (R118_2 0 0 0 V p t s) ((m - 0:Int).toNat+1) (m,v99_0 V,v99_1 V,v99_2 V,[],b,i4,h4)=some r∧r.2.2.2.1.length≤100∧r.2.2.2.2.1=b∧Cur b r.2.2.2.2.2.1:=fun V hV=>by
  obtain ⟨n1,n2,n3,n4⟩:=P99 V (by omega)
  have l0:(v99_0 V).length≤100:=by
   rw [n2];cases v100_0 V
   ·simp
   ·exact hV
  generalize v99_0 V=X0 at *
  generalize v99_1 V=Y0 at *
  generalize v99_2 V=Z0 at *
  refine ⟨n1,?_⟩
  refine runW_ends (f:=R118_2 0 0 0 V p t s) (fun s:Int × List AV × List AV × List AV × List AV × List AV × Int × Int=>0≤s.1∧s.2.2.2.2.1.length+s.1=m∧s.2.1.length≤100∧s.2.2.2.2.2.1=b∧Cur b s.2.2.2.2.2.2.1) (fun r=>r.2.2.2.1.length≤100∧r.2.2.2.2.1=b∧Cur b r.2.2.2.2.2.1) (fun s=>s.1.toNat) (fun s' hI=>?_) ((m - 0).toNat+1) (m,X0,Y0,Z0,[],b,i4,h4) ⟨m0,by simp,l0,rfl,c4⟩ (by simp only;omega)
  obtain ⟨k,X,Y,Z,L,b',j,g⟩:=s'
  obtain ⟨k0,kl,hX,hb,hj⟩:=hI
  simp only at k0 kl hX hb hj
  subst hb
  by_cases ck:k > 0
  ·obtain ⟨u,w,j1,g1,hW,cj⟩:=range6 hj g (x:=X) (by omega) Y Z
   obtain ⟨w0,w1,w2,w3,w4,w5,w6,w7,w8⟩:=g173 hW
   refine .inl ⟨(k - 1,X,Y,Z,L++[AV.agg [AV.int .i64 u,AV.int .i64 w]],b',j1,g1),?_,⟨by simp only;omega,by simp only [List.length_append,List.length_singleton];omega,hX,rfl,cj⟩,by simp only;omega⟩
   show F118_2 0 0 0 V p t s k X Y Z L b' j g=_
   unfold F118_2 G118_2
   simp only [decide_eq_true ck,w0,w1,w2,w3,w4,w5,w6,w7,w8,rm16 L _ (by omega),wrap1 ck (by omega),cond_true]
  ·refine .inr ⟨(X,Y,Z,L,b',j,g),?_,by simp only;omega,rfl,hj⟩
   show F118_2 0 0 0 V p t s k X Y Z L b' j g=_
   unfold F118_2 G118_2
   simp only [decide_eq_false ck,cond_false]
 obtain ⟨w,w1,w2⟩:=runW_ends (f:=R118_0 0 0 0 b i2 h2) (fun s:Int × List AV=>0≤s.1∧s.1≤20∧s.2.length≤s.1) (fun r=>r.length≤20) (fun s=>(20 - s.1).toNat) (fun s' hI=>by
   obtain ⟨k,L⟩:=s'
   obtain ⟨k0,k1,kl⟩:=hI
   simp only at k0 k1 kl
   by_cases ck:k<20
   ·refine .inl ⟨(k+1,L++[AV.int .i64 (IntKind.i64.wrap (20 - k))]),?_,⟨by simp only;omega,by simp only;omega,by simp only [List.length_append,List.length_singleton];omega⟩,by simp only;omega⟩
    show F118_0 0 0 0 b i2 h2 k L=_
    unfold F118_0 G118_0
    simp only [decide_eq_true ck,rm8 L _ (by omega),wrap_in (a:=k+1) (by omega) (by omega),cond_true]
   ·refine .inr ⟨L,?_,(by omega:L.length≤20)⟩
    show F118_0 0 0 0 b i2 h2 k L=_
    unfold F118_0 G118_0
    simp only [decide_eq_false ck,cond_false]) ((20 - 0:Int).toNat+1) (0,[]) ⟨Int.le_refl 0,by simp only;omega,by simp⟩ (by simp only;omega)
 unfold W118 T118
 cases o with
 | true =>
  obtain ⟨n1,r,r1,r2,r3,r4⟩:=go w (by omega)
  simp only [a0,a1,a2,a3,a4,d0,d1,d2,d3,d4,e0,e1,e2,e3,e4,e5,e6,f0,f1,f2,f3,f4,w1,n1,r1,r3,ro,cond_true]
  exact ⟨_,_,_,_,_,_,_,rfl,by omega,r2,r4⟩
 | false =>
  obtain ⟨n1,r,r1,r2,r3,r4⟩:=go xs x1
  simp only [a0,a1,a2,a3,a4,d0,d1,d2,d3,d4,e0,e1,e2,e3,e4,e5,e6,f0,f1,f2,f3,f4,n1,r1,r3,ro,cond_true,cond_false]
  exact ⟨_,_,_,_,_,_,_,rfl,x1,r2,r4⟩
theorem anySett {b:List AV} {i:Int} (hc:Cur b i) (h:Int):∃ p t s i' h',W120 b i h=some (p,t,s,b,i',h')∧Cur b i':=by
 obtain ⟨p,t,s,i1,h1,hW1,c1⟩:=settings hc h
 obtain ⟨e0,e1,e2,e3,e4,e5,e6⟩:=g172 hW1
 obtain ⟨x,i2,h2,a0,a1,a2,a3,a4,_,_,c2⟩:=below c1 h1 (n:=10) (by decide)
 obtain ⟨u,j1,g1,hU,cu,_⟩:=pick c2 h2 (L:=[AV.int .i64 (-1),AV.int .i64 3]) (by decide)
 obtain ⟨u0,u1,u2,u3,u4,u5⟩:=g132 hU
 obtain ⟨w,j2,g2,hW,cw,_⟩:=pick c2 h2 (L:=[AV.int .i64 0,AV.int .i64 1,AV.int .i64 64,AV.int .i64 65]) (by decide)
 obtain ⟨w0,w1,w2,w3,w4,w5⟩:=g132 hW
 obtain ⟨z,j3,g3,hZ,cz,_⟩:=pick c2 h2 (L:=[AV.int .i64 (-1),AV.int .i64 0,AV.int .i64 10006,AV.int .i64 10007]) (by decide)
 obtain ⟨z0,z1,z2,z3,z4,z5⟩:=g132 hZ
 unfold W120 T120
 simp only [e0,e1,e2,e3,e4,e5,e6,a0,a1,a2,a3,a4,u0,u1,u2,u3,u4,u5,w0,w1,w2,w3,w4,w5,z0,z1,z2,z3,z4,z5,cond_true]
 cases decide (x=0) with
 | true=>exact ⟨_,_,_,_,_,rfl,cu⟩
 | false =>
  cases decide (x=1) with
  | true=>exact ⟨_,_,_,_,_,rfl,cw⟩
  | false =>
   cases decide (x=2) with
   | true=>exact ⟨_,_,_,_,_,rfl,cz⟩
   | false=>exact ⟨_,_,_,_,_,rfl,c2⟩
theorem drawC (code:List AV) (h:code.length≤1048576):∃ v t s l,W48 code=some (v,t,s,l)∧v.length≤100∧l.length≤100:=by
 obtain ⟨p,hp⟩:=start_of (f:=R115i61_0 code) code (fun g k k0 k1=>by
  have d1:decide (k<(code.length:Int))=true:=decide_eq_true k1
  have d2:decide (0≤k)=true:=decide_eq_true k0
  have wk_:IntKind.i64.wrap (k+1)=k+1:=wrap_in (by omega) (by omega)
  show (∃ g',F115i61_0 code g k=_)∨F115i61_0 code g k=_
  unfold F115i61_0 G115i61_0
  rw [d1,d2,wk_]
  cases decide (k<4000)
  ·exact .inr rfl
  ·exact .inl ⟨_,rfl⟩) (fun g k k1=>by
  have d1:decide (k<(code.length:Int))=false:=decide_eq_false k1
  show F115i61_0 code g k=_
  unfold F115i61_0 G115i61_0
  rw [d1]
  rfl) (IntKind.i64.wrap (10101+(code.length:Int)))
 obtain ⟨v,p1,p2,p3,l,i1,h1,hW,lv,ll,c1⟩:=workload (b:=code) (i:=0) ⟨Int.le_refl 0,by omega,h⟩ p
 obtain ⟨a0,a1,a2,a3,a4,a5,a6,a7,a8⟩:=g118 hW
 obtain ⟨o,i2,h2,hW2,c2⟩:=once c1 h1 (n:=8) (by decide)
 obtain ⟨d0,d1,d2,d3,d4⟩:=g119 hW2
 obtain ⟨u,j1,g1,hU,cu,_⟩:=pick c2 h2 (L:=[AV.int .i64 0,AV.int .i64 65]) (by decide)
 obtain ⟨u0,u1,u2,u3,u4,u5⟩:=g132 hU
 have hq:q115 code=true:=by
  unfold q115
  simp only [hp,ro,a0,a6,a7,a8,d0,d1,d2,d3,d4,u0,Bool.true_and]
  cases o <;> rfl
 have e0:v115_0 code=v:=by
  unfold v115_0
  simp only [hp,ro,a1]
 have e3:v115_3 code=l:=by
  unfold v115_3
  simp only [hp,ro,a5]
 unfold W48 T48
 rw [hq,e0,e3]
 exact ⟨_,_,_,_,rfl,lv,ll⟩
theorem drawQ (code:List AV) (h:code.length≤1048576):∃ v,W55 code=some v∧v.length≤100:=by
 obtain ⟨p,hp⟩:=start_of (f:=R55i61_0 code) code (fun g k k0 k1=>by
  have d1:decide (k<(code.length:Int))=true:=decide_eq_true k1
  have d2:decide (0≤k)=true:=decide_eq_true k0
  have wk_:IntKind.i64.wrap (k+1)=k+1:=wrap_in (by omega) (by omega)
  show (∃ g',F55i61_0 code g k=_)∨F55i61_0 code g k=_
  unfold F55i61_0 G55i61_0
  rw [d1,d2,wk_]
  cases decide (k<4000)
  ·exact .inr rfl
  ·exact .inl ⟨_,rfl⟩) (fun g k k1=>by
  have d1:decide (k<(code.length:Int))=false:=decide_eq_false k1
  show F55i61_0 code g k=_
  unfold F55i61_0 G55i61_0
  rw [d1]
  rfl) (IntKind.i64.wrap (10101+(code.length:Int)))
 obtain ⟨v,i1,h1,hW,lv,c1⟩:=values (b:=code) (i:=0) ⟨Int.le_refl 0,by omega,h⟩ p (M:=6) (by decide) (by decide)
 obtain ⟨a0,a1,a2,a3,a4⟩:=g91 hW
 unfold W55 T55
 simp only [hp,ro,a0,a1,cond_true]
 exact ⟨_,rfl,lv⟩
theorem drawO (code:List AV) (h:code.length≤1048576):∃ v p t s l,W58 code=some (v,p,t,s,l)∧v.length≤100∧l.length≤100:=by
 obtain ⟨p,hp⟩:=start_of (f:=R58i61_0 code 0 0 0) code (fun g k k0 k1=>by
  have d1:decide (k<(code.length:Int))=true:=decide_eq_true k1
  have d2:decide (0≤k)=true:=decide_eq_true k0
  have wk_:IntKind.i64.wrap (k+1)=k+1:=wrap_in (by omega) (by omega)
  show (∃ g',F58i61_0 code 0 0 0 g k=_)∨F58i61_0 code 0 0 0 g k=_
  unfold F58i61_0 G58i61_0
  rw [d1,d2,wk_]
  cases decide (k<4000)
  ·exact .inr rfl
  ·exact .inl ⟨_,rfl⟩) (fun g k k1=>by
  have d1:decide (k<(code.length:Int))=false:=decide_eq_false k1
  show F58i61_0 code 0 0 0 g k=_
  unfold F58i61_0 G58i61_0
  rw [d1]
  rfl) (IntKind.i64.wrap (10101+(code.length:Int)))
 obtain ⟨v,p1,p2,p3,l,i1,h1,hW,lv,ll,c1⟩:=workload (b:=code) (i:=0) ⟨Int.le_refl 0,by omega,h⟩ p
 obtain ⟨a0,a1,a2,a3,a4,a5,a6,a7,a8⟩:=g118 hW
 obtain ⟨o,i2,h2,hW2,c2⟩:=once c1 h1 (n:=8) (by decide)
 obtain ⟨d0,d1,d2,d3,d4⟩:=g119 hW2
 obtain ⟨u,t,s,j1,g1,hU,cu⟩:=anySett c2 h2
 obtain ⟨u0,u1,u2,u3,u4,u5,u6⟩:=g120 hU
 unfold W58 T58
 simp only [hp,ro,a0,a1,a2,a3,a4,a5,a6,a7,a8,d0,d1,d2,d3,d4,u0,u1,u2,u3,cond_true]
 cases o with
 | true=>exact ⟨_,_,_,_,_,rfl,lv,ll⟩
 | false=>exact ⟨_,_,_,_,_,rfl,lv,ll⟩
end Go.Proofs.YtealoedecngaoaaGreatDoor

namespace Go.Proofs.YtealoedecngaoaaGreatDoor
open Go Go.Proofs.VE
set_option linter.unusedVariables false
set_option linter.unusedSimpArgs false
structure Oc (x:AV) (n:Nat):Prop where
 w:fI x 2≤fI x 1
 g:fI x 4≤n
 b:In64 (fI x 1)
 c:In64 (fI x 2)
 d:In64 (fI x 3)
 e:In64 (fI x 4)
theorem oc_in {vs qs:List AV} {thr seed:Int} (hl:vs.length≤1048576) (hq:qs.length≤1048576) (p:Int) (h:v60_5 vs p thr seed qs=true):Oc (oc vs thr seed qs p) vs.length:=by
 obtain ⟨h1,h2,h3,h4,h5,h6,h7⟩:=outcome_in vs qs p thr seed hl hq h
 refine ⟨h2,h5,?_,?_,h7,?_⟩
 ·show In64 (v60_1 vs p thr seed qs)
  unfold In64
  omega
 ·show In64 (v60_2 vs p thr seed qs)
  unfold In64
  omega
 ·show In64 (v60_4 vs p thr seed qs)
  unfold In64
  omega
theorem loopO (code:List AV) (b:Int) (V l:List AV) (hl:l.length≤1048576) (hA:∀ k:Int,0≤k→k<l.length→Oc (l.getD k.toNat .undef) V.length)
  (hb:0<l.length→0≤b∧b<l.length∧∀ j:Int,0≤j→j<l.length→fI (l.getD b.toNat .undef) 2≤fI (l.getD j.toNat .undef) 2) :
  runW (R6_0 code b V l l) (((l.length:Int) - 0).toNat+1) 0=some (.inl ()):=by
 obtain ⟨r,r1,r2⟩:=runW_ends (f:=R6_0 code b V l l) (fun s:Int=>0≤s∧s≤l.length) (fun r=>r = .inl ()) (fun s=>((l.length:Int) - s).toNat) (fun k hI=>by
   obtain ⟨k0,k1⟩:=hI
   by_cases ck:k<l.length
   ·have d1:decide (k<(l.length:Int))=true:=decide_eq_true ck
    have d2:decide (0≤k)=true:=decide_eq_true k0
    obtain ⟨b0,b1,b2⟩:=hb (by omega)
    have d3:decide (0≤b)=true:=decide_eq_true b0
    have d4:decide (b<(l.length:Int))=true:=decide_eq_true b1
    have H:=hA k k0 ck
    have m:=b2 k k0 ck
    have wk_:IntKind.i64.wrap (k+1)=k+1:=wrap_in (by omega) (by omega)
    obtain ⟨o1,o2,o3⟩:=outc (fI (l.getD k.toNat .undef) 0) (fI (l.getD k.toNat .undef) 1) (fI (l.getD k.toNat .undef) 2) (fI (l.getD k.toNat .undef) 3) (fI (l.getD k.toNat .undef) 4) H.b H.c H.d H.e
    have c1:decide (fI (l.getD k.toNat .undef) 2 > fI (l.getD k.toNat .undef) 1)=false:=decide_eq_false (by have:=H.w;omega)
    have c2:decide (fI (l.getD k.toNat .undef) 4 > (V.length:Int))=false:=decide_eq_false (by have:=H.g;omega)
    have c3:decide (fI (l.getD k.toNat .undef) 2<fI (l.getD b.toNat .undef) 2)=false:=decide_eq_false (by omega)
    refine .inl ⟨k+1,?_,⟨by omega,by omega⟩,by omega⟩
    show F6_0 code b V l l k=_
    unfold F6_0 G6_0
    simp only [d1,d2,d3,d4,c1,c2,c3,o1,o2,o3,wk_,decide_true,beq_self_eq_true,Bool.and_self,Bool.not_true,cond_true,cond_false]
   ·have d1:decide (k<(l.length:Int))=false:=decide_eq_false ck
    refine .inr ⟨.inl (),?_,rfl⟩
    show F6_0 code b V l l k=_
    unfold F6_0 G6_0
    simp only [d1,cond_false]) (((l.length:Int) - 0).toNat+1) 0 ⟨Int.le_refl 0,by omega⟩ (by omega)
 rw [r1,r2]
theorem loopX (code:List AV) (w:Int) (l:List AV) (hl:l.length≤1048576) (hb:0<l.length→0≤w∧w<l.length∧∀ j:Int,0≤j→j<l.length→el l j≤el l w) :
  runW (R6_2 code w l) (((l.length:Int) - 0).toNat+1) 0=some (.inl ()):=by
 obtain ⟨r,r1,r2⟩:=runW_ends (f:=R6_2 code w l) (fun s:Int=>0≤s∧s≤l.length) (fun r=>r = .inl ()) (fun s=>((l.length:Int) - s).toNat) (fun k hI=>by
   obtain ⟨k0,k1⟩:=hI
   by_cases ck:k<l.length
   ·have d1:decide (k<(l.length:Int))=true:=decide_eq_true ck
    have d2:decide (0≤k)=true:=decide_eq_true k0
    obtain ⟨b0,b1,b2⟩:=hb (by omega)
    have d3:decide (0≤w)=true:=decide_eq_true b0
    have d4:decide (w<(l.length:Int))=true:=decide_eq_true b1
    have m:=b2 k k0 ck
    have wk_:IntKind.i64.wrap (k+1)=k+1:=wrap_in (by omega) (by omega)
    have c3:decide (fI (l.getD k.toNat .undef) 0 > fI (l.getD w.toNat .undef) 0)=false:=decide_eq_false (by have m':fI (l.getD k.toNat .undef) 0≤fI (l.getD w.toNat .undef) 0:=m;omega)
    refine .inl ⟨k+1,?_,⟨by omega,by omega⟩,by omega⟩
    show F6_2 code w l k=_
    unfold F6_2 G6_2
    simp only [d1,d2,d3,d4,c3,wk_,Bool.and_self,cond_true,cond_false]
   ·have d1:decide (k<(l.length:Int))=false:=decide_eq_false ck
    refine .inr ⟨.inl (),?_,rfl⟩
    show F6_2 code w l k=_
    unfold F6_2 G6_2
    simp only [d1,cond_false]) (((l.length:Int) - 0).toNat+1) 0 ⟨Int.le_refl 0,by omega⟩ (by omega)
 rw [r1,r2]
theorem raw6_true (code:List AV):raw6 code=some (.bool true):=by
 unfold raw6
 by_cases c:(code.length:Int) > 1048576
 ·unfold v7_0
  rw [decide_eq_true c]
  rfl
 have c6:v7_0 code=false:=decide_eq_false c
 obtain ⟨v,t,s,l,hW,lv,ll⟩:=drawC code (by omega)
 obtain ⟨d0,d1,d2,d3,d4⟩:=g48 hW
 obtain ⟨cs,hX,lc⟩:=drawQ code (by omega)
 obtain ⟨f0,f1⟩:=g55 hX
 obtain ⟨v',p',t',s',l',hW',lv',ll'⟩:=drawO code (by omega)
 obtain ⟨g0,g1,g2,g3,g4,g5⟩:=g58 hW'
 simp only [c6,d0,d1,d2,d3,d4,f0,f1,g0,g1,g2,g3,g4,g5,cond_true,cond_false]
 obtain ⟨o1,o2,o3,o4,o5,o6,o7,o8⟩:=outcome_both v' l' p' t' s' (by omega) (by omega)
 obtain ⟨w1,w2,w3,w4⟩:=worst_both cs (by omega)
 obtain ⟨a1,a2,a3,a4⟩:=cmp_both v l t s (by omega) (by omega)
 obtain ⟨b1,b2,b3⟩:=best_both v l t s (by omega) (by omega)
 have bm:(v50_0 v t s l).length≤1048576∧∀ k:Int,0≤k→k<(v50_0 v t s l).length→Oc ((v50_0 v t s l).getD k.toNat .undef) v.length:=by
  rcases a4 with a4|⟨h,a4⟩
  ·rw [a4]
   exact ⟨by decide,fun k h0 h1=>by simp at h1;omega⟩
  ·rw [a4]
   refine ⟨by show 3≤1048576;decide,fun k h0 h1=>?_⟩
   have h1':k<3:=h1
   obtain rfl|rfl|rfl:k=0∨k=1∨k=2:=by omega
   ·exact oc_in (by omega) (by omega) 0 h
   ·exact oc_in (by omega) (by omega) 1 h
   ·exact oc_in (by omega) (by omega) 2 h
 obtain ⟨r,e1,e2,e3⟩:=best_min (v50_0 v t s l) bm.1
 have er:v52_0 v t s l=r:=by
  unfold v52_0
  rw [e1]
  rfl
 have ed:(decide (r<0) == decide (((v50_0 v t s l).length:Int)=0))=true:=by
  by_cases z:(v50_0 v t s l).length=0
  ·rw [e2 z,decide_eq_true (by omega:((v50_0 v t s l).length:Int)=0)]
   rfl
  ·have:=(e3 (by omega)).1
   rw [decide_eq_false (by omega:¬ r<0),decide_eq_false (by omega:¬ ((v50_0 v t s l).length:Int)=0)]
   rfl
 rw [a1,a2,a3,b1,b2,b3,er]
 rw [loopO code r v _ bm.1 bm.2 e3]
 simp only [decide_true,ed,Bool.not_true,cond_true,cond_false,ro,sumE]
 rw [w1,w2,w3,loopX code _ cs (by omega) w4]
 simp only [decide_true,Bool.not_true,cond_true,cond_false,ro,sumE]
 rw [o1,o2,o3,o4,o5,o6,o7,o8]
 simp only [decide_true,beq_self_eq_true,cond_true]
theorem law6 {x0:AV} (t0:TA Tryz.prog 22 x0):m6 [x0]=some (true,.bool true):=by
 obtain ⟨code,rfl,a1,hb⟩:=tw_sl (ta_one (ct := .sl [.int .u8]) t0 (by kernel_rfl) (by kernel_rfl))
 show (raw6 code).map (fun r=>(true,r))=_
 rw [raw6_true code]
 rfl
end Go.Proofs.YtealoedecngaoaaGreatDoor
