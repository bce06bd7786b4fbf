import Derived.Test.YtmcnplggcedihaaGreatATj
namespace Go.Proofs.YtmcnplggcedihaaGreat
open Go Go.Proofs.VE
set_option linter.unusedVariables false
set_option linter.unusedSimpArgs false
theorem wadd (a b:Int):IntKind.i64.wrap (IntKind.i64.wrap a+b)=IntKind.i64.wrap (a+b):=by
 rw [IntKind.wrap_i64,IntKind.wrap_i64,IntKind.wrap_i64]
 omega
theorem tot_take (L:List AV) (k:Int) (h0:0≤k) (h1:k<L.length):tot (L.take (k+1).toNat)=tot (L.take k.toNat)+fI (L.getD k.toNat .undef) 4:=by
 rw [take_snoc h0 h1,tot_snoc]
theorem P73 (L:List AV) (h:L.length≤1048576):q73 L=true∧v73_0 L=IntKind.i64.wrap (tot L):=by
 obtain ⟨r,h1,h2⟩:=runW_ends (f:=R73_0 L) (fun s:Int × Int=>0≤s.2∧s.2≤L.length∧s.1=IntKind.i64.wrap (tot (L.take s.2.toNat))) (fun r=>r=IntKind.i64.wrap (tot L)) (fun s=>((L.length:Int) - s.2).toNat) (fun s hI=>by
  obtain ⟨t,k⟩:=s
  obtain ⟨k0,k1,e⟩:=hI
  simp only at k0 k1 e
  by_cases hk:k<L.length
  ·have d1:decide (k<(L.length:Int))=true:=decide_eq_true hk
   have d2:decide (0≤k)=true:=decide_eq_true k0
   have wk:IntKind.i64.wrap (k+1)=k+1:=wrap_in (by omega) (by omega)
   refine .inl ⟨(IntKind.i64.wrap (t+fI (L.getD k.toNat AV.undef) 4),k+1),by simp only [R73_0,F73_0,d1,d2,wk,Bool.and_self,cond_true],⟨by simp only;omega,by simp only;omega,?_⟩,by simp only;omega⟩
   simp only
   rw [e,wadd,tot_take L k k0 hk]
  ·have d1:decide (k<(L.length:Int))=false:=decide_eq_false hk
   have ek:k.toNat=L.length:=by omega
   exact .inr ⟨t,by simp only [R73_0,F73_0,d1,cond_false],by rw [e,ek,List.take_length]⟩) (((L.length:Int) - 0:Int).toNat+1) (0,0) ⟨Int.le_refl _,by simp,by rfl⟩ (by simp only;omega)
 unfold q73 v73_0
 rw [h1]
 exact ⟨rfl,h2⟩
theorem P30 (xs:List AV) (h:xs.length≤1048576):q30 xs=true:=by
 obtain ⟨r,h1,h2⟩:=runW_ends (f:=R30_0 xs) (fun s:Int × Int=>0≤s.2∧s.2≤xs.length) (fun r=>True) (fun s=>((xs.length:Int) - s.2).toNat) (fun s hI=>by
  obtain ⟨t,k⟩:=s
  obtain ⟨k0,k1⟩:=hI
  simp only at k0 k1
  by_cases hk:k<xs.length
  ·have d1:decide (k<(xs.length:Int))=true:=decide_eq_true hk
   have d2:decide (0≤k)=true:=decide_eq_true k0
   have wk:IntKind.i64.wrap (k+1)=k+1:=wrap_in (by omega) (by omega)
   exact .inl ⟨(IntKind.i64.wrap (t+fI (xs.getD k.toNat AV.undef) 0),k+1),by simp only [R30_0,F30_0,d1,d2,wk,Bool.and_self,cond_true],⟨by simp only;omega,by simp only;omega⟩,by simp only;omega⟩
  ·have d1:decide (k<(xs.length:Int))=false:=decide_eq_false hk
   exact .inr ⟨t,by simp only [R30_0,F30_0,d1,cond_false],trivial⟩) (((xs.length:Int) - 0:Int).toNat+1) (0,0) ⟨Int.le_refl _,by simp⟩ (by simp only;omega)
 unfold q30
 rw [h1]
 rfl
theorem P34 (xs:List AV) (h:xs.length≤1048576):q34 xs=true∧v34_0 xs=v30_0 xs:=⟨P30 xs h,rfl⟩
theorem el_app (xs:List AV) (y:AV) (k:Int) (h0:0≤k):el (xs++[y]) k=if k<xs.length then el xs k else if k=xs.length then fI y 0 else fI .undef 0:=by
 unfold el
 rw [List.getD_eq_getElem?_getD]
 by_cases h:k<xs.length
 ·rw [if_pos h,List.getElem?_append_left (by omega),List.getD_eq_getElem?_getD]
 ·rw [if_neg h,List.getElem?_append_right (by omega)]
  by_cases h':k=xs.length
  ·rw [if_pos h',show k.toNat - xs.length=0 by omega]
   rfl
  ·rw [if_neg h']
   obtain ⟨m,hm⟩:∃ m,k.toNat - xs.length=m+1:=⟨k.toNat - xs.length - 1,by omega⟩
   rw [hm]
   rfl
structure Top (xs:List AV) (n m:Int):Prop where
 m0:0≤m
 up:∀ k:Int,0≤k→k<n→el xs k≤m
 is:m=0∨∃ k:Int,0≤k∧k<n∧el xs k=m
theorem Top.eq {xs:List AV} {n m m':Int} (h:Top xs n m) (h':Top xs n m'):m=m':=by
 have a:m≤m':=by
  rcases h.is with h1|⟨k,k0,k1,e⟩
  ·have:=h'.m0;omega
  ·have:=h'.up k k0 k1;omega
 have b:m'≤m:=by
  rcases h'.is with h1|⟨k,k0,k1,e⟩
  ·have:=h.m0;omega
  ·have:=h.up k k0 k1;omega
 omega
theorem isR_eq (a b:Int):v63_0 a b=v51_0 a b:=by
 unfold v63_0 v51_0
 rw [v28,v28]
 by_cases h1 : -1000≤a <;> by_cases h2:a≤b <;> by_cases h3:b≤1000 <;> simp [h1,h2,h3] <;> omega
theorem run38 (xs:List AV) (h:xs.length≤1048576):runW (R38_0 xs) (((xs.length:Int) - 0).toNat+1) 0=some (ro (findF (fun i => !v51_0 (fI (xs.getD i.toNat .undef) 0) (fI (xs.getD i.toNat .undef) 1)) xs.length 0) (.inl ()) fun _ => .inr ()):=by
 refine runW_find (fun i=>i) xs.length _ _ _ (fun i h0 hn=>?_) ?_ xs.length _ 0 (Int.le_refl 0) (by omega) (by omega)
 ·simp only [R38_0,F38_0,h0,hn,decide_true,Bool.and_self,cond_true]
  rw [wrap_in (a:=i+1) (by omega) (by omega)]
 ·simp only [R38_0,F38_0,Int.lt_irrefl,decide_false,cond_false]
theorem run77 (xs:List AV) (h:xs.length≤1048576):runW (R77_0 xs xs.length) (((xs.length:Int) - 0).toNat+1) 0=some (ro (findF (fun i=>v62_0 (fI (xs.getD i.toNat .undef) 0) (fI (xs.getD i.toNat .undef) 1)) xs.length 0) (.inl ()) fun i => .inr i):=by
 refine runW_find (fun i=>i) xs.length _ _ _ (fun i h0 hn=>?_) ?_ xs.length _ 0 (Int.le_refl 0) (by omega) (by omega)
 ·simp only [R77_0,F77_0,h0,hn,decide_true,Bool.and_self,cond_true]
  rw [wrap_in (a:=i+1) (by omega) (by omega)]
 ·simp only [R77_0,F77_0,Int.lt_irrefl,decide_false,cond_false]
theorem P38 (xs:List AV) (h:xs.length≤1048576):q38 xs=true∧v38_0 xs=((findF (fun i => !v51_0 (fI (xs.getD i.toNat .undef) 0) (fI (xs.getD i.toNat .undef) 1)) xs.length 0).isNone && decide (xs.length≤30)):=by
 unfold q38 v38_0
 rw [run38 xs h]
 cases findF (fun i => !v51_0 (fI (xs.getD i.toNat .undef) 0) (fI (xs.getD i.toNat .undef) 1)) xs.length 0 with
 | none=>refine ⟨rfl,?_⟩;simp only [ro,sumE,Option.isNone_none,Bool.true_and];congr 1;simp only [eq_iff_iff];omega
 | some j=>exact ⟨rfl,rfl⟩
theorem P48 (xs:List AV) (h:xs.length≤1048576):q48 xs=true∧v48_0 xs=v38_0 xs:=by
 rw [(P38 xs h).2]
 unfold q48 v48_0 v61_0 q61 q77 v77_0
 rw [run77 xs h]
 have e:(fun i:Int=>v62_0 (fI (xs.getD i.toNat .undef) 0) (fI (xs.getD i.toNat .undef) 1))=fun i => !v51_0 (fI (xs.getD i.toNat .undef) 0) (fI (xs.getD i.toNat .undef) 1):=by
  funext i
  unfold v62_0
  rw [isR_eq]
 rw [e]
 have e30:decide ((xs.length:Int)≤30)=decide (xs.length≤30):=by congr 1;simp only [eq_iff_iff];omega
 rw [e30]
 cases hf:findF (fun i => !v51_0 (fI (xs.getD i.toNat .undef) 0) (fI (xs.getD i.toNat .undef) 1)) xs.length 0 with
 | none=>cases decide (xs.length≤30) <;> exact ⟨rfl,rfl⟩
 | some j =>
  have:=(findF_some _ _ hf).1
  cases decide (xs.length≤30)
  ·exact ⟨rfl,rfl⟩
  ·refine ⟨rfl,?_⟩
   simp [ro,sumE]
   omega
theorem rng_ok {xs:List AV} (h:xs.length≤1048576) (hv:v38_0 xs=true):xs.length≤30∧∀ k:Int,0≤k→k<xs.length→(-1000≤fI (xs.getD k.toNat .undef) 0∧fI (xs.getD k.toNat .undef) 0≤1000)∧(-1000≤fI (xs.getD k.toNat .undef) 1∧fI (xs.getD k.toNat .undef) 1≤1000)∧v51_0 (fI (xs.getD k.toNat .undef) 0) (fI (xs.getD k.toNat .undef) 1)=true:=by
 rw [(P38 xs h).2,Bool.and_eq_true,decide_eq_true_eq] at hv
 obtain ⟨h1,h2⟩:=hv
 refine ⟨h2,fun k k0 k1=>?_⟩
 have:=findF_isNone _ _ |>.1 h1 k k0 (by omega)
 simp only [Bool.not_eq_false'] at this
 have t:=this
 unfold v51_0 at this
 rw [v28,v28] at this
 simp only [Bool.cond_eq_ite,Bool.and_eq_true,decide_eq_true_eq] at this
 split at this
 ·simp only [Bool.and_eq_true,decide_eq_true_eq] at this
  exact ⟨by omega,by omega,t⟩
 ·cases this
theorem P32 (vs:List AV) (p t s:Int) (qs:List AV) (h:vs.length≤1048576) (h':qs.length≤1048576):q32 vs p t s qs=true∧v32_0 vs p t s qs=(v36_0 vs && (v37_0 p t s && v38_0 qs)):=by
 obtain ⟨a1,a2⟩:=P46 vs h
 obtain ⟨b1,b2⟩:=P48 qs h'
 obtain ⟨c1,c2⟩:=sett_both p t s
 unfold q32 v32_0
 rw [a1,a2,b1,b2,← c1]
 cases v36_0 vs <;> cases v37_0 p t s <;> exact ⟨rfl,rfl⟩
theorem P57 {vs rs ps:List AV} {pol thr seed v x:Int} {vs' rs' ps':List AV} {seed' tl:Int} (W:Wit vs rs ps pol thr seed v 0 [] x vs' rs' ps' seed' tl) (h:Col vs rs ps) (hS:Sett pol thr seed) (hv : -1000≤v∧v≤1000) :
  q57 vs rs ps pol thr seed v=true∧v57_0 vs rs ps pol thr seed v=vs'∧v57_1 vs rs ps pol thr seed v=rs'∧v57_2 vs rs ps pol thr seed v=ps'∧v57_3 vs rs ps pol thr seed v=pol∧v57_4 vs rs ps pol thr seed v=thr∧v57_5 vs rs ps pol thr seed v=seed'∧v57_6 vs rs ps pol thr seed v=tl:=by
 have h64:=h.n64
 have hlen:=h.len
 have hf:=col_few h
 obtain ⟨a1,a2⟩:=P53 vs rs ps (by omega) (by omega) (by omega)
 rw [(isC_iff vs rs ps (by omega)).2 h] at a2
 have b:=(sett_both pol thr seed).2.2 hS
 have c:=bound_of hv
 obtain ⟨d1,d2,d3,d4⟩:=P56 vs rs ps (by omega) (by omega) (by omega)
 obtain ⟨s0,s1,s2,s3,s4,s5,s6,s7,s8⟩:=W.spec
 have t0:=W.t0
 have t1:=W.t1
 unfold q57 v57_0 v57_1 v57_2 v57_3 v57_4 v57_5 v57_6
 rw [a1,a2,b,c,d1,d2,d3,d4,s0,s1,s2,s3,s4,s5,s6]
 generalize v72_9 pol thr seed v 0 vs rs ps []=L at s7 s8
 obtain ⟨e1,e2⟩:=P73 L (by simp at s8;omega)
 rw [e1,e2,s7,show tot []+tl=tl by show (0:Int)+tl=tl;omega,wrap_in (a:=tl) (by omega) (by omega)]
 exact ⟨rfl,rfl,rfl,rfl,rfl,rfl,rfl,rfl⟩
theorem q59_ok {vs rs ps:List AV} (h:Col vs rs ps) (a b:Int):q59 vs rs ps a b=true:=by
 have h64:=h.n64
 have hlen:=h.len
 have hf:=col_few h
 obtain ⟨a1,a2⟩:=P53 vs rs ps (by omega) (by omega) (by omega)
 rw [(isC_iff vs rs ps (by omega)).2 h] at a2
 unfold q59
 rw [a1,a2,v28]
 cases c1:decide (0≤a) with
 | false=>rfl
 | true =>
  cases c2:decide (a≤b) with
  | false=>rfl
  | true =>
   by_cases c3:b > (rs.length:Int)
   ·rw [decide_eq_true c3]
    rfl
   ·rw [decide_eq_false c3,decide_eq_true (by omega:b≤(rs.length:Int)),(P74 _ (by simp only [List.length_drop,List.length_take];omega)).1]
    rfl
theorem q81_ok {vs rs ps:List AV} (h:Col vs rs ps) (a b:Int):q81 vs rs ps a b=true:=by
 have h64:=h.n64
 have hlen:=h.len
 have hf:=col_few h
 obtain ⟨a1,a2⟩:=P54 vs rs ps (by omega) (by omega) (by omega)
 rw [(isC_iff vs rs ps (by omega)).2 h] at a2
 unfold q81
 rw [a1,a2]
 by_cases c1:a<0
 ·rw [decide_eq_true c1]
  rfl
 by_cases c2:a > b
 ·rw [decide_eq_false c1,decide_eq_true c2]
  rfl
 by_cases c3:b > (rs.length:Int)
 ·rw [decide_eq_false c1,decide_eq_false c2,decide_eq_true c3]
  rfl
 rw [decide_eq_false c1,decide_eq_false c2,decide_eq_false c3,decide_eq_true (by omega:0≤a),decide_eq_true (by omega:a≤b),decide_eq_true (by omega:b≤(rs.length:Int)),(P93 _ (by simp only [List.length_drop,List.length_take];omega)).1]
 rfl
structure Sel (vs rs ps:List AV) (pol thr seed lo hi x:Int) (vs' rs' ps':List AV) (seed' c:Int):Prop where
 ok:Col vs' rs' ps'
 n2:N2 ps'
 st:Sett pol thr seed'
 c0:0≤c
 c1:c≤400000
 spec:q45 vs rs ps pol thr seed lo hi=true∧v45_0 vs rs ps pol thr seed lo hi=vs'∧v45_1 vs rs ps pol thr seed lo hi=rs'∧v45_2 vs rs ps pol thr seed lo hi=ps' ∧
  v45_3 vs rs ps pol thr seed lo hi=pol∧v45_4 vs rs ps pol thr seed lo hi=thr∧v45_5 vs rs ps pol thr seed lo hi=seed'∧v45_7 vs rs ps pol thr seed lo hi=c
 imp:q65 pol thr seed lo hi vs rs ps x=true∧v65_0 pol thr seed lo hi vs rs ps x=vs'∧v65_1 pol thr seed lo hi vs rs ps x=rs'∧v65_2 pol thr seed lo hi vs rs ps x=ps' ∧
  v65_3 pol thr seed lo hi vs rs ps x=pol∧v65_4 pol thr seed lo hi vs rs ps x=thr∧v65_5 pol thr seed lo hi vs rs ps x=seed'∧v65_7 pol thr seed lo hi vs rs ps x=c
theorem sel_both {vs rs ps:List AV} (h:Col vs rs ps) (hN:N2 ps) {pol thr seed lo hi:Int} (hS:Sett pol thr seed) (hlo : -1000≤lo∧lo≤1000) (hhi : -1000≤hi∧hi≤1000) (hr:v51_0 lo hi=true) (x:Int) :
  ∃ (vs' rs' ps':List AV) (seed' c:Int),Sel vs rs ps pol thr seed lo hi x vs' rs' ps' seed' c:=by
 obtain ⟨vs1,rs1,ps1,sd1,t1,W1⟩:=with_both h hN hS hlo 0 [] (by simp) x
 obtain ⟨vs2,rs2,ps2,sd2,t2,W2⟩:=with_both W1.ok W1.n2 W1.st hhi 0 [] (by simp) (v79_7 pol thr seed lo vs rs ps x)
 have h64:=h.n64
 have hlen:=h.len
 have hf:=col_few h
 have hf2:=col_few W2.ok
 obtain ⟨a1,a2⟩:=P53 vs rs ps (by omega) (by omega) (by omega)
 rw [(isC_iff vs rs ps (by omega)).2 h] at a2
 have b:=(sett_both pol thr seed).2.2 hS
 obtain ⟨s0,s1,s2,s3,s4,s5,s6,s7⟩:=P57 W1 h hS hlo
 obtain ⟨u0,u1,u2,u3,u4,u5,u6,u7⟩:=P57 W2 W1.ok W1.st hhi
 obtain ⟨i0,i1,i2,i3,i4,i5,i6,i7⟩:=W1.imp
 obtain ⟨j0,j1,j2,j3,j4,j5,j6,j7⟩:=W2.imp
 have f1:=(P58 vs2 rs2 ps2 lo (by omega)).1
 have f2:=(P58 vs2 rs2 ps2 hi (by omega)).1
 have g1:=(P80 vs2 rs2 ps2 lo (by omega)).1
 have g2:=(P80 vs2 rs2 ps2 hi (by omega)).1
 have c10:=W1.t0
 have c11:=W1.t1
 have c20:=W2.t0
 have c21:=W2.t1
 have wc:IntKind.i64.wrap (t1+t2)=t1+t2:=wrap_in (by omega) (by omega)
 refine ⟨vs2,rs2,ps2,sd2,t1+t2,W2.ok,W2.n2,W2.st,by omega,by omega,?_,?_⟩
 ·unfold q45 v45_0 v45_1 v45_2 v45_3 v45_4 v45_5 v45_7
  rw [a1,a2,b,hr,s0,s1,s2,s3,s4,s5,s6,s7,u0,u1,u2,u3,u4,u5,u6,u7,f1,f2,q59_ok W2.ok,wc]
  exact ⟨rfl,rfl,rfl,rfl,rfl,rfl,rfl,rfl⟩
 ·unfold q65 v65_0 v65_1 v65_2 v65_3 v65_4 v65_5 v65_7
  rw [i0,i1,i2,i3,i4,i5,i6,i7,j0,j1,j2,j3,j4,j5,j6,j7,g1,g2,q81_ok W2.ok,wc]
  exact ⟨rfl,rfl,rfl,rfl,rfl,rfl,rfl,rfl⟩
abbrev QS:=Int × List AV × List AV × List AV × List AV × List AV × Int × Int × Int
abbrev QI:=Int × List AV × List AV × List AV × Int × Int × Int × List AV × List AV
structure QInv (qs:List AV) (pol thr:Int) (s:QS) (s':QI):Prop where
 k0:0≤s.1
 k1:s.1≤qs.length
 ek:s'.1=s.1
 e0:s'.2.1=s.2.1
 e1:s'.2.2.1=s.2.2.1
 e2:s'.2.2.2.1=s.2.2.2.1
 e3:s'.2.2.2.2.1=pol∧s.2.2.2.2.2.2.1=pol
 e4:s'.2.2.2.2.2.1=thr∧s.2.2.2.2.2.2.2.1=thr
 e5:s'.2.2.2.2.2.2.1=s.2.2.2.2.2.2.2.2
 e6:s'.2.2.2.2.2.2.2.2=s.2.2.2.2.2.1
 l5:(s.2.2.2.2.1.length:Int)=s.1
 l6:(s.2.2.2.2.2.1.length:Int)=s.1
 l7:(s'.2.2.2.2.2.2.2.1.length:Int)=s.1
 c:Col s.2.1 s.2.2.1 s.2.2.2.1
 n:N2 s.2.2.2.1
 st:Sett pol thr s.2.2.2.2.2.2.2.2
structure QEnd (r:List AV × List AV × List AV × List AV × List AV × Int × Int × Int) (r':List AV × List AV × List AV × Int × Int × Int × List AV × List AV):Prop where
 e0:r'.1=r.1
 e1:r'.2.1=r.2.1
 e2:r'.2.2.1=r.2.2.1
 e4:r'.2.2.2.2.2.2.2=r.2.2.2.2.1
 l:r.2.2.2.2.1.length≤30
 c:Col r.1 r.2.1 r.2.2.1
theorem room24 (n:Nat) (y:AV) (h:n≤1048576):(decide ((n+[y].length)*24≤140737488355328) && decide (n+[y].length≤140737488355328))=true:=by
 simp only [List.length_singleton,Bool.and_eq_true,decide_eq_true_eq];omega
theorem room8 (n:Nat) (y:AV) (h:n≤1048576):(decide ((n+[y].length)*8≤140737488355328) && decide (n+[y].length≤140737488355328))=true:=by
 simp only [List.length_singleton,Bool.and_eq_true,decide_eq_true_eq];omega
theorem room16 (n:Nat) (y:AV) (h:n≤1048576):(decide ((n+[y].length)*16≤140737488355328) && decide (n+[y].length≤140737488355328))=true:=by
 simp only [List.length_singleton,Bool.and_eq_true,decide_eq_true_eq];omega
theorem run_both {qs:List AV} (h30:qs.length≤30) (hq:∀ k:Int,0≤k→k<qs.length→(-1000≤fI (qs.getD k.toNat .undef) 0∧fI (qs.getD k.toNat .undef) 0≤1000)∧(-1000≤fI (qs.getD k.toNat .undef) 1∧fI (qs.getD k.toNat .undef) 1≤1000)∧v51_0 (fI (qs.getD k.toNat .undef) 0) (fI (qs.getD k.toNat .undef) 1)=true)
  {vs rs ps:List AV} (h:Col vs rs ps) (hN:N2 ps) {pol thr seed:Int} (hS:Sett pol thr seed) :
  ∃ r r',runW (R29_0 qs) (((qs.length:Int) - 0).toNat+1) (0,vs,rs,ps,[],[],pol,thr,seed)=some r∧runW (R49_0 qs qs.length) (((qs.length:Int) - 0).toNat+1) (0,vs,rs,ps,pol,thr,seed,[],[])=some r'∧QEnd r r':=by
 refine runW_pair (f:=R29_0 qs) (g:=R49_0 qs qs.length) (QInv qs pol thr) QEnd (fun s=>((qs.length:Int) - s.1).toNat) (fun s s' hI=>?_) _ _ _ _ ⟨Int.le_refl _,by simp,rfl,rfl,rfl,rfl,⟨rfl,rfl⟩,⟨rfl,rfl⟩,rfl,rfl,rfl,rfl,rfl,h,hN,hS⟩ (by simp only;omega) (by simp only;omega)
 obtain ⟨k,a0,a1,a2,h5,h6,p,t,sd⟩:=s
 obtain ⟨k',b0,b1,b2,p',t',sd',h7,h8⟩:=s'
 obtain ⟨k0,k1,ek,e0,e1,e2,⟨e3,e3'⟩,⟨e4,e4'⟩,e5,e6,l5,l6,l7,c,n,st⟩:=hI
 simp only at k0 k1 ek e0 e1 e2 e3 e3' e4 e4' e5 e6 l5 l6 l7 c n st
 subst ek e0 e1 e2 e3 e4 e5 e6 e3' e4'
 by_cases hk:k'<qs.length
 ·have d1:decide (k'<(qs.length:Int))=true:=decide_eq_true hk
  have d2:decide (0≤k')=true:=decide_eq_true k0
  have wk:IntKind.i64.wrap (k'+1)=k'+1:=wrap_in (by omega) (by omega)
  obtain ⟨r0,r1,r2⟩:=hq k' k0 hk
  obtain ⟨vs1,rs1,ps1,sd1,cst,S⟩:=sel_both c n st r0 r1 r2 k'
  obtain ⟨u0,u1,u2,u3,u4,u5,u6,u7⟩:=S.spec
  obtain ⟨w0,w1,w2,w3,w4,w5,w6,w7⟩:=S.imp
  refine .inl ⟨(k'+1,vs1,rs1,ps1,h5++[AV.sl [.int .i64] (v45_6 b0 b1 b2 p t sd' (fI (qs.getD k'.toNat AV.undef) 0) (fI (qs.getD k'.toNat AV.undef) 1))],h8++[AV.int .i64 cst],p,t,sd1),
   (k'+1,vs1,rs1,ps1,p,t,sd1,h7++[AV.sl [.int .i64] (v65_6 p t sd' (fI (qs.getD k'.toNat AV.undef) 0) (fI (qs.getD k'.toNat AV.undef) 1) b0 b1 b2 k')],h8++[AV.int .i64 cst]),?_,?_,?_,?_⟩
  ·simp only [R29_0,F29_0,d1,d2,u0,u1,u2,u3,u4,u5,u6,u7,wk,Bool.and_self,cond_true,room24 h5.length _ (by omega),room8 h8.length _ (by omega)]
  ·simp only [R49_0,F49_0,d1,d2,w0,w1,w2,w3,w4,w5,w6,w7,wk,Bool.and_self,cond_true,room24 h7.length _ (by omega),room8 h8.length _ (by omega)]
  ·exact ⟨by simp only;omega,by simp only;omega,rfl,rfl,rfl,rfl,⟨rfl,rfl⟩,⟨rfl,rfl⟩,rfl,rfl,by simp only [List.length_append,List.length_singleton];omega,by simp only [List.length_append,List.length_singleton];omega,by simp only [List.length_append,List.length_singleton];omega,S.ok,S.n2,S.st⟩
  ·simp only;omega
 ·have d1:decide (k'<(qs.length:Int))=false:=decide_eq_false hk
  refine .inr ⟨(b0,b1,b2,h5,h8,p,t,sd'),(b0,b1,b2,p,t,sd',h7,h8),?_,?_,rfl,rfl,rfl,rfl,by simp only;omega,c⟩
  ·simp only [R29_0,F29_0,d1,cond_false]
  ·simp only [R49_0,F49_0,d1,cond_false]
structure Rq (vs:List AV) (pol thr seed:Int) (qs vs' rs' ps' cs:List AV):Prop where
 ok:Col vs' rs' ps'
 l:cs.length≤30
 spec:q29 vs pol thr seed qs=true∧v29_0 vs pol thr seed qs=vs'∧v29_1 vs pol thr seed qs=rs'∧v29_2 vs pol thr seed qs=ps'∧v29_4 vs pol thr seed qs=cs
 imp:q33 vs pol thr seed qs=true∧v33_0 vs pol thr seed qs=vs'∧v33_1 vs pol thr seed qs=rs'∧v33_2 vs pol thr seed qs=ps'∧v33_4 vs pol thr seed qs=cs
theorem rq_both {vs qs:List AV} {pol thr seed:Int} (hl:vs.length≤1048576) (hq:qs.length≤1048576) (h1:v36_0 vs=true) (h2:v37_0 pol thr seed=true) (h3:v38_0 qs=true) :
  ∃ vs' rs' ps' cs,Rq vs pol thr seed qs vs' rs' ps' cs:=by
 obtain ⟨m0,m1⟩:=rng_ok hq h3
 obtain ⟨r,r',k1,k2,k3⟩:=run_both m0 m1 (Col_new vs hl h1) N2_nil ((sett_both pol thr seed).2.1 h2)
 obtain ⟨a0,a1,a2,a3⟩:=P44 vs hl
 obtain ⟨b0,b1,b2,b3⟩:=P64 vs hl
 obtain ⟨c0,c1⟩:=P32 vs pol thr seed qs hl hq
 obtain ⟨d0,d1⟩:=P36 vs hl
 obtain ⟨f0,f1⟩:=P38 qs hq
 rw [h1] at a1 a2 b1 b2
 simp only [cond_true] at a1 a2 b1 b2
 refine ⟨r.1,r.2.1,r.2.2.1,r.2.2.2.2.1,k3.c,k3.l,?_,?_⟩
 ·unfold q29 v29_0 v29_1 v29_2 v29_4
  rw [a0,a1,a2,a3,d0,f0,h1,h2,h3,k1]
  exact ⟨rfl,rfl,rfl,rfl,rfl⟩
 ·unfold q33 v33_0 v33_1 v33_2 v33_4 q49 v49_0 v49_1 v49_2 v49_4
  rw [b0,b1,b2,b3,c0,c1,h1,h2,h3,k2]
  exact ⟨rfl,k3.e0,k3.e1,k3.e2,k3.e4⟩
theorem getD_mapA (f:AV→AV) (xs:List AV) (k:Int) (h0:0≤k) (h1:k<xs.length):(xs.map f).getD k.toNat .undef=f (xs.getD k.toNat .undef):=by
 rw [List.getD_eq_getElem?_getD,List.getD_eq_getElem?_getD,List.getElem?_map,List.getElem?_eq_getElem (by omega)]
 rfl
def cE (x:AV):AV := .int .i64 (fI x 1)
def maxW (l:List AV):Int:=l.foldl (fun m x=>if IntKind.i64.wrap (fI x 1 - fI x 0) > m then IntKind.i64.wrap (fI x 1 - fI x 0) else m) 0
theorem maxW_snoc (l:List AV) (x:AV):maxW (l++[x])=if IntKind.i64.wrap (fI x 1 - fI x 0) > maxW l then IntKind.i64.wrap (fI x 1 - fI x 0) else maxW l:=by
 unfold maxW
 rw [List.foldl_append]
 rfl
theorem pat_app (ps:List AV) (y:AV) (k:Int) (h0:0≤k) (h1:k<ps.length+1):pat (ps++[y]) k=if k<ps.length then pat ps k else fI y 1:=by
 unfold pat
 rw [List.getD_eq_getElem?_getD]
 by_cases h:k<ps.length
 ·rw [if_pos h,List.getElem?_append_left (by omega),List.getD_eq_getElem?_getD]
 ·rw [if_neg h,List.getElem?_append_right (by omega),show k.toNat - ps.length=0 by omega]
  rfl
theorem room40 (n:Nat) (y:AV) (h:n≤1048576):(decide ((n+[y].length)*40≤140737488355328) && decide (n+[y].length≤140737488355328))=true:=by
 rw [decide_eq_true (by show (n+1)*40≤_;omega),decide_eq_true (by show n+1≤_;omega)];rfl
end Go.Proofs.YtmcnplggcedihaaGreat
