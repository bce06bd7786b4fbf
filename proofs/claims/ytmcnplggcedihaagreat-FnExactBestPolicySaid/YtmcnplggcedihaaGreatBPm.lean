import Derived.Test.YtmcnplggcedihaaGreatBPj
namespace Go.Proofs.YtmcnplggcedihaaGreat
open Go Go.Proofs.VE
set_option linter.unusedVariables false
set_option linter.unusedSimpArgs false
theorem wadd (a b:Int):IntKind.i64.wrap (IntKind.i64.wrap a+b)=IntKind.i64.wrap (a+b):=by
 rw [IntKind.wrap_i64,IntKind.wrap_i64,IntKind.wrap_i64]
 omega
theorem tot_take (L:List AV) (k:Int) (h0:0≤k) (h1:k<L.length):tot (L.take (k+1).toNat)=tot (L.take k.toNat)+fI (L.getD k.toNat .undef) 4:=by
 rw [take_snoc h0 h1,tot_snoc]
theorem P73 (L:List AV) (h:L.length≤1048576):q73 L=true∧v73_0 L=IntKind.i64.wrap (tot L):=by
 obtain ⟨r,h1,h2⟩:=runW_ends (f:=R73_0 L) (fun s:Int × Int=>0≤s.2∧s.2≤L.length∧s.1=IntKind.i64.wrap (tot (L.take s.2.toNat))) (fun r=>r=IntKind.i64.wrap (tot L)) (fun s=>((L.length:Int) - s.2).toNat) (fun s hI=>by
  obtain ⟨t,k⟩:=s
  obtain ⟨k0,k1,e⟩:=hI
  simp only at k0 k1 e
  by_cases hk:k<L.length
  ·have d1:decide (k<(L.length:Int))=true:=decide_eq_true hk
   have d2:decide (0≤k)=true:=decide_eq_true k0
   have wk:IntKind.i64.wrap (k+1)=k+1:=wrap_in (by omega) (by omega)
   refine .inl ⟨(IntKind.i64.wrap (t+fI (L.getD k.toNat AV.undef) 4),k+1),by simp only [R73_0,F73_0,d1,d2,wk,Bool.and_self,cond_true],⟨by simp only;omega,by simp only;omega,?_⟩,by simp only;omega⟩
   simp only
   rw [e,wadd,tot_take L k k0 hk]
  ·have d1:decide (k<(L.length:Int))=false:=decide_eq_false hk
   have ek:k.toNat=L.length:=by omega
   exact .inr ⟨t,by simp only [R73_0,F73_0,d1,cond_false],by rw [e,ek,List.take_length]⟩) (((L.length:Int) - 0:Int).toNat+1) (0,0) ⟨Int.le_refl _,by simp,by rfl⟩ (by simp only;omega)
 unfold q73 v73_0
 rw [h1]
 exact ⟨rfl,h2⟩
theorem P30 (xs:List AV) (h:xs.length≤1048576):q30 xs=true:=by
 obtain ⟨r,h1,h2⟩:=runW_ends (f:=R30_0 xs) (fun s:Int × Int=>0≤s.2∧s.2≤xs.length) (fun r=>True) (fun s=>((xs.length:Int) - s.2).toNat) (fun s hI=>by
  obtain ⟨t,k⟩:=s
  obtain ⟨k0,k1⟩:=hI
  simp only at k0 k1
  by_cases hk:k<xs.length
  ·have d1:decide (k<(xs.length:Int))=true:=decide_eq_true hk
   have d2:decide (0≤k)=true:=decide_eq_true k0
   have wk:IntKind.i64.wrap (k+1)=k+1:=wrap_in (by omega) (by omega)
   exact .inl ⟨(IntKind.i64.wrap (t+fI (xs.getD k.toNat AV.undef) 0),k+1),by simp only [R30_0,F30_0,d1,d2,wk,Bool.and_self,cond_true],⟨by simp only;omega,by simp only;omega⟩,by simp only;omega⟩
  ·have d1:decide (k<(xs.length:Int))=false:=decide_eq_false hk
   exact .inr ⟨t,by simp only [R30_0,F30_0,d1,cond_false],trivial⟩) (((xs.length:Int) - 0:Int).toNat+1) (0,0) ⟨Int.le_refl _,by simp⟩ (by simp only;omega)
 unfold q30
 rw [h1]
 rfl
theorem P34 (xs:List AV) (h:xs.length≤1048576):q34 xs=true∧v34_0 xs=v30_0 xs:=⟨P30 xs h,rfl⟩
theorem el_app (xs:List AV) (y:AV) (k:Int) (h0:0≤k):el (xs++[y]) k=if k<xs.length then el xs k else if k=xs.length then fI y 0 else fI .undef 0:=by
 unfold el
 rw [List.getD_eq_getElem?_getD]
 by_cases h:k<xs.length
 ·rw [if_pos h,List.getElem?_append_left (by omega),List.getD_eq_getElem?_getD]
 ·rw [if_neg h,List.getElem?_append_right (by omega)]
  by_cases h':k=xs.length
  ·rw [if_pos h',show k.toNat - xs.length=0 by omega]
   rfl
  ·rw [if_neg h']
   obtain ⟨m,hm⟩:∃ m,k.toNat - xs.length=m+1:=⟨k.toNat - xs.length - 1,by omega⟩
   rw [hm]
   rfl
structure Top (xs:List AV) (n m:Int):Prop where
 m0:0≤m
 up:∀ k:Int,0≤k→k<n→el xs k≤m
 is:m=0∨∃ k:Int,0≤k∧k<n∧el xs k=m
theorem Top.eq {xs:List AV} {n m m':Int} (h:Top xs n m) (h':Top xs n m'):m=m':=by
 have a:m≤m':=by
  rcases h.is with h1|⟨k,k0,k1,e⟩
  ·have:=h'.m0;omega
  ·have:=h'.up k k0 k1;omega
 have b:m'≤m:=by
  rcases h'.is with h1|⟨k,k0,k1,e⟩
  ·have:=h.m0;omega
  ·have:=h.up k k0 k1;omega
 omega
theorem run14 (h1_:List AV) (a b c d e f g i j:Int) (h:h1_.length≤1048576):∃ m,runW (R14_0 a b c d e h1_ f g i j) (((h1_.length:Int) - 0:Int).toNat+1) (0,0)=some m∧Top h1_ h1_.length m:=by
 refine runW_ends (f:=R14_0 a b c d e h1_ f g i j) (fun s:Int × Int=>0≤s.1∧s.1≤h1_.length∧Top h1_ s.1 s.2) (fun m=>Top h1_ h1_.length m) (fun s=>((h1_.length:Int) - s.1).toNat) (fun s hI=>?_) (((h1_.length:Int) - 0:Int).toNat+1) (0,0) ⟨Int.le_refl _,by simp,Int.le_refl _,fun k h0 h1=>by simp only at h1;omega,.inl rfl⟩ (by simp only;omega)
 obtain ⟨k,m⟩:=s
 obtain ⟨k0,k1,t⟩:=hI
 simp only at k0 k1 t
 by_cases hk:k<h1_.length
 ·have d1:decide (k<(h1_.length:Int))=true:=decide_eq_true hk
  have d2:decide (0≤k)=true:=decide_eq_true k0
  have wk:IntKind.i64.wrap (k+1)=k+1:=wrap_in (by omega) (by omega)
  refine .inl ⟨(k+1,if fI (h1_.getD k.toNat AV.undef) 0 > m then fI (h1_.getD k.toNat AV.undef) 0 else m),by simp only [R14_0,F14_0,d1,d2,wk,Bool.and_self,cond_true],⟨by simp only;omega,by simp only;omega,?_⟩,by simp only;omega⟩
  simp only
  show Top h1_ (k+1) (if el h1_ k > m then el h1_ k else m)
  have t0:=t.m0
  split
  ·refine ⟨by omega,fun j j0 j1=>?_,.inr ⟨k,k0,by omega,rfl⟩⟩
   by_cases ej:j=k
   ·subst ej;exact Int.le_refl _
   ·have:=t.up j j0 (by omega);omega
  ·refine ⟨t0,fun j j0 j1=>?_,?_⟩
   ·by_cases ej:j=k
    ·subst ej;omega
    ·exact t.up j j0 (by omega)
   ·rcases t.is with h1|⟨j,j0,j1,e⟩
    ·exact .inl h1
    ·exact .inr ⟨j,j0,by omega,e⟩
 ·have d1:decide (k<(h1_.length:Int))=false:=decide_eq_false hk
  have ek:k=h1_.length:=by omega
  exact .inr ⟨m,by simp only [R14_0,F14_0,d1,cond_false],ek ▸ t⟩
theorem P41 (xs:List AV) (h:xs.length≤1048576):q41 (xs++[AV.int .i64 0])=true∧Top xs xs.length (v41_0 (xs++[AV.int .i64 0])):=by
 have len:(xs++[AV.int .i64 0]).length=xs.length+1:=by simp
 have eu:∀ k:Int,0≤k→k<xs.length+1→el (xs++[AV.int .i64 0]) k=if k<xs.length then el xs k else 0:=fun k k0 k1=>by
  rw [el_app _ _ _ k0]
  split
  ·rfl
  ·rw [if_pos (by omega)]
   rfl
 generalize xs++[AV.int .i64 0]=ys at len eu ⊢
 have hz:∀ k:Int,0≤k→k<1→el ys k≤fI (ys.getD (0:Int).toNat AV.undef) 0:=fun k k0 k1=>by
  obtain rfl:k=0:=by omega
  exact Int.le_refl _
 obtain ⟨m,h1,h2,i,i0,i1,h3⟩:=runW_ends (f:=R41_0 ys) (fun s:Int × Int=>1≤s.2∧s.2≤ys.length∧(∀ k:Int,0≤k→k<s.2→el ys k≤s.1)∧∃ k:Int,0≤k∧k<s.2∧el ys k=s.1) (fun m=>(∀ k:Int,0≤k→k<ys.length→el ys k≤m)∧∃ k:Int,0≤k∧k<ys.length∧el ys k=m) (fun s=>((ys.length:Int) - s.2).toNat) (fun s hI=>by
  obtain ⟨m,k⟩:=s
  obtain ⟨k0,k1,t1,i,i0,i1,t2⟩:=hI
  simp only at k0 k1 t1 i1 t2
  by_cases hk:k<ys.length
  ·have d1:decide (k<(ys.length:Int))=true:=decide_eq_true hk
   have d2:decide (0≤k)=true:=decide_eq_true (by omega)
   have wk:IntKind.i64.wrap (k+1)=k+1:=wrap_in (by omega) (by omega)
   refine .inl ⟨(if fI (ys.getD k.toNat AV.undef) 0 > m then fI (ys.getD k.toNat AV.undef) 0 else m,k+1),by simp only [R41_0,F41_0,d1,d2,wk,Bool.and_self,cond_true],⟨by simp only;omega,by simp only;omega,?_⟩,by simp only;omega⟩
   simp only
   show (∀ j:Int,0≤j→j<k+1→el ys j≤(if el ys k > m then el ys k else m))∧∃ j:Int,0≤j∧j<k+1∧el ys j=(if el ys k > m then el ys k else m)
   split
   ·refine ⟨fun j j0 j1=>?_,k,by omega,by omega,rfl⟩
    by_cases ej:j=k
    ·subst ej;exact Int.le_refl _
    ·have:=t1 j j0 (by omega);omega
   ·refine ⟨fun j j0 j1=>?_,i,i0,by omega,t2⟩
    by_cases ej:j=k
    ·subst ej;omega
    ·exact t1 j j0 (by omega)
  ·have d1:decide (k<(ys.length:Int))=false:=decide_eq_false hk
   exact .inr ⟨m,by simp only [R41_0,F41_0,d1,cond_false],fun j j0 j1=>t1 j j0 (by omega),i,i0,by omega,t2⟩) (((ys.length:Int) - 1:Int).toNat+1) (fI (ys.getD (0:Int).toNat AV.undef) 0,1) ⟨Int.le_refl _,by simp only;omega,hz,0,Int.le_refl _,by simp only;omega,rfl⟩ (by simp only;omega)
 have c1:decide ((ys.length:Int)<1)=false:=decide_eq_false (by omega)
 have c2:decide (0<(ys.length:Int))=true:=decide_eq_true (by omega)
 unfold q41 v41_0
 rw [h1,c1,c2]
 refine ⟨rfl,?_,?_,?_⟩
 ·have:=h2 xs.length (by omega) (by omega)
  rw [eu _ (by omega) (by omega),if_neg (by omega)] at this
  exact this
 ·intro k k0 k1
  have:=h2 k k0 (by omega)
  rw [eu _ k0 (by omega),if_pos k1] at this
  exact this
 ·rw [eu i i0 (by omega)] at h3
  by_cases hi:i<xs.length
  ·rw [if_pos hi] at h3
   exact .inr ⟨i,i0,hi,h3⟩
  ·rw [if_neg hi] at h3
   exact .inl h3.symm
theorem isR_eq (a b:Int):v63_0 a b=v51_0 a b:=by
 unfold v63_0 v51_0
 rw [v28,v28]
 by_cases h1 : -1000≤a <;> by_cases h2:a≤b <;> by_cases h3:b≤1000 <;> simp [h1,h2,h3] <;> omega
theorem run38 (xs:List AV) (h:xs.length≤1048576):runW (R38_0 xs) (((xs.length:Int) - 0).toNat+1) 0=some (ro (findF (fun i => !v51_0 (fI (xs.getD i.toNat .undef) 0) (fI (xs.getD i.toNat .undef) 1)) xs.length 0) (.inl ()) fun _ => .inr ()):=by
 refine runW_find (fun i=>i) xs.length _ _ _ (fun i h0 hn=>?_) ?_ xs.length _ 0 (Int.le_refl 0) (by omega) (by omega)
 ·simp only [R38_0,F38_0,h0,hn,decide_true,Bool.and_self,cond_true]
  rw [wrap_in (a:=i+1) (by omega) (by omega)]
 ·simp only [R38_0,F38_0,Int.lt_irrefl,decide_false,cond_false]
theorem run77 (xs:List AV) (h:xs.length≤1048576):runW (R77_0 xs xs.length) (((xs.length:Int) - 0).toNat+1) 0=some (ro (findF (fun i=>v62_0 (fI (xs.getD i.toNat .undef) 0) (fI (xs.getD i.toNat .undef) 1)) xs.length 0) (.inl ()) fun i => .inr i):=by
 refine runW_find (fun i=>i) xs.length _ _ _ (fun i h0 hn=>?_) ?_ xs.length _ 0 (Int.le_refl 0) (by omega) (by omega)
 ·simp only [R77_0,F77_0,h0,hn,decide_true,Bool.and_self,cond_true]
  rw [wrap_in (a:=i+1) (by omega) (by omega)]
 ·simp only [R77_0,F77_0,Int.lt_irrefl,decide_false,cond_false]
theorem P38 (xs:List AV) (h:xs.length≤1048576):q38 xs=true∧v38_0 xs=((findF (fun i => !v51_0 (fI (xs.getD i.toNat .undef) 0) (fI (xs.getD i.toNat .undef) 1)) xs.length 0).isNone && decide (xs.length≤30)):=by
 unfold q38 v38_0
 rw [run38 xs h]
 cases findF (fun i => !v51_0 (fI (xs.getD i.toNat .undef) 0) (fI (xs.getD i.toNat .undef) 1)) xs.length 0 with
 | none=>refine ⟨rfl,?_⟩;simp only [ro,sumE,Option.isNone_none,Bool.true_and];congr 1;simp only [eq_iff_iff];omega
 | some j=>exact ⟨rfl,rfl⟩
theorem P48 (xs:List AV) (h:xs.length≤1048576):q48 xs=true∧v48_0 xs=v38_0 xs:=by
 rw [(P38 xs h).2]
 unfold q48 v48_0 v61_0 q61 q77 v77_0
 rw [run77 xs h]
 have e:(fun i:Int=>v62_0 (fI (xs.getD i.toNat .undef) 0) (fI (xs.getD i.toNat .undef) 1))=fun i => !v51_0 (fI (xs.getD i.toNat .undef) 0) (fI (xs.getD i.toNat .undef) 1):=by
  funext i
  unfold v62_0
  rw [isR_eq]
 rw [e]
 have e30:decide ((xs.length:Int)≤30)=decide (xs.length≤30):=by congr 1;simp only [eq_iff_iff];omega
 rw [e30]
 cases hf:findF (fun i => !v51_0 (fI (xs.getD i.toNat .undef) 0) (fI (xs.getD i.toNat .undef) 1)) xs.length 0 with
 | none=>cases decide (xs.length≤30) <;> exact ⟨rfl,rfl⟩
 | some j =>
  have:=(findF_some _ _ hf).1
  cases decide (xs.length≤30)
  ·exact ⟨rfl,rfl⟩
  ·refine ⟨rfl,?_⟩
   simp [ro,sumE]
   omega
theorem rng_ok {xs:List AV} (h:xs.length≤1048576) (hv:v38_0 xs=true):xs.length≤30∧∀ k:Int,0≤k→k<xs.length→(-1000≤fI (xs.getD k.toNat .undef) 0∧fI (xs.getD k.toNat .undef) 0≤1000)∧(-1000≤fI (xs.getD k.toNat .undef) 1∧fI (xs.getD k.toNat .undef) 1≤1000)∧v51_0 (fI (xs.getD k.toNat .undef) 0) (fI (xs.getD k.toNat .undef) 1)=true:=by
 rw [(P38 xs h).2,Bool.and_eq_true,decide_eq_true_eq] at hv
 obtain ⟨h1,h2⟩:=hv
 refine ⟨h2,fun k k0 k1=>?_⟩
 have:=findF_isNone _ _ |>.1 h1 k k0 (by omega)
 simp only [Bool.not_eq_false'] at this
 have t:=this
 unfold v51_0 at this
 rw [v28,v28] at this
 simp only [Bool.cond_eq_ite,Bool.and_eq_true,decide_eq_true_eq] at this
 split at this
 ·simp only [Bool.and_eq_true,decide_eq_true_eq] at this
  exact ⟨by omega,by omega,t⟩
 ·cases this
theorem P32 (vs:List AV) (p t s:Int) (qs:List AV) (h:vs.length≤1048576) (h':qs.length≤1048576):q32 vs p t s qs=true∧v32_0 vs p t s qs=(v36_0 vs && (v37_0 p t s && v38_0 qs)):=by
 obtain ⟨a1,a2⟩:=P46 vs h
 obtain ⟨b1,b2⟩:=P48 qs h'
 obtain ⟨c1,c2⟩:=sett_both p t s
 unfold q32 v32_0
 rw [a1,a2,b1,b2,← c1]
 cases v36_0 vs <;> cases v37_0 p t s <;> exact ⟨rfl,rfl⟩
theorem P57 {vs rs ps:List AV} {pol thr seed v x:Int} {vs' rs' ps':List AV} {seed' tl:Int} (W:Wit vs rs ps pol thr seed v 0 [] x vs' rs' ps' seed' tl) (h:Col vs rs ps) (hS:Sett pol thr seed) (hv : -1000≤v∧v≤1000) :
  q57 vs rs ps pol thr seed v=true∧v57_0 vs rs ps pol thr seed v=vs'∧v57_1 vs rs ps pol thr seed v=rs'∧v57_2 vs rs ps pol thr seed v=ps'∧v57_3 vs rs ps pol thr seed v=pol∧v57_4 vs rs ps pol thr seed v=thr∧v57_5 vs rs ps pol thr seed v=seed'∧v57_6 vs rs ps pol thr seed v=tl:=by
 have h64:=h.n64
 have hlen:=h.len
 have hf:=col_few h
 obtain ⟨a1,a2⟩:=P53 vs rs ps (by omega) (by omega) (by omega)
 rw [(isC_iff vs rs ps (by omega)).2 h] at a2
 have b:=(sett_both pol thr seed).2.2 hS
 have c:=bound_of hv
 obtain ⟨d1,d2,d3,d4⟩:=P56 vs rs ps (by omega) (by omega) (by omega)
 obtain ⟨s0,s1,s2,s3,s4,s5,s6,s7,s8⟩:=W.spec
 have t0:=W.t0
 have t1:=W.t1
 unfold q57 v57_0 v57_1 v57_2 v57_3 v57_4 v57_5 v57_6
 rw [a1,a2,b,c,d1,d2,d3,d4,s0,s1,s2,s3,s4,s5,s6]
 generalize v72_9 pol thr seed v 0 vs rs ps []=L at s7 s8
 obtain ⟨e1,e2⟩:=P73 L (by simp at s8;omega)
 rw [e1,e2,s7,show tot []+tl=tl by show (0:Int)+tl=tl;omega,wrap_in (a:=tl) (by omega) (by omega)]
 exact ⟨rfl,rfl,rfl,rfl,rfl,rfl,rfl,rfl⟩
theorem q59_ok {vs rs ps:List AV} (h:Col vs rs ps) (a b:Int):q59 vs rs ps a b=true:=by
 have h64:=h.n64
 have hlen:=h.len
 have hf:=col_few h
 obtain ⟨a1,a2⟩:=P53 vs rs ps (by omega) (by omega) (by omega)
 rw [(isC_iff vs rs ps (by omega)).2 h] at a2
 unfold q59
 rw [a1,a2,v28]
 cases c1:decide (0≤a) with
 | false=>rfl
 | true =>
  cases c2:decide (a≤b) with
  | false=>rfl
  | true =>
   by_cases c3:b > (rs.length:Int)
   ·rw [decide_eq_true c3]
    rfl
   ·rw [decide_eq_false c3,decide_eq_true (by omega:b≤(rs.length:Int)),(P74 _ (by simp only [List.length_drop,List.length_take];omega)).1]
    rfl
theorem q81_ok {vs rs ps:List AV} (h:Col vs rs ps) (a b:Int):q81 vs rs ps a b=true:=by
 have h64:=h.n64
 have hlen:=h.len
 have hf:=col_few h
 obtain ⟨a1,a2⟩:=P54 vs rs ps (by omega) (by omega) (by omega)
 rw [(isC_iff vs rs ps (by omega)).2 h] at a2
 unfold q81
 rw [a1,a2]
 by_cases c1:a<0
 ·rw [decide_eq_true c1]
  rfl
 by_cases c2:a > b
 ·rw [decide_eq_false c1,decide_eq_true c2]
  rfl
 by_cases c3:b > (rs.length:Int)
 ·rw [decide_eq_false c1,decide_eq_false c2,decide_eq_true c3]
  rfl
 rw [decide_eq_false c1,decide_eq_false c2,decide_eq_false c3,decide_eq_true (by omega:0≤a),decide_eq_true (by omega:a≤b),decide_eq_true (by omega:b≤(rs.length:Int)),(P93 _ (by simp only [List.length_drop,List.length_take];omega)).1]
 rfl
structure Sel (vs rs ps:List AV) (pol thr seed lo hi x:Int) (vs' rs' ps':List AV) (seed' c:Int):Prop where
 ok:Col vs' rs' ps'
 n2:N2 ps'
 st:Sett pol thr seed'
 c0:0≤c
 c1:c≤400000
 spec:q45 vs rs ps pol thr seed lo hi=true∧v45_0 vs rs ps pol thr seed lo hi=vs'∧v45_1 vs rs ps pol thr seed lo hi=rs'∧v45_2 vs rs ps pol thr seed lo hi=ps' ∧
  v45_3 vs rs ps pol thr seed lo hi=pol∧v45_4 vs rs ps pol thr seed lo hi=thr∧v45_5 vs rs ps pol thr seed lo hi=seed'∧v45_7 vs rs ps pol thr seed lo hi=c
 imp:q65 pol thr seed lo hi vs rs ps x=true∧v65_0 pol thr seed lo hi vs rs ps x=vs'∧v65_1 pol thr seed lo hi vs rs ps x=rs'∧v65_2 pol thr seed lo hi vs rs ps x=ps' ∧
  v65_3 pol thr seed lo hi vs rs ps x=pol∧v65_4 pol thr seed lo hi vs rs ps x=thr∧v65_5 pol thr seed lo hi vs rs ps x=seed'∧v65_7 pol thr seed lo hi vs rs ps x=c
theorem sel_both {vs rs ps:List AV} (h:Col vs rs ps) (hN:N2 ps) {pol thr seed lo hi:Int} (hS:Sett pol thr seed) (hlo : -1000≤lo∧lo≤1000) (hhi : -1000≤hi∧hi≤1000) (hr:v51_0 lo hi=true) (x:Int) :
  ∃ (vs' rs' ps':List AV) (seed' c:Int),Sel vs rs ps pol thr seed lo hi x vs' rs' ps' seed' c:=by
 obtain ⟨vs1,rs1,ps1,sd1,t1,W1⟩:=with_both h hN hS hlo 0 [] (by simp) x
 obtain ⟨vs2,rs2,ps2,sd2,t2,W2⟩:=with_both W1.ok W1.n2 W1.st hhi 0 [] (by simp) (v79_7 pol thr seed lo vs rs ps x)
 have h64:=h.n64
 have hlen:=h.len
 have hf:=col_few h
 have hf2:=col_few W2.ok
 obtain ⟨a1,a2⟩:=P53 vs rs ps (by omega) (by omega) (by omega)
 rw [(isC_iff vs rs ps (by omega)).2 h] at a2
 have b:=(sett_both pol thr seed).2.2 hS
 obtain ⟨s0,s1,s2,s3,s4,s5,s6,s7⟩:=P57 W1 h hS hlo
 obtain ⟨u0,u1,u2,u3,u4,u5,u6,u7⟩:=P57 W2 W1.ok W1.st hhi
 obtain ⟨i0,i1,i2,i3,i4,i5,i6,i7⟩:=W1.imp
 obtain ⟨j0,j1,j2,j3,j4,j5,j6,j7⟩:=W2.imp
 have f1:=(P58 vs2 rs2 ps2 lo (by omega)).1
 have f2:=(P58 vs2 rs2 ps2 hi (by omega)).1
 have g1:=(P80 vs2 rs2 ps2 lo (by omega)).1
 have g2:=(P80 vs2 rs2 ps2 hi (by omega)).1
 have c10:=W1.t0
 have c11:=W1.t1
 have c20:=W2.t0
 have c21:=W2.t1
 have wc:IntKind.i64.wrap (t1+t2)=t1+t2:=wrap_in (by omega) (by omega)
 refine ⟨vs2,rs2,ps2,sd2,t1+t2,W2.ok,W2.n2,W2.st,by omega,by omega,?_,?_⟩
 ·unfold q45 v45_0 v45_1 v45_2 v45_3 v45_4 v45_5 v45_7
  rw [a1,a2,b,hr,s0,s1,s2,s3,s4,s5,s6,s7,u0,u1,u2,u3,u4,u5,u6,u7,f1,f2,q59_ok W2.ok,wc]
  exact ⟨rfl,rfl,rfl,rfl,rfl,rfl,rfl,rfl⟩
 ·unfold q65 v65_0 v65_1 v65_2 v65_3 v65_4 v65_5 v65_7
  rw [i0,i1,i2,i3,i4,i5,i6,i7,j0,j1,j2,j3,j4,j5,j6,j7,g1,g2,q81_ok W2.ok,wc]
  exact ⟨rfl,rfl,rfl,rfl,rfl,rfl,rfl,rfl⟩
abbrev QS:=Int × List AV × List AV × List AV × List AV × List AV × Int × Int × Int
abbrev QI:=Int × List AV × List AV × List AV × Int × Int × Int × List AV × List AV
structure QInv (qs:List AV) (pol thr:Int) (s:QS) (s':QI):Prop where
 k0:0≤s.1
 k1:s.1≤qs.length
 ek:s'.1=s.1
 e0:s'.2.1=s.2.1
 e1:s'.2.2.1=s.2.2.1
 e2:s'.2.2.2.1=s.2.2.2.1
 e3:s'.2.2.2.2.1=pol∧s.2.2.2.2.2.2.1=pol
 e4:s'.2.2.2.2.2.1=thr∧s.2.2.2.2.2.2.2.1=thr
 e5:s'.2.2.2.2.2.2.1=s.2.2.2.2.2.2.2.2
 e6:s'.2.2.2.2.2.2.2.2=s.2.2.2.2.2.1
 l5:(s.2.2.2.2.1.length:Int)=s.1
 l6:(s.2.2.2.2.2.1.length:Int)=s.1
 l7:(s'.2.2.2.2.2.2.2.1.length:Int)=s.1
 c:Col s.2.1 s.2.2.1 s.2.2.2.1
 n:N2 s.2.2.2.1
 st:Sett pol thr s.2.2.2.2.2.2.2.2
structure QEnd (r:List AV × List AV × List AV × List AV × List AV × Int × Int × Int) (r':List AV × List AV × List AV × Int × Int × Int × List AV × List AV):Prop where
 e0:r'.1=r.1
 e1:r'.2.1=r.2.1
 e2:r'.2.2.1=r.2.2.1
 e4:r'.2.2.2.2.2.2.2=r.2.2.2.2.1
 l:r.2.2.2.2.1.length≤30
 c:Col r.1 r.2.1 r.2.2.1
theorem room24 (n:Nat) (y:AV) (h:n≤1048576):(decide ((n+[y].length)*24≤140737488355328) && decide (n+[y].length≤140737488355328))=true:=by
 simp only [List.length_singleton,Bool.and_eq_true,decide_eq_true_eq];omega
theorem room8 (n:Nat) (y:AV) (h:n≤1048576):(decide ((n+[y].length)*8≤140737488355328) && decide (n+[y].length≤140737488355328))=true:=by
 simp only [List.length_singleton,Bool.and_eq_true,decide_eq_true_eq];omega
theorem room16 (n:Nat) (y:AV) (h:n≤1048576):(decide ((n+[y].length)*16≤140737488355328) && decide (n+[y].length≤140737488355328))=true:=by
 simp only [List.length_singleton,Bool.and_eq_true,decide_eq_true_eq];omega
theorem run_both {qs:List AV} (h30:qs.length≤30) (hq:∀ k:Int,0≤k→k<qs.length→(-1000≤fI (qs.getD k.toNat .undef) 0∧fI (qs.getD k.toNat .undef) 0≤1000)∧(-1000≤fI (qs.getD k.toNat .undef) 1∧fI (qs.getD k.toNat .undef) 1≤1000)∧v51_0 (fI (qs.getD k.toNat .undef) 0) (fI (qs.getD k.toNat .undef) 1)=true)
  {vs rs ps:List AV} (h:Col vs rs ps) (hN:N2 ps) {pol thr seed:Int} (hS:Sett pol thr seed) :
  ∃ r r',runW (R29_0 qs) (((qs.length:Int) - 0).toNat+1) (0,vs,rs,ps,[],[],pol,thr,seed)=some r∧runW (R49_0 qs qs.length) (((qs.length:Int) - 0).toNat+1) (0,vs,rs,ps,pol,thr,seed,[],[])=some r'∧QEnd r r':=by
 refine runW_pair (f:=R29_0 qs) (g:=R49_0 qs qs.length) (QInv qs pol thr) QEnd (fun s=>((qs.length:Int) - s.1).toNat) (fun s s' hI=>?_) _ _ _ _ ⟨Int.le_refl _,by simp,rfl,rfl,rfl,rfl,⟨rfl,rfl⟩,⟨rfl,rfl⟩,rfl,rfl,rfl,rfl,rfl,h,hN,hS⟩ (by simp only;omega) (by simp only;omega)
 obtain ⟨k,a0,a1,a2,h5,h6,p,t,sd⟩:=s
 obtain ⟨k',b0,b1,b2,p',t',sd',h7,h8⟩:=s'
 obtain ⟨k0,k1,ek,e0,e1,e2,⟨e3,e3'⟩,⟨e4,e4'⟩,e5,e6,l5,l6,l7,c,n,st⟩:=hI
 simp only at k0 k1 ek e0 e1 e2 e3 e3' e4 e4' e5 e6 l5 l6 l7 c n st
 subst ek e0 e1 e2 e3 e4 e5 e6 e3' e4'
 by_cases hk:k'<qs.length
 ·have d1:decide (k'<(qs.length:Int))=true:=decide_eq_true hk
  have d2:decide (0≤k')=true:=decide_eq_true k0
  have wk:IntKind.i64.wrap (k'+1)=k'+1:=wrap_in (by omega) (by omega)
  obtain ⟨r0,r1,r2⟩:=hq k' k0 hk
  obtain ⟨vs1,rs1,ps1,sd1,cst,S⟩:=sel_both c n st r0 r1 r2 k'
  obtain ⟨u0,u1,u2,u3,u4,u5,u6,u7⟩:=S.spec
  obtain ⟨w0,w1,w2,w3,w4,w5,w6,w7⟩:=S.imp
  refine .inl ⟨(k'+1,vs1,rs1,ps1,h5++[AV.sl [.int .i64] (v45_6 b0 b1 b2 p t sd' (fI (qs.getD k'.toNat AV.undef) 0) (fI (qs.getD k'.toNat AV.undef) 1))],h8++[AV.int .i64 cst],p,t,sd1),
   (k'+1,vs1,rs1,ps1,p,t,sd1,h7++[AV.sl [.int .i64] (v65_6 p t sd' (fI (qs.getD k'.toNat AV.undef) 0) (fI (qs.getD k'.toNat AV.undef) 1) b0 b1 b2 k')],h8++[AV.int .i64 cst]),?_,?_,?_,?_⟩
  ·simp only [R29_0,F29_0,d1,d2,u0,u1,u2,u3,u4,u5,u6,u7,wk,Bool.and_self,cond_true,room24 h5.length _ (by omega),room8 h8.length _ (by omega)]
  ·simp only [R49_0,F49_0,d1,d2,w0,w1,w2,w3,w4,w5,w6,w7,wk,Bool.and_self,cond_true,room24 h7.length _ (by omega),room8 h8.length _ (by omega)]
  ·exact ⟨by simp only;omega,by simp only;omega,rfl,rfl,rfl,rfl,⟨rfl,rfl⟩,⟨rfl,rfl⟩,rfl,rfl,by simp only [List.length_append,List.length_singleton];omega,by simp only [List.length_append,List.length_singleton];omega,by simp only [List.length_append,List.length_singleton];omega,S.ok,S.n2,S.st⟩
  ·simp only;omega
 ·have d1:decide (k'<(qs.length:Int))=false:=decide_eq_false hk
  refine .inr ⟨(b0,b1,b2,h5,h8,p,t,sd'),(b0,b1,b2,p,t,sd',h7,h8),?_,?_,rfl,rfl,rfl,rfl,by simp only;omega,c⟩
  ·simp only [R29_0,F29_0,d1,cond_false]
  ·simp only [R49_0,F49_0,d1,cond_false]
structure Rq (vs:List AV) (pol thr seed:Int) (qs vs' rs' ps' cs:List AV):Prop where
 ok:Col vs' rs' ps'
 l:cs.length≤30
 spec:q29 vs pol thr seed qs=true∧v29_0 vs pol thr seed qs=vs'∧v29_1 vs pol thr seed qs=rs'∧v29_2 vs pol thr seed qs=ps'∧v29_4 vs pol thr seed qs=cs
 imp:q33 vs pol thr seed qs=true∧v33_0 vs pol thr seed qs=vs'∧v33_1 vs pol thr seed qs=rs'∧v33_2 vs pol thr seed qs=ps'∧v33_4 vs pol thr seed qs=cs
theorem rq_both {vs qs:List AV} {pol thr seed:Int} (hl:vs.length≤1048576) (hq:qs.length≤1048576) (h1:v36_0 vs=true) (h2:v37_0 pol thr seed=true) (h3:v38_0 qs=true) :
  ∃ vs' rs' ps' cs,Rq vs pol thr seed qs vs' rs' ps' cs:=by
 obtain ⟨m0,m1⟩:=rng_ok hq h3
 obtain ⟨r,r',k1,k2,k3⟩:=run_both m0 m1 (Col_new vs hl h1) N2_nil ((sett_both pol thr seed).2.1 h2)
 obtain ⟨a0,a1,a2,a3⟩:=P44 vs hl
 obtain ⟨b0,b1,b2,b3⟩:=P64 vs hl
 obtain ⟨c0,c1⟩:=P32 vs pol thr seed qs hl hq
 obtain ⟨d0,d1⟩:=P36 vs hl
 obtain ⟨f0,f1⟩:=P38 qs hq
 rw [h1] at a1 a2 b1 b2
 simp only [cond_true] at a1 a2 b1 b2
 refine ⟨r.1,r.2.1,r.2.2.1,r.2.2.2.2.1,k3.c,k3.l,?_,?_⟩
 ·unfold q29 v29_0 v29_1 v29_2 v29_4
  rw [a0,a1,a2,a3,d0,f0,h1,h2,h3,k1]
  exact ⟨rfl,rfl,rfl,rfl,rfl⟩
 ·unfold q33 v33_0 v33_1 v33_2 v33_4 q49 v49_0 v49_1 v49_2 v49_4
  rw [b0,b1,b2,b3,c0,c1,h1,h2,h3,k2]
  exact ⟨rfl,k3.e0,k3.e1,k3.e2,k3.e4⟩
theorem getD_mapA (f:AV→AV) (xs:List AV) (k:Int) (h0:0≤k) (h1:k<xs.length):(xs.map f).getD k.toNat .undef=f (xs.getD k.toNat .undef):=by
 rw [List.getD_eq_getElem?_getD,List.getD_eq_getElem?_getD,List.getElem?_map,List.getElem?_eq_getElem (by omega)]
 rfl
def cE (x:AV):AV := .int .i64 (fI x 1)
theorem P52 (vs rs ps:List AV) (h:vs.length≤1048576) (h':ps.length≤1048576):q52 vs rs ps=true∧v52_0 vs rs ps=(ps++[mk2 0 vs.length]).map cE:=by
 obtain ⟨r,h1,h2⟩:=runW_ends (f:=R52_0 vs rs ps) (fun s:Int × List AV=>0≤s.1∧s.1≤ps.length∧s.2=(ps.take s.1.toNat).map cE) (fun r=>r=ps.map cE) (fun s=>((ps.length:Int) - s.1).toNat) (fun s hI=>by
  obtain ⟨k,t⟩:=s
  obtain ⟨k0,k1,e⟩:=hI
  simp only at k0 k1 e
  have lt:t.length≤1048576:=by rw [e];simp only [List.length_map,List.length_take];omega
  by_cases hk:k<ps.length
  ·have d1:decide (k<(ps.length:Int))=true:=decide_eq_true hk
   have d2:decide (0≤k)=true:=decide_eq_true k0
   have wk:IntKind.i64.wrap (k+1)=k+1:=wrap_in (by omega) (by omega)
   refine .inl ⟨(k+1,t++[AV.int .i64 (fI (ps.getD k.toNat AV.undef) 1)]),by simp only [R52_0,F52_0,d1,d2,wk,Bool.and_self,cond_true,room8 t.length _ lt],⟨by simp only;omega,by simp only;omega,?_⟩,by simp only;omega⟩
   simp only
   rw [e,take_snoc k0 hk,List.map_append]
   rfl
  ·have d1:decide (k<(ps.length:Int))=false:=decide_eq_false hk
   have ek:k.toNat=ps.length:=by omega
   exact .inr ⟨t,by simp only [R52_0,F52_0,d1,cond_false],by rw [e,ek,List.take_length]⟩) (((ps.length:Int) - 0:Int).toNat+1) (0,[]) ⟨Int.le_refl _,by simp,rfl⟩ (by simp only;omega)
 subst h2
 unfold q52 v52_0
 rw [h1]
 simp only [ro]
 rw [room8 (ps.map cE).length _ (by rw [List.length_map];exact h'),List.map_append]
 exact ⟨rfl,rfl⟩
def maxW (l:List AV):Int:=l.foldl (fun m x=>if IntKind.i64.wrap (fI x 1 - fI x 0) > m then IntKind.i64.wrap (fI x 1 - fI x 0) else m) 0
theorem maxW_snoc (l:List AV) (x:AV):maxW (l++[x])=if IntKind.i64.wrap (fI x 1 - fI x 0) > maxW l then IntKind.i64.wrap (fI x 1 - fI x 0) else maxW l:=by
 unfold maxW
 rw [List.foldl_append]
 rfl
theorem P43m (l:List AV) (h:l.length≤1048576):runW (R43_0 l.length l) (((l.length:Int) - 0).toNat+1) (0,0)=some (maxW l):=by
 obtain ⟨r,h1,h2⟩:=runW_ends (f:=R43_0 l.length l) (fun s:Int × Int=>0≤s.2∧s.2≤l.length∧s.1=maxW (l.take s.2.toNat)) (fun r=>r=maxW l) (fun s=>((l.length:Int) - s.2).toNat) (fun s hI=>by
  obtain ⟨t,k⟩:=s
  obtain ⟨k0,k1,e⟩:=hI
  simp only at k0 k1 e
  by_cases hk:k<l.length
  ·have d1:decide (k<(l.length:Int))=true:=decide_eq_true hk
   have d2:decide (0≤k)=true:=decide_eq_true k0
   have wk:IntKind.i64.wrap (k+1)=k+1:=wrap_in (by omega) (by omega)
   refine .inl ⟨(if IntKind.i64.wrap (fI (l.getD k.toNat AV.undef) 1 - fI (l.getD k.toNat AV.undef) 0) > t then IntKind.i64.wrap (fI (l.getD k.toNat AV.undef) 1 - fI (l.getD k.toNat AV.undef) 0) else t,k+1),by simp only [R43_0,F43_0,d1,d2,wk,Bool.and_self,cond_true],⟨by simp only;omega,by simp only;omega,?_⟩,by simp only;omega⟩
   simp only
   rw [e,take_snoc k0 hk,maxW_snoc]
  ·have d1:decide (k<(l.length:Int))=false:=decide_eq_false hk
   have ek:k.toNat=l.length:=by omega
   exact .inr ⟨t,by simp only [R43_0,F43_0,d1,cond_false],by rw [e,ek,List.take_length]⟩) (((l.length:Int) - 0:Int).toNat+1) (0,0) ⟨Int.le_refl _,by simp,rfl⟩ (by simp only;omega)
 rw [h1,h2]
theorem pieces_both {P:List AV} (hP:P.length≤3000) (hb:∀ k:Int,0≤k→k<P.length→0≤pat P k∧pat P k≤64) {vs rs ps:List AV} (hc:q53 vs rs ps=true) (hv:v53_0 vs rs ps=true) :
  ∃ l:List AV,runW (R55_0 P.length P) (((P.length:Int) - 0).toNat+1) (0,0,[])=some l∧l.length≤3000 ∧
   runW (R39_0 vs rs ps (P.map cE)) ((((P.map cE).length:Int) - 0).toNat+1) (0,0,0)=some (l.length:Int) ∧
   runW (R40_0 vs rs ps (P.map cE)) ((((P.map cE).length:Int) - 0).toNat+1) (0,0,0)=some (maxW l):=by
 have lm:(P.map cE).length=P.length:=List.length_map _
 have em:∀ k:Int,0≤k→k<P.length→fI ((P.map cE).getD k.toNat .undef) 0=pat P k:=fun k k0 k1=>by
  rw [getD_mapA cE P k k0 k1]
  rfl
 obtain ⟨l,c,h1,h2,h3,h4⟩:=runW_pair (f:=R55_0 P.length P) (g:=R39_0 vs rs ps (P.map cE)) (fun (s:Int × Int × List AV) (s':Int × Int × Int)=>s'.2.2=s.2.1∧s'.2.1=s.1∧s'.1=s.2.2.length∧0≤s.2.1∧s.2.1≤P.length∧(s.2.2.length:Int)≤s.2.1)
  (fun l c=>c=(l.length:Int)∧l.length≤3000) (fun s=>((P.length:Int) - s.2.1).toNat) (fun s s' hI=>by
   obtain ⟨la,k,l⟩:=s
   obtain ⟨c,la',k'⟩:=s'
   obtain ⟨e1,e2,e3,k0,k1,hl⟩:=hI
   simp only at e1 e2 e3 k0 k1 hl
   subst e1 e2 e3
   by_cases hk:k'<P.length
   ·have d1:decide (k'<(P.length:Int))=true:=decide_eq_true hk
    have d2:decide (0≤k')=true:=decide_eq_true k0
    have wk:IntKind.i64.wrap (k'+1)=k'+1:=wrap_in (by omega) (by omega)
    have wl:IntKind.i64.wrap ((l.length:Int)+1)=(l.length:Int)+1:=wrap_in (by omega) (by omega)
    have e:=em k' k0 hk
    have e':fI (P.getD k'.toNat .undef) 1=pat P k':=rfl
    cases hd:decide (pat P k' > la') with
    | true =>
     refine .inl ⟨(pat P k',k'+1,l++[AV.agg [AV.int .i64 la',AV.int .i64 (pat P k')]]),((l.length:Int)+1,pat P k',k'+1),?_,?_,⟨rfl,rfl,by simp,by simp only;omega,by simp only;omega,by simp only [List.length_append,List.length_singleton];omega⟩,by simp only;omega⟩
     ·simp only [R55_0,F55_0,d1,d2,e',hd,wk,Bool.and_self,cond_true,room16 l.length _ (by omega)]
     ·simp only [R39_0,F39_0,lm,d1,d2,hc,hv,e,hd,wk,wl,Bool.and_self,cond_true]
    | false =>
     refine .inl ⟨(pat P k',k'+1,l),((l.length:Int),pat P k',k'+1),?_,?_,⟨rfl,rfl,rfl,by simp only;omega,by simp only;omega,by simp only;omega⟩,by simp only;omega⟩
     ·simp only [R55_0,F55_0,d1,d2,e',hd,wk,Bool.and_self,cond_true,cond_false]
     ·simp only [R39_0,F39_0,lm,d1,d2,hc,hv,e,hd,wk,wl,Bool.and_self,cond_true,cond_false]
   ·have d1:decide (k'<(P.length:Int))=false:=decide_eq_false hk
    refine .inr ⟨l,(l.length:Int),?_,?_,rfl,by omega⟩
    ·simp only [R55_0,F55_0,d1,cond_false]
    ·simp only [R39_0,F39_0,lm,d1,cond_false]) (((P.length:Int) - 0).toNat+1) ((((P.map cE).length:Int) - 0).toNat+1) (0,0,[]) (0,0,0) ⟨rfl,rfl,rfl,Int.le_refl _,by simp,by simp⟩ (by simp only;omega) (by rw [lm];simp only;omega)
 obtain ⟨l',c',g1,g2,g3⟩:=runW_pair (f:=R55_0 P.length P) (g:=R40_0 vs rs ps (P.map cE)) (fun (s:Int × Int × List AV) (s':Int × Int × Int)=>s'.2.2=s.2.1∧s'.2.1=s.1∧s'.1=maxW s.2.2∧0≤s.2.1∧s.2.1≤P.length∧(s.2.2.length:Int)≤s.2.1∧0≤s.1∧s.1≤64∧0≤maxW s.2.2)
  (fun l c=>c=maxW l) (fun s=>((P.length:Int) - s.2.1).toNat) (fun s s' hI=>by
   obtain ⟨la,k,l⟩:=s
   obtain ⟨c,la',k'⟩:=s'
   obtain ⟨e1,e2,e3,k0,k1,hl,la0,la1,m0⟩:=hI
   simp only at e1 e2 e3 k0 k1 hl la0 la1 m0
   subst e1 e2 e3
   by_cases hk:k'<P.length
   ·have d1:decide (k'<(P.length:Int))=true:=decide_eq_true hk
    have d2:decide (0≤k')=true:=decide_eq_true k0
    have wk:IntKind.i64.wrap (k'+1)=k'+1:=wrap_in (by omega) (by omega)
    have e:=em k' k0 hk
    have e':fI (P.getD k'.toNat .undef) 1=pat P k':=rfl
    obtain ⟨b0,b1⟩:=hb k' k0 hk
    have ws:IntKind.i64.wrap (pat P k' - la')=pat P k' - la':=wrap_in (by omega) (by omega)
    have s1:maxW (l++[AV.agg [AV.int .i64 la',AV.int .i64 (pat P k')]])=if pat P k' - la' > maxW l then pat P k' - la' else maxW l:=by
     rw [maxW_snoc,← ws]
     rfl
    by_cases hd:pat P k' > la'
    ·refine .inl ⟨(pat P k',k'+1,l++[AV.agg [AV.int .i64 la',AV.int .i64 (pat P k')]]),(if pat P k' - la' > maxW l then pat P k' - la' else maxW l,pat P k',k'+1),?_,?_,⟨rfl,rfl,s1.symm,by simp only;omega,by simp only;omega,by simp only [List.length_append,List.length_singleton];omega,b0,b1,?_⟩,by simp only;omega⟩
     ·simp only [R55_0,F55_0,d1,d2,e',decide_eq_true hd,wk,Bool.and_self,cond_true,room16 l.length _ (by omega)]
     ·simp only [R40_0,F40_0,lm,d1,d2,hc,hv,e,ws,wk,Bool.and_self,cond_true]
     ·simp only;rw [s1];split <;> omega
    ·refine .inl ⟨(pat P k',k'+1,l),(maxW l,pat P k',k'+1),?_,?_,⟨rfl,rfl,rfl,by simp only;omega,by simp only;omega,by simp only;omega,b0,b1,m0⟩,by simp only;omega⟩
     ·simp only [R55_0,F55_0,d1,d2,e',decide_eq_false hd,wk,Bool.and_self,cond_true,cond_false]
     ·simp only [R40_0,F40_0,lm,d1,d2,hc,hv,e,ws,wk,Bool.and_self,cond_true,if_neg (by omega:¬ pat P k' - la' > maxW l)]
   ·have d1:decide (k'<(P.length:Int))=false:=decide_eq_false hk
    refine .inr ⟨l,maxW l,?_,?_,rfl⟩
    ·simp only [R55_0,F55_0,d1,cond_false]
    ·simp only [R40_0,F40_0,lm,d1,cond_false]) (((P.length:Int) - 0).toNat+1) ((((P.map cE).length:Int) - 0).toNat+1) (0,0,[]) (0,0,0) ⟨rfl,rfl,rfl,Int.le_refl _,by simp,by simp,Int.le_refl _,by simp,Int.le_refl _⟩ (by simp only;omega) (by rw [lm];simp only;omega)
 rw [h1] at g1
 obtain rfl:=Option.some.inj g1
 exact ⟨l,h1,h4,by rw [h2,h3],by rw [g2,g3]⟩
theorem pat_app (ps:List AV) (y:AV) (k:Int) (h0:0≤k) (h1:k<ps.length+1):pat (ps++[y]) k=if k<ps.length then pat ps k else fI y 1:=by
 unfold pat
 rw [List.getD_eq_getElem?_getD]
 by_cases h:k<ps.length
 ·rw [if_pos h,List.getElem?_append_left (by omega),List.getD_eq_getElem?_getD]
 ·rw [if_neg h,List.getElem?_append_right (by omega),show k.toNat - ps.length=0 by omega]
  rfl
theorem P42 {vs rs ps:List AV} (h:Col vs rs ps):q39 vs rs ps=true∧q40 vs rs ps=true∧q42 vs rs ps=true∧q43 vs rs ps=true∧v42_0 vs rs ps=v39_0 vs rs ps∧v43_0 vs rs ps=v40_0 vs rs ps:=by
 have h64:=h.n64
 have hlen:=h.len
 have hf:=col_few h
 have hi:=(isC_iff vs rs ps (by omega)).2 h
 obtain ⟨a1,a2⟩:=P53 vs rs ps (by omega) (by omega) (by omega)
 obtain ⟨b1,b2⟩:=P54 vs rs ps (by omega) (by omega) (by omega)
 rw [hi] at a2 b2
 obtain ⟨c1,c2⟩:=P52 vs rs ps (by omega) (by omega)
 obtain ⟨d1,d2⟩:=P71 ps (by omega)
 have lp:(ps++[mk2 0 vs.length]).length=ps.length+1:=by simp
 obtain ⟨l,e1,e2,e3,e4⟩:=pieces_both (P:=ps++[mk2 0 vs.length]) (by omega) (fun k k0 k1=>by
  rw [pat_app ps _ k k0 (by omega)]
  split
  ·have:=h.pa k k0 (by assumption)
   omega
  ·show 0≤(vs.length:Int)∧(vs.length:Int)≤64
   omega) a1 a2
 unfold q39 q40 q42 q43 v39_0 v40_0 v42_0 v43_0 q55 v55_0
 rw [b1,b2,c1,c2,d1,d2,e3,e4]
 unfold mk2 at e1
 rw [e1,room16 ps.length _ (by omega)]
 simp only [ro]
 rw [P43m l (by omega)]
 exact ⟨rfl,rfl,rfl,rfl,rfl,rfl⟩
theorem outcome_both (vs qs:List AV) (pol thr seed:Int) (hl:vs.length≤1048576) (hq:qs.length≤1048576) :
  q14 vs pol thr seed qs=true∧q16 vs pol thr seed qs=true∧v16_0 vs pol thr seed qs=v14_0 vs pol thr seed qs∧v16_1 vs pol thr seed qs=v14_1 vs pol thr seed qs∧v16_2 vs pol thr seed qs=v14_2 vs pol thr seed qs ∧
   v16_3 vs pol thr seed qs=v14_3 vs pol thr seed qs∧v16_4 vs pol thr seed qs=v14_4 vs pol thr seed qs∧v16_5 vs pol thr seed qs=v14_5 vs pol thr seed qs:=by
 obtain ⟨c0,c1⟩:=P32 vs pol thr seed qs hl hq
 obtain ⟨d0,d1⟩:=P36 vs hl
 obtain ⟨f0,f1⟩:=P38 qs hq
 unfold q14 q16 v14_0 v14_1 v14_2 v14_3 v14_4 v14_5 v16_0 v16_1 v16_2 v16_3 v16_4 v16_5
 rw [c0,c1,d0,f0]
 cases h1:v36_0 vs with
 | false=>exact ⟨rfl,rfl,rfl,rfl,rfl,rfl,rfl,rfl⟩
 | true =>
  cases h2:v37_0 pol thr seed with
  | false=>exact ⟨rfl,rfl,rfl,rfl,rfl,rfl,rfl,rfl⟩
  | true =>
   cases h3:v38_0 qs with
   | false=>exact ⟨rfl,rfl,rfl,rfl,rfl,rfl,rfl,rfl⟩
   | true =>
    obtain ⟨vs',rs',ps',cs,W⟩:=rq_both hl hq h1 h2 h3
    obtain ⟨s0,s1,s2,s3,s4⟩:=W.spec
    obtain ⟨i0,i1,i2,i3,i4⟩:=W.imp
    have lc:=W.l
    obtain ⟨g1,g2,g3,g4,g5,g6⟩:=P42 W.ok
    obtain ⟨x1,x2⟩:=P34 cs (by omega)
    obtain ⟨m,y1,y2⟩:=run14 cs 0 0 0 0 0 pol (v30_0 cs) (v39_0 vs' rs' ps') (v40_0 vs' rs' ps') (by omega)
    obtain ⟨z1,z2⟩:=P41 cs (by omega)
    rw [s0,s1,s2,s3,s4,i0,i1,i2,i3,i4,g1,g2,g3,g4,g5,g6,x1,x2,P30 cs (by omega),y1,z1,room8 cs.length _ (by omega),Top.eq z2 y2]
    exact ⟨rfl,rfl,rfl,rfl,rfl,rfl,rfl,rfl⟩
theorem room40 (n:Nat) (y:AV) (h:n≤1048576):(decide ((n+[y].length)*40≤140737488355328) && decide (n+[y].length≤140737488355328))=true:=by
 rw [decide_eq_true (by show (n+1)*40≤_;omega),decide_eq_true (by show n+1≤_;omega)];rfl
def oc (vs:List AV) (thr seed:Int) (qs:List AV) (p:Int):AV:=AV.agg [AV.int .i64 (v14_0 vs p thr seed qs),AV.int .i64 (v14_1 vs p thr seed qs),AV.int .i64 (v14_2 vs p thr seed qs),AV.int .i64 (v14_3 vs p thr seed qs),AV.int .i64 (v14_4 vs p thr seed qs)]
theorem step20 {vs qs:List AV} {thr seed:Int} (hl:vs.length≤1048576) (hq:qs.length≤1048576) (p:Int) (p1:p≤2) (p0:0≤p) (L:List AV) (hL:L.length≤1048576) :
  R20_0 vs thr seed qs (p,L) = .next (p+1,bif v14_5 vs p thr seed qs then L++[oc vs thr seed qs p] else L):=by
 obtain ⟨x1,x2,y0,y1,y2,y3,y4,y5⟩:=outcome_both vs qs p thr seed hl hq
 show F20_0 vs thr seed qs p L=_
 unfold F20_0
 rw [x1,room40 L.length _ hL,wrap_in (by omega) (by omega),decide_eq_true p1]
 simp only [cond_true]
 cases v14_5 vs p thr seed qs <;> rfl
theorem step21 {vs qs:List AV} {thr seed:Int} (hl:vs.length≤1048576) (hq:qs.length≤1048576) (p:Int) (p1:p≤2) (p0:0≤p) (L:List AV) (hL:L.length≤1048576) :
  R21_0 vs thr seed qs (p,L)=bif v14_5 vs p thr seed qs then .next (p+1,L++[oc vs thr seed qs p]) else .stop (.inr (L,v14_0 vs p thr seed qs,v14_1 vs p thr seed qs,v14_2 vs p thr seed qs,v14_3 vs p thr seed qs,v14_4 vs p thr seed qs)):=by
 obtain ⟨x1,x2,y0,y1,y2,y3,y4,y5⟩:=outcome_both vs qs p thr seed hl hq
 show F21_0 vs thr seed qs p L=_
 unfold F21_0
 rw [x2,y0,y1,y2,y3,y4,y5,room40 L.length _ hL,wrap_in (by omega) (by omega),decide_eq_true p1]
 simp only [cond_true]
 cases v14_5 vs p thr seed qs <;> rfl
theorem cmp_both (vs qs:List AV) (thr seed:Int) (hl:vs.length≤1048576) (hq:qs.length≤1048576) :
  q20 vs thr seed qs=true∧q21 vs thr seed qs=true∧v21_0 vs thr seed qs=v20_0 vs thr seed qs ∧
   (v20_0 vs thr seed qs=[]∨v14_5 vs 0 thr seed qs=true∧v20_0 vs thr seed qs=[oc vs thr seed qs 0,oc vs thr seed qs 1,oc vs thr seed qs 2]):=by
 have b1:v14_5 vs 1 thr seed qs=v14_5 vs 0 thr seed qs:=rfl
 have b2:v14_5 vs 2 thr seed qs=v14_5 vs 0 thr seed qs:=rfl
 have s0:=fun L hL=>step20 (thr:=thr) (seed:=seed) hl hq 0 (by decide) (by decide) L hL
 have s1:=fun L hL=>step20 (thr:=thr) (seed:=seed) hl hq 1 (by decide) (by decide) L hL
 have s2:=fun L hL=>step20 (thr:=thr) (seed:=seed) hl hq 2 (by decide) (by decide) L hL
 have i0:=fun L hL=>step21 (thr:=thr) (seed:=seed) hl hq 0 (by decide) (by decide) L hL
 have i1:=fun L hL=>step21 (thr:=thr) (seed:=seed) hl hq 1 (by decide) (by decide) L hL
 have i2:=fun L hL=>step21 (thr:=thr) (seed:=seed) hl hq 2 (by decide) (by decide) L hL
 rw [b1] at s1 i1
 rw [b2] at s2 i2
 have f:(2 - 0+1:Int).toNat+1=4:=rfl
 have e3:∀ L,runW (R20_0 vs thr seed qs) 1 (3,L)=some L:=fun L=>rfl
 have g3:∀ L,runW (R21_0 vs thr seed qs) 1 (3,L)=some (.inl L):=fun L=>rfl
 have n0:([]:List AV).length≤1048576:=by decide
 cases hb:v14_5 vs 0 thr seed qs with
 | false =>
  rw [hb] at s0 s1 s2 i0
  have r:runW (R20_0 vs thr seed qs) 4 (0,[])=some []:=by
   show (R20_0 vs thr seed qs (0,[])).el none (fun s=>runW (R20_0 vs thr seed qs) 3 s) some=_
   rw [s0 [] n0]
   show (R20_0 vs thr seed qs (1,[])).el none (fun s=>runW (R20_0 vs thr seed qs) 2 s) some=_
   rw [s1 [] n0]
   show (R20_0 vs thr seed qs (2,[])).el none (fun s=>runW (R20_0 vs thr seed qs) 1 s) some=_
   rw [s2 [] n0]
   exact e3 _
  have r':∃ x,runW (R21_0 vs thr seed qs) 4 (0,[])=some (.inr x):=by
   refine ⟨([],v14_0 vs 0 thr seed qs,v14_1 vs 0 thr seed qs,v14_2 vs 0 thr seed qs,v14_3 vs 0 thr seed qs,v14_4 vs 0 thr seed qs),?_⟩
   show (R21_0 vs thr seed qs (0,[])).el none (fun s=>runW (R21_0 vs thr seed qs) 3 s) some=_
   rw [i0 [] n0]
   rfl
  obtain ⟨x,r'⟩:=r'
  unfold q20 q21 v20_0 v21_0
  rw [f,r,r']
  exact ⟨rfl,rfl,rfl,.inl rfl⟩
 | true =>
  rw [hb] at s0 s1 s2 i0 i1 i2
  have n1:∀ x:AV,[x].length≤1048576:=fun x=>by show 1≤1048576;decide
  have n2:∀ x y:AV,[x,y].length≤1048576:=fun x y=>by show 2≤1048576;decide
  have r:runW (R20_0 vs thr seed qs) 4 (0,[])=some [oc vs thr seed qs 0,oc vs thr seed qs 1,oc vs thr seed qs 2]:=by
   show (R20_0 vs thr seed qs (0,[])).el none (fun s=>runW (R20_0 vs thr seed qs) 3 s) some=_
   rw [s0 [] n0]
   show (R20_0 vs thr seed qs (1,[oc vs thr seed qs 0])).el none (fun s=>runW (R20_0 vs thr seed qs) 2 s) some=_
   rw [s1 _ (n1 _)]
   show (R20_0 vs thr seed qs (2,[oc vs thr seed qs 0,oc vs thr seed qs 1])).el none (fun s=>runW (R20_0 vs thr seed qs) 1 s) some=_
   rw [s2 _ (n2 _ _)]
   exact e3 _
  have r':runW (R21_0 vs thr seed qs) 4 (0,[])=some (.inl [oc vs thr seed qs 0,oc vs thr seed qs 1,oc vs thr seed qs 2]):=by
   show (R21_0 vs thr seed qs (0,[])).el none (fun s=>runW (R21_0 vs thr seed qs) 3 s) some=_
   rw [i0 [] n0]
   show (R21_0 vs thr seed qs (1,[oc vs thr seed qs 0])).el none (fun s=>runW (R21_0 vs thr seed qs) 2 s) some=_
   rw [i1 _ (n1 _)]
   show (R21_0 vs thr seed qs (2,[oc vs thr seed qs 0,oc vs thr seed qs 1])).el none (fun s=>runW (R21_0 vs thr seed qs) 1 s) some=_
   rw [i2 _ (n2 _ _)]
   exact g3 _
  unfold q20 q21 v20_0 v21_0
  rw [f,r,r']
  exact ⟨rfl,rfl,rfl,.inr ⟨rfl,rfl⟩⟩
end Go.Proofs.YtmcnplggcedihaaGreat
