import Derived.Test.YtbmfgibbjchijaaGreatP12
namespace Go.Proofs.YtbmfgibbjchijaaGreat
open Go Go.Proofs.VE
set_option linter.unusedVariables false
set_option linter.unusedSimpArgs false
theorem roundC {vs rs ps:List AV} (h:Col vs rs ps) (hN:N2 ps) {v:Int} (hv : -1000≤v∧v≤1000) :
  q118 vs rs ps v=true∧q110 vs rs ps v=true∧v110_0 vs rs ps v=v118_0 vs rs ps v∧v110_1 vs rs ps v=v118_1 vs rs ps v∧v110_2 vs rs ps v=v118_2 vs rs ps v ∧
   Col (v118_0 vs rs ps v) (v118_1 vs rs ps v) (v118_2 vs rs ps v)∧N2 (v118_2 vs rs ps v):=by
 cases hf:(findP ps v).isSome with
 | true =>
  obtain ⟨⟨c0,c1,c2,c3,c4,c5⟩,d0,d1,d2,d3,d4⟩:=crack_old h hv hf
  rw [c0,c1,c2,c3,d0,d1,d2,d3]
  exact ⟨rfl,rfl,rfl,rfl,rfl,h,hN⟩
 | false =>
  obtain ⟨a,b,at_,ss,hcr⟩:=crack_new h hN hv hf
  obtain ⟨c0,c1,c2,c3,c4,c5⟩:=hcr.c
  obtain ⟨d0,d1,d2,d3,d4⟩:=hcr.c'
  rw [c0,c1,c2,c3,d0,d1,d2,d3]
  exact ⟨rfl,rfl,rfl,rfl,rfl,hcr.ok,hcr.n2⟩
theorem isR_eq (a b:Int):v45_0 a b=v51_0 a b:=by
 unfold v45_0 v51_0
 rw [v52,v52]
 by_cases h1 : -1000≤a <;> by_cases h2:a≤b <;> by_cases h3:b≤1000 <;> simp [h1,h2,h3] <;> omega
theorem isR_of {a b:Int} (h:v51_0 a b=true) : -1000≤a∧a≤b∧b≤1000:=by
 unfold v51_0 at h
 rw [v52,v52] at h
 cases hc:(decide (-1000≤a) && decide (a≤1000)) with
 | false=>rw [hc] at h;cases h
 | true =>
  rw [hc] at h
  simp only [cond_true,Bool.and_eq_true,decide_eq_true_eq] at h hc
  exact ⟨hc.1,h.1,h.2⟩
theorem same70 (vs rs ps:List AV) (a b:Int) (h1:vs.length≤1048576) (h2:rs.length≤1048576) (h3:ps.length≤1048576) (hN:N2 ps) :
  (q70 vs rs ps a b=true∧q65 vs rs ps a b=true)∧(v65_0 vs rs ps a b=v70_0 vs rs ps a b∧v65_1 vs rs ps a b=v70_1 vs rs ps a b∧v65_2 vs rs ps a b=v70_2 vs rs ps a b∧v65_3 vs rs ps a b=v70_3 vs rs ps a b∧v65_4 vs rs ps a b=v70_4 vs rs ps a b) ∧
   ((v70_0 vs rs ps a b).length≤1048576∧(v70_1 vs rs ps a b).length≤1048576∧(v70_2 vs rs ps a b).length≤1048576):=by
 obtain ⟨m1,m2⟩:=P68 vs rs ps h1 h2 h3
 obtain ⟨n1,n2⟩:=P61 vs rs ps h1 h2 h3
 obtain ⟨c0,c1,c2,c3⟩:=P69 vs rs ps h1 h2 h3
 obtain ⟨d0,d1,d2,d3⟩:=P64 vs rs ps h1 h2 h3
 unfold q70 q65 v70_0 v70_1 v70_2 v70_3 v70_4 v65_0 v65_1 v65_2 v65_3 v65_4
 rw [m1,m2,n1,n2,c0,c1,c2,c3,d0,d1,d2,d3,isR_eq]
 cases hc:isC vs rs ps with
 | false =>
  simp only [Bool.not_false,cond_true,Bool.and_self]
  exact ⟨⟨trivial,trivial⟩,⟨trivial,trivial,trivial,trivial,trivial⟩,h1,h2,h3⟩
 | true =>
  cases hr:v51_0 a b with
  | false =>
   simp only [Bool.not_false,Bool.not_true,cond_true,cond_false,Bool.and_self]
   exact ⟨⟨trivial,trivial⟩,⟨trivial,trivial,trivial,trivial,trivial⟩,h1,h2,h3⟩
  | true =>
   obtain ⟨r1,r2,r3⟩:=isR_of hr
   have hcol:=(isC_iff vs rs ps h1).1 hc
   obtain ⟨u1,u2,u3,u4,u5,u6,u7⟩:=roundC hcol hN (v:=a) ⟨r1,by omega⟩
   obtain ⟨w1,w2,w3,w4,w5,w6,w7⟩:=roundC u6 u7 (v:=b) ⟨by omega,r3⟩
   rw [u2,u3,u4,u5,w2,w3,w4,w5,u1,w1]
   generalize v118_0 (v118_0 vs rs ps a) (v118_1 vs rs ps a) (v118_2 vs rs ps a) b=X at *
   generalize v118_1 (v118_0 vs rs ps a) (v118_1 vs rs ps a) (v118_2 vs rs ps a) b=Y at *
   generalize v118_2 (v118_0 vs rs ps a) (v118_1 vs rs ps a) (v118_2 vs rs ps a) b=Z at *
   have k1:=w6.n64
   have k2:=w6.len
   have k3:=col_few w6
   obtain ⟨x1,x2,_⟩:=P119 X Y Z a (by omega)
   obtain ⟨y1,y2,_⟩:=P119 X Y Z b (by omega)
   obtain ⟨x1',x2',_⟩:=P111 X Y Z a (by omega)
   obtain ⟨y1',y2',_⟩:=P111 X Y Z b (by omega)
   rw [x1,x2,y1,y2,x1',x2',y1',y2']
   simp only [Bool.not_true,cond_false,Bool.and_self]
   exact ⟨⟨trivial,trivial⟩,⟨trivial,trivial,trivial,trivial,trivial⟩,by omega,by omega,by omega⟩
theorem same102 (vs rs ps:List AV) (a b:Int) (h1:vs.length≤1048576) (h2:rs.length≤1048576) (h3:ps.length≤1048576) :
  q102 vs rs ps a b=true∧q100 vs rs ps a b=true∧ints (v100_0 vs rs ps a b)=ints (v102_0 vs rs ps a b)∧(v102_0 vs rs ps a b).length≤1048576:=by
 obtain ⟨m1,m2⟩:=P68 vs rs ps h1 h2 h3
 obtain ⟨n1,n2⟩:=P61 vs rs ps h1 h2 h3
 unfold q102 q100 v102_0 v100_0
 rw [m1,m2,n1,n2,v52]
 have hl:((rs.take (Int.toNat b)).drop (Int.toNat a)).length≤1048576:=by rw [List.length_drop,List.length_take];omega
 obtain ⟨k1,k2,k3⟩:=P77 _ hl
 obtain ⟨l1,l2,l3⟩:=P82 _ hl
 cases isC vs rs ps with
 | false =>
  simp only [Bool.not_false,cond_true,Bool.and_self]
  exact ⟨trivial,trivial,trivial,by simp⟩
 | true =>
  by_cases c1:0≤a
  ·by_cases c2:a≤b
   ·rw [decide_eq_true c1,decide_eq_true c2,decide_eq_false (show ¬ a<0 by omega),decide_eq_false (show ¬ a > b by omega)]
    by_cases c3:b > (rs.length:Int)
    ·rw [decide_eq_true c3]
     simp only [Bool.not_true,Bool.and_self,cond_true,cond_false]
     exact ⟨trivial,trivial,trivial,by simp⟩
    ·rw [decide_eq_false c3,decide_eq_true (show b≤(rs.length:Int) by omega),k1,l1]
     simp only [Bool.not_true,Bool.and_self,cond_false]
     exact ⟨trivial,trivial,l3.trans k3.symm,by rw [k2];exact hl⟩
   ·rw [decide_eq_true c1,decide_eq_false c2,decide_eq_false (show ¬ a<0 by omega),decide_eq_true (show a > b by omega)]
    simp only [Bool.not_true,Bool.not_false,Bool.and_false,Bool.and_self,cond_true,cond_false]
    exact ⟨trivial,trivial,trivial,by simp⟩
  ·rw [decide_eq_false c1,decide_eq_true (show a<0 by omega)]
   simp only [Bool.not_true,Bool.not_false,Bool.false_and,Bool.and_self,cond_true,cond_false]
   exact ⟨trivial,trivial,trivial,by simp⟩
theorem same53 (vs rs ps:List AV) (a b:Int) (h1:vs.length≤1048576) (h2:rs.length≤1048576) (h3:ps.length≤1048576) (hN:N2 ps) :
  (q53 vs rs ps a b=true∧q46 vs rs ps a b=true)∧(v46_0 vs rs ps a b=v53_0 vs rs ps a b∧v46_1 vs rs ps a b=v53_1 vs rs ps a b∧v46_2 vs rs ps a b=v53_2 vs rs ps a b∧ints (v46_3 vs rs ps a b)=ints (v53_3 vs rs ps a b)) ∧
   ((v53_0 vs rs ps a b).length≤1048576∧(v53_1 vs rs ps a b).length≤1048576∧(v53_2 vs rs ps a b).length≤1048576∧(v53_3 vs rs ps a b).length≤1048576):=by
 obtain ⟨⟨x1,x2⟩,⟨x3,x4,x5,x6,x7⟩,g0,g1,g2⟩:=same70 vs rs ps a b h1 h2 h3 hN
 obtain ⟨y1,y2,y3,y4⟩:=same102 (v70_0 vs rs ps a b) (v70_1 vs rs ps a b) (v70_2 vs rs ps a b) (v70_3 vs rs ps a b) (v70_4 vs rs ps a b) g0 g1 g2
 unfold q53 q46 v53_0 v53_1 v53_2 v53_3 v46_0 v46_1 v46_2 v46_3
 rw [x1,x2,x3,x4,x5,x6,x7,y1,y2]
 exact ⟨⟨rfl,rfl⟩,⟨rfl,rfl,rfl,y3⟩,g0,g1,g2,y4⟩
theorem hasI_ints {xs ys:List AV} (h:ints xs=ints ys) (x:Int):hasI xs x=hasI ys x:=by
 have hl:xs.length=ys.length:=by rw [← ints_len xs,← ints_len ys,h]
 rw [Bool.eq_iff_iff,hasI_iff,hasI_iff]
 constructor
 ·rintro ⟨j,h1,h2,h3⟩
  exact ⟨j,h1,by omega,by rw [← el_ints h j h1 h2];exact h3⟩
 ·rintro ⟨j,h1,h2,h3⟩
  exact ⟨j,h1,by omega,by rw [el_ints h j h1 (by omega)];exact h3⟩
def pA (rows ss:List AV) (t:Int) (i:Int):Bool:=hasI rows (fI (ss.getD i.toNat .undef) 1) && v55_0 (fI (ss.getD i.toNat .undef) 0) (fI (ss.getD i.toNat .undef) 1) (fI (ss.getD i.toNat .undef) 2) (fI (ss.getD i.toNat .undef) 3) t
def dA (ss:List AV) (i:Int):AV := .int .i64 (fI (ss.getD i.toNat .undef) 1)
theorem room8 (X:List AV) (a:AV) (h:X.length≤1048577):(decide ((X.length+[a].length)*8≤140737488355328) && decide (X.length+[a].length≤140737488355328))=true:=by
 simp only [List.length_singleton,Bool.and_eq_true,decide_eq_true_eq]
 omega
theorem run9 (t:Int) (h0 h1 ss:List AV) (n:Int) (v r p h3 h4:List AV) (h5 h6:Int) (rows:List AV) (hs:ss.length≤1048576) (hr:rows.length≤1048576) :
  runW (R9_0 t h0 h1 ss n v r p h3 h4 h5 h6 rows) (((ss.length:Int) - 0).toNat+1) (0,[])=some (appF (pA rows ss t) (dA ss) ss.length 0 []):=by
 refine runW_appK (fun i ys=>(i,ys)) (fun ys=>ys) ss.length (pA rows ss t) (dA ss) (fun i ys i0 hn hl=>?_) (fun ys=>?_)
 ·have d1:decide (i<(ss.length:Int))=true:=decide_eq_true hn
  have d2:decide (0≤i)=true:=decide_eq_true i0
  simp only [R9_0,F9_0,G9_0,d1,d2,(P54 rows _ hr).1,(P54 rows _ hr).2,room8 ys _ (by omega),pA,Bool.and_self,cond_true]
  rw [wrap_in (a:=i+1) (by omega) (by omega)]
  cases hasI rows (fI (ss.getD i.toNat .undef) 1) <;> cases v55_0 (fI (ss.getD i.toNat .undef) 0) (fI (ss.getD i.toNat .undef) 1) (fI (ss.getD i.toNat .undef) 2) (fI (ss.getD i.toNat .undef) 3) t <;> rfl
 ·simp only [R9_0,F9_0,G9_0,Int.lt_irrefl,decide_false,cond_false]
theorem run8 (t:Int) (ss h0 h1 h2 h3:List AV) (h4 h5:Int) (rows rows':List AV) (hs:ss.length≤1048576) (hr:rows.length≤1048576) (he:ints rows=ints rows') :
  runW (R8_0 t ss ss.length h0 h1 h2 h3 h4 h5 rows) (((ss.length:Int) - 0).toNat+1) (0,[])=some (appF (pA rows' ss t) (dA ss) ss.length 0 []):=by
 refine runW_appK (fun i ys=>(i,ys)) (fun ys=>ys) ss.length (pA rows' ss t) (dA ss) (fun i ys i0 hn hl=>?_) (fun ys=>?_)
 ·have d1:decide (i<(ss.length:Int))=true:=decide_eq_true hn
  have d2:decide (0≤i)=true:=decide_eq_true i0
  have e44:∀ a b c d:Int,v47_0 a b c d t=v55_0 a b c d t:=fun a b c d=>rfl
  simp only [R8_0,F8_0,G8_0,d1,d2,e44,(P48 rows _ hr).1,(P48 rows _ hr).2,hasI_ints he,room8 ys _ (by omega),pA,Bool.and_self,cond_true]
  rw [wrap_in (a:=i+1) (by omega) (by omega)]
  cases hasI rows' (fI (ss.getD i.toNat .undef) 1) <;> cases v55_0 (fI (ss.getD i.toNat .undef) 0) (fI (ss.getD i.toNat .undef) 1) (fI (ss.getD i.toNat .undef) 2) (fI (ss.getD i.toNat .undef) 3) t <;> rfl
 ·simp only [R8_0,F8_0,G8_0,Int.lt_irrefl,decide_false,cond_false]
theorem same9 (s:List AV) (n:Int) (v r p:List AV) (t a b:Int) (h0:s.length≤1048576) (h1:v.length≤1048576) (h2:r.length≤1048576) (h3:p.length≤1048576) (hN:N2 p) :
  (q9 s n v r p t a b=true∧q8 s n v r p t a b=true)∧(v8_0 s n v r p t a b=v9_0 s n v r p t a b∧v8_1 s n v r p t a b=v9_1 s n v r p t a b∧v8_2 s n v r p t a b=v9_2 s n v r p t a b∧v8_3 s n v r p t a b=v9_3 s n v r p t a b∧v8_4 s n v r p t a b=v9_4 s n v r p t a b∧v8_5 s n v r p t a b=v9_5 s n v r p t a b∧v8_6 s n v r p t a b=v9_6 s n v r p t a b) ∧
   ((v9_0 s n v r p t a b).length≤1048576∧(v9_2 s n v r p t a b).length≤1048576∧(v9_3 s n v r p t a b).length≤1048576∧(v9_4 s n v r p t a b).length≤1048576∧(v9_5 s n v r p t a b).length≤1048576):=by
 obtain ⟨e0,e1,e2,e3,e4,e5⟩:=P49 s n v r p h0 h1 h2 h3
 obtain ⟨f0,f1,f2,f3,f4,f5⟩:=P44 s n v r p h0 h1 h2 h3
 obtain ⟨⟨x1,x2⟩,⟨x3,x4,x5,x6⟩,g0,g1,g2,g3⟩:=same53 v r p a b h1 h2 h3 hN
 have g3':(v46_3 v r p a b).length≤1048576:=by rw [← ints_len,x6,ints_len];exact g3
 unfold q9 q8 v9_0 v9_1 v9_2 v9_3 v9_4 v9_5 v9_6 v8_0 v8_1 v8_2 v8_3 v8_4 v8_5 v8_6
 rw [e0,e1,e2,e3,e4,e5,f0,f1,f2,f3,f4,f5,(P50 s n v r p h0 h1 h2 h3).1,(P50 s n v r p h0 h1 h2 h3).2,(P17 s n v r p h0 h1 h2 h3).1,(P17 s n v r p h0 h1 h2 h3).2,isR_eq,v52,x1,x2,x3,x4,x5,run9 _ _ _ _ _ _ _ _ _ _ _ _ _ h0 g3,run8 _ _ _ _ _ _ _ _ _ _ h0 g3' x6]
 have hla:=appF_len (p:=pA (v53_3 v r p a b) s t) (c:=dA s) s.length 0 []
 simp only [List.length_nil] at hla
 cases isS s n v r p with
 | false =>
  simp only [Bool.not_false,cond_true,Bool.and_self]
  exact ⟨⟨trivial,trivial⟩,⟨trivial,trivial,trivial,trivial,trivial,trivial,trivial⟩,h0,h1,h2,h3,by simp⟩
 | true =>
  cases v51_0 a b with
  | false =>
   simp only [Bool.not_false,Bool.not_true,cond_true,cond_false,Bool.and_self]
   exact ⟨⟨trivial,trivial⟩,⟨trivial,trivial,trivial,trivial,trivial,trivial,trivial⟩,h0,h1,h2,h3,by simp⟩
  | true =>
   by_cases c1:0≤t
   ·rw [decide_eq_true c1,decide_eq_false (show ¬ t<0 by omega)]
    by_cases c2:t≤n
    ·rw [decide_eq_true c2,decide_eq_false (show ¬ t > n by omega)]
     simp only [Bool.not_true,cond_false,Bool.and_self,ro]
     exact ⟨⟨trivial,trivial⟩,⟨trivial,trivial,trivial,trivial,trivial,trivial,trivial⟩,h0,g0,g1,g2,by omega⟩
    ·rw [decide_eq_false c2,decide_eq_true (show t > n by omega)]
     simp only [Bool.not_true,Bool.not_false,Bool.and_false,cond_true,cond_false,Bool.and_self]
     exact ⟨⟨trivial,trivial⟩,⟨trivial,trivial,trivial,trivial,trivial,trivial,trivial⟩,h0,h1,h2,h3,by simp⟩
   ·rw [decide_eq_false c1,decide_eq_true (show t<0 by omega)]
    simp only [Bool.not_true,Bool.not_false,Bool.false_and,cond_true,cond_false,Bool.and_self]
    exact ⟨⟨trivial,trivial⟩,⟨trivial,trivial,trivial,trivial,trivial,trivial,trivial⟩,h0,h1,h2,h3,by simp⟩
theorem isSome_iff (ps:List AV) (v:Int):(findP ps v).isSome=true ↔ ∃ p ∈ ps,fI p 0=v:=by
 constructor
 ·intro h
  obtain ⟨j,hj⟩:=Option.isSome_iff_exists.1 h
  unfold findP at hj
  obtain ⟨h1,h2,h3⟩:=findF_some _ _ hj
  exact ⟨_,mem_at h1 (by omega),of_decide_eq_true h3⟩
 ·rintro ⟨p,hp,e⟩
  cases hf:(findP ps v).isSome with
  | true=>rfl
  | false =>
   obtain ⟨k,hk,rfl⟩:=List.mem_iff_getElem.1 hp
   have:=findP_none hf k (by omega) (by omega)
   unfold el at this
   rw [show ((k:Int)).toNat=k by omega,List.getD_eq_getElem?_getD,List.getElem?_eq_getElem hk] at this
   exact absurd e this
theorem mem_ins {ps:List AV} {v a:Int} {p:AV}:p ∈ insP ps v a ↔ p=mk2 v a∨p ∈ ps:=by
 unfold insP
 rw [List.mem_append,List.mem_append,List.mem_singleton]
 constructor
 ·rintro ((h|h)|h)
  ·exact .inr (List.mem_of_mem_take h)
  ·exact .inl h
  ·exact .inr (List.mem_of_mem_drop h)
 ·rintro (h|h)
  ·exact .inl (.inr h)
  ·rw [← List.take_append_drop (place ps v).toNat ps,List.mem_append] at h
   rcases h with h|h
   ·exact .inl (.inl h)
   ·exact .inr h
end Go.Proofs.YtbmfgibbjchijaaGreat

namespace Go.Proofs.YtbmfgibbjchijaaGreat
open Go Go.Proofs.VE
set_option linter.unusedVariables false
set_option linter.unusedSimpArgs false
structure Rp (vs rs ps:List AV) (x:Int) (s:S6) (τ:Int→Int):Prop where
 lv:s.2.2.2.1.length=vs.length+1
 lr:s.2.2.2.2.1.length=vs.length+1
 lp:s.2.2.2.2.2.length=ps.length
 k0 : -1≤s.2.2.1
 k1:s.2.2.1<ps.length
 m0:0≤s.2.1
 m1:s.2.1+s.2.2.1+1≤ps.length
 h0:0≤s.1
 h1:s.1≤vs.length
 hk:∀ q:Int,0≤q→q≤s.2.2.1→pat ps q≤s.1
 hq:∀ q:Int,s.2.2.1<q→q<ps.length→s.1≤pat ps q∧x<el ps q
 pq:∀ q:Int,0≤q→q<ps.length→el s.2.2.2.2.2 q=el ps q∧pat s.2.2.2.2.2 q=if s.2.2.1<q then pat ps q+1 else pat ps q
 n2:N2 s.2.2.2.2.2
 lo:∀ i:Int,0≤i→i<s.1→el s.2.2.2.1 i=el vs i∧el s.2.2.2.2.1 i=el rs i
 up:∀ i:Int,s.1<i→i≤vs.length→s.1≤τ i∧τ i<vs.length∧el s.2.2.2.1 i=el vs (τ i)∧el s.2.2.2.2.1 i=el rs (τ i)∧∀ q:Int,s.2.2.1<q→q<ps.length→(i<pat ps q+1 ↔ τ i<pat ps q)
 on:∀ j:Int,s.1≤j→j<vs.length→∃ i,s.1<i∧i≤vs.length∧τ i=j
 inj:∀ i i':Int,s.1<i→i≤vs.length→s.1<i'→i'≤vs.length→τ i=τ i'→i=i'
theorem pat_set {P:List AV} {i:Nat} {a b:Int} (h:i<P.length) (q:Int) (q0:0≤q):pat (P.set i (mk2 a b)) q=(if q=i then b else pat P q)∧el (P.set i (mk2 a b)) q=if q=i then a else el P q:=by
 unfold pat el
 by_cases e:q=i
 ·rw [if_pos e,if_pos e,show q.toNat=i by omega,getD_set h]
  exact ⟨rfl,rfl⟩
 ·rw [if_neg e,if_neg e,getD_set_ne (by omega)]
  exact ⟨rfl,rfl⟩
theorem N2.set {P:List AV} (h:N2 P) (i:Nat) (a b:Int):N2 (P.set i (mk2 a b)):=fun x hx=>by
 rcases List.mem_or_eq_of_mem_set hx with hx|rfl
 ·exact h x hx
 ·rfl
theorem stepRp {vs rs ps:List AV} (hc:Col vs rs ps) (x row:Int) (s:S6) (τ:Int→Int) (h:Rp vs rs ps x s τ) :
  (∃ s' τ',R161_0 x row s = .next s'∧Rp vs rs ps x s' τ'∧(s'.2.2.1+1).toNat<(s.2.2.1+1).toNat) ∨
  (R161_0 x row s = .stop (s.1,s.2.1,s.2.2.2.1,s.2.2.2.2.1,s.2.2.2.2.2)∧∀ q:Int,0≤q→q≤s.2.2.1→el ps q≤x):=by
 obtain ⟨h,mv,k,V,R,P⟩:=s
 obtain ⟨lv,lr,lp,k0,k1,m0,m1,h0,h1,hk,hq,pq,n2,lo,up,on,inj⟩:=h
 simp only at lv lr lp k0 k1 m0 m1 h0 h1 hk hq pq n2 lo up on inj
 have n64:=hc.n64
 have few:=col_few hc
 by_cases ck:k ≥ 0
 ·have dk1:decide (k ≥ 0)=true:=decide_eq_true ck
  have dk2:decide (0≤k)=true:=decide_eq_true ck
  have dk3:decide (k<(P.length:Int))=true:=decide_eq_true (by omega)
  obtain ⟨pv,pa⟩:=pq k ck k1
  rw [if_neg (by omega)] at pa
  have ev:fI (P.getD k.toNat AV.undef) 0=el ps k:=pv
  have ea:fI (P.getD k.toNat AV.undef) 1=pat ps k:=pa
  by_cases hv:el ps k > x
  ·have dv:decide (el ps k > x)=true:=decide_eq_true hv
   obtain ⟨b0,b1⟩:=hc.pa k ck k1
   have ah:=hk k ck (Int.le_refl _)
   have wk_:IntKind.i64.wrap (k - 1)=k - 1:=wrap_in (by omega) (by omega)
   have wa:IntKind.i64.wrap (pat ps k+1)=pat ps k+1:=wrap_in (by omega) (by omega)
   have hkN:k.toNat<P.length:=by omega
   have pq':∀ q:Int,0≤q→q<ps.length→el (P.set k.toNat (mk2 (el ps k) (pat ps k+1))) q=el ps q∧pat (P.set k.toNat (mk2 (el ps k) (pat ps k+1))) q=if k - 1<q then pat ps q+1 else pat ps q:=fun q q0 q1=>by
    obtain ⟨z1,z2⟩:=pat_set (a:=el ps k) (b:=pat ps k+1) hkN q q0
    rw [z1,z2]
    obtain ⟨w1,w2⟩:=pq q q0 q1
    by_cases e:q=k
    ·subst e
     rw [if_pos (by omega),if_pos (by omega),if_pos (by omega)]
     exact ⟨rfl,rfl⟩
    ·rw [if_neg (by omega),if_neg (by omega),w1,w2]
     refine ⟨rfl,?_⟩
     by_cases e2:k<q
     ·rw [if_pos e2,if_pos (by omega)]
     ·rw [if_neg e2,if_neg (by omega)]
   have hk':∀ q:Int,0≤q→q≤k - 1→pat ps q≤pat ps k:=fun q q0 q1=>(hc.lt (i:=q) (j:=k) q0 (by omega) k1).2
   have hq':∀ q:Int,k - 1<q→q<ps.length→pat ps k≤pat ps q∧x<el ps q:=fun q q0 q1=>by
    by_cases e:q=k
    ·subst e;exact ⟨Int.le_refl _,hv⟩
    ·have:=hc.lt (i:=k) (j:=q) ck (by omega) q1
     have:=(hq q (by omega) q1).2
     exact ⟨by omega,this⟩
   by_cases ha:pat ps k=h
   ·have da:decide (pat ps k=h)=true:=decide_eq_true ha
    have wm:IntKind.i64.wrap (mv+0)=mv:=by rw [wrap_in (by omega) (by omega),Int.add_zero]
    refine .inl ⟨(pat ps k,mv,k - 1,V,R,P.set k.toNat (mk2 (el ps k) (pat ps k+1))),τ,?_,⟨lv,lr,by simp only [List.length_set];exact lp,by simp only;omega,by simp only;omega,m0,by simp only;omega,by simp only;omega,by simp only;omega,hk',hq',pq',n2.set _ _ _,by simp only;rw [ha];exact lo,?_,by simp only;rw [ha];exact on,by simp only;rw [ha];exact inj⟩,by simp only;omega⟩
    ·show F161_0 x row h mv k V R P=_
     unfold F161_0 G161_0
     rw [dk1,dk3,ev,dv,ea,da,wm,wk_,wa]
     rfl
    ·simp only
     intro i i0 i1
     rw [ha] at i0
     obtain ⟨u1,u2,u3,u4,u5⟩:=up i i0 i1
     refine ⟨by omega,u2,u3,u4,fun q q0 q1=>?_⟩
     by_cases e:q=k
     ·subst e
      constructor <;> intro <;> omega
     ·exact u5 q (by omega) q1
   ·have da:decide (pat ps k=h)=false:=decide_eq_false ha
    have c1:decide (0≤pat ps k)=true:=decide_eq_true b0
    have c2:decide (pat ps k<(V.length:Int))=true:=decide_eq_true (by omega)
    have c3:decide (pat ps k<(R.length:Int))=true:=decide_eq_true (by omega)
    have c4:decide (0≤h)=true:=decide_eq_true h0
    have c5:decide (h<(V.length:Int))=true:=decide_eq_true (by omega)
    have c6:decide (h<(R.length:Int))=true:=decide_eq_true (by omega)
    have wm:IntKind.i64.wrap (mv+1)=mv+1:=wrap_in (by omega) (by omega)
    have eV:∀ i:Int,0≤i→el (V.set h.toNat (AV.agg [AV.int .i64 (fI (V.getD (pat ps k).toNat AV.undef) 0)])) i=if i=h then el V (pat ps k) else el V i:=fun i i0=>el_set V h i _ h0 (by omega) i0
    have eR:∀ i:Int,0≤i→el (R.set h.toNat (AV.agg [AV.int .i64 (fI (R.getD (pat ps k).toNat AV.undef) 0)])) i=if i=h then el R (pat ps k) else el R i:=fun i i0=>el_set R h i _ h0 (by omega) i0
    obtain ⟨la,lb⟩:=lo (pat ps k) b0 (by omega)
    refine .inl ⟨(pat ps k,mv+1,k - 1,V.set h.toNat (AV.agg [AV.int .i64 (fI (V.getD (pat ps k).toNat AV.undef) 0)]),R.set h.toNat (AV.agg [AV.int .i64 (fI (R.getD (pat ps k).toNat AV.undef) 0)]),P.set k.toNat (mk2 (el ps k) (pat ps k+1))),
     fun i=>if i<h then i else if i=h then pat ps k else τ i,?_,⟨by simp only [List.length_set];exact lv,by simp only [List.length_set];exact lr,by simp only [List.length_set];exact lp,by simp only;omega,by simp only;omega,by simp only;omega,by simp only;omega,b0,by simp only;omega,hk',hq',pq',n2.set _ _ _,?_,?_,?_,?_⟩,by simp only;omega⟩
    ·show F161_0 x row h mv k V R P=_
     unfold F161_0 G161_0
     rw [dk1,dk3,ev,dv,ea,da,c1,c2,c3,c4,c5,c6,wm,wk_,wa]
     rfl
    ·simp only
     intro i i0 i1
     rw [eV i i0,eR i i0,if_neg (by omega),if_neg (by omega)]
     exact lo i i0 (by omega)
    ·simp only
     intro i i0 i1
     rw [eV i (by omega),eR i (by omega)]
     rcases Int.lt_trichotomy i h with c|c|c
     ·rw [if_pos c,if_neg (by omega),if_neg (by omega)]
      obtain ⟨p1,p2⟩:=lo i (by omega) c
      refine ⟨by omega,by omega,p1,p2,fun q q0 q1=>?_⟩
      by_cases e:q=k
      ·subst e
       constructor <;> intro <;> omega
      ·have:=(hq q (by omega) q1).1
       constructor <;> intro <;> omega
     ·rw [if_neg (by omega),if_pos c,if_pos c,if_pos c]
      refine ⟨Int.le_refl _,by omega,la,lb,fun q q0 q1=>?_⟩
      by_cases e:q=k
      ·subst e
       constructor <;> intro <;> omega
      ·have:=(hq q (by omega) q1).1
       constructor <;> intro <;> omega
     ·rw [if_neg (by omega),if_neg (by omega),if_neg (by omega),if_neg (by omega)]
      obtain ⟨u1,u2,u3,u4,u5⟩:=up i c i1
      refine ⟨by omega,u2,u3,u4,fun q q0 q1=>?_⟩
      by_cases e:q=k
      ·subst e
       constructor <;> intro <;> omega
      ·exact u5 q (by omega) q1
    ·simp only
     intro j j0 j1
     rcases Int.lt_trichotomy j h with c|c|c
     ·by_cases e:j=pat ps k
      ·exact ⟨h,by omega,h1,by rw [if_neg (by omega),if_pos rfl,e]⟩
      ·exact ⟨j,by omega,by omega,by rw [if_pos c]⟩
     ·obtain ⟨i,i0,i1,i2⟩:=on j (by omega) j1
      exact ⟨i,by omega,i1,by rw [if_neg (by omega),if_neg (by omega)];exact i2⟩
     ·obtain ⟨i,i0,i1,i2⟩:=on j (by omega) j1
      exact ⟨i,by omega,i1,by rw [if_neg (by omega),if_neg (by omega)];exact i2⟩
    ·simp only
     intro i i' i0 i1 i2 i3 he
     have ui:h<i→h≤τ i:=fun c=>(up i c i1).1
     have ui':h<i'→h≤τ i':=fun c=>(up i' c i3).1
     rcases Int.lt_trichotomy i h with c|c|c <;> rcases Int.lt_trichotomy i' h with d|d|d
     ·rw [if_pos c,if_pos d] at he;exact he
     ·rw [if_pos c,if_neg (by omega),if_pos d] at he;omega
     ·rw [if_pos c,if_neg (by omega),if_neg (by omega)] at he;have:=ui' d;omega
     ·rw [if_neg (by omega),if_pos c,if_pos d] at he;omega
     ·omega
     ·rw [if_neg (by omega),if_pos c,if_neg (by omega),if_neg (by omega)] at he;have:=ui' d;omega
     ·rw [if_neg (by omega),if_neg (by omega),if_pos d] at he;have:=ui c;omega
     ·rw [if_neg (by omega),if_neg (by omega),if_neg (by omega),if_pos d] at he;have:=ui c;omega
     ·rw [if_neg (by omega),if_neg (by omega),if_neg (by omega),if_neg (by omega)] at he;exact inj i i' c i1 d i3 he
  ·have dv:decide (el ps k > x)=false:=decide_eq_false hv
   refine .inr ⟨?_,fun q q0 q1=>?_⟩
   ·show F161_0 x row h mv k V R P=_
    unfold F161_0 G161_0
    rw [dk1,dk3,ev,dv]
    rfl
   ·simp only at q1
    by_cases e:q=k
    ·subst e;omega
    ·have:=(hc.lt (i:=q) (j:=k) q0 (by omega) k1).1
     omega
 ·have dk1:decide (k ≥ 0)=false:=decide_eq_false ck
  refine .inr ⟨?_,fun q q0 q1=>by simp only at q1;omega⟩
  show F161_0 x row h mv k V R P=_
  unfold F161_0 G161_0
  rw [dk1]
  rfl
theorem runRp {vs rs ps:List AV} (hc:Col vs rs ps) (x row:Int):∀ (f:Nat) (s:S6) (τ:Int→Int),Rp vs rs ps x s τ→(s.2.2.1+1).toNat<f→∃ s' τ',runW (R161_0 x row) f s=some (s'.1,s'.2.1,s'.2.2.2.1,s'.2.2.2.2.1,s'.2.2.2.2.2)∧Rp vs rs ps x s' τ'∧∀ q:Int,0≤q→q≤s'.2.2.1→el ps q≤x
 | 0,s,τ,_,h=>by omega
 | f+1,s,τ,hI,hf=>by
  rcases stepRp hc x row s τ hI with ⟨s1,τ1,e,h1,h2⟩|⟨e,h1⟩
  ·obtain ⟨s',τ',g1,g2,g3⟩:=runRp hc x row f s1 τ1 h1 (by omega)
   refine ⟨s',τ',?_,g2,g3⟩
   show (R161_0 x row s).el none _ some=_
   rw [e]
   exact g1
  ·refine ⟨s,τ,?_,hI,h1⟩
   show (R161_0 x row s).el none _ some=_
   rw [e]
   rfl
structure Rin (vs rs ps:List AV) (x row:Int) (V R P:List AV):Prop where
 col:Col V R P
 two:N2 P
 lv:V.length=vs.length+1
 old:∀ j:Int,0≤j→j<vs.length→∃ i:Int,0≤i∧i<V.length∧el V i=el vs j∧el R i=el rs j
 new:∃ i:Int,0≤i∧i<V.length∧el V i=x∧el R i=row
theorem rin_of {vs rs ps:List AV} (hc:Col vs rs ps) {x row:Int} (hx : -999≤x∧x≤999) (hr:0≤row∧row≤999) (hn:∀ j:Int,0≤j→j<rs.length→el rs j ≠ row) (h64:vs.length<64) {s:S6} {τ:Int→Int} (h:Rp vs rs ps x s τ) (hst:∀ q:Int,0≤q→q≤s.2.2.1→el ps q≤x) :
  Rin vs rs ps x row (s.2.2.2.1.set s.1.toNat (AV.agg [AV.int .i64 x])) (s.2.2.2.2.1.set s.1.toNat (AV.agg [AV.int .i64 row])) s.2.2.2.2.2:=by
 obtain ⟨h,mv,k,V,R,P⟩:=s
 obtain ⟨lv,lr,lp,k0,k1,m0,m1,h0,h1,hk,hq,pq,n2,lo,up,on,inj⟩:=h
 simp only at lv lr lp k0 k1 m0 m1 h0 h1 hk hq pq n2 lo up on inj hst ⊢
 have hl:=hc.len
 have eV:∀ i:Int,0≤i→el (V.set h.toNat (AV.agg [AV.int .i64 x])) i=if i=h then x else el V i:=fun i i0=>el_set V h i x h0 (by omega) i0
 have eR:∀ i:Int,0≤i→el (R.set h.toNat (AV.agg [AV.int .i64 row])) i=if i=h then row else el R i:=fun i i0=>el_set R h i row h0 (by omega) i0
 have at_:∀ i:Int,0≤i→i≤vs.length→i ≠ h→∃ j:Int,0≤j∧j<vs.length∧el V i=el vs j∧el R i=el rs j∧(i<h∧j=i∨h<i∧h≤j∧j=τ i):=fun i i0 i1 ih=>by
  rcases Int.lt_trichotomy i h with c|c|c
  ·obtain ⟨p1,p2⟩:=lo i i0 c
   exact ⟨i,i0,by omega,p1,p2,.inl ⟨c,rfl⟩⟩
  ·exact absurd c ih
  ·obtain ⟨u1,u2,u3,u4,u5⟩:=up i c i1
   exact ⟨τ i,by omega,u2,u3,u4,.inr ⟨c,u1,rfl⟩⟩
 refine ⟨⟨?_,?_,?_,?_,?_,?_,?_,?_,?_⟩,n2,by rw [List.length_set];exact lv,?_,?_⟩
 ·rw [List.length_set];omega
 ·intro i i0 i1
  rw [List.length_set] at i1
  rw [eV i i0]
  by_cases e:i=h
  ·rw [if_pos e];exact hx
  ·rw [if_neg e]
   obtain ⟨j,j0,j1,e1,e2,_⟩:=at_ i i0 (by omega) e
   rw [e1];exact hc.vals j j0 j1
 ·rw [List.length_set,List.length_set];omega
 ·intro i i0 i1
  rw [List.length_set] at i1
  rw [eR i i0]
  by_cases e:i=h
  ·rw [if_pos e];exact hr
  ·rw [if_neg e]
   obtain ⟨j,j0,j1,e1,e2,_⟩:=at_ i i0 (by omega) e
   rw [e2];exact hc.rows j j0 (by omega)
 ·intro i i' i0 ii i1
  rw [List.length_set] at i1
  rw [eR i i0,eR i' (by omega)]
  have ne:∀ j j':Int,0≤j→j<rs.length→0≤j'→j'<rs.length→j ≠ j'→el rs j ≠ el rs j':=fun j j' a b c d e=>by
   rcases Int.lt_or_gt_of_ne e with f|f
   ·exact hc.dist j j' a f d
   ·exact fun g=>hc.dist j' j c f b g.symm
  by_cases e:i=h
  ·rw [if_pos e,if_neg (by omega)]
   obtain ⟨j,j0,j1,e1,e2,_⟩:=at_ i' (by omega) (by omega) (by omega)
   rw [e2]
   exact fun g=>hn j j0 (by omega) g.symm
  ·rw [if_neg e]
   obtain ⟨j,j0,j1,e1,e2,e3⟩:=at_ i i0 (by omega) e
   rw [e2]
   by_cases e':i'=h
   ·rw [if_pos e']
    exact hn j j0 (by omega)
   ·rw [if_neg e']
    obtain ⟨j',j0',j1',e1',e2',e3'⟩:=at_ i' (by omega) (by omega) e'
    rw [e2']
    refine ne j j' j0 (by omega) j0' (by omega) fun g=>?_
    rcases e3 with ⟨a1,a2⟩|⟨a1,a2,a3⟩ <;> rcases e3' with ⟨b1,b2⟩|⟨b1,b2,b3⟩
    ·omega
    ·omega
    ·omega
    ·have:=inj i i' a1 (by omega) b1 (by omega) (by rw [← a3,← b3];exact g)
     omega
 ·intro q q0 q1
  rw [(pq q q0 (by omega)).1]
  exact hc.pv q q0 (by omega)
 ·intro q q0 q1
  rw [(pq q q0 (by omega)).2,List.length_set]
  have:=hc.pa q q0 (by omega)
  split <;> omega
 ·intro q q0 q1
  rw [(pq q (by omega) (by omega)).1,(pq q (by omega) (by omega)).2,(pq (q - 1) (by omega) (by omega)).1,(pq (q - 1) (by omega) (by omega)).2]
  have:=hc.asc q q0 (by omega)
  refine ⟨this.1,?_⟩
  split <;> split <;> omega
 ·intro q q0 q1 i i0 i1
  rw [List.length_set] at i1
  rw [(pq q q0 (by omega)).1,(pq q q0 (by omega)).2,eV i i0]
  by_cases kq:k<q
  ·rw [if_pos kq]
   obtain ⟨z1,z2⟩:=hq q kq (by omega)
   by_cases e:i=h
   ·rw [if_pos e]
    constructor <;> intro <;> omega
   ·rw [if_neg e]
    rcases Int.lt_or_gt_of_ne e with c|c
    ·rw [(lo i i0 c).1]
     have:=hc.part q q0 (by omega) i i0 (by omega)
     constructor
     ·intro;omega
     ·intro;exact this.2 (by omega)
    ·obtain ⟨u1,u2,u3,u4,u5⟩:=up i c (by omega)
     rw [u3,hc.part q q0 (by omega) (τ i) (by omega) u2]
     exact (u5 q kq (by omega)).symm
  ·rw [if_neg kq]
   have z1:=hk q q0 (by omega)
   have z2:=hst q q0 (by omega)
   by_cases e:i=h
   ·rw [if_pos e]
    constructor <;> intro <;> omega
   ·rw [if_neg e]
    rcases Int.lt_or_gt_of_ne e with c|c
    ·rw [(lo i i0 c).1]
     exact hc.part q q0 (by omega) i i0 (by omega)
    ·obtain ⟨u1,u2,u3,u4,u5⟩:=up i c (by omega)
     rw [u3,hc.part q q0 (by omega) (τ i) (by omega) u2]
     constructor <;> intro <;> omega
 ·intro j j0 j1
  rcases Int.lt_or_le j h with c|c
  ·refine ⟨j,j0,by rw [List.length_set];omega,?_⟩
   rw [eV j j0,eR j j0,if_neg (by omega),if_neg (by omega)]
   exact lo j j0 c
  ·obtain ⟨i,i0,i1,i2⟩:=on j c j1
   obtain ⟨u1,u2,u3,u4,u5⟩:=up i i0 i1
   refine ⟨i,by omega,by rw [List.length_set];omega,?_⟩
   rw [eV i (by omega),eR i (by omega),if_neg (by omega),if_neg (by omega),u3,u4,i2]
   exact ⟨rfl,rfl⟩
 ·refine ⟨h,h0,by rw [List.length_set];omega,?_⟩
  rw [eV h h0,eR h h0,if_pos rfl,if_pos rfl]
  exact ⟨rfl,rfl⟩
end Go.Proofs.YtbmfgibbjchijaaGreat

namespace Go.Proofs.YtbmfgibbjchijaaGreat
open Go Go.Proofs.VE
set_option linter.unusedVariables false
set_option linter.unusedSimpArgs false
theorem rowK_neg {rs:List AV} {x:Int} (h:rowK rs x<0):∀ j:Int,0≤j→j<rs.length→el rs j ≠ x:=fun j j0 j1 e=>by
 unfold rowK at h
 cases hf:findF (fun i=>decide (fI (rs.getD i.toNat .undef) 0=x)) rs.length 0 with
 | none =>
  have:=(findF_isNone _ _).1 (by rw [hf];rfl) j j0 (by omega)
  exact of_decide_eq_false this e
 | some i =>
  obtain ⟨h1,_,_⟩:=findF_some _ _ hf
  rw [hf] at h
  simp only [ro,id] at h
  omega
theorem rowK_some {rs:List AV} {x:Int} (h:0≤rowK rs x):rowK rs x<rs.length∧el rs (rowK rs x)=x:=by
 unfold rowK at h ⊢
 cases hf:findF (fun i=>decide (fI (rs.getD i.toNat .undef) 0=x)) rs.length 0 with
 | none=>rw [hf] at h;simp [ro] at h
 | some i =>
  obtain ⟨h1,h2,h3⟩:=findF_some _ _ hf
  simp only [ro,id]
  exact ⟨by omega,of_decide_eq_true h3⟩
theorem rowK_at {vs rs ps:List AV} (hc:Col vs rs ps) {i:Int} (i0:0≤i) (i1:i<rs.length):rowK rs (el rs i)=i:=by
 have hn:0≤rowK rs (el rs i):=by
  rcases Int.lt_or_le (rowK rs (el rs i)) 0 with h|h
  ·exact absurd rfl (rowK_neg h i i0 i1)
  ·exact h
 obtain ⟨h1,h2⟩:=rowK_some hn
 rcases Int.lt_trichotomy (rowK rs (el rs i)) i with c|c|c
 ·exact absurd h2 (hc.dist _ _ hn c i1)
 ·exact c
 ·exact absurd h2.symm (hc.dist _ _ i0 c h1)
def g (s:List AV) (i:Int) (j:Nat):Int:=fI (s.getD i.toNat .undef) j
structure Ok1 (v r s:List AV) (n i:Int):Prop where
 row:0≤rowK r (g s i 1)
 val:el v (rowK r (g s i 1))=g s i 0
 asc:0<i→g s (i - 1) 1<g s i 1
 b0:0≤g s i 2
 b1:g s i 2≤n
 d:g s i 3 = -1∨g s i 2<g s i 3∧g s i 3≤n
theorem badS_iff (v r s:List AV) (n i:Int):badS v r s n i=false ↔ Ok1 v r s n i:=by
 unfold badS badT
 simp only [Bool.or_eq_false_iff,Bool.and_eq_false_iff,decide_eq_false_iff_not,Bool.not_eq_false',decide_eq_true_eq,Bool.and_eq_true]
 constructor
 ·rintro ⟨h1,h2,h3,h4,h5⟩
  refine ⟨by unfold g;omega,h2,fun hi=>?_,h4.1,h4.2,?_⟩
  ·rcases h3 with h3|h3
   ·omega
   ·unfold g;omega
  ·unfold g
   rcases h5 with h5|h5
   ·exact .inl h5
   ·exact .inr ⟨by omega,h5.2⟩
 ·rintro ⟨h1,h2,h3,h4,h5,h6⟩
  unfold g at *
  refine ⟨by omega,h2,?_,⟨h4,h5⟩,?_⟩
  ·by_cases hi:0<i
   ·have:=h3 hi
    exact .inr (by omega)
   ·exact .inl (by omega)
  ·rcases h6 with h6|h6
   ·exact .inl h6
   ·exact .inr ⟨by omega,h6.2⟩
theorem isS_iff (s:List AV) (n:Int) (v r p:List AV):isS s n v r p=true ↔ isC v r p=true∧(s.length:Int)=v.length∧(0≤n∧n≤1000)∧∀ i:Int,0≤i→i<s.length→Ok1 v r s n i:=by
 unfold isS
 simp only [Bool.and_eq_true,decide_eq_true_eq,noneB_iff,badS_iff]
theorem g_app {s:List AV} {y:AV} {i:Int} {j:Nat} (i0:0≤i):g (s++[y]) i j=if i<s.length then g s i j else if i=s.length then fI y j else fI .undef j:=by
 unfold g
 by_cases h:i<s.length
 ·rw [if_pos h,List.getD_eq_getElem?_getD,List.getElem?_append_left (by omega),List.getD_eq_getElem?_getD]
 ·rw [if_neg h,List.getD_eq_getElem?_getD,List.getElem?_append_right (by omega)]
  by_cases e:i=s.length
  ·rw [if_pos e,show i.toNat - s.length=0 by omega]
   rfl
  ·rw [if_neg e,List.getElem?_eq_none (by simp;omega)]
   rfl
theorem asc_rows {v r s:List AV} {n:Int} (h:∀ i:Int,0≤i→i<s.length→Ok1 v r s n i):∀ (m:Nat) (i:Int),0≤i→i+m<s.length→g s i 1+m≤g s (i+m) 1
 | 0,i,_,_=>by simp
 | m+1,i,i0,hm=>by
  have h1:=asc_rows h m i i0 (by omega)
  have h2:=(h (i+((m+1:Nat):Int)) (by omega) hm).asc (by omega)
  rw [show i+((m+1:Nat):Int) - 1=i+m by omega] at h2
  omega
theorem rows_lt {v r s:List AV} {n:Int} (h:∀ i:Int,0≤i→i<s.length→Ok1 v r s n i) {i j:Int} (i0:0≤i) (ij:i<j) (j1:j<s.length):g s i 1<g s j 1:=by
 have:=asc_rows h (j - i).toNat i i0 (by omega)
 rw [show i+((j - i).toNat:Int)=j by omega] at this
 omega
def lv (s:List AV) (i:Int):Bool:=decide (fI (s.getD i.toNat .undef) 3 = -1)
theorem appF_congr {p p':Int→Bool} {c c':Int→AV}:∀ (m:Nat) (i:Int) (ys:List AV),(∀ j,i≤j→j<i+m→p j=p' j∧c j=c' j)→appF p c m i ys=appF p' c' m i ys
 | 0,_,_,_=>rfl
 | m+1,i,ys,h=>by
  obtain ⟨h1,h2⟩:=h i (Int.le_refl _) (by omega)
  show appF p c m (i+1) (bif p i then ys++[c i] else ys)=appF p' c' m (i+1) (bif p' i then ys++[c' i] else ys)
  rw [h1,h2]
  exact appF_congr m (i+1) _ fun j j0 j1=>h j (by omega) (by omega)
theorem appF_back {p:Int→Bool} {c:Int→AV}:∀ (m:Nat) (i:Int) (ys:List AV),appF p c (m+1) i ys=bif p (i+m) then appF p c m i ys++[c (i+m)] else appF p c m i ys
 | 0,i,ys=>by
  show (bif p i then ys++[c i] else ys)=bif p (i+0) then ys++[c (i+0)] else ys
  rw [Int.add_zero]
 | m+1,i,ys=>by
  show appF p c (m+1) (i+1) (bif p i then ys++[c i] else ys)=_
  rw [appF_back m (i+1),show i+1+(m:Int)=i+((m+1:Nat):Int) by omega]
  rfl
def cnt (p:Int→Bool):Nat→Int→Nat
 | 0,_=>0
 | m+1,i=>cnt p m (i+1)+(bif p i then 1 else 0)
theorem el_snoc (xs:List AV) (y:AV) {i:Int} (i0:0≤i) (i1:i<xs.length):el (xs++[y]) i=el xs i:=by
 unfold el
 rw [List.getD_eq_getElem?_getD,List.getElem?_append_left (by omega),List.getD_eq_getElem?_getD]
theorem rip48 {vs rs ps:List AV} {x row:Int} (h1:vs.length≤1048576) (h2:rs.length≤1048576) (h3:ps.length≤1048576) (hN:N2 ps) (h:v161_4 vs rs ps x row=true) :
  Rin vs rs ps x row (v161_0 vs rs ps x row) (v161_1 vs rs ps x row) (v161_2 vs rs ps x row):=by
 obtain ⟨a1,a2,a3,a4⟩:=P69 vs rs ps h1 h2 h3
 have e53:v101_0 vs rs ps row=rowK rs row:=(P101 vs rs ps row h2).2.trans (P83 rs row h2).2
 unfold v161_4 at h
 unfold v161_0 v161_1 v161_2
 rw [(P68 vs rs ps h1 h2 h3).2,e53] at h ⊢
 cases hc:isC vs rs ps with
 | false=>rw [hc] at h;cases h
 | true =>
  rw [hc] at h
  cases hi:v190_0 x row with
  | false=>rw [hi] at h;cases h
  | true =>
   rw [hi] at h
   by_cases hf:rowK rs row ≥ 0
   ·rw [decide_eq_true hf] at h;cases h
   ·rw [decide_eq_false hf] at h ⊢
    by_cases hl:(vs.length:Int) ≥ 64
    ·rw [decide_eq_true hl] at h;cases h
    ·rw [decide_eq_false hl,a2,a3,a4]
     have hcol:=(isC_iff vs rs ps h1).1 hc
     have hlen:=hcol.len
     have w1:IntKind.i64.wrap ((ps.length:Int) - 1)=ps.length - 1:=wrap_in (by omega) (by omega)
     have hx:(-999≤x∧x≤999)∧0≤row∧row≤999:=by
      unfold v190_0 at hi
      rw [v52,v52] at hi
      cases hb:(decide (-999≤x) && decide (x≤999)) with
      | false=>rw [hb] at hi;cases hi
      | true =>
       rw [hb] at hi
       simp only [cond_true,Bool.and_eq_true,decide_eq_true_eq] at hi hb
       exact ⟨hb,hi⟩
     have I0:Rp vs rs ps x ((vs.length:Int),0,(ps.length:Int) - 1,vs++[AV.int .i64 0],rs++[AV.int .i64 0],ps) id :=
      ⟨by simp,by simp only [List.length_append,List.length_singleton];omega,rfl,by simp only;omega,by simp only;omega,Int.le_refl 0,by simp only;omega,by simp only;omega,Int.le_refl _,fun q q0 q1=>(hcol.pa q q0 (by simp only at q1;omega)).2,fun q q0 q1=>by simp only at q0;omega,
       fun q q0 q1=>⟨rfl,by simp only;rw [if_neg (by omega)]⟩,hN,fun i i0 i1=>⟨el_snoc vs _ i0 i1,el_snoc rs _ i0 (by simp only at i1;omega)⟩,fun i i0 i1=>by simp only at i0;omega,fun j j0 j1=>by simp only at j0;omega,fun i i' i0 i1=>by simp only at i0;omega⟩
     obtain ⟨s',τ',g1,g2,g3⟩:=runRp hcol x row (((ps.length:Int) - 1 - 0+1).toNat+1) _ _ I0 (by simp only;omega)
     rw [w1,g1]
     exact rin_of hcol hx.1 hx.2 (rowK_neg (by omega)) (by omega) g2 g3
theorem badT_up {v r s:List AV} {n i:Int} {V R S:List AV} {N:Int} (o:Ok1 v r s n i) (hn:n≤N) (h2:g S i 2=g s i 2) (h3:g S i 3=g s i 3):0≤g S i 2∧g S i 2≤N∧(g S i 3 = -1∨g S i 2<g S i 3∧g S i 3≤N):=by
 rw [h2,h3]
 have:=o.b0
 have:=o.b1
 refine ⟨by omega,by omega,?_⟩
 rcases o.d with d|d
 ·exact .inl d
 ·exact .inr ⟨d.1,by omega⟩
structure Insd (s:List AV) (n:Int) (v r p:List AV) (x:Int):Prop where
 was:isS s n v r p=true
 n1:n<1000
 now:v136_1 s n v r p x=n+1
 row:∀ i:Int,0≤i→i<s.length→g s i 1<v136_5 s n v r p x
 st:v136_0 s n v r p x=s++[AV.agg [AV.int .i64 x,AV.int .i64 (v136_5 s n v r p x),AV.int .i64 (n+1),AV.int .i64 (-1)]]
 rin:Rin v r p x (v136_5 s n v r p x) (v136_2 s n v r p x) (v136_3 s n v r p x) (v136_4 s n v r p x)
theorem insd {s:List AV} {n:Int} {v r p:List AV} {x:Int} (h0:s.length≤1048576) (h1:v.length≤1048576) (h2:r.length≤1048576) (h3:p.length≤1048576) (hN:N2 p) (h:v136_6 s n v r p x=true):Insd s n v r p x:=by
 obtain ⟨a1,a2,a3,a4,a5,a6⟩:=P49 s n v r p h0 h1 h2 h3
 obtain ⟨b1,b2⟩:=P50 s n v r p h0 h1 h2 h3
 unfold v136_6 at h
 rw [b2] at h
 cases hS:isS s n v r p with
 | false=>rw [hS] at h;cases h
 | true =>
  obtain ⟨s1,s2,s3,s4⟩:=(isS_iff s n v r p).1 hS
  rw [hS] at h
  by_cases hn:n ≥ 1000
  ·rw [decide_eq_true hn] at h;cases h
  ·rw [decide_eq_false hn] at h
   have wn:IntKind.i64.wrap (n+1)=n+1:=wrap_in (by omega) (by omega)
   by_cases hl:(s.length:Int) > 0
   ·have w1:IntKind.i64.wrap ((s.length:Int) - 1)=s.length - 1:=wrap_in (by omega) (by omega)
    have o:=s4 ((s.length:Int) - 1) (by omega) (by omega)
    have hcol:=(isC_iff v r p h1).1 s1
    have hr:=rowK_some o.row
    have hrow:=hcol.rows _ o.row hr.1
    rw [hr.2] at hrow
    have w2:IntKind.i64.wrap (fI (s.getD ((s.length:Int) - 1).toNat AV.undef) 1+1)=g s ((s.length:Int) - 1) 1+1:=by
     show IntKind.i64.wrap (g s ((s.length:Int) - 1) 1+1)=_
     rw [wrap_in (by omega) (by omega)]
    rw [decide_eq_true hl,w1,w2] at h
    have e5:v136_5 s n v r p x=g s ((s.length:Int) - 1) 1+1:=by
     unfold v136_5
     rw [b2,hS,decide_eq_false hn,decide_eq_true hl,w1,w2]
     cases hv:v161_4 v r p x (g s ((s.length:Int) - 1) 1+1) with
     | false=>rw [hv] at h;cases h
     | true=>rfl
    cases hv:v161_4 v r p x (g s ((s.length:Int) - 1) 1+1) with
    | false=>rw [hv] at h;cases h
    | true =>
     refine ⟨hS,by omega,?_,fun i i0 i1=>?_,?_,?_⟩
     ·unfold v136_1
      rw [b2,hS,decide_eq_false hn,decide_eq_true hl,w1,w2,hv,wn]
      rfl
     ·rw [e5]
      by_cases e:i=(s.length:Int) - 1
      ·rw [e];omega
      ·have:=rows_lt s4 i0 (show i<(s.length:Int) - 1 by omega) (by omega)
       omega
     ·rw [e5]
      unfold v136_0
      rw [b2,hS,decide_eq_false hn,decide_eq_true hl,w1,w2,hv,wn,a2]
      rfl
     ·rw [e5]
      unfold v136_2 v136_3 v136_4
      rw [b2,hS,decide_eq_false hn,decide_eq_true hl,w1,w2,hv]
      exact rip48 h1 h2 h3 hN hv
   ·rw [decide_eq_false hl] at h
    have e5:v136_5 s n v r p x=0:=by
     unfold v136_5
     rw [b2,hS,decide_eq_false hn,decide_eq_false hl]
     rfl
    cases hv:v161_4 v r p x 0 with
    | false=>rw [hv] at h;cases h
    | true =>
     refine ⟨hS,by omega,?_,fun i i0 i1=>by omega,?_,?_⟩
     ·unfold v136_1
      rw [b2,hS,decide_eq_false hn,decide_eq_false hl,hv,wn]
      rfl
     ·rw [e5]
      unfold v136_0
      rw [b2,hS,decide_eq_false hn,decide_eq_false hl,hv,wn,a2]
      rfl
     ·rw [e5]
      unfold v136_2 v136_3 v136_4
      rw [b2,hS,decide_eq_false hn,decide_eq_false hl,hv]
      exact rip48 h1 h2 h3 hN hv
theorem ins_ok {s:List AV} {n:Int} {v r p:List AV} {x:Int} (I:Insd s n v r p x):isS (v136_0 s n v r p x) (v136_1 s n v r p x) (v136_2 s n v r p x) (v136_3 s n v r p x) (v136_4 s n v r p x)=true:=by
 obtain ⟨was,n1,now,row,st,rin⟩:=I
 obtain ⟨s1,s2,s3,s4⟩:=(isS_iff s n v r p).1 was
 rw [st,now]
 generalize v136_5 s n v r p x=w at *
 generalize v136_2 s n v r p x=V at *
 generalize v136_3 s n v r p x=R at *
 generalize v136_4 s n v r p x=P at *
 have hc:=rin.col
 have hl:=hc.len
 have hlv:=rin.lv
 refine (isS_iff _ _ _ _ _).2 ⟨(isC_iff V R P (by have:=hc.n64;omega)).2 hc,by rw [List.length_append,List.length_singleton,hlv];omega,⟨by omega,by omega⟩,fun i i0 i1=>?_⟩
 rw [List.length_append,List.length_singleton] at i1
 have ga:∀ (k:Int) (j:Nat),0≤k→k<s.length→g (s++[AV.agg [AV.int .i64 x,AV.int .i64 w,AV.int .i64 (n+1),AV.int .i64 (-1)]]) k j=g s k j:=fun k j k0 k1=>by rw [g_app k0,if_pos k1]
 by_cases e:i=s.length
 ·have gb:∀ j:Nat,g (s++[AV.agg [AV.int .i64 x,AV.int .i64 w,AV.int .i64 (n+1),AV.int .i64 (-1)]]) i j=fI (AV.agg [AV.int .i64 x,AV.int .i64 w,AV.int .i64 (n+1),AV.int .i64 (-1)]) j:=fun j=>by rw [g_app i0,if_neg (by omega),if_pos e]
  obtain ⟨k,k0,k1,k2,k3⟩:=rin.new
  have hk:rowK R w=k:=by rw [← k3];exact rowK_at hc k0 (by omega)
  refine ⟨?_,?_,fun hi=>?_,?_,?_,?_⟩
  ·rw [gb 1];show 0≤rowK R w;omega
  ·rw [gb 1,gb 0];show el V (rowK R w)=x;rw [hk];exact k2
  ·rw [gb 1,ga (i - 1) 1 (by omega) (by omega)]
   exact row (i - 1) (by omega) (by omega)
  ·rw [gb 2];show 0≤n+1;omega
  ·rw [gb 2];exact Int.le_refl _
  ·rw [gb 3];exact .inl rfl
 ·have o:=s4 i i0 (by omega)
  obtain ⟨q1,q2⟩:=rowK_some o.row
  have hcol:=(isC_iff v r p (by have:=(isS_iff s n v r p).1 was;have:=rin.lv;have:=hc.n64;omega)).1 s1
  obtain ⟨k,k0,k1,k2,k3⟩:=rin.old _ o.row (by have:=hcol.len;omega)
  rw [q2] at k3
  have hk:rowK R (g s i 1)=k:=by rw [← k3];exact rowK_at hc k0 (by omega)
  obtain ⟨t1,t2,t3⟩:=badT_up (V:=V) (R:=R) (S:=s++[AV.agg [AV.int .i64 x,AV.int .i64 w,AV.int .i64 (n+1),AV.int .i64 (-1)]]) (N:=n+1) o (by omega) (ga i 2 i0 (by omega)) (ga i 3 i0 (by omega))
  refine ⟨?_,?_,fun hi=>?_,t1,t2,t3⟩
  ·rw [ga i 1 i0 (by omega),hk];exact k0
  ·rw [ga i 1 i0 (by omega),ga i 0 i0 (by omega),hk,k2];exact o.val
  ·rw [ga i 1 i0 (by omega),ga (i - 1) 1 (by omega) (by omega)]
   exact o.asc hi
structure Deld (s:List AV) (n:Int) (v r p:List AV) (k:Int):Prop where
 was:isS s n v r p=true
 n1:n<1000
 now:DN s n v r p k=n+1
 at_:∃ i:Int,0≤i∧i<s.length∧g s i 1=k∧g s i 3 = -1∧DS s n v r p k=s.set i.toNat (cD s n i)
theorem deld {s:List AV} {n:Int} {v r p:List AV} {k:Int} (h:DB s n v r p k=true):Deld s n v r p k:=by
 have h':=h
 unfold DB at h'
 simp only [Bool.and_eq_true,decide_eq_true_eq] at h'
 obtain ⟨h1,h2,h3⟩:=h'
 obtain ⟨i,hi⟩:=Option.isSome_iff_exists.1 h3
 obtain ⟨i0,i1,i2⟩:=findF_some _ _ hi
 unfold pD at i2
 simp only [Bool.and_eq_true,decide_eq_true_eq] at i2
 exact ⟨h1,h2,by unfold DN;rw [h];rfl,i,i0,by omega,i2.1,i2.2,by unfold DS;rw [h,hi];rfl⟩
theorem g_del {s:List AV} {n i:Int} (i0:0≤i) (i1:i<s.length) {k:Int} (k0:0≤k) (j:Nat):g (s.set i.toNat (cD s n i)) k j=if k=i then fI (cD s n i) j else g s k j:=by
 unfold g
 by_cases e:k=i
 ·rw [if_pos e,e,getD_set (by omega)]
 ·rw [if_neg e,getD_set_ne (by omega)]
theorem del_ok {s:List AV} {n:Int} {v r p:List AV} {k:Int} (D:Deld s n v r p k):isS (DS s n v r p k) (DN s n v r p k) v r p=true:=by
 obtain ⟨was,n1,now,i,i0,i1,i2,i3,st⟩:=D
 obtain ⟨s1,s2,s3,s4⟩:=(isS_iff s n v r p).1 was
 rw [st,now]
 refine (isS_iff _ _ _ _ _).2 ⟨s1,by rw [List.length_set];exact s2,⟨by omega,by omega⟩,fun q q0 q1=>?_⟩
 rw [List.length_set] at q1
 have o:=s4 q q0 q1
 have same:∀ (m:Int) (j:Nat),0≤m→j<3→g (s.set i.toNat (cD s n i)) m j=g s m j:=fun m j m0 j3=>by
  rw [g_del i0 i1 m0]
  by_cases e:m=i
  ·rw [if_pos e,e]
   obtain rfl|rfl|rfl:j=0∨j=1∨j=2:=by omega
   ·rfl
   ·rfl
   ·rfl
  ·rw [if_neg e]
 have b0:=o.b0
 have b1:=o.b1
 refine ⟨by rw [same q 1 q0 (by omega)];exact o.row,by rw [same q 1 q0 (by omega),same q 0 q0 (by omega)];exact o.val,fun hi=>by rw [same q 1 q0 (by omega),same (q - 1) 1 (by omega) (by omega)];exact o.asc hi,by rw [same q 2 q0 (by omega)];exact b0,by rw [same q 2 q0 (by omega)];omega,?_⟩
 rw [same q 2 q0 (by omega),g_del i0 i1 q0]
 by_cases e:q=i
 ·rw [if_pos e]
  exact .inr ⟨by show _<n+1;omega,Int.le_refl _⟩
 ·rw [if_neg e]
  rcases o.d with d|d
  ·exact .inl d
  ·exact .inr ⟨d.1,by omega⟩
end Go.Proofs.YtbmfgibbjchijaaGreat

namespace Go.Proofs.YtbmfgibbjchijaaGreat
open Go Go.Proofs.VE
set_option linter.unusedVariables false
set_option linter.unusedSimpArgs false
def PR (V R:List AV) (x y:Int):Prop:=∃ j:Int,0≤j∧j<V.length∧el V j=x∧el R j=y
theorem pr_sw {V R:List AV} (l:(R.length:Int)=V.length) {i j:Int} (i0:0≤i) (i1:i<V.length) (j0:0≤j) (j1:j<V.length) (x y:Int):PR (v122_0 i j V) (v122_0 i j R) x y ↔ PR V R x y:=by
 unfold PR
 rw [sw_len]
 constructor
 ·rintro ⟨k,k0,k1,e,e'⟩
  rw [el_sw V i j k i0 i1 j0 j1 k0] at e
  rw [el_sw R i j k i0 (by omega) j0 (by omega) k0] at e'
  split at e
  ·rw [if_pos ‹_›] at e';exact ⟨i,i0,i1,e,e'⟩
  ·rw [if_neg ‹_›] at e'
   split at e
   ·rw [if_pos ‹_›] at e';exact ⟨j,j0,j1,e,e'⟩
   ·rw [if_neg ‹_›] at e';exact ⟨k,k0,k1,e,e'⟩
 ·rintro ⟨k,k0,k1,e,e'⟩
  by_cases c1:k=i
  ·exact ⟨j,j0,j1,by rw [el_sw V i j j i0 i1 j0 j1 j0,if_pos rfl,← c1];exact e,by rw [el_sw R i j j i0 (by omega) j0 (by omega) j0,if_pos rfl,← c1];exact e'⟩
  ·by_cases c2:k=j
   ·refine ⟨i,i0,i1,?_,?_⟩
    ·rw [el_sw V i j i i0 i1 j0 j1 i0]
     by_cases c3:i=j
     ·rw [if_pos c3];rw [c3,← c2];exact e
     ·rw [if_neg c3,if_pos rfl,← c2];exact e
    ·rw [el_sw R i j i i0 (by omega) j0 (by omega) i0]
     by_cases c3:i=j
     ·rw [if_pos c3];rw [c3,← c2];exact e'
     ·rw [if_neg c3,if_pos rfl,← c2];exact e'
   ·exact ⟨k,k0,k1,by rw [el_sw V i j k i0 i1 j0 j1 k0,if_neg c2,if_neg c1];exact e,by rw [el_sw R i j k i0 (by omega) j0 (by omega) k0,if_neg c2,if_neg c1];exact e'⟩
theorem pr_app:∀ (ss V R:List AV),(R.length:Int)=V.length→inS 0 V.length ss→∀ x y,PR (appS ss V) (appS ss R) x y ↔ PR V R x y
 | [],_,_,_,_,_,_=>Iff.rfl
 | s :: ss,V,R,l,hs,x,y=>by
  obtain ⟨a,b,c,d⟩:=hs s List.mem_cons_self
  rw [appS_cons,appS_cons,pr_app ss _ _ (by rw [sw_len,sw_len];exact l) (by rw [sw_len];exact fun z hz=>hs z (List.mem_cons_of_mem _ hz)),pr_sw l a b c d]
theorem roundR {vs rs ps:List AV} (h:Col vs rs ps) (hN:N2 ps) {v:Int} (hv : -1000≤v∧v≤1000) :
  q118 vs rs ps v=true∧Col (v118_0 vs rs ps v) (v118_1 vs rs ps v) (v118_2 vs rs ps v)∧N2 (v118_2 vs rs ps v)∧(v118_0 vs rs ps v).length=vs.length∧(findP (v118_2 vs rs ps v) v).isSome=true∧(∀ u,(findP ps u).isSome=true→(findP (v118_2 vs rs ps v) u).isSome=true)∧∀ x y,PR (v118_0 vs rs ps v) (v118_1 vs rs ps v) x y ↔ PR vs rs x y:=by
 cases hf:(findP ps v).isSome with
 | true =>
  obtain ⟨c0,c1,c2,c3,_⟩:=crack_oldS h hv hf
  rw [c0,c1,c2,c3]
  exact ⟨rfl,h,hN,rfl,hf,fun u hu=>hu,fun x y=>Iff.rfl⟩
 | false =>
  obtain ⟨a,b,at_,ss,hc⟩:=crack_newS h hN hv hf
  obtain ⟨c0,c1,c2,c3,_⟩:=hc.c
  rw [c0,c1,c2,c3]
  refine ⟨rfl,hc.ok,hc.n2,appS_len _ _,(isSome_iff _ _).2 ⟨_,mem_ins.2 (.inl rfl),rfl⟩,fun u hu=>?_,pr_app ss vs rs h.len hc.ins⟩
  obtain ⟨p,hp,e⟩:=(isSome_iff _ _).1 hu
  exact (isSome_iff _ _).2 ⟨p,mem_ins.2 (.inr hp),e⟩
structure Sel (vs rs ps:List AV) (a b:Int) (V R P:List AV) (f t:Int):Prop where
 col:Col V R P
 len:V.length=vs.length
 pr:∀ x y,PR V R x y ↔ PR vs rs x y
 lo:(findP P a).isSome=true
 hi:(findP P b).isSome=true
 f:f=ro (findP P a) 0 (pat P)
 t:t=ro (findP P b) 0 (pat P)
theorem selR (vs rs ps:List AV) (a b:Int) (h1:vs.length≤1048576) (h2:rs.length≤1048576) (h3:ps.length≤1048576) (hN:N2 ps) :
  q70 vs rs ps a b=true∧(v70_0 vs rs ps a b).length≤1048576∧(v70_1 vs rs ps a b).length≤1048576∧(v70_2 vs rs ps a b).length≤1048576∧N2 (v70_2 vs rs ps a b) ∧
   (isC vs rs ps=true→v51_0 a b=true→Sel vs rs ps a b (v70_0 vs rs ps a b) (v70_1 vs rs ps a b) (v70_2 vs rs ps a b) (v70_3 vs rs ps a b) (v70_4 vs rs ps a b)):=by
 obtain ⟨m1,m2⟩:=P68 vs rs ps h1 h2 h3
 obtain ⟨c0,c1,c2,c3⟩:=P69 vs rs ps h1 h2 h3
 unfold q70 v70_0 v70_1 v70_2 v70_3 v70_4
 rw [m1,m2,c0,c1,c2,c3]
 cases hc:isC vs rs ps with
 | false=>exact ⟨rfl,h1,h2,h3,hN,fun h=>by cases h⟩
 | true =>
  cases hr:v51_0 a b with
  | false=>exact ⟨rfl,h1,h2,h3,hN,fun _ h=>by cases h⟩
  | true =>
   obtain ⟨r1,r2,r3⟩:=isR_of hr
   have hcol:=(isC_iff vs rs ps h1).1 hc
   obtain ⟨u1,u2,u3,u4,u5,u6,u7⟩:=roundR hcol hN (v:=a) ⟨r1,by omega⟩
   obtain ⟨w1,w2,w3,w4,w5,w6,w7⟩:=roundR u2 u3 (v:=b) ⟨by omega,r3⟩
   have w8:=w6 a u5
   rw [u1,w1]
   simp only [Bool.not_true,cond_false]
   generalize v118_0 (v118_0 vs rs ps a) (v118_1 vs rs ps a) (v118_2 vs rs ps a) b=X at *
   generalize v118_1 (v118_0 vs rs ps a) (v118_1 vs rs ps a) (v118_2 vs rs ps a) b=Y at *
   generalize v118_2 (v118_0 vs rs ps a) (v118_1 vs rs ps a) (v118_2 vs rs ps a) b=Z at *
   have k1:=w2.n64
   have k2:=w2.len
   have k3:=col_few w2
   obtain ⟨x1,x2,_⟩:=P119 X Y Z a (by omega)
   obtain ⟨y1,y2,_⟩:=P119 X Y Z b (by omega)
   rw [x1,y1]
   exact ⟨rfl,by omega,by omega,by omega,w3,fun _ _=>⟨w2,by omega,fun x y=>(w7 x y).trans (u7 x y),w8,w5,x2,y2⟩⟩
theorem getD_cut (rs:List AV) (a b:Nat) (k:Nat) (h:a+k<b):((rs.take b).drop a).getD k .undef=rs.getD (a+k) .undef:=by
 simp only [List.getD_eq_getElem?_getD,List.getElem?_drop]
 rw [List.getElem?_take_of_lt h]
theorem rowsR (vs rs ps:List AV) (a b:Int) (h1:vs.length≤1048576) (h2:rs.length≤1048576) (h3:ps.length≤1048576) :
  q102 vs rs ps a b=true∧(v102_0 vs rs ps a b).length≤1048576∧(isC vs rs ps=true→0≤a→a≤b→b≤rs.length→∀ x,hasI (v102_0 vs rs ps a b) x=true ↔ ∃ j:Int,a≤j∧j<b∧el rs j=x):=by
 obtain ⟨m1,m2⟩:=P68 vs rs ps h1 h2 h3
 unfold q102 v102_0
 rw [m1,m2,v52]
 have hl:((rs.take (Int.toNat b)).drop (Int.toNat a)).length≤1048576:=by rw [List.length_drop,List.length_take];omega
 obtain ⟨k1,k2,k3⟩:=P77 _ hl
 cases isC vs rs ps with
 | false=>exact ⟨rfl,by simp,fun h=>by cases h⟩
 | true =>
  by_cases c1:0≤a
  ·by_cases c2:a≤b
   ·rw [decide_eq_true c1,decide_eq_true c2]
    by_cases c3:b > (rs.length:Int)
    ·rw [decide_eq_true c3]
     exact ⟨rfl,by simp,fun _ _ _ hb=>by omega⟩
    ·rw [decide_eq_false c3,decide_eq_true (show b≤(rs.length:Int) by omega),k1]
     refine ⟨rfl,by simp only [Bool.and_self,Bool.not_true,cond_false];rw [k2];exact hl,fun _ ha hab hb x=>?_⟩
     obtain ⟨s1,s2⟩:=srt_in k3
     have hlen:((rs.take (Int.toNat b)).drop (Int.toNat a)).length=(b - a).toNat:=by rw [List.length_drop,List.length_take];omega
     have hg:∀ k:Int,0≤k→k<b - a→el ((rs.take (Int.toNat b)).drop (Int.toNat a)) k=el rs (a+k):=fun k k0 k1=>by
      unfold el
      rw [getD_cut rs _ _ _ (by omega),show Int.toNat a+k.toNat=(a+k).toNat by omega]
     simp only [Bool.and_self,Bool.not_true,cond_false]
     rw [hasI_iff]
     constructor
     ·rintro ⟨j,j0,j1,j2⟩
      obtain ⟨i,i0,i1,i2⟩:=s1 j j0 j1
      refine ⟨a+i,by omega,by omega,?_⟩
      rw [← hg i i0 (by omega),i2]
      exact j2
     ·rintro ⟨j,j0,j1,j2⟩
      obtain ⟨i,i0,i1,i2⟩:=s2 (j - a) (by omega) (by omega)
      refine ⟨i,i0,i1,?_⟩
      rw [i2,hg (j - a) (by omega) (by omega),show a+(j - a)=j by omega]
      exact j2
   ·rw [decide_eq_true c1,decide_eq_false c2]
    exact ⟨rfl,by simp,fun _ ha hab=>by omega⟩
  ·rw [decide_eq_false c1]
   exact ⟨rfl,by simp,fun _ ha=>by omega⟩
theorem key_of {P:List AV} {u:Int} (hu:(findP P u).isSome=true):∃ q:Int,0≤q∧q<P.length∧el P q=u∧ro (findP P u) 0 (pat P)=pat P q:=by
 obtain ⟨j,hj⟩:=Option.isSome_iff_exists.1 hu
 have hj':=hj
 unfold findP at hj'
 obtain ⟨h1,h2,h3⟩:=findF_some _ _ hj'
 exact ⟨j,h1,by omega,of_decide_eq_true h3,by rw [hj];rfl⟩
theorem ansR (vs rs ps:List AV) (a b:Int) (h1:vs.length≤1048576) (h2:rs.length≤1048576) (h3:ps.length≤1048576) (hN:N2 ps) :
  q53 vs rs ps a b=true∧(v53_0 vs rs ps a b).length≤1048576∧(v53_1 vs rs ps a b).length≤1048576∧(v53_2 vs rs ps a b).length≤1048576∧N2 (v53_2 vs rs ps a b)∧(v53_3 vs rs ps a b).length≤1048576 ∧
   (isC vs rs ps=true→v51_0 a b=true→isC (v53_0 vs rs ps a b) (v53_1 vs rs ps a b) (v53_2 vs rs ps a b)=true∧(v53_0 vs rs ps a b).length=vs.length ∧
    (∀ x y,PR (v53_0 vs rs ps a b) (v53_1 vs rs ps a b) x y ↔ PR vs rs x y)∧∀ y,hasI (v53_3 vs rs ps a b) y=true ↔ ∃ x,PR vs rs x y∧a≤x∧x<b):=by
 obtain ⟨a1,a2,a3,a4,a5,a6⟩:=selR vs rs ps a b h1 h2 h3 hN
 obtain ⟨b1,b2,b3⟩:=rowsR (v70_0 vs rs ps a b) (v70_1 vs rs ps a b) (v70_2 vs rs ps a b) (v70_3 vs rs ps a b) (v70_4 vs rs ps a b) a2 a3 a4
 unfold q53 v53_0 v53_1 v53_2 v53_3
 rw [a1,b1]
 refine ⟨rfl,a2,a3,a4,a5,b2,fun hc hr=>?_⟩
 obtain ⟨c1,c2,c3,c4,c5,c6,c7⟩:=a6 hc hr
 obtain ⟨r1,r2,r3⟩:=isR_of hr
 have hl:=c1.len
 obtain ⟨q,q0,q1,q2,q3⟩:=key_of c4
 obtain ⟨p,p0,p1,p2,p3⟩:=key_of c5
 rw [q3] at c6
 rw [p3] at c7
 obtain ⟨z0,z1⟩:=c1.pa q q0 q1
 obtain ⟨z2,z3⟩:=c1.pa p p0 p1
 have qp:pat (v70_2 vs rs ps a b) q≤pat (v70_2 vs rs ps a b) p:=by
  rcases Int.lt_trichotomy q p with c|c|c
  ·exact (c1.lt q0 c p1).2
  ·rw [c];exact Int.le_refl _
  ·have:=(c1.lt p0 c q1).1
   omega
 have hC:=(isC_iff _ _ _ a2).2 c1
 refine ⟨hC,c2,c3,fun y=>?_⟩
 rw [b3 hC (by omega) (by omega) (by omega) y]
 constructor
 ·rintro ⟨j,j0,j1,j2⟩
  refine ⟨el (v70_0 vs rs ps a b) j,(c3 _ _).1 ⟨j,by omega,by omega,rfl,j2⟩,?_,?_⟩
  ·have y1:=c1.part q q0 q1 j (by omega) (by omega)
   rw [q2] at y1
   rcases Int.lt_or_le (el (v70_0 vs rs ps a b) j) a with g|g
   ·have:=y1.1 g;omega
   ·exact g
  ·have y1:=c1.part p p0 p1 j (by omega) (by omega)
   rw [p2] at y1
   exact y1.2 (by omega)
 ·rintro ⟨x,hx,x0,x1⟩
  obtain ⟨j,j0,j1,j2,j3⟩:=(c3 _ _).2 hx
  have y1:=c1.part q q0 q1 j j0 j1
  have y2:=c1.part p p0 p1 j j0 j1
  rw [q2,j2] at y1
  rw [p2,j2] at y2
  refine ⟨j,?_,?_,j3⟩
  ·rcases Int.lt_or_le j (v70_3 vs rs ps a b) with g|g
   ·have:=y1.2 (by omega);omega
   ·exact g
  ·have:=y2.1 x1;omega
end Go.Proofs.YtbmfgibbjchijaaGreat

namespace Go.Proofs.YtbmfgibbjchijaaGreat
open Go Go.Proofs.VE
set_option linter.unusedVariables false
set_option linter.unusedSimpArgs false
theorem row_pr {vs rs ps:List AV} (hc:Col vs rs ps) (x y:Int):(0≤rowK rs y∧el vs (rowK rs y)=x) ↔ PR vs rs x y:=by
 have hl:=hc.len
 constructor
 ·rintro ⟨h0,h1⟩
  obtain ⟨h2,h3⟩:=rowK_some h0
  exact ⟨_,h0,by omega,h1,h3⟩
 ·rintro ⟨j,j0,j1,j2,j3⟩
  have e:rowK rs y=j:=by rw [← j3];exact rowK_at hc j0 (by omega)
  rw [e]
  exact ⟨j0,j2⟩
theorem isS_pr {s:List AV} {n:Int} {v r p V R P:List AV} (l:v.length≤1048576) (h:isS s n v r p=true) (hV:V.length=v.length) (hC:isC V R P=true) (pr:∀ x y,PR V R x y ↔ PR v r x y):isS s n V R P=true:=by
 obtain ⟨s1,s2,s3,s4⟩:=(isS_iff s n v r p).1 h
 have hc:=(isC_iff _ _ _ l).1 s1
 have hc':=(isC_iff V R P (by omega)).1 hC
 refine (isS_iff _ _ _ _ _).2 ⟨hC,by omega,s3,fun i i0 i1=>?_⟩
 have o:=s4 i i0 i1
 obtain ⟨k1,k2⟩:=(row_pr hc' _ _).2 ((pr _ _).2 ((row_pr hc _ _).1 ⟨o.row,o.val⟩))
 exact ⟨k1,k2,o.asc,o.b0,o.b1,o.d⟩
def pV (s:List AV) (t a b i:Int):Bool:=(decide (a≤g s i 0) && decide (g s i 0<b)) && v55_0 (g s i 0) (g s i 1) (g s i 2) (g s i 3) t
def shown (s:List AV) (t a b:Int):List AV:=appF (pV s t a b) (dA s) s.length 0 []
theorem qvR (s:List AV) (n:Int) (v r p:List AV) (t a b:Int) (h0:s.length≤1048576) (h1:v.length≤1048576) (h2:r.length≤1048576) (h3:p.length≤1048576) (hN:N2 p) :
  q9 s n v r p t a b=true∧v9_0 s n v r p t a b=s∧v9_1 s n v r p t a b=n∧(v9_2 s n v r p t a b).length≤1048576∧(v9_3 s n v r p t a b).length≤1048576∧(v9_4 s n v r p t a b).length≤1048576∧N2 (v9_4 s n v r p t a b) ∧
   v9_6 s n v r p t a b=(isS s n v r p && (v51_0 a b && v52_0 t 0 n)) ∧
   (v9_6 s n v r p t a b=false→v9_2 s n v r p t a b=v∧v9_3 s n v r p t a b=r∧v9_4 s n v r p t a b=p) ∧
   (v9_6 s n v r p t a b=true→isS s n (v9_2 s n v r p t a b) (v9_3 s n v r p t a b) (v9_4 s n v r p t a b)=true∧v9_5 s n v r p t a b=shown s t a b):=by
 obtain ⟨a1,a2,a3,a4,a5,a6⟩:=P49 s n v r p h0 h1 h2 h3
 obtain ⟨b1,b2⟩:=P50 s n v r p h0 h1 h2 h3
 obtain ⟨c1,c2,c3,c4,c5,c6,c7⟩:=ansR v r p a b h1 h2 h3 hN
 unfold q9 v9_0 v9_1 v9_2 v9_3 v9_4 v9_5 v9_6
 rw [a1,a2,a3,a4,a5,a6,b1,b2,c1,run9 t s (v53_0 v r p a b) s n v r p (v53_1 v r p a b) (v53_2 v r p a b) 0 n (v53_3 v r p a b) h0 c6]
 cases hS:isS s n v r p with
 | false=>exact ⟨rfl,rfl,rfl,h1,h2,h3,hN,rfl,fun _=>⟨rfl,rfl,rfl⟩,fun h=>by cases h⟩
 | true =>
  obtain ⟨s1,s2,s3,s4⟩:=(isS_iff s n v r p).1 hS
  cases hR:v51_0 a b with
  | false=>exact ⟨rfl,rfl,rfl,h1,h2,h3,hN,rfl,fun _=>⟨rfl,rfl,rfl⟩,fun h=>by cases h⟩
  | true =>
   cases hT:v52_0 t 0 n with
   | false=>exact ⟨rfl,rfl,rfl,h1,h2,h3,hN,rfl,fun _=>⟨rfl,rfl,rfl⟩,fun h=>by cases h⟩
   | true =>
    obtain ⟨d1,d2,d3,d4⟩:=c7 s1 hR
    refine ⟨rfl,rfl,rfl,c2,c3,c4,c5,rfl,(fun h=>by cases h),fun _=>⟨isS_pr h1 hS d2 d1 d3,?_⟩⟩
    show appF (pA (v53_3 v r p a b) s t) (dA s) s.length 0 []=shown s t a b
    unfold shown
    refine appF_congr _ _ _ fun i i0 i1=>⟨?_,rfl⟩
    have o:=s4 i i0 (by omega)
    have hcol:=(isC_iff v r p h1).1 s1
    have me:=(row_pr hcol _ _).1 ⟨o.row,o.val⟩
    have e:hasI (v53_3 v r p a b) (g s i 1)=(decide (a≤g s i 0) && decide (g s i 0<b)):=by
     rw [Bool.eq_iff_iff,d4,Bool.and_eq_true,decide_eq_true_eq,decide_eq_true_eq]
     constructor
     ·rintro ⟨x,hx,x0,x1⟩
      have:=((row_pr hcol _ _).2 hx).2
      rw [o.val] at this
      omega
     ·rintro ⟨x0,x1⟩
      exact ⟨_,me,x0,x1⟩
    show (hasI (v53_3 v r p a b) (g s i 1) && _)=_
    rw [e]
    rfl
structure Rdel (vs rs:List AV) (row:Int) (V R P:List AV):Prop where
 col:Col V R P
 two:N2 P
 lv:V.length+1=vs.length
 pr:∀ x y,PR V R x y ↔ PR vs rs x y∧y ≠ row
theorem rdel_of {vs rs ps:List AV} (hc:Col vs rs ps) {z:Int} (z0:0≤z) (z1:z<vs.length) {V R P:List AV} (lv:V.length+1=vs.length) (lr:R.length=V.length) (lp:P.length=ps.length) (n2:N2 P)
  (pq:∀ q:Int,0≤q→q<ps.length→el P q=el ps q∧pat P q=if el vs z<el ps q then pat ps q - 1 else pat ps q) (τ:Int→Int)
  (at_:∀ i:Int,0≤i→i<V.length→0≤τ i∧τ i<vs.length∧τ i ≠ z∧el V i=el vs (τ i)∧el R i=el rs (τ i)∧∀ q:Int,0≤q→q<ps.length→(i<pat P q ↔ τ i<pat ps q))
  (on:∀ j:Int,0≤j→j<vs.length→j ≠ z→∃ i:Int,0≤i∧i<V.length∧τ i=j)
  (inj:∀ i i':Int,0≤i→i<V.length→0≤i'→i'<V.length→τ i=τ i'→i=i'):Rdel vs rs (el rs z) V R P:=by
 have hl:=hc.len
 have n64:=hc.n64
 have ne:∀ j j':Int,0≤j→j<rs.length→0≤j'→j'<rs.length→j ≠ j'→el rs j ≠ el rs j':=fun j j' a b c d e=>by
  rcases Int.lt_or_gt_of_ne e with f|f
  ·exact hc.dist j j' a f d
  ·exact fun g=>hc.dist j' j c f b g.symm
 have lo:∀ q:Int,0≤q→q<ps.length→(el vs z<el ps q ↔ z<pat ps q):=fun q q0 q1=>hc.part q q0 q1 z z0 z1
 refine ⟨⟨by omega,fun i i0 i1=>?_,by omega,fun i i0 i1=>?_,fun i i' i0 ii i1=>?_,fun q q0 q1=>?_,fun q q0 q1=>?_,fun q q0 q1=>?_,fun q q0 q1 i i0 i1=>?_⟩,n2,lv,fun x y=>?_⟩
 ·obtain ⟨t0,t1,t2,t3,t4,t5⟩:=at_ i i0 i1
  rw [t3];exact hc.vals _ t0 t1
 ·obtain ⟨t0,t1,t2,t3,t4,t5⟩:=at_ i i0 (by omega)
  rw [t4];exact hc.rows _ t0 (by omega)
 ·obtain ⟨t0,t1,t2,t3,t4,t5⟩:=at_ i i0 (by omega)
  obtain ⟨u0,u1,u2,u3,u4,u5⟩:=at_ i' (by omega) (by omega)
  rw [t4,u4]
  exact ne _ _ t0 (by omega) u0 (by omega) fun e=>by have:=inj i i' i0 (by omega) (by omega) (by omega) e;omega
 ·rw [(pq q q0 (by omega)).1];exact hc.pv q q0 (by omega)
 ·rw [(pq q q0 (by omega)).2]
  have a:=hc.pa q q0 (by omega)
  have b:=lo q q0 (by omega)
  by_cases c:el vs z<el ps q
  ·rw [if_pos c];have:=b.1 c;omega
  ·rw [if_neg c]
   have:¬ z<pat ps q:=fun h=>c (b.2 h)
   omega
 ·obtain ⟨a1,a2⟩:=pq q (by omega) (by omega)
  obtain ⟨b1,b2⟩:=pq (q - 1) (by omega) (by omega)
  rw [a1,a2,b1,b2]
  have a:=hc.asc q q0 (by omega)
  have c1:=lo q (by omega) (by omega)
  have c2:=lo (q - 1) (by omega) (by omega)
  refine ⟨a.1,?_⟩
  split <;> split <;> omega
 ·obtain ⟨t0,t1,t2,t3,t4,t5⟩:=at_ i i0 i1
  rw [t3,(pq q q0 (by omega)).1,hc.part q q0 (by omega) _ t0 t1]
  exact (t5 q q0 (by omega)).symm
 ·constructor
  ·rintro ⟨i,i0,i1,e,e'⟩
   obtain ⟨t0,t1,t2,t3,t4,t5⟩:=at_ i i0 i1
   refine ⟨⟨_,t0,t1,by rw [← t3];exact e,by rw [← t4];exact e'⟩,?_⟩
   rw [← e',t4]
   exact ne _ _ t0 (by omega) z0 (by omega) t2
  ·rintro ⟨⟨j,j0,j1,e,e'⟩,hy⟩
   obtain ⟨i,i0,i1,i2⟩:=on j j0 j1 fun h=>hy (by rw [← e',h])
   obtain ⟨t0,t1,t2,t3,t4,t5⟩:=at_ i i0 i1
   exact ⟨i,i0,i1,by rw [t3,i2];exact e,by rw [t4,i2];exact e'⟩
structure Dl (vs rs ps:List AV) (z k hole:Int) (V R P:List AV) (τ:Int→Int):Prop where
 lv:V.length=vs.length
 lr:R.length=vs.length
 lp:P.length=ps.length
 k0:0≤k
 k1:k≤ps.length
 h0:0≤hole
 h1:hole<vs.length
 hz:z≤hole
 hd:∀ q:Int,0≤q→q<k→pat P q≤hole
 hu:∀ q:Int,k≤q→q<ps.length→el vs z<el ps q→hole<pat ps q
 pq:∀ q:Int,0≤q→q<ps.length→el P q=el ps q∧pat P q=if q<k∧el vs z<el ps q then pat ps q - 1 else pat ps q
 n2:N2 P
 at_:∀ i:Int,0≤i→i<vs.length→i ≠ hole→0≤τ i∧τ i<vs.length∧τ i ≠ z∧el V i=el vs (τ i)∧el R i=el rs (τ i)∧∀ q:Int,0≤q→q<ps.length→(i<pat P q ↔ τ i<pat ps q)
 on:∀ j:Int,0≤j→j<vs.length→j ≠ z→∃ i:Int,0≤i∧i<vs.length∧i ≠ hole∧τ i=j
 inj:∀ i i':Int,0≤i→i<vs.length→i ≠ hole→0≤i'→i'<vs.length→i' ≠ hole→τ i=τ i'→i=i'
theorem set_pq {P:List AV} {k:Int} (k0:0≤k) (k1:k<P.length) (a b:Int) (q:Int) (q0:0≤q):el (P.set k.toNat (mk2 a b)) q=(if q=k then a else el P q)∧pat (P.set k.toNat (mk2 a b)) q=if q=k then b else pat P q:=by
 unfold el pat
 by_cases e:q=k
 ·rw [if_pos e,if_pos e,e,getD_set (by omega)]
  exact ⟨rfl,rfl⟩
 ·rw [if_neg e,if_neg e,getD_set_ne (by omega)]
  exact ⟨rfl,rfl⟩
theorem stepDl {vs rs ps:List AV} (hc:Col vs rs ps) {z:Int} (z0:0≤z) (z1:z<vs.length) (hole mv k:Int) (V R P:List AV) (τ:Int→Int) (I:Dl vs rs ps z k hole V R P τ) (m0:0≤mv) (m1:mv≤k) (ck:k<ps.length) :
  ∃ hole' mv' V' R' P' τ',R60_0 (el vs z) (hole,mv,k,V,R,P) = .next (hole',mv',k+1,V',R',P')∧Dl vs rs ps z (k+1) hole' V' R' P' τ'∧0≤mv'∧mv'≤k+1:=by
 obtain ⟨lv,lr,lp,k0,k1,h0,h1,hz,hd,hu,pq,n2,at_,on,inj⟩:=I
 have n64:=hc.n64
 have few:=col_few hc
 have d1:decide (k<(P.length:Int))=true:=decide_eq_true (by omega)
 have d2:decide (0≤k)=true:=decide_eq_true k0
 have wk:IntKind.i64.wrap (k+1)=k+1:=wrap_in (by omega) (by omega)
 obtain ⟨pv,pa⟩:=pq k k0 ck
 rw [if_neg (by omega)] at pa
 have ev:fI (P.getD k.toNat AV.undef) 0=el ps k:=pv
 have ea:fI (P.getD k.toNat AV.undef) 1=pat ps k:=pa
 have lo:=hc.part k k0 ck z z0 z1
 obtain ⟨b0,b1⟩:=hc.pa k k0 ck
 have up:∀ q:Int,k<q→q<ps.length→pat ps k≤pat ps q:=fun q q0 q1=>(hc.lt k0 q0 q1).2
 by_cases hv:el ps k≤el vs z
 ·have d3:decide (el ps k≤el vs z)=true:=decide_eq_true hv
  refine ⟨hole,mv,V,R,P,τ,?_,⟨lv,lr,lp,by omega,by omega,h0,h1,hz,fun q q0 q1=>?_,fun q q0 q1=>hu q (by omega) q1,fun q q0 q1=>?_,n2,at_,on,inj⟩,m0,by omega⟩
  ·show F60_0 (el vs z) hole mv k V R P=_
   unfold F60_0 G60_0
   rw [d1,d2,ev,d3,wk]
   rfl
  ·by_cases e:q=k
   ·rw [e,pa]
    have:¬ z<pat ps k:=fun h=>by have:=lo.2 h;omega
    omega
   ·exact hd q q0 (by omega)
  ·obtain ⟨u1,u2⟩:=pq q q0 q1
   refine ⟨u1,?_⟩
   rw [u2]
   by_cases e:q=k
   ·subst e
    rw [if_neg (by omega),if_neg (by omega)]
   ·by_cases c:q<k∧el vs z<el ps q
    ·rw [if_pos c,if_pos ⟨by omega,c.2⟩]
    ·rw [if_neg c,if_neg fun h=>c ⟨by omega,h.2⟩]
 ·have d3:decide (el ps k≤el vs z)=false:=decide_eq_false hv
  have hA:=hu k (Int.le_refl _) ck (by omega)
  have wA:IntKind.i64.wrap (pat ps k - 1)=pat ps k - 1:=wrap_in (by omega) (by omega)
  have sP:=fun q q0=>set_pq (P:=P) k0 (by omega) (el ps k) (pat ps k - 1) q q0
  have pq':∀ q:Int,0≤q→q<ps.length→el (P.set k.toNat (mk2 (el ps k) (pat ps k - 1))) q=el ps q∧pat (P.set k.toNat (mk2 (el ps k) (pat ps k - 1))) q=if q<k+1∧el vs z<el ps q then pat ps q - 1 else pat ps q:=fun q q0 q1=>by
   obtain ⟨t1,t2⟩:=sP q q0
   obtain ⟨u1,u2⟩:=pq q q0 q1
   rw [t1,t2]
   by_cases e:q=k
   ·subst e
    rw [if_pos rfl,if_pos rfl,if_pos ⟨by omega,by omega⟩]
    exact ⟨rfl,rfl⟩
   ·rw [if_neg e,if_neg e]
    refine ⟨u1,?_⟩
    rw [u2]
    by_cases c:q<k∧el vs z<el ps q
    ·rw [if_pos c,if_pos ⟨by omega,c.2⟩]
    ·rw [if_neg c,if_neg fun h=>c ⟨by omega,h.2⟩]
  have hd':∀ q:Int,0≤q→q<k+1→pat (P.set k.toNat (mk2 (el ps k) (pat ps k - 1))) q≤pat ps k - 1:=fun q q0 q1=>by
   rw [(sP q q0).2]
   by_cases e:q=k
   ·rw [if_pos e];exact Int.le_refl _
   ·rw [if_neg e]
    have:=hd q q0 (by omega)
    omega
  have hu':∀ q:Int,k+1≤q→q<ps.length→el vs z<el ps q→pat ps k - 1<pat ps q:=fun q q0 q1 _=>by
   have:=up q (by omega) q1
   omega
  have n2':N2 (P.set k.toNat (mk2 (el ps k) (pat ps k - 1))):=n2.set _ _ _
  have lp':(P.set k.toNat (mk2 (el ps k) (pat ps k - 1))).length=ps.length:=by rw [List.length_set];exact lp
  have nP:∀ i:Int,0≤i→i<vs.length→i ≠ hole→i ≠ pat ps k - 1→∀ q:Int,0≤q→q<ps.length→(i<pat (P.set k.toNat (mk2 (el ps k) (pat ps k - 1))) q ↔ τ i<pat ps q):=fun i i0 i1 ih ia q q0 q1=>by
   obtain ⟨_,_,_,_,_,t5⟩:=at_ i i0 i1 ih
   rw [(sP q q0).2]
   by_cases e:q=k
   ·rw [if_pos e,e]
    have:=t5 k k0 ck
    rw [pa] at this
    rw [← this]
    omega
   ·rw [if_neg e];exact t5 q q0 q1
  by_cases ha:pat ps k - 1=hole
  ·have d4:decide (pat ps k - 1=hole)=true:=decide_eq_true ha
   have wm:IntKind.i64.wrap (mv+0)=mv:=by rw [wrap_in (by omega) (by omega),Int.add_zero]
   refine ⟨pat ps k - 1,mv,V,R,P.set k.toNat (mk2 (el ps k) (pat ps k - 1)),τ,?_,⟨lv,lr,lp',by omega,by omega,by omega,by omega,by omega,hd',hu',pq',n2',fun i i0 i1 ih=>?_,fun j j0 j1 jz=>?_,fun i i' i0 i1 ih i0' i1' ih' e=>?_⟩,m0,by omega⟩
   ·show F60_0 (el vs z) hole mv k V R P=_
    unfold F60_0 G60_0
    rw [d1,d2,ev,d3,ea,wA,d4,wm,wk]
    rfl
   ·rw [ha] at ih
    obtain ⟨t0,t1,t2,t3,t4,_⟩:=at_ i i0 i1 ih
    exact ⟨t0,t1,t2,t3,t4,nP i i0 i1 ih (by omega)⟩
   ·obtain ⟨i,i0,i1,i2,i3⟩:=on j j0 j1 jz
    exact ⟨i,i0,i1,by omega,i3⟩
   ·exact inj i i' i0 i1 (by omega) i0' i1' (by omega) e
  ·have d4:decide (pat ps k - 1=hole)=false:=decide_eq_false ha
   have c1:decide (0≤pat ps k - 1)=true:=decide_eq_true (by omega)
   have c2:decide (pat ps k - 1<(V.length:Int))=true:=decide_eq_true (by omega)
   have c3:decide (pat ps k - 1<(R.length:Int))=true:=decide_eq_true (by omega)
   have c4:decide (0≤hole)=true:=decide_eq_true h0
   have c5:decide (hole<(V.length:Int))=true:=decide_eq_true (by omega)
   have c6:decide (hole<(R.length:Int))=true:=decide_eq_true (by omega)
   have wm:IntKind.i64.wrap (mv+1)=mv+1:=wrap_in (by omega) (by omega)
   obtain ⟨a0,a1,a2,a3,a4,a5⟩:=at_ (pat ps k - 1) (by omega) (by omega) ha
   have eV:∀ i:Int,0≤i→el (V.set hole.toNat (AV.agg [AV.int .i64 (fI (V.getD (pat ps k - 1).toNat AV.undef) 0)])) i=if i=hole then el V (pat ps k - 1) else el V i:=fun i i0=>el_set V hole i _ h0 (by omega) i0
   have eR:∀ i:Int,0≤i→el (R.set hole.toNat (AV.agg [AV.int .i64 (fI (R.getD (pat ps k - 1).toNat AV.undef) 0)])) i=if i=hole then el R (pat ps k - 1) else el R i:=fun i i0=>el_set R hole i _ h0 (by omega) i0
   refine ⟨pat ps k - 1,mv+1,V.set hole.toNat (AV.agg [AV.int .i64 (fI (V.getD (pat ps k - 1).toNat AV.undef) 0)]),R.set hole.toNat (AV.agg [AV.int .i64 (fI (R.getD (pat ps k - 1).toNat AV.undef) 0)]),P.set k.toNat (mk2 (el ps k) (pat ps k - 1)),fun i=>if i=hole then τ (pat ps k - 1) else τ i,?_,
    ⟨by rw [List.length_set];exact lv,by rw [List.length_set];exact lr,lp',by omega,by omega,by omega,by omega,by omega,hd',hu',pq',n2',fun i i0 i1 ih=>?_,fun j j0 j1 jz=>?_,fun i i' i0 i1 ih i0' i1' ih' e=>?_⟩,by omega,by omega⟩
   ·show F60_0 (el vs z) hole mv k V R P=_
    unfold F60_0 G60_0
    rw [d1,d2,ev,d3,ea,wA,d4,c1,c2,c3,c4,c5,c6,wm,wk]
    rfl
   ·rw [eV i i0,eR i i0]
    by_cases e:i=hole
    ·rw [if_pos e,if_pos e,if_pos e]
     refine ⟨a0,a1,a2,a3,a4,fun q q0 q1=>?_⟩
     rw [← a5 q q0 q1,e,(sP q q0).2]
     by_cases eq:q=k
     ·rw [if_pos eq,eq,pa]
      constructor <;> intro <;> omega
     ·rw [if_neg eq]
      rcases Int.lt_or_gt_of_ne eq with f|f
      ·have:=hd q q0 f
       constructor <;> intro <;> omega
      ·have:=up q f q1
       rw [(pq q q0 q1).2,if_neg (by omega)]
       constructor <;> intro <;> omega
    ·rw [if_neg e,if_neg e,if_neg e]
     obtain ⟨t0,t1,t2,t3,t4,_⟩:=at_ i i0 i1 e
     exact ⟨t0,t1,t2,t3,t4,nP i i0 i1 e ih⟩
   ·obtain ⟨i,i0,i1,i2,i3⟩:=on j j0 j1 jz
    by_cases e:i=pat ps k - 1
    ·exact ⟨hole,h0,h1,by omega,by rw [if_pos rfl,← e];exact i3⟩
    ·exact ⟨i,i0,i1,e,by rw [if_neg i2];exact i3⟩
   ·by_cases e1:i=hole
    ·by_cases e2:i'=hole
     ·rw [e1,e2]
     ·rw [if_pos e1,if_neg e2] at e
      exact absurd (inj _ _ (by omega) (by omega) ha i0' i1' e2 e).symm ih'
    ·by_cases e2:i'=hole
     ·rw [if_neg e1,if_pos e2] at e
      exact absurd (inj _ _ i0 i1 e1 (by omega) (by omega) ha e) ih
     ·rw [if_neg e1,if_neg e2] at e
      exact inj _ _ i0 i1 e1 i0' i1' e2 e
theorem runDl {vs rs ps:List AV} (hc:Col vs rs ps) {z:Int} (z0:0≤z) (z1:z<vs.length):∀ (f:Nat) (hole mv k:Int) (V R P:List AV) (τ:Int→Int),Dl vs rs ps z k hole V R P τ→0≤mv→mv≤k→((ps.length:Int) - k).toNat<f →
  ∃ hole' mv' V' R' P' τ',runW (R60_0 (el vs z)) f (hole,mv,k,V,R,P)=some (hole',mv',V',R',P')∧Dl vs rs ps z ps.length hole' V' R' P' τ'
 | 0,_,_,_,_,_,_,_,_,_,_,h=>by omega
 | f+1,hole,mv,k,V,R,P,τ,I,m0,m1,hf=>by
  by_cases ck:k<ps.length
  ·obtain ⟨hole',mv',V',R',P',τ',e,I',m0',m1'⟩:=stepDl hc z0 z1 hole mv k V R P τ I m0 m1 ck
   obtain ⟨h2,m2,V2,R2,P2,τ2,e2,I2⟩:=runDl hc z0 z1 f hole' mv' (k+1) V' R' P' τ' I' m0' m1' (by omega)
   refine ⟨h2,m2,V2,R2,P2,τ2,?_,I2⟩
   show (R60_0 (el vs z) (hole,mv,k,V,R,P)).el none _ some=_
   rw [e]
   exact e2
  ·have:=I.k1
   have hk:k=ps.length:=by omega
   have d1:decide (k<(P.length:Int))=false:=decide_eq_false (by have:=I.lp;omega)
   refine ⟨hole,mv,V,R,P,τ,?_,hk ▸ I⟩
   show (F60_0 (el vs z) hole mv k V R P).el none _ some=_
   unfold F60_0 G60_0
   rw [d1]
   rfl
theorem el_take (xs:List AV) (n:Nat) (k:Int) (k0:0≤k) (h:k<n):el (xs.take n) k=el xs k:=by
 unfold el
 simp only [List.getD_eq_getElem?_getD]
 rw [List.getElem?_take_of_lt (by omega)]
theorem ripD {vs rs ps:List AV} (hc:Col vs rs ps) (hN:N2 ps) {row:Int} (hr:0≤rowK rs row) :
  q60 vs rs ps row=true∧Rdel vs rs row (v60_0 vs rs ps row) (v60_1 vs rs ps row) (v60_2 vs rs ps row):=by
 have n64:=hc.n64
 have hl:=hc.len
 have few:=col_few hc
 have hC:=(isC_iff vs rs ps (by omega)).2 hc
 obtain ⟨a1,a2,a3,a4⟩:=P69 vs rs ps (by omega) (by omega) (by omega)
 obtain ⟨r1,r2⟩:=rowK_some hr
 have e53:v101_0 vs rs ps row=rowK rs row:=(P101 vs rs ps row (by omega)).2.trans (v83_row rs row (by omega))
 unfold q60 v60_0 v60_1 v60_2
 rw [(P101 vs rs ps row (by omega)).1,e53,(P68 vs rs ps (by omega) (by omega) (by omega)).1,(P68 vs rs ps (by omega) (by omega) (by omega)).2,hC,a1,a2,a3,a4]
 have z1:rowK rs row<vs.length:=by omega
 obtain ⟨hole,mv,V,R,P,τ,e,I⟩:=runDl hc hr z1 (((ps.length:Int) - 0).toNat+1) (rowK rs row) 0 0 vs rs ps id
  ⟨rfl,by omega,rfl,Int.le_refl _,by omega,hr,z1,Int.le_refl _,fun q q0 q1=>by omega,fun q q0 q1 hq=>(hc.part q (by omega) q1 _ hr z1).1 hq,fun q q0 q1=>⟨rfl,by rw [if_neg (by omega)]⟩,hN,
   fun i i0 i1 ih=>⟨i0,i1,ih,rfl,rfl,fun q q0 q1=>Iff.rfl⟩,fun j j0 j1 jz=>⟨j,j0,j1,jz,rfl⟩,fun i i' _ _ _ _ _ _ e=>e⟩ (Int.le_refl _) (Int.le_refl _) (by omega)
 change runW (R60_0 (fI (vs.getD (rowK rs row).toNat AV.undef) 0)) _ _=_ at e
 rw [e]
 obtain ⟨lv,lr,lp,k0,k1,h0,h1,hz,hd,hu,pq,n2,at_,on,inj⟩:=I
 have wV:IntKind.i64.wrap ((V.length:Int) - 1)=(V.length:Int) - 1:=wrap_in (by omega) (by omega)
 have wR:IntKind.i64.wrap ((R.length:Int) - 1)=(V.length:Int) - 1:=by rw [wrap_in (by omega) (by omega)];omega
 have t0:decide ((0:Int)≤0)=true:=rfl
 have t1:decide (0≤(V.length:Int) - 1)=true:=decide_eq_true (by omega)
 have t2:decide ((V.length:Int) - 1≤(V.length:Int))=true:=decide_eq_true (by omega)
 have t3:decide ((V.length:Int) - 1≤(R.length:Int))=true:=decide_eq_true (by omega)
 have t4:decide ((V.length:Int) - 1<(V.length:Int))=true:=decide_eq_true (by omega)
 have t5:decide ((V.length:Int) - 1<(R.length:Int))=true:=decide_eq_true (by omega)
 have t6:decide (0≤hole)=true:=decide_eq_true h0
 have t7:decide (hole<(V.length:Int))=true:=decide_eq_true (by omega)
 have t8:decide (hole<(R.length:Int))=true:=decide_eq_true (by omega)
 have t9:decide (0≤rowK rs row)=true:=decide_eq_true hr
 have t10:decide (rowK rs row<(vs.length:Int))=true:=decide_eq_true z1
 have t11:decide (rowK rs row<0)=false:=decide_eq_false (by omega)
 have tk:Int.toNat ((V.length:Int) - 1) - 0=V.length - 1:=by omega
 have pq2:∀ q:Int,0≤q→q<ps.length→el P q=el ps q∧pat P q=if el vs (rowK rs row)<el ps q then pat ps q - 1 else pat ps q:=fun q q0 q1=>by
  obtain ⟨u1,u2⟩:=pq q q0 q1
  refine ⟨u1,?_⟩
  rw [u2]
  by_cases c:el vs (rowK rs row)<el ps q
  ·rw [if_pos c,if_pos ⟨q1,c⟩]
  ·rw [if_neg c,if_neg fun h=>c h.2]
 by_cases ha:(V.length:Int) - 1=hole
 ·have da:decide ((V.length:Int) - 1=hole)=true:=decide_eq_true ha
  simp only [ro,wV,wR,t0,t1,t2,t3,t9,t10,t11,da,Bool.and_self,cond_true,cond_false,Bool.not_true,Int.toNat_zero,List.drop_zero]
  have key:=rdel_of hc hr z1 (V:=V.take (V.length - 1)) (R:=R.take (V.length - 1)) (P:=P) (by rw [List.length_take];omega) (by rw [List.length_take,List.length_take];omega) lp n2 pq2 τ (fun i i0 i1=>by
   rw [List.length_take] at i1
   rw [el_take _ _ _ i0 (by omega),el_take _ _ _ i0 (by omega)]
   exact at_ i i0 (by omega) (by omega)) (fun j j0 j1 jz=>by
   obtain ⟨i,i0,i1,i2,i3⟩:=on j j0 j1 jz
   exact ⟨i,i0,by rw [List.length_take];omega,i3⟩) (fun i i' i0 i1 i0' i1' e=>by
   rw [List.length_take] at i1 i1'
   exact inj i i' i0 (by omega) (by omega) i0' (by omega) (by omega) e)
  rw [r2] at key
  rw [tk]
  exact ⟨rfl,key⟩
 ·have da:decide ((V.length:Int) - 1=hole)=false:=decide_eq_false ha
  simp only [ro,List.length_set,wV,wR,t0,t1,t2,t3,t4,t5,t6,t7,t8,t9,t10,t11,da,Bool.and_self,cond_true,cond_false,Bool.not_true,Int.toNat_zero,List.drop_zero]
  obtain ⟨a0,b1,b2,b3,b4,b5⟩:=at_ ((V.length:Int) - 1) (by omega) (by omega) ha
  have eV:∀ i:Int,0≤i→el (V.set hole.toNat (AV.agg [AV.int .i64 (fI (V.getD ((V.length:Int) - 1).toNat AV.undef) 0)])) i=if i=hole then el V ((V.length:Int) - 1) else el V i:=fun i i0=>el_set V hole i _ h0 (by omega) i0
  have eR:∀ i:Int,0≤i→el (R.set hole.toNat (AV.agg [AV.int .i64 (fI (R.getD ((V.length:Int) - 1).toNat AV.undef) 0)])) i=if i=hole then el R ((V.length:Int) - 1) else el R i:=fun i i0=>el_set R hole i _ h0 (by omega) i0
  have key:=rdel_of hc hr z1 (V:=(V.set hole.toNat (AV.agg [AV.int .i64 (fI (V.getD ((V.length:Int) - 1).toNat AV.undef) 0)])).take (V.length - 1)) (R:=(R.set hole.toNat (AV.agg [AV.int .i64 (fI (R.getD ((V.length:Int) - 1).toNat AV.undef) 0)])).take (V.length - 1)) (P:=P) (by rw [List.length_take,List.length_set];omega) (by rw [List.length_take,List.length_take,List.length_set,List.length_set];omega) lp n2 pq2 (fun i=>if i=hole then τ ((V.length:Int) - 1) else τ i) (fun i i0 i1=>by
   rw [List.length_take,List.length_set] at i1
   rw [el_take _ _ _ i0 (by omega),el_take _ _ _ i0 (by omega),eV i i0,eR i i0]
   by_cases e:i=hole
   ·rw [if_pos e,if_pos e,if_pos e]
    refine ⟨a0,b1,b2,b3,b4,fun q q0 q1=>?_⟩
    rw [← b5 q q0 q1,e]
    have:=hd q q0 q1
    constructor <;> intro <;> omega
   ·rw [if_neg e,if_neg e,if_neg e]
    exact at_ i i0 (by omega) e) (fun j j0 j1 jz=>by
   obtain ⟨i,i0,i1,i2,i3⟩:=on j j0 j1 jz
   rw [List.length_take,List.length_set]
   by_cases e:i=(V.length:Int) - 1
   ·exact ⟨hole,h0,by omega,by rw [if_pos rfl,← e];exact i3⟩
   ·exact ⟨i,i0,by omega,by rw [if_neg i2];exact i3⟩) (fun i i' i0 i1 i0' i1' e=>by
   rw [List.length_take,List.length_set] at i1 i1'
   by_cases e1:i=hole
   ·by_cases e2:i'=hole
    ·rw [e1,e2]
    ·rw [if_pos e1,if_neg e2] at e
     have:=inj _ _ (by omega) (by omega) ha i0' (by omega) e2 e
     omega
   ·by_cases e2:i'=hole
    ·rw [if_neg e1,if_pos e2] at e
     have:=inj _ _ i0 (by omega) e1 (by omega) (by omega) ha e
     omega
    ·rw [if_neg e1,if_neg e2] at e
     exact inj _ _ i0 (by omega) e1 i0' (by omega) e2 e)
  rw [r2] at key
  rw [tk]
  exact ⟨rfl,key⟩
def keepV (s:List AV) (old i:Int):Bool:=decide (g s i 3 = -1) || decide (g s i 3 > old)
def cpS (s:List AV) (i:Int):AV:=AV.agg [AV.int .i64 (g s i 0),AV.int .i64 (g s i 1),AV.int .i64 (g s i 2),AV.int .i64 (g s i 3)]
def kept (s:List AV) (old:Int) (m:Nat):List AV:=appF (keepV s old) (cpS s) m 0 []
theorem kept_succ (s:List AV) (old:Int) (m:Nat):kept s old (m+1)=bif keepV s old m then kept s old m++[cpS s m] else kept s old m:=by
 unfold kept
 rw [appF_back,Int.zero_add]
theorem kept_len (s:List AV) (old:Int):∀ m:Nat,(kept s old m).length≤m
 | 0=>Nat.le_refl _
 | m+1=>by
  have:=kept_len s old m
  rw [kept_succ]
  cases keepV s old m
  ·exact Nat.le_succ_of_le this
  ·simp only [cond_true,List.length_append,List.length_singleton];omega
theorem cpS_g (s:List AV) (i:Int) (j:Nat) (h:j<4):fI (cpS s i) j=g s i j:=by
 obtain rfl|rfl|rfl|rfl:j=0∨j=1∨j=2∨j=3:=by omega
 all_goals rfl
theorem kept_at {s:List AV} {old:Int}:∀ (m:Nat) (k:Int),0≤k→k<(kept s old m).length→∃ i:Int,0≤i∧i<m∧keepV s old i=true∧∀ j:Nat,j<4→g (kept s old m) k j=g s i j
 | 0,k,k0,k1=>by
  rw [show kept s old 0=[] from rfl] at k1
  simp only [List.length_nil] at k1
  omega
 | m+1,k,k0,k1=>by
  rw [kept_succ] at k1 ⊢
  cases hk:keepV s old m with
  | false =>
   rw [hk] at k1
   obtain ⟨i,i0,i1,i2,i3⟩:=kept_at m k k0 k1
   exact ⟨i,i0,by omega,i2,i3⟩
  | true =>
   rw [hk] at k1
   simp only [cond_true,List.length_append,List.length_singleton] at k1 ⊢
   by_cases e:k<(kept s old m).length
   ·obtain ⟨i,i0,i1,i2,i3⟩:=kept_at m k k0 e
    exact ⟨i,i0,by omega,i2,fun j hj=>by rw [g_app k0,if_pos e];exact i3 j hj⟩
   ·exact ⟨m,by omega,by omega,hk,fun j hj=>by rw [g_app k0,if_neg e,if_pos (by omega)];exact cpS_g s m j hj⟩
theorem kept_asc {v r s:List AV} {n old:Int} (h:∀ i:Int,0≤i→i<s.length→Ok1 v r s n i):∀ m:Nat,m≤s.length→∀ k:Int,0<k→k<(kept s old m).length→g (kept s old m) (k - 1) 1<g (kept s old m) k 1
 | 0,_,k,k0,k1=>by
  rw [show kept s old 0=[] from rfl] at k1
  simp only [List.length_nil] at k1
  omega
 | m+1,hm,k,k0,k1=>by
  rw [kept_succ] at k1 ⊢
  cases hk:keepV s old m with
  | false=>rw [hk] at k1;exact kept_asc h m (by omega) k k0 k1
  | true =>
   rw [hk] at k1
   simp only [cond_true,List.length_append,List.length_singleton] at k1 ⊢
   by_cases e:k<(kept s old m).length
   ·rw [g_app (by omega),if_pos (by omega),g_app (by omega),if_pos e]
    exact kept_asc h m (by omega) k k0 e
   ·rw [g_app (by omega),if_pos (by omega),g_app (by omega),if_neg e,if_pos (by omega),cpS_g s m 1 (by omega)]
    obtain ⟨i,i0,i1,i2,i3⟩:=kept_at (s:=s) (old:=old) m (k - 1) (by omega) (by omega)
    rw [i3 1 (by omega)]
    exact rows_lt h i0 i1 (by omega)
theorem appF_snoc_shown (s:List AV) (y:AV) (t a b:Int):shown (s++[y]) t a b=bif (decide (a≤fI y 0) && decide (fI y 0<b)) && v55_0 (fI y 0) (fI y 1) (fI y 2) (fI y 3) t then shown s t a b++[AV.int .i64 (fI y 1)] else shown s t a b:=by
 unfold shown
 rw [List.length_append,List.length_singleton,appF_back,Int.zero_add]
 have hg:∀ j:Nat,g (s++[y]) s.length j=fI y j:=fun j=>by rw [g_app (by omega),if_neg (by omega),if_pos rfl]
 have e1:pV (s++[y]) t a b s.length=((decide (a≤fI y 0) && decide (fI y 0<b)) && v55_0 (fI y 0) (fI y 1) (fI y 2) (fI y 3) t):=by
  unfold pV
  rw [hg 0,hg 1,hg 2,hg 3]
 have e2:dA (s++[y]) s.length=AV.int .i64 (fI y 1):=congrArg (AV.int .i64) (hg 1)
 have e3:appF (pV (s++[y]) t a b) (dA (s++[y])) s.length 0 []=appF (pV s t a b) (dA s) s.length 0 []:=appF_congr _ _ _ fun i i0 i1=>by
  have hi:∀ j:Nat,g (s++[y]) i j=g s i j:=fun j=>by rw [g_app i0,if_pos (by omega)]
  refine ⟨?_,congrArg (AV.int .i64) (hi 1)⟩
  unfold pV
  rw [hi 0,hi 1,hi 2,hi 3]
 rw [e1,e2,e3]
theorem shown_kept {s:List AV} {t a b old:Int} (ho:old≤t):∀ m:Nat,shown (kept s old m) t a b=appF (pV s t a b) (dA s) m 0 []
 | 0=>rfl
 | m+1=>by
  rw [kept_succ,appF_back,Int.zero_add,← shown_kept ho m]
  cases hk:keepV s old m with
  | true =>
   rw [cond_true,appF_snoc_shown]
   rfl
  | false =>
   have:pV s t a b m=false:=by
    unfold keepV at hk
    rw [Bool.or_eq_false_iff,decide_eq_false_iff_not,decide_eq_false_iff_not] at hk
    unfold pV v55_0
    rw [decide_eq_false hk.1,decide_eq_false (show ¬ t<g s m 3 by omega)]
    cases decide (g s m 2≤t) <;> simp
   rw [this]
   rfl
structure Vk (v r p s:List AV) (old:Int) (m:Nat) (V R P:List AV):Prop where
 col:Col V R P
 two:N2 P
 len:(V.length:Int)+m=v.length+(kept s old m).length
 pr:∀ x y,PR V R x y ↔ PR v r x y∧∀ i:Int,0≤i→i<m→keepV s old i=false→g s i 1 ≠ y
theorem rm32 (L:List AV) (y:AV) (h:L.length≤2000000):(decide ((L.length+[y].length)*32≤140737488355328) && decide (L.length+[y].length≤140737488355328))=true:=by
 simp only [List.length_singleton,Bool.and_eq_true,decide_eq_true_eq]
 omega
theorem vacR (s:List AV) (n:Int) (v r p:List AV) (old:Int) (h0:s.length≤1048576) (h1:v.length≤1048576) (h2:r.length≤1048576) (h3:p.length≤1048576) (hN:N2 p) :
  q16 s n v r p old=true∧(isS s n v r p=true→∃ V R P,Vk v r p s old s.length V R P∧v16_0 s n v r p old=kept s old s.length∧v16_1 s n v r p old=n∧v16_2 s n v r p old=V∧v16_3 s n v r p old=R∧v16_4 s n v r p old=P∧v16_5 s n v r p old=s.length - (kept s old s.length).length) ∧
   (isS s n v r p=false→v16_0 s n v r p old=s∧v16_1 s n v r p old=n∧v16_2 s n v r p old=v∧v16_3 s n v r p old=r∧v16_4 s n v r p old=p∧v16_5 s n v r p old=0):=by
 obtain ⟨a1,a2,a3,a4,a5,a6⟩:=P49 s n v r p h0 h1 h2 h3
 obtain ⟨b1,b2⟩:=P50 s n v r p h0 h1 h2 h3
 unfold q16 v16_0 v16_1 v16_2 v16_3 v16_4 v16_5
 rw [a1,a2,a3,a4,a5,a6,b1,b2]
 cases hS:isS s n v r p with
 | false=>exact ⟨rfl,(fun h=>by cases h),fun _=>⟨rfl,rfl,rfl,rfl,rfl,rfl⟩⟩
 | true =>
  obtain ⟨s1,s2,s3,s4⟩:=(isS_iff s n v r p).1 hS
  have hcol:=(isC_iff v r p h1).1 s1
  have n64:=hcol.n64
  obtain ⟨x,r1,r2⟩:=runW_ends (f:=R16_0 old s n v r p 0 n) (fun x:Int × Int × List AV × List AV × List AV × List AV=>0≤x.2.1∧x.2.1≤s.length∧x.2.2.1=kept s old x.2.1.toNat∧x.1=x.2.1 - x.2.2.1.length∧Vk v r p s old x.2.1.toNat x.2.2.2.1 x.2.2.2.2.1 x.2.2.2.2.2)
   (fun y=>y.2.1=kept s old s.length∧y.1=s.length - y.2.1.length∧Vk v r p s old s.length y.2.2.1 y.2.2.2.1 y.2.2.2.2) (fun x=>((s.length:Int) - x.2.1).toNat) (fun x hI=>by
    obtain ⟨cnt,k,acc,V,R,P⟩:=x
    obtain ⟨k0,k1,ha,hc,I⟩:=hI
    simp only at k0 k1 ha hc I
    have kl:=kept_len s old k.toNat
    rw [← ha] at kl
    have ku:=kept_succ s old k.toNat
    rw [show ((k.toNat:Nat):Int)=k by omega,← ha] at ku
    by_cases ck:k<s.length
    ·have d1:decide (k<(s.length:Int))=true:=decide_eq_true ck
     have d2:decide (0≤k)=true:=decide_eq_true k0
     have wk:IntKind.i64.wrap (k+1)=k+1:=wrap_in (by omega) (by omega)
     have tk:(k+1).toNat=k.toNat+1:=by omega
     cases hk:keepV s old k with
     | true =>
      rw [hk,cond_true] at ku
      refine .inl ⟨(cnt,k+1,acc++[cpS s k],V,R,P),?_,⟨by simp only;omega,by simp only;omega,by simp only;rw [tk];exact ku.symm,by simp only [List.length_append,List.length_singleton];omega,?_⟩,by simp only;omega⟩
      ·show F16_0 old s n v r p 0 n cnt k acc V R P=_
       unfold F16_0 G16_0
       have rm:=rm32 acc (cpS s k) (by omega)
       unfold cpS g at rm ⊢
       rw [d1,d2,wk,rm]
       unfold keepV g at hk
       cases e1:decide (fI (s.getD k.toNat AV.undef) 3 = -1) with
       | true=>rfl
       | false =>
        rw [e1,Bool.false_or] at hk
        rw [hk]
        rfl
      ·simp only
       rw [tk]
       refine ⟨I.col,I.two,?_,fun x y=>(I.pr x y).trans ⟨fun h=>⟨h.1,fun i i0 i1 i2=>?_⟩,fun h=>⟨h.1,fun i i0 i1 i2=>h.2 i i0 (by omega) i2⟩⟩⟩
       ·have:=I.len
        rw [ku,List.length_append,List.length_singleton]
        rw [← ha] at this
        omega
       ·by_cases e:i=k
        ·rw [e,hk] at i2;cases i2
        ·exact h.2 i i0 (by omega) i2
     | false =>
      rw [hk,cond_false] at ku
      have hk':=hk
      unfold keepV at hk
      rw [Bool.or_eq_false_iff] at hk
      obtain ⟨e1,e2⟩:=hk
      have o:=s4 k k0 ck
      have me:PR V R (g s k 0) (g s k 1):=(I.pr _ _).2 ⟨(row_pr hcol _ _).1 ⟨o.row,o.val⟩,fun i i0 i1 _=>by
       have:=rows_lt s4 i0 (j:=k) (by omega) ck
       omega⟩
      obtain ⟨f1,f2⟩:=ripD I.col I.two (row:=g s k 1) ((row_pr I.col _ _).2 me).1
      refine .inl ⟨(cnt+1,k+1,acc,v60_0 V R P (g s k 1),v60_1 V R P (g s k 1),v60_2 V R P (g s k 1)),?_,⟨by simp only;omega,by simp only;omega,by simp only;rw [tk];exact ku.symm,by simp only;omega,?_⟩,by simp only;omega⟩
      ·show F16_0 old s n v r p 0 n cnt k acc V R P=_
       unfold F16_0 G16_0
       have wc:IntKind.i64.wrap (cnt+1)=cnt+1:=wrap_in (by omega) (by omega)
       unfold g at e1 e2 f1 ⊢
       rw [d1,d2,e1,e2,f1,wc,wk]
       rfl
      ·simp only
       rw [tk]
       refine ⟨f2.col,f2.two,?_,fun x y=>(f2.pr x y).trans ⟨fun h=>⟨((I.pr x y).1 h.1).1,fun i i0 i1 i2=>?_⟩,fun h=>⟨(I.pr x y).2 ⟨h.1,fun i i0 i1 i2=>h.2 i i0 (by omega) i2⟩,fun e=>h.2 k k0 (by omega) hk' e.symm⟩⟩⟩
       ·have h9:=I.len
        have h8:=f2.lv
        rw [ku]
        rw [← ha] at h9
        omega
       ·by_cases e:i=k
        ·rw [e];exact fun z=>h.2 z.symm
        ·exact ((I.pr x y).1 h.1).2 i i0 (by omega) i2
    ·have d1:decide (k<(s.length:Int))=false:=decide_eq_false ck
     have e:k.toNat=s.length:=by omega
     rw [e] at ha I
     refine .inr ⟨(cnt,acc,V,R,P),?_,ha,by simp only;omega,I⟩
     show F16_0 old s n v r p 0 n cnt k acc V R P=_
     unfold F16_0 G16_0
     rw [d1]
     rfl) (((s.length:Int) - 0).toNat+1) (0,0,[],v,r,p) ⟨Int.le_refl _,by simp only;omega,rfl,rfl,hcol,hN,by rw [show kept s old (Int.toNat 0)=[] from rfl];simp,fun x y=>⟨fun h=>⟨h,fun i i0 i1=>by simp only [Int.toNat_zero] at i1;omega⟩,fun h=>h.1⟩⟩ (by simp only;omega)
  rw [r1]
  obtain ⟨cnt,acc,V,R,P⟩:=x
  obtain ⟨e1,e2,e3⟩:=r2
  simp only at e1 e2 e3
  refine ⟨rfl,fun _=>⟨V,R,P,e3,e1,rfl,rfl,rfl,rfl,?_⟩,fun h=>by cases h⟩
  rw [← e1]
  exact e2
theorem vac_ok {s:List AV} {n:Int} {v r p:List AV} {old:Int} (h1:v.length≤1048576) (hS:isS s n v r p=true) {V R P:List AV} (I:Vk v r p s old s.length V R P):isS (kept s old s.length) n V R P=true:=by
 obtain ⟨s1,s2,s3,s4⟩:=(isS_iff s n v r p).1 hS
 have hcol:=(isC_iff v r p h1).1 s1
 have n64:=I.col.n64
 have hl:=I.len
 refine (isS_iff _ _ _ _ _).2 ⟨(isC_iff V R P (by omega)).2 I.col,by omega,s3,fun k k0 k1=>?_⟩
 obtain ⟨i,i0,i1,i2,i3⟩:=kept_at s.length k k0 k1
 have o:=s4 i i0 (by omega)
 have me:PR V R (g s i 0) (g s i 1):=(I.pr _ _).2 ⟨(row_pr hcol _ _).1 ⟨o.row,o.val⟩,fun j j0 j1 j2 e=>by
  rcases Int.lt_trichotomy j i with c|c|c
  ·have:=rows_lt s4 j0 c (by omega);omega
  ·rw [c,i2] at j2;cases j2
  ·have:=rows_lt s4 i0 c (by omega);omega⟩
 obtain ⟨k2,k3⟩:=(row_pr I.col _ _).2 me
 refine ⟨by rw [i3 1 (by omega)];exact k2,by rw [i3 1 (by omega),i3 0 (by omega)];exact k3,fun hk=>kept_asc s4 s.length (Nat.le_refl _) k hk k1,by rw [i3 2 (by omega)];exact o.b0,by rw [i3 2 (by omega)];exact o.b1,?_⟩
 rw [i3 2 (by omega),i3 3 (by omega)]
 exact o.d
end Go.Proofs.YtbmfgibbjchijaaGreat

namespace Go.Proofs.YtbmfgibbjchijaaGreat
open Go Go.Proofs.VE
set_option linter.unusedVariables false
set_option linter.unusedSimpArgs false
theorem g93 {b0_0:List AV} {b0_1:Int} {b0_2:Int} {b1:List AV} {x0:Int} {x1:List AV} {x2:Int} {x3:Int} {x4:List AV} (h:W93 b0_0 b0_1 b0_2 b1=some (x0,x1,x2,x3,x4)):q93 b0_0 b0_1 b0_2 b1=true∧v93_0 b0_0 b0_1 b0_2 b1=x0∧v93_1 b0_0 b0_1 b0_2 b1=x1∧v93_2 b0_0 b0_1 b0_2 b1=x2∧v93_3 b0_0 b0_1 b0_2 b1=x3∧v93_4 b0_0 b0_1 b0_2 b1=x4:=by
 unfold q93 v93_0 v93_1 v93_2 v93_3 v93_4
 rw [h]
 exact ⟨rfl,rfl,rfl,rfl,rfl,rfl⟩
theorem g123 {a1:Int} {b0_0:List AV} {b0_1:Int} {b0_2:Int} {x0:List AV} {x1:List AV} {x2:Int} {x3:Int} (h:W123 a1 b0_0 b0_1 b0_2=some (x0,x1,x2,x3)):q123 a1 b0_0 b0_1 b0_2=true∧v123_0 a1 b0_0 b0_1 b0_2=x0∧v123_1 a1 b0_0 b0_1 b0_2=x1∧v123_2 a1 b0_0 b0_1 b0_2=x2∧v123_3 a1 b0_0 b0_1 b0_2=x3:=by
 unfold q123 v123_0 v123_1 v123_2 v123_3
 rw [h]
 exact ⟨rfl,rfl,rfl,rfl,rfl⟩
theorem g97 {a1:Int} {b0_0:List AV} {b0_1:Int} {b0_2:Int} {x0:Bool} {x1:List AV} {x2:Int} {x3:Int} (h:W97 a1 b0_0 b0_1 b0_2=some (x0,x1,x2,x3)):q97 a1 b0_0 b0_1 b0_2=true∧v97_0 a1 b0_0 b0_1 b0_2=x0∧v97_1 a1 b0_0 b0_1 b0_2=x1∧v97_2 a1 b0_0 b0_1 b0_2=x2∧v97_3 a1 b0_0 b0_1 b0_2=x3:=by
 unfold q97 v97_0 v97_1 v97_2 v97_3
 rw [h]
 exact ⟨rfl,rfl,rfl,rfl,rfl⟩
theorem g96 {b0_0:List AV} {b0_1:Int} {b0_2:Int} {b1:List AV} {b2:List AV} {b3:List AV} {x0:Int} {x1:List AV} {x2:Int} {x3:Int} {x4:List AV} {x5:List AV} {x6:List AV} (h:W96 b0_0 b0_1 b0_2 b1 b2 b3=some (x0,x1,x2,x3,x4,x5,x6)):q96 b0_0 b0_1 b0_2 b1 b2 b3=true∧v96_0 b0_0 b0_1 b0_2 b1 b2 b3=x0∧v96_1 b0_0 b0_1 b0_2 b1 b2 b3=x1∧v96_2 b0_0 b0_1 b0_2 b1 b2 b3=x2∧v96_3 b0_0 b0_1 b0_2 b1 b2 b3=x3∧v96_4 b0_0 b0_1 b0_2 b1 b2 b3=x4∧v96_5 b0_0 b0_1 b0_2 b1 b2 b3=x5∧v96_6 b0_0 b0_1 b0_2 b1 b2 b3=x6:=by
 unfold q96 v96_0 v96_1 v96_2 v96_3 v96_4 v96_5 v96_6
 rw [h]
 exact ⟨rfl,rfl,rfl,rfl,rfl,rfl,rfl,rfl⟩
theorem g139 {b0_0:List AV} {b0_1:Int} {b0_2:Int} {x0:Int} {x1:Int} {x2:List AV} {x3:Int} {x4:Int} (h:W139 b0_0 b0_1 b0_2=some (x0,x1,x2,x3,x4)):q139 b0_0 b0_1 b0_2=true∧v139_0 b0_0 b0_1 b0_2=x0∧v139_1 b0_0 b0_1 b0_2=x1∧v139_2 b0_0 b0_1 b0_2=x2∧v139_3 b0_0 b0_1 b0_2=x3∧v139_4 b0_0 b0_1 b0_2=x4:=by
 unfold q139 v139_0 v139_1 v139_2 v139_3 v139_4
 rw [h]
 exact ⟨rfl,rfl,rfl,rfl,rfl,rfl⟩
theorem g98 {b0_0:List AV} {b0_1:Int} {b0_2:Int} {x0:Int} {x1:Int} {x2:List AV} {x3:Int} {x4:Int} (h:W98 b0_0 b0_1 b0_2=some (x0,x1,x2,x3,x4)):q98 b0_0 b0_1 b0_2=true∧v98_0 b0_0 b0_1 b0_2=x0∧v98_1 b0_0 b0_1 b0_2=x1∧v98_2 b0_0 b0_1 b0_2=x2∧v98_3 b0_0 b0_1 b0_2=x3∧v98_4 b0_0 b0_1 b0_2=x4:=by
 unfold q98 v98_0 v98_1 v98_2 v98_3 v98_4
 rw [h]
 exact ⟨rfl,rfl,rfl,rfl,rfl,rfl⟩
theorem g43 {b0_0:List AV} {b0_1:Int} {b0_2:Int} {b1:List AV} {b2:List AV} {b3:List AV} {x0:Int} {x1:Int} {x2:List AV} {x3:Int} {x4:Int} {x5:List AV} {x6:List AV} {x7:List AV} (h:W43 b0_0 b0_1 b0_2 b1 b2 b3=some (x0,x1,x2,x3,x4,x5,x6,x7)):q43 b0_0 b0_1 b0_2 b1 b2 b3=true∧v43_0 b0_0 b0_1 b0_2 b1 b2 b3=x0∧v43_1 b0_0 b0_1 b0_2 b1 b2 b3=x1∧v43_2 b0_0 b0_1 b0_2 b1 b2 b3=x2∧v43_3 b0_0 b0_1 b0_2 b1 b2 b3=x3∧v43_4 b0_0 b0_1 b0_2 b1 b2 b3=x4∧v43_5 b0_0 b0_1 b0_2 b1 b2 b3=x5∧v43_6 b0_0 b0_1 b0_2 b1 b2 b3=x6∧v43_7 b0_0 b0_1 b0_2 b1 b2 b3=x7:=by
 unfold q43 v43_0 v43_1 v43_2 v43_3 v43_4 v43_5 v43_6 v43_7
 rw [h]
 exact ⟨rfl,rfl,rfl,rfl,rfl,rfl,rfl,rfl,rfl⟩
theorem g92 {b0_0:List AV} {b0_1:Int} {b0_2:Int} {x0:List AV} {x1:Int} {x2:List AV} {x3:List AV} {x4:List AV} {x5:List AV} {x6:Int} {x7:Int} (h:W92 b0_0 b0_1 b0_2=some (x0,x1,x2,x3,x4,x5,x6,x7)):q92 b0_0 b0_1 b0_2=true∧v92_0 b0_0 b0_1 b0_2=x0∧v92_1 b0_0 b0_1 b0_2=x1∧v92_2 b0_0 b0_1 b0_2=x2∧v92_3 b0_0 b0_1 b0_2=x3∧v92_4 b0_0 b0_1 b0_2=x4∧v92_5 b0_0 b0_1 b0_2=x5∧v92_6 b0_0 b0_1 b0_2=x6∧v92_7 b0_0 b0_1 b0_2=x7:=by
 unfold q92 v92_0 v92_1 v92_2 v92_3 v92_4 v92_5 v92_6 v92_7
 rw [h]
 exact ⟨rfl,rfl,rfl,rfl,rfl,rfl,rfl,rfl,rfl⟩
theorem g138 {b0_0:List AV} {b0_1:Int} {b0_2:Int} {x0:List AV} {x1:List AV} {x2:List AV} {x3:List AV} {x4:Int} {x5:Int} (h:W138 b0_0 b0_1 b0_2=some (x0,x1,x2,x3,x4,x5)):q138 b0_0 b0_1 b0_2=true∧v138_0 b0_0 b0_1 b0_2=x0∧v138_1 b0_0 b0_1 b0_2=x1∧v138_2 b0_0 b0_1 b0_2=x2∧v138_3 b0_0 b0_1 b0_2=x3∧v138_4 b0_0 b0_1 b0_2=x4∧v138_5 b0_0 b0_1 b0_2=x5:=by
 unfold q138 v138_0 v138_1 v138_2 v138_3 v138_4 v138_5
 rw [h]
 exact ⟨rfl,rfl,rfl,rfl,rfl,rfl,rfl⟩
theorem g94 {b0_0:List AV} {b0_1:Int} {b0_2:Int} {x0:List AV} {x1:List AV} {x2:List AV} {x3:List AV} {x4:Int} {x5:Int} (h:W94 b0_0 b0_1 b0_2=some (x0,x1,x2,x3,x4,x5)):q94 b0_0 b0_1 b0_2=true∧v94_0 b0_0 b0_1 b0_2=x0∧v94_1 b0_0 b0_1 b0_2=x1∧v94_2 b0_0 b0_1 b0_2=x2∧v94_3 b0_0 b0_1 b0_2=x3∧v94_4 b0_0 b0_1 b0_2=x4∧v94_5 b0_0 b0_1 b0_2=x5:=by
 unfold q94 v94_0 v94_1 v94_2 v94_3 v94_4 v94_5
 rw [h]
 exact ⟨rfl,rfl,rfl,rfl,rfl,rfl,rfl⟩
theorem g41 {b0_0:List AV} {b0_1:Int} {b0_2:Int} {x0:List AV} {x1:Int} {x2:List AV} {x3:List AV} {x4:List AV} {x5:List AV} {x6:Int} {x7:Int} (h:W41 b0_0 b0_1 b0_2=some (x0,x1,x2,x3,x4,x5,x6,x7)):q41 b0_0 b0_1 b0_2=true∧v41_0 b0_0 b0_1 b0_2=x0∧v41_1 b0_0 b0_1 b0_2=x1∧v41_2 b0_0 b0_1 b0_2=x2∧v41_3 b0_0 b0_1 b0_2=x3∧v41_4 b0_0 b0_1 b0_2=x4∧v41_5 b0_0 b0_1 b0_2=x5∧v41_6 b0_0 b0_1 b0_2=x6∧v41_7 b0_0 b0_1 b0_2=x7:=by
 unfold q41 v41_0 v41_1 v41_2 v41_3 v41_4 v41_5 v41_6 v41_7
 rw [h]
 exact ⟨rfl,rfl,rfl,rfl,rfl,rfl,rfl,rfl,rfl⟩
theorem g7 {a0:List AV} {x0:List AV} {x1:Int} {x2:List AV} {x3:List AV} {x4:List AV} {x5:Int} {x6:Int} {x7:Int} (h:W7 a0=some (x0,x1,x2,x3,x4,x5,x6,x7)):q7 a0=true∧v7_0 a0=x0∧v7_1 a0=x1∧v7_2 a0=x2∧v7_3 a0=x3∧v7_4 a0=x4∧v7_5 a0=x5∧v7_6 a0=x6∧v7_7 a0=x7:=by
 unfold q7 v7_0 v7_1 v7_2 v7_3 v7_4 v7_5 v7_6 v7_7
 rw [h]
 exact ⟨rfl,rfl,rfl,rfl,rfl,rfl,rfl,rfl,rfl⟩
theorem P118g (vs rs ps:List AV) (v:Int) (h1:vs.length≤1048576) (h2:rs.length≤1048576) (h3:ps.length≤1048576) (hN:N2 ps) :
  q118 vs rs ps v=true∧(v118_0 vs rs ps v).length=vs.length∧(v118_1 vs rs ps v).length=rs.length∧((v118_2 vs rs ps v).length≤ps.length∨(v118_2 vs rs ps v).length≤2001)∧N2 (v118_2 vs rs ps v):=by
 obtain ⟨m1,m2⟩:=P68 vs rs ps h1 h2 h3
 obtain ⟨c0,c1,c2,c3⟩:=P69 vs rs ps h1 h2 h3
 cases hc:isC vs rs ps with
 | false =>
  unfold q118 v118_0 v118_1 v118_2
  rw [m1,m2,c0,c1,c2,c3,hc]
  exact ⟨rfl,rfl,rfl,.inl (Nat.le_refl _),hN⟩
 | true =>
  cases hb:v52_0 v (-1000) 1000 with
  | false =>
   unfold q118 v118_0 v118_1 v118_2
   rw [m1,m2,c0,c1,c2,c3,hc,hb]
   exact ⟨rfl,rfl,rfl,.inl (Nat.le_refl _),hN⟩
  | true =>
   rw [v52,Bool.and_eq_true,decide_eq_true_eq,decide_eq_true_eq] at hb
   have hcol:=(isC_iff vs rs ps h1).1 hc
   cases hf:(findP ps v).isSome with
   | true =>
    obtain ⟨e0,e1,e2,e3,_⟩:=crack_oldS hcol hb hf
    rw [e0,e1,e2,e3]
    exact ⟨rfl,rfl,rfl,.inl (Nat.le_refl _),hN⟩
   | false =>
    obtain ⟨a,b,at_,ss,hcr⟩:=crack_newS hcol hN hb hf
    obtain ⟨e0,e1,e2,e3,_⟩:=hcr.c
    rw [e0,e1,e2,e3]
    exact ⟨rfl,appS_len _ _,appS_len _ _,.inr (col_few hcr.ok),hcr.n2⟩
def Cur (b:List AV) (i:Int):Prop:=0≤i∧i≤b.length∧b.length≤1048576
theorem and255 (x:Int):0≤IntKind.i64.wrap ((BitVec.ofInt 64 x &&& BitVec.ofInt 64 255).toNat:Int)∧IntKind.i64.wrap ((BitVec.ofInt 64 x &&& BitVec.ofInt 64 255).toNat:Int)≤255:=by
 have h:(BitVec.ofInt 64 x &&& BitVec.ofInt 64 255).toNat≤255:=by
  rw [BitVec.toNat_and]
  exact Nat.and_le_right
 rw [wrap_in (by omega) (by omega)]
 omega
theorem byte {b:List AV} {i:Int} (hc:Cur b i) (h:Int):q95 b i h=true∧(0≤v95_0 b i h∧v95_0 b i h≤255)∧Cur b (v95_2 b i h):=by
 obtain ⟨h0,h1,h2⟩:=hc
 unfold q95 v95_0 v95_2
 rw [hid_eq,hid_eq]
 by_cases c:i<b.length
 ·rw [decide_eq_true c,decide_eq_true h0]
  simp only [cond_true]
  refine ⟨rfl,and255 _,?_⟩
  rw [wrap_in (by omega) (by omega)]
  exact ⟨by omega,by omega,h2⟩
 ·rw [decide_eq_false c]
  simp only [cond_false]
  exact ⟨trivial,and255 _,h0,h1,h2⟩
theorem tmod_in {x n:Int} (x0:0≤x) (n0:0<n):0≤Int.tmod x n∧Int.tmod x n<n:=⟨Int.tmod_nonneg _ x0,Int.tmod_lt_of_pos _ n0⟩
theorem four {x y z w:Int} (hx:0≤x∧x≤255) (hy:0≤y∧y≤255) (hz:0≤z∧z≤255) (hw:0≤w∧w≤255):0≤IntKind.i64.wrap (IntKind.i64.wrap (IntKind.i64.wrap (IntKind.i64.wrap (x*16777216)+IntKind.i64.wrap (y*65536))+IntKind.i64.wrap (z*256))+w):=by
 rw [wrap_in (a:=x*16777216) (by omega) (by omega),wrap_in (a:=y*65536) (by omega) (by omega),wrap_in (a:=z*256) (by omega) (by omega),wrap_in (a:=x*16777216+y*65536) (by omega) (by omega),wrap_in (a:=x*16777216+y*65536+z*256) (by omega) (by omega),wrap_in (by omega) (by omega)]
 omega
theorem below {b:List AV} {i:Int} (hc:Cur b i) (h:Int) {n:Int} (n0:0<n):∃ x i' h',q42 n b i h=true∧v42_0 n b i h=x∧v42_1 n b i h=b∧v42_2 n b i h=i'∧v42_3 n b i h=h'∧0≤x∧x<n∧Cur b i':=by
 obtain ⟨x0,x1,x2⟩:=byte hc h
 obtain ⟨y0,y1,y2⟩:=byte x2 (v95_3 b i h)
 obtain ⟨z0,z1,z2⟩:=byte y2 (v95_3 b (v95_2 b i h) (v95_3 b i h))
 obtain ⟨w0,w1,w2⟩:=byte z2 (v95_3 b (v95_2 b (v95_2 b i h) (v95_3 b i h)) (v95_3 b (v95_2 b i h) (v95_3 b i h)))
 have d1:decide (n≤0)=false:=decide_eq_false (by omega)
 have d2:decide (n=0)=false:=decide_eq_false (by omega)
 refine ⟨_,_,_,?_,rfl,?_,rfl,rfl,?_⟩
 ·unfold q42
  simp only [v95_1]
  rw [d1,d2,x0,y0,z0,w0]
  cases decide (n≤256) <;> rfl
 ·unfold v42_1
  first|rfl|(rw [hid_eq];simp only [v95_1];cases decide (n≤0) <;> cases decide (n≤256) <;> rfl)|(simp only [v95_1];cases decide (n≤0) <;> cases decide (n≤256) <;> rfl)
 ·unfold v42_0 v42_2
  rw [hid_eq,hid_eq]
  simp only [v95_1]
  rw [d1]
  simp only [cond_false]
  by_cases c:n≤256
  ·rw [decide_eq_true c]
   simp only [cond_true]
   exact ⟨(tmod_in x1.1 n0).1,(tmod_in x1.1 n0).2,x2⟩
  ·rw [decide_eq_false c]
   simp only [cond_false]
   exact ⟨(tmod_in (four x1 y1 z1 w1) n0).1,(tmod_in (four x1 y1 z1 w1) n0).2,w2⟩
theorem inL {L:List AV} {x:Int} (x0:0≤x) (x1:x<(L.length:Int)):(decide (0≤x) && decide (x<(L.length:Int)))=true:=by
 rw [decide_eq_true x0,decide_eq_true x1];rfl
theorem rm8 (L:List AV) (y:AV) (h:L.length≤2000000):(decide ((L.length+[y].length)*8≤140737488355328) && decide (L.length+[y].length≤140737488355328))=true:=by
 simp only [List.length_singleton,Bool.and_eq_true,decide_eq_true_eq]
 omega
theorem rm16 (L:List AV) (y:AV) (h:L.length≤2000000):(decide ((L.length+[y].length)*16≤140737488355328) && decide (L.length+[y].length≤140737488355328))=true:=by
 simp only [List.length_singleton,Bool.and_eq_true,decide_eq_true_eq]
 omega
theorem wrap1 {t:Int} (h:0<t) (h':t≤9223372036854775807):IntKind.i64.wrap (t - 1)=t - 1:=wrap_in (by omega) (by omega)
theorem pick {b:List AV} {i:Int} (hc:Cur b i) (h:Int) {L:List AV} (L0:0<L.length):∃ x i' h',W93 b i h L=some (x,b,i',h',L)∧Cur b i'∧∃ j:Nat,j<L.length∧x=fI (L.getD j .undef) 0:=by
 obtain ⟨x,i1,h1,a0,a1,a2,a3,a4,x0,x1,c1⟩:=below hc h (n:=(L.length:Int)) (by omega)
 unfold W93 T93
 simp only [a0,a1,a2,a3,a4,inL x0 x1,cond_true]
 exact ⟨_,_,_,rfl,c1,x.toNat,by omega,rfl⟩
theorem once {b:List AV} {i:Int} (hc:Cur b i) (h:Int) {n:Int} (n0:0<n):∃ o i' h',W97 n b i h=some (o,b,i',h')∧Cur b i':=by
 obtain ⟨x,i1,h1,a0,a1,a2,a3,a4,x0,x1,c1⟩:=below hc h n0
 unfold W97 T97
 simp only [a0,a1,a2,a3,a4,cond_true]
 exact ⟨_,_,_,rfl,c1⟩
theorem wide_pos {x:Int} (h:∃ j:Nat,j<([AV.int .i64 3,AV.int .i64 10,AV.int .i64 30,AV.int .i64 1000]:List AV).length∧x=fI (([AV.int .i64 3,AV.int .i64 10,AV.int .i64 30,AV.int .i64 1000]:List AV).getD j .undef) 0):0<x:=by
 obtain ⟨j,hj,rfl⟩:=h
 have:j<4:=hj
 obtain rfl|rfl|rfl|rfl:j=0∨j=1∨j=2∨j=3:=by omega
 all_goals decide
theorem values {b:List AV} {i:Int} (hc:Cur b i) (h:Int) {M:Int} (m0:0≤M) (m1:M≤100):∃ xs i' h',W123 M b i h=some (xs,b,i',h')∧xs.length≤100∧Cur b i':=by
 obtain ⟨w,i1,h1,hW,c1,hw⟩:=pick hc h (L:=[AV.int .i64 3,AV.int .i64 10,AV.int .i64 30,AV.int .i64 1000]) (by decide)
 obtain ⟨a0,a1,a2,a3,a4,_⟩:=g93 hW
 have pos:=wide_pos hw
 have wM:IntKind.i64.wrap (M+1)=M+1:=wrap_in (by omega) (by omega)
 obtain ⟨m,i2,h2,b0,b1,b2,b3,b4,n0,n1,c2⟩:=below c1 h1 (n:=M+1) (by omega)
 obtain ⟨r,r1,r2,r3,r4⟩:=runW_ends (f:=R123_0 w) (fun s:Int × List AV × List AV × Int × Int=>0≤s.1∧s.2.1.length+s.1=m∧s.2.2.1=b∧Cur b s.2.2.2.1) (fun r=>r.1.length≤100∧r.2.1=b∧Cur b r.2.2.1) (fun s=>s.1.toNat) (fun s hI=>by
   obtain ⟨t,L,b',k,g⟩:=s
   obtain ⟨t0,tl,rfl,hk⟩:=hI
   simp only at t0 tl hk
   by_cases ct:t > 0
   ·obtain ⟨y,k1,g1,e0,e1,e2,e3,e4,_,_,hk1⟩:=below hk g pos
    have d1:decide (t > 0)=true:=decide_eq_true ct
    have d3:(!decide ((3:Int)=0))=true:=rfl
    refine .inl ⟨(t - 1,L++[AV.int .i64 (IntKind.i64.wrap (y - IntKind.i64.wrap (Int.tdiv w 3)))],b',k1,g1),?_,⟨by simp only;omega,by simp only [List.length_append,List.length_singleton];omega,rfl,hk1⟩,by simp only;omega⟩
    show F123_0 w t L b' k g=_
    unfold F123_0 G123_0
    simp only [d1,d3,e0,e1,e2,e3,e4,rm8 L _ (by omega),wrap1 ct (by omega),cond_true] <;> rfl
   ·have d1:decide (t > 0)=false:=decide_eq_false ct
    refine .inr ⟨(L,b',k,g),?_,by simp only;omega,rfl,hk⟩
    show F123_0 w t L b' k g=_
    unfold F123_0 G123_0
    simp only [d1,cond_false]) ((m - 0).toNat+1) (m,[],b,i2,h2) ⟨n0,by simp,rfl,c2⟩ (by simp only;omega)
 obtain ⟨xs,b',i3,h3⟩:=r
 simp only at r2 r3 r4
 subst r3
 unfold W123 T123
 simp only [a0,a1,a2,a3,a4,wM,b0,b1,b2,b3,b4,r1,cond_true,ro]
 exact ⟨_,_,_,rfl,r2,r4⟩
theorem value {b:List AV} {i:Int} (hc:Cur b i) (h:Int) {x:List AV} (hx:x.length≤1048576) (y z:List AV):∃ v i' h',W96 b i h x y z=some (v,b,i',h',x,y,z)∧Cur b i':=by
 have six:0<[AV.int .i64 0,AV.int .i64 3,AV.int .i64 (-2),AV.int .i64 (-1000),AV.int .i64 1000,AV.int .i64 50].length:=by decide
 unfold W96 T96
 by_cases c:(x.length:Int) > 0
 ·obtain ⟨o,i1,h1,hW,c1⟩:=once hc h (n:=4) (by decide)
  obtain ⟨a0,a1,a2,a3,a4⟩:=g97 hW
  obtain ⟨u,i2,h2,hW2,c2,_⟩:=pick c1 h1 six
  obtain ⟨e0,e1,e2,e3,e4,e5⟩:=g93 hW2
  obtain ⟨p,i3,h3,b0,b1,b2,b3,b4,p0,p1,c3⟩:=below c1 h1 (n:=(x.length:Int)) (by omega)
  obtain ⟨r,i4,h4,f0,f1,f2,f3,f4,r0,r1,c4⟩:=below c3 h3 (n:=3) (by decide)
  simp only [decide_eq_true c,a0,a1,a2,a3,a4,e0,e1,e2,e3,e4,b0,b1,b2,b3,b4,f0,f1,f2,f3,f4,inL p0 p1,cond_true]
  cases o with
  | true=>exact ⟨_,_,_,rfl,c2⟩
  | false=>exact ⟨_,_,_,rfl,c4⟩
 ·obtain ⟨u,i2,h2,hW2,c2,_⟩:=pick hc h six
  obtain ⟨e0,e1,e2,e3,e4,e5⟩:=g93 hW2
  simp only [decide_eq_false c,e0,e1,e2,e3,e4,cond_true,cond_false]
  exact ⟨_,_,_,rfl,c2⟩
theorem crkr {b:List AV} {i:Int} (hc:Cur b i) (h:Int):∃ V R P i' h',W138 b i h=some (V,R,P,b,i',h')∧V.length≤100∧R.length≤100∧P.length≤2001∧N2 P∧Cur b i':=by
 obtain ⟨xs,i1,h1,hW,hl,c1⟩:=values hc h (M:=14) (by decide) (by decide)
 obtain ⟨a0,a1,a2,a3,a4⟩:=g123 hW
 obtain ⟨n1,n2,n3,n4⟩:=P125 xs (by omega)
 have l0:(v125_0 xs).length≤100:=by
  rw [n2];cases v116_0 xs
  ·simp
  ·exact hl
 have l1:(v125_1 xs).length≤100:=by
  rw [n3];cases v116_0 xs
  ·simp
  ·simp only [cond_true];rw [rows_len];exact hl
 obtain ⟨m,i2,h2,b0,b1,b2,b3,b4,m0,m1,c2⟩:=below c1 h1 (n:=5) (by decide)
 generalize hV0:v125_0 xs=V at *
 generalize hU0:v125_1 xs=U at *
 obtain ⟨r,r1,r2⟩:=runW_ends (f:=R138_0) (fun s:Int × List AV × List AV × List AV × List AV × Int × Int=>0≤s.1∧s.1≤5∧s.2.1.length≤100∧s.2.2.1.length≤100∧s.2.2.2.1.length≤2001∧N2 s.2.2.2.1∧s.2.2.2.2.1=b∧Cur b s.2.2.2.2.2.1) (fun r=>r.1.length≤100∧r.2.1.length≤100∧r.2.2.1.length≤2001∧N2 r.2.2.1∧r.2.2.2.1=b∧Cur b r.2.2.2.2.1) (fun s=>s.1.toNat) (fun s hI=>by
   obtain ⟨t,X,Y,Z,b',k,g⟩:=s
   obtain ⟨t0,t5,hX,hY,hZ,hN,rfl,hk⟩:=hI
   simp only at t0 t5 hX hY hZ hN hk
   by_cases ct:t > 0
   ·obtain ⟨v,k1,g1,hV,hk1⟩:=value hk g (x:=X) (by omega) Y Z
    obtain ⟨e0,e1,e2,e3,e4,e5,e6,e7⟩:=g96 hV
    obtain ⟨f0,f1,f2,f3,f4⟩:=P118g X Y Z v (by omega) (by omega) (by omega) hN
    refine .inl ⟨(t - 1,v118_0 X Y Z v,v118_1 X Y Z v,v118_2 X Y Z v,b',k1,g1),?_,⟨by simp only;omega,by simp only;omega,by simp only;omega,by simp only;omega,by simp only;omega,f4,rfl,hk1⟩,by simp only;omega⟩
    show F138_0 t X Y Z b' k g=_
    unfold F138_0 G138_0
    simp only [decide_eq_true ct,e0,e1,e2,e3,e4,e5,e6,e7,f0,wrap1 ct (by omega),cond_true]
   ·refine .inr ⟨(X,Y,Z,b',k,g),?_,hX,hY,hZ,hN,rfl,hk⟩
    show F138_0 t X Y Z b' k g=_
    unfold F138_0 G138_0
    simp only [decide_eq_false ct,cond_false]) ((m - 0).toNat+1) (m,V,U,[],b,i2,h2) ⟨m0,by simp only;omega,l0,l1,by simp,N2_nil,rfl,c2⟩ (by simp only;omega)
 obtain ⟨V',R',P',b',i3,h3⟩:=r
 obtain ⟨g1,g2,g3,g4,g5,g6⟩:=r2
 simp only at g1 g2 g3 g4 g5 g6
 subst g5
 unfold W138 T138
 simp only [a0,a1,a2,a3,a4,n1,n4,hV0,hU0,b0,b1,b2,b3,b4,r1,cond_true,ro]
 exact ⟨_,_,_,_,_,rfl,g1,g2,g3,g4,g6⟩
theorem N2.snoc {P:List AV} (h:N2 P) (a b:Int):N2 (P++[mk2 a b]):=fun x hx=>by
 rcases List.mem_append.1 hx with hx|hx
 ·exact h x hx
 ·rw [List.mem_singleton.1 hx];rfl
theorem anyCrk {b:List AV} {i:Int} (hc:Cur b i) (h:Int):∃ V R P i' h',W94 b i h=some (V,R,P,b,i',h')∧V.length≤1048576∧R.length≤1048576∧P.length≤1048576∧N2 P∧Cur b i':=by
 obtain ⟨V,R,P,i1,h1,hW,l0,l1,l2,n2,c1⟩:=crkr hc h
 obtain ⟨a0,a1,a2,a3,a4,a5,a6⟩:=g138 hW
 obtain ⟨x,i2,h2,b0,b1,b2,b3,b4,_,_,c2⟩:=below c1 h1 (n:=12) (by decide)
 obtain ⟨u,i3,h3,hW2,c3,_⟩:=pick c2 h2 (L:=[AV.int .i64 0,AV.int .i64 999,AV.int .i64 1000,AV.int .i64 (-5)]) (by decide)
 obtain ⟨e0,e1,e2,e3,e4,e5⟩:=g93 hW2
 obtain ⟨y,i4,h4,f0,f1,f2,f3,f4,_,_,c4⟩:=below c2 h2 (n:=9) (by decide)
 obtain ⟨z,i5,h5,d0,d1,d2,d3,d4,_,_,c5⟩:=below c4 h4 (n:=9) (by decide)
 unfold W94 T94
 simp only [a0,a1,a2,a3,a4,a5,a6,b0,b1,b2,b3,b4,e0,e1,e2,e3,e4,f0,f1,f2,f3,f4,d0,d1,d2,d3,d4,rm16 P _ (by omega),rm8 R _ (by omega),cond_true]
 cases decide (x=0) with
 | true =>
  by_cases cv:(V.length:Int) > 0
  ·have t0:(decide ((0:Int)≤0) && decide ((0:Int)<(V.length:Int)))=true:=by rw [decide_eq_true cv];rfl
   simp only [cond_true,decide_eq_true cv,t0]
   exact ⟨_,_,_,_,_,rfl,by rw [List.length_set];omega,by omega,by omega,n2,c3⟩
  ·simp only [cond_true,decide_eq_false cv,cond_false]
   exact ⟨_,_,_,_,_,rfl,by omega,by omega,by omega,n2,c2⟩
 | false =>
  cases decide (x=1) with
  | true=>exact ⟨_,_,_,_,_,rfl,by omega,by omega,by simp only [List.length_append,List.length_singleton];omega,n2.snoc _ _,c5⟩
  | false =>
   cases decide (x=2) with
   | true=>exact ⟨_,_,_,_,_,rfl,by omega,by simp only [List.length_append,List.length_singleton];omega,by omega,n2,c2⟩
   | false=>exact ⟨_,_,_,_,_,rfl,by omega,by omega,by omega,n2,c2⟩
theorem range3 {b:List AV} {i:Int} (hc:Cur b i) (h:Int):∃ x y i' h',W139 b i h=some (x,y,b,i',h')∧Cur b i':=by
 obtain ⟨w,i1,h1,hW,c1,hw⟩:=pick hc h (L:=[AV.int .i64 3,AV.int .i64 10,AV.int .i64 30,AV.int .i64 1000]) (by decide)
 obtain ⟨a0,a1,a2,a3,a4,_⟩:=g93 hW
 have pos:=wide_pos hw
 obtain ⟨y,i2,h2,b0,b1,b2,b3,b4,_,_,c2⟩:=below c1 h1 pos
 obtain ⟨z,i3,h3,d0,d1,d2,d3,d4,_,_,c3⟩:=below c2 h2 pos
 have t3:(!decide ((3:Int)=0))=true:=rfl
 unfold W139 T139
 simp only [a0,a1,a2,a3,a4,b0,b1,b2,b3,b4,d0,d1,d2,d3,d4,t3,cond_true]
 exact ⟨_,_,_,_,rfl,c3⟩
theorem rangeAny {b:List AV} {i:Int} (hc:Cur b i) (h:Int):∃ x y i' h',W98 b i h=some (x,y,b,i',h')∧Cur b i':=by
 obtain ⟨x,y,i1,h1,hW,c1⟩:=range3 hc h
 obtain ⟨a0,a1,a2,a3,a4,a5⟩:=g139 hW
 obtain ⟨m,i2,h2,b0,b1,b2,b3,b4,_,_,c2⟩:=below c1 h1 (n:=10) (by decide)
 obtain ⟨u,i3,h3,hW2,c3,_⟩:=pick c2 h2 (L:=[AV.int .i64 (-1001),AV.int .i64 (-1000),AV.int .i64 1000,AV.int .i64 1001]) (by decide)
 obtain ⟨e0,e1,e2,e3,e4,e5⟩:=g93 hW2
 unfold W98 T98
 simp only [a0,a1,a2,a3,a4,a5,b0,b1,b2,b3,b4,e0,e1,e2,e3,e4,cond_true]
 cases decide (m=0) with
 | true=>exact ⟨_,_,_,_,rfl,c3⟩
 | false =>
  cases decide (m=1) with
  | true=>exact ⟨_,_,_,_,rfl,c3⟩
  | false=>exact ⟨_,_,_,_,rfl,c2⟩
theorem range6 {b:List AV} {i:Int} (hc:Cur b i) (h:Int) {x:List AV} (hx:x.length≤1048576) (y z:List AV):∃ a c i' h',W43 b i h x y z=some (a,c,b,i',h',x,y,z)∧Cur b i':=by
 obtain ⟨v,i1,h1,hW,c1⟩:=value hc h hx y z
 obtain ⟨a0,a1,a2,a3,a4,a5,a6,a7⟩:=g96 hW
 obtain ⟨w,i2,h2,hW2,c2⟩:=value c1 h1 hx y z
 obtain ⟨b0,b1,b2,b3,b4,b5,b6,b7⟩:=g96 hW2
 obtain ⟨o,i3,h3,hW3,c3⟩:=once c2 h2 (n:=12) (by decide)
 obtain ⟨d0,d1,d2,d3,d4⟩:=g97 hW3
 obtain ⟨m,m',i4,h4,hW4,c4⟩:=rangeAny c3 h3
 obtain ⟨e0,e1,e2,e3,e4,e5⟩:=g98 hW4
 unfold W43 T43
 simp only [a0,a1,a2,a3,a4,a5,a6,a7,b0,b1,b2,b3,b4,b5,b6,b7,d0,d1,d2,d3,d4,e0,e1,e2,e3,e4,e5,cond_true]
 cases o with
 | true=>exact ⟨_,_,_,_,rfl,c4⟩
 | false=>exact ⟨_,_,_,_,rfl,c3⟩
end Go.Proofs.YtbmfgibbjchijaaGreat

namespace Go.Proofs.YtbmfgibbjchijaaGreat
open Go Go.Proofs.VE
set_option linter.unusedVariables false
set_option linter.unusedSimpArgs false
structure Sz (S V R P:List AV):Prop where
 s:S.length≤1048576
 v:V.length≤1048576
 r:R.length≤1048576
 p:P.length≤1048576
 n:N2 P
theorem new107 (xs:List AV) (h:xs.length≤100):q135 xs=true∧Sz (v135_0 xs) (v135_2 xs) (v135_3 xs) (v135_4 xs):=by
 obtain ⟨n1,n2,n3,n4⟩:=P125 xs (by omega)
 unfold q135 v135_0 v135_2 v135_3 v135_4
 rw [(P116 xs (by omega)).1,n1,n2,n3,n4]
 cases hv:v116_0 xs with
 | false=>exact ⟨rfl,by simp,by simp,by simp,by simp,N2_nil⟩
 | true =>
  simp only [cond_true,Bool.not_true,cond_false]
  obtain ⟨r,r1,r2⟩:=runW_ends (f:=R135_0 xs) (fun s=>match s with
    | .inl s=>s.1=0∧s.2.2.1=xs∧s.2.2.2.2.1=rows xs∧s.2.2.2.2.2=[]
    | .inr s=>0≤s.1∧s.1≤xs.length∧(s.2.1.length:Int)=s.1∧s.2.2.2.1=xs∧s.2.2.2.2.2.1=rows xs∧s.2.2.2.2.2.2=[])
   (fun r=>match r with
    | .inl r=>r.2.1=xs∧r.2.2.2.1=rows xs∧r.2.2.2.2=[]
    | .inr r=>r.1.length≤100∧r.2.2.1=xs∧r.2.2.2.2.1=rows xs∧r.2.2.2.2.2=[])
   (fun s=>match s with | .inl s=>((xs.length:Int) - s.1).toNat | .inr s=>((xs.length:Int) - s.1).toNat) (fun s hI=>by
    cases s with
    | inl s =>
     obtain ⟨k,a,X,c,Y,Z⟩:=s
     simp only at hI
     obtain ⟨rfl,rfl,rfl,rfl⟩:=hI
     by_cases ck:(0:Int)<X.length
     ·have d1:decide ((0:Int)<(X.length:Int))=true:=decide_eq_true ck
      refine .inl ⟨.inr (1,[AV.agg [AV.int .i64 (fI (X.getD (0:Int).toNat AV.undef) 0),AV.int .i64 0,AV.int .i64 0,AV.int .i64 (-1)]],a,X,c,rows X,[]),?_,⟨by simp,by simp only;omega,by simp,rfl,rfl,rfl⟩,by simp only;omega⟩
      show F135_0_s0 X 0 a X c (rows X) []=_
      unfold F135_0_s0 G135_0_s0
      rw [d1]
      rfl
     ·have d1:decide ((0:Int)<(X.length:Int))=false:=decide_eq_false ck
      refine .inr ⟨.inl (a,X,c,rows X,[]),?_,rfl,rfl,rfl⟩
      show F135_0_s0 X 0 a X c (rows X) []=_
      unfold F135_0_s0 G135_0_s0
      rw [d1]
      rfl
    | inr s =>
     obtain ⟨k,S,a,X,c,Y,Z⟩:=s
     simp only at hI
     obtain ⟨k0,k1,hS,rfl,rfl,rfl⟩:=hI
     by_cases ck:k<X.length
     ·have d1:decide (k<(X.length:Int))=true:=decide_eq_true ck
      have d2:decide (0≤k)=true:=decide_eq_true k0
      have wk_:IntKind.i64.wrap (k+1)=k+1:=wrap_in (by omega) (by omega)
      have rm:∀ y:AV,(decide ((S.length+[y].length)*32≤140737488355328) && decide (S.length+[y].length≤140737488355328))=true:=fun y=>by
       simp only [List.length_singleton,Bool.and_eq_true,decide_eq_true_eq]
       omega
      refine .inl ⟨.inr (k+1,S++[AV.agg [AV.int .i64 (fI (X.getD k.toNat AV.undef) 0),AV.int .i64 k,AV.int .i64 0,AV.int .i64 (-1)]],a,X,c,rows X,[]),?_,⟨by simp only;omega,by simp only;omega,by simp only [List.length_append,List.length_singleton];omega,rfl,rfl,rfl⟩,by simp only;omega⟩
      show F135_0_s1 X k S a X c (rows X) []=_
      unfold F135_0_s1 G135_0_s1
      rw [d1,d2,rm,wk_]
      rfl
     ·have d1:decide (k<(X.length:Int))=false:=decide_eq_false ck
      refine .inr ⟨.inr (S,a,X,c,rows X,[]),?_,by simp only;omega,rfl,rfl,rfl⟩
      show F135_0_s1 X k S a X c (rows X) []=_
      unfold F135_0_s1 G135_0_s1
      rw [d1]
      rfl) (((xs.length:Int) - 0).toNat+1) (.inl (0,0,xs,0,rows xs,[])) ⟨rfl,rfl,rfl,rfl⟩ (by simp only;omega)
  rw [r1]
  have lr:=rows_len xs
  cases r with
  | inl r =>
   obtain ⟨e1,e2,e3⟩:=r2
   simp only [ro,sumE,e1,e2,e3]
   exact ⟨rfl,by simp,by omega,by omega,by simp,N2_nil⟩
  | inr r =>
   obtain ⟨e0,e1,e2,e3⟩:=r2
   simp only [ro,sumE,e1,e2,e3]
   exact ⟨rfl,by omega,by omega,by omega,by simp,N2_nil⟩
theorem sz16 {s v r p:List AV} (n x:Int) (z:Sz s v r p):q136 s n v r p x=true∧Sz (v136_0 s n v r p x) (v136_2 s n v r p x) (v136_3 s n v r p x) (v136_4 s n v r p x):=by
 obtain ⟨a1,_,_,_,_,_,_,_,_,l0,l2,l3,l4⟩:=same136 s n v r p x z.s z.v z.r z.p
 refine ⟨a1,l0,l2,l3,l4,?_⟩
 cases h:v136_6 s n v r p x with
 | true=>exact (insd z.s z.v z.r z.p z.n h).rin.two
 | false =>
  obtain ⟨_,_,_,_,_,a6⟩:=P49 s n v r p z.s z.v z.r z.p
  have e:v136_4 s n v r p x=p:=by
   unfold v136_6 at h
   unfold v136_4
   rw [a6]
   cases h0:v50_0 s n v r p with
   | false=>rfl
   | true =>
    rw [h0] at h
    cases h1:decide (n ≥ 1000) with
    | true=>rfl
    | false =>
     rw [h1] at h
     cases h2:decide ((s.length:Int) > 0) with
     | true =>
      rw [h2] at h
      cases h3:v161_4 v r p x (IntKind.i64.wrap (fI (s.getD (IntKind.i64.wrap ((s.length:Int) - 1)).toNat AV.undef) 1+1)) with
      | false=>rfl
      | true=>rw [h3] at h;cases h
     | false =>
      rw [h2] at h
      cases h3:v161_4 v r p x 0 with
      | false=>rfl
      | true=>rw [h3] at h;cases h
  rw [e]
  exact z.n
theorem sz24 {s v r p:List AV} (n k:Int) (z:Sz s v r p):q137 s n v r p k=true∧Sz (v137_0 s n v r p k) (v137_2 s n v r p k) (v137_3 s n v r p k) (v137_4 s n v r p k):=by
 obtain ⟨a1,a2,a3,a4,a5,a6,_⟩:=P137 s n v r p k z.s z.v z.r z.p
 rw [a2,a4,a5,a6]
 exact ⟨a1,by rw [DS_len];exact z.s,z.v,z.r,z.p,z.n⟩
theorem szQ {s v r p:List AV} (n t a b:Int) (z:Sz s v r p):q9 s n v r p t a b=true∧Sz (v9_0 s n v r p t a b) (v9_2 s n v r p t a b) (v9_3 s n v r p t a b) (v9_4 s n v r p t a b):=by
 obtain ⟨a1,a2,a3,a4,a5,a6,a7,_⟩:=qvR s n v r p t a b z.s z.v z.r z.p z.n
 rw [a2]
 exact ⟨a1,z.s,a4,a5,a6,a7⟩
theorem store19 {b:List AV} {i:Int} (hc:Cur b i) (h:Int):∃ S N V R P i' h',W92 b i h=some (S,N,V,R,P,b,i',h')∧Sz S V R P∧Cur b i':=by
 obtain ⟨xs,i1,h1,hW,hl,c1⟩:=values hc h (M:=8) (by decide) (by decide)
 obtain ⟨a0,a1,a2,a3,a4⟩:=g123 hW
 obtain ⟨n0,nz⟩:=new107 xs hl
 obtain ⟨m,i2,h2,b0,b1,b2,b3,b4,m0,m1,c2⟩:=below c1 h1 (n:=8) (by decide)
 obtain ⟨r,r1,r2⟩:=runW_ends (f:=R92_0 0) (fun s:Int × List AV × List AV × Int × List AV × List AV × List AV × Int × Int=>0≤s.1∧s.1≤8∧Sz s.2.1 s.2.2.1 s.2.2.2.2.1 s.2.2.2.2.2.1∧s.2.2.2.2.2.2.1=b∧Cur b s.2.2.2.2.2.2.2.1) (fun r=>Sz r.1 r.2.1 r.2.2.2.1 r.2.2.2.2.1∧r.2.2.2.2.2.1=b∧Cur b r.2.2.2.2.2.2.1) (fun s=>s.1.toNat) (fun s hI=>by
   obtain ⟨t,S,V,N,R,P,b',k,g⟩:=s
   obtain ⟨t0,t5,hz,rfl,hk⟩:=hI
   simp only at t0 t5 hz hk
   by_cases ct:t > 0
   ·obtain ⟨x,k1,g1,d0,d1,d2,d3,d4,_,_,hk1⟩:=below hk g (n:=3) (by decide)
    have pos:=decide_eq_true ct
    have wt:=wrap1 ct (by omega)
    cases c0:decide (x=0) with
    | true =>
     obtain ⟨u,k2,g2,hU,hk2⟩:=value hk1 g1 (x:=V) hz.v R P
     obtain ⟨e0,e1,e2,e3,e4,e5,e6,e7⟩:=g96 hU
     obtain ⟨z0,z1⟩:=sz16 N (if (if u<999 then u else 999) > (-999) then (if u<999 then u else 999) else (-999)) hz
     refine .inl ⟨(t - 1,v136_0 S N V R P (if (if u<999 then u else 999) > (-999) then (if u<999 then u else 999) else (-999)),v136_2 S N V R P (if (if u<999 then u else 999) > (-999) then (if u<999 then u else 999) else (-999)),v136_1 S N V R P (if (if u<999 then u else 999) > (-999) then (if u<999 then u else 999) else (-999)),v136_3 S N V R P (if (if u<999 then u else 999) > (-999) then (if u<999 then u else 999) else (-999)),v136_4 S N V R P (if (if u<999 then u else 999) > (-999) then (if u<999 then u else 999) else (-999)),b',k2,g2),?_,⟨?_,?_,z1,rfl,hk2⟩,?_⟩
     ·show F92_0 0 t S V N R P b' k g=_
      unfold F92_0 G92_0
      simp only [pos,d0,d1,d2,d3,d4,c0,e0,e1,e2,e3,e4,e5,e6,e7,z0,wt,cond_true] <;> rfl
     all_goals (simp only;omega)
    | false =>
     cases c1:decide (x=1) with
     | true =>
      obtain ⟨y,k2,g2,e0,e1,e2,e3,e4,_,_,hk2⟩:=below hk1 g1 (n:=10) (by decide)
      obtain ⟨z0,z1⟩:=sz24 N y hz
      refine .inl ⟨(t - 1,v137_0 S N V R P y,v137_2 S N V R P y,v137_1 S N V R P y,v137_3 S N V R P y,v137_4 S N V R P y,b',k2,g2),?_,⟨?_,?_,z1,rfl,hk2⟩,?_⟩
      ·show F92_0 0 t S V N R P b' k g=_
       unfold F92_0 G92_0
       simp only [pos,d0,d1,d2,d3,d4,c0,c1,e0,e1,e2,e3,e4,z0,wt,cond_true,cond_false] <;> rfl
      all_goals (simp only;omega)
     | false =>
      obtain ⟨f,f',k2,g2,hU,hk2⟩:=range6 hk1 g1 (x:=V) hz.v R P
      obtain ⟨e0,e1,e2,e3,e4,e5,e6,e7,e8⟩:=g43 hU
      obtain ⟨z0,z1⟩:=szQ N N f f' hz
      refine .inl ⟨(t - 1,v9_0 S N V R P N f f',v9_2 S N V R P N f f',v9_1 S N V R P N f f',v9_3 S N V R P N f f',v9_4 S N V R P N f f',b',k2,g2),?_,⟨?_,?_,z1,rfl,hk2⟩,?_⟩
      ·show F92_0 0 t S V N R P b' k g=_
       unfold F92_0 G92_0
       simp only [pos,d0,d1,d2,d3,d4,c0,c1,e0,e1,e2,e3,e4,e5,e6,e7,e8,z0,wt,cond_true,cond_false] <;> rfl
      all_goals (simp only;omega)
   ·refine .inr ⟨(S,V,N,R,P,b',k,g),?_,hz,rfl,hk⟩
    show F92_0 0 t S V N R P b' k g=_
    unfold F92_0 G92_0
    simp only [decide_eq_false ct,cond_false]) ((m - 0).toNat+1) (m,v135_0 xs,v135_2 xs,v135_1 xs,v135_3 xs,v135_4 xs,b,i2,h2) ⟨m0,by simp only;omega,nz,rfl,c2⟩ (by simp only;omega)
 obtain ⟨S,V,N,R,P,b',i3,h3⟩:=r
 obtain ⟨g1,g2,g3⟩:=r2
 simp only at g1 g2 g3
 subst g2
 unfold W92 T92
 simp only [a0,a1,a2,a3,a4,n0,b0,b1,b2,b3,b4,r1,cond_true,ro]
 exact ⟨_,_,_,_,_,_,_,rfl,g1,g3⟩
theorem any19 {b:List AV} {i:Int} (hc:Cur b i) (h:Int):∃ S N V R P i' h',W41 b i h=some (S,N,V,R,P,b,i',h')∧Sz S V R P∧Cur b i':=by
 obtain ⟨S,N,V,R,P,i1,h1,hW,z,c1⟩:=store19 hc h
 obtain ⟨a0,a1,a2,a3,a4,a5,a6,a7,a8⟩:=g92 hW
 obtain ⟨x,i2,h2,b0,b1,b2,b3,b4,_,_,c2⟩:=below c1 h1 (n:=14) (by decide)
 obtain ⟨u,i3,h3,hW2,c3,_⟩:=pick c2 h2 (L:=[AV.int .i64 (-1),AV.int .i64 0,AV.int .i64 1000,AV.int .i64 1001]) (by decide)
 obtain ⟨e0,e1,e2,e3,e4,e5⟩:=g93 hW2
 obtain ⟨w,i4,h4,hW3,c4,_⟩:=pick c2 h2 (L:=[AV.int .i64 (-2),AV.int .i64 0,AV.int .i64 1]) (by decide)
 obtain ⟨f0,f1,f2,f3,f4,f5⟩:=g93 hW3
 obtain ⟨V',R',P',i5,h5,hW4,l0,l1,l2,n2,c5⟩:=anyCrk c2 h2
 obtain ⟨d0,d1,d2,d3,d4,d5,d6⟩:=g94 hW4
 unfold W41 T41
 simp only [a0,a1,a2,a3,a4,a5,a6,a7,a8,b0,b1,b2,b3,b4,e0,e1,e2,e3,e4,f0,f1,f2,f3,f4,d0,d1,d2,d3,d4,d5,d6,cond_true]
 cases decide (x=0) with
 | true=>exact ⟨_,_,_,_,_,_,_,rfl,z,c3⟩
 | false =>
  cases decide (x=1) with
  | true =>
   by_cases cs:(S.length:Int) > 0
   ·have t0:(decide ((0:Int)≤0) && decide ((0:Int)<(S.length:Int)))=true:=by rw [decide_eq_true cs];rfl
    simp only [cond_true,cond_false,decide_eq_true cs,t0]
    exact ⟨_,_,_,_,_,_,_,rfl,⟨by rw [List.length_set];exact z.s,z.v,z.r,z.p,z.n⟩,c4⟩
   ·simp only [cond_true,cond_false,decide_eq_false cs]
    exact ⟨_,_,_,_,_,_,_,rfl,z,c2⟩
  | false =>
   cases decide (x=2) with
   | true=>exact ⟨_,_,_,_,_,_,_,rfl,⟨z.s,l0,l1,l2,n2⟩,c5⟩
   | false=>exact ⟨_,_,_,_,_,_,_,rfl,z,c2⟩
theorem start_of {f:Int × Int→Out (Int × Int) Int} (code:List AV) (h1:∀ g k:Int,0≤k→k<code.length→(∃ g',f (g,k) = .next (g',k+1))∨f (g,k) = .stop g) (h2:∀ g k:Int,¬ k<code.length→f (g,k) = .stop g) (x:Int):∃ r,runW f (((code.length:Int) - 0).toNat+1) (x,0)=some r:=by
 obtain ⟨r,r1,_⟩:=runW_ends (f:=f) (fun s:Int × Int=>0≤s.2∧s.2≤code.length) (fun _=>True) (fun s=>((code.length:Int) - s.2).toNat) (fun s hI=>by
   obtain ⟨g,k⟩:=s
   obtain ⟨k0,k1⟩:=hI
   simp only at k0 k1
   by_cases ck:k<code.length
   ·rcases h1 g k k0 ck with ⟨g',e⟩|e
    ·exact .inl ⟨(g',k+1),e,⟨by simp only;omega,by simp only;omega⟩,by simp only;omega⟩
    ·exact .inr ⟨g,e,trivial⟩
   ·exact .inr ⟨g,h2 g k ck,trivial⟩) (((code.length:Int) - 0).toNat+1) (x,0) ⟨Int.le_refl 0,by simp only;omega⟩ (by simp only;omega)
 exact ⟨r,r1⟩
end Go.Proofs.YtbmfgibbjchijaaGreat

namespace Go.Proofs.YtbmfgibbjchijaaGreat
open Go Go.Proofs.VE
set_option linter.unusedVariables false
set_option linter.unusedSimpArgs false
theorem at_ok {code:List AV} (h:code.length≤1048576) (n:Nat):q13 code n=true:=by
 unfold q13
 by_cases c:(n:Int)<code.length
 ·have d2:decide (0≤(n:Int))=true:=decide_eq_true (by omega)
  rw [decide_eq_true c,d2]
  rfl
 ·rw [decide_eq_false c]
  rfl
theorem eqC (V R P:List AV) (l0:V.length≤1048576) (l1:R.length≤1048576) (l2:P.length≤1048576):q21 V R P V R P=true∧v21_0 V R P V R P=true:=by
 unfold q21 v21_0
 rw [(P73 V V l0).1,(P73 V V l0).2,(P73 R R l1).1,(P73 R R l1).2,(P74 P P l2).1,(P74 P P l2).2,eqL_self ee1_self,eqL_self ee1_self,eqL_self ee2_self]
 exact ⟨rfl,rfl⟩
theorem eqSt (S:List AV) (n:Int) (V R P:List AV) (hs:S.length≤1048576) (l0:V.length≤1048576) (l1:R.length≤1048576) (l2:P.length≤1048576):q10 S n V R P S n V R P=true∧v10_0 S n V R P S n V R P=true:=by
 obtain ⟨r,r1,rfl⟩:=runW_ends (f:=R10_0 S n V R P S n V R P) (fun k:Int=>0≤k∧k≤S.length) (fun r=>r = .inl ()) (fun k=>((S.length:Int) - k).toNat) (fun k hI=>by
   obtain ⟨k0,k1⟩:=hI
   by_cases ck:k<S.length
   ·have d1:decide (k<(S.length:Int))=true:=decide_eq_true ck
    have d2:decide (0≤k)=true:=decide_eq_true k0
    have wk_:IntKind.i64.wrap (k+1)=k+1:=wrap_in (by omega) (by omega)
    refine .inl ⟨k+1,?_,⟨by omega,by omega⟩,by omega⟩
    show F10_0 S n V R P S n V R P k=_
    unfold F10_0 G10_0
    rw [d1,d2,wk_]
    simp only [decide_true,cond_true,Bool.not_true,cond_false,Bool.and_self]
   ·have d1:decide (k<(S.length:Int))=false:=decide_eq_false ck
    refine .inr ⟨.inl (),?_,rfl⟩
    show F10_0 S n V R P S n V R P k=_
    unfold F10_0 G10_0
    rw [d1]
    rfl) (((S.length:Int) - 0).toNat+1) 0 ⟨Int.le_refl 0,by omega⟩ (by omega)
 obtain ⟨e1,e2⟩:=eqC V R P l0 l1 l2
 unfold q10 v10_0
 rw [e1,e2,r1]
 simp only [decide_true,Bool.not_true,cond_false,ro,sumE,Bool.and_self]
 exact ⟨trivial,trivial⟩
theorem drawQ (code:List AV) (h:code.length≤1048576):∃ S N V R P t a c,W7 code=some (S,N,V,R,P,t,a,c)∧Sz S V R P:=by
 obtain ⟨p,hp⟩:=start_of (f:=R7i40_0 code 0 0 0) code (fun g k k0 k1=>by
  have d1:decide (k<(code.length:Int))=true:=decide_eq_true k1
  have d2:decide (0≤k)=true:=decide_eq_true k0
  have wk_:IntKind.i64.wrap (k+1)=k+1:=wrap_in (by omega) (by omega)
  show (∃ g',F7i40_0 code 0 0 0 g k=_)∨F7i40_0 code 0 0 0 g k=_
  unfold F7i40_0 G7i40_0
  rw [d1,d2,wk_]
  cases decide (k<4000)
  ·exact .inr rfl
  ·exact .inl ⟨_,rfl⟩) (fun g k k1=>by
  have d1:decide (k<(code.length:Int))=false:=decide_eq_false k1
  show F7i40_0 code 0 0 0 g k=_
  unfold F7i40_0 G7i40_0
  rw [d1]
  rfl) (IntKind.i64.wrap (10101+(code.length:Int)))
 obtain ⟨S,N,V,R,P,i1,h1,hW,z,c1⟩:=any19 (b:=code) (i:=0) ⟨Int.le_refl 0,by omega,h⟩ p
 obtain ⟨a0,a1,a2,a3,a4,a5,a6,a7,a8⟩:=g41 hW
 obtain ⟨x,i2,h2,b0,b1,b2,b3,b4,_,_,c2⟩:=below c1 h1 (n:=8) (by decide)
 obtain ⟨f,f',i3,h3,hW2,c3⟩:=range6 c2 h2 (x:=V) z.v R P
 obtain ⟨e0,e1,e2,e3,e4,e5,e6,e7,e8⟩:=g43 hW2
 unfold W7 T7
 simp only [hp,ro,a0,a1,a2,a3,a4,a5,a6,a7,a8,b0,b1,b2,b3,b4,e0,e1,e2,e3,e4,e5,e6,e7,e8,cond_true]
 exact ⟨_,_,_,_,_,_,_,_,rfl,z⟩
theorem insF {s:List AV} {n:Int} {v r p:List AV} {x:Int} (h0:s.length≤1048576) (h1:v.length≤1048576) (h2:r.length≤1048576) (h3:p.length≤1048576) (h:v136_6 s n v r p x=false) :
  v136_0 s n v r p x=s∧v136_1 s n v r p x=n∧v136_2 s n v r p x=v∧v136_3 s n v r p x=r∧v136_4 s n v r p x=p:=by
 obtain ⟨_,a2,a3,a4,a5,a6⟩:=P49 s n v r p h0 h1 h2 h3
 unfold v136_6 at h
 unfold v136_0 v136_1 v136_2 v136_3 v136_4
 rw [a2,a3,a4,a5,a6]
 cases hi:v50_0 s n v r p with
 | false=>exact ⟨rfl,rfl,rfl,rfl,rfl⟩
 | true =>
  rw [hi] at h
  cases hn:decide (n ≥ 1000) with
  | true=>exact ⟨rfl,rfl,rfl,rfl,rfl⟩
  | false =>
   rw [hn] at h
   cases hl:decide ((s.length:Int) > 0) with
   | true =>
    rw [hl] at h
    cases hr:v161_4 v r p x (IntKind.i64.wrap (fI (s.getD (IntKind.i64.wrap ((s.length:Int) - 1)).toNat AV.undef) 1+1)) with
    | false=>exact ⟨rfl,rfl,rfl,rfl,rfl⟩
    | true=>rw [hr] at h;cases h
   | false =>
    rw [hl] at h
    cases hr:v161_4 v r p x 0 with
    | false=>exact ⟨rfl,rfl,rfl,rfl,rfl⟩
    | true=>rw [hr] at h;cases h
structure Shw (s:List AV) (n:Int) (v r p S:List AV) (N t a b:Int):Prop where
 ok:isS s n v r p=true
 two:N2 p
 now:N≤n
 sh:shown s t a b=shown S t a b
theorem Shw.sz {s:List AV} {n:Int} {v r p S:List AV} {N t a b:Int} (h:Shw s n v r p S N t a b) (l:v.length≤1048576):s.length≤64∧v.length≤64∧r.length≤64∧p.length≤2001:=by
 obtain ⟨s1,s2,s3,s4⟩:=(isS_iff _ _ _ _ _).1 h.ok
 have hc:=(isC_iff v r p l).1 s1
 have:=hc.n64
 have:=hc.len
 have:=col_few hc
 omega
theorem shw_ins {s:List AV} {n:Int} {v r p S:List AV} {N t a b:Int} (h:Shw s n v r p S N t a b) (tN:t≤N) (l:v.length≤1048576) (x:Int):Shw (v136_0 s n v r p x) (v136_1 s n v r p x) (v136_2 s n v r p x) (v136_3 s n v r p x) (v136_4 s n v r p x) S N t a b:=by
 obtain ⟨l0,l1,l2,l3⟩:=h.sz l
 cases hi:v136_6 s n v r p x with
 | false =>
  obtain ⟨e0,e1,e2,e3,e4⟩:=insF (by omega) (by omega) (by omega) (by omega) hi
  rw [e0,e1,e2,e3,e4]
  exact h
 | true =>
  have I:=insd (by omega) (by omega) (by omega) (by omega) h.two hi
  refine ⟨ins_ok I,I.rin.two,by rw [I.now];have:=h.now;omega,?_⟩
  rw [I.st,appF_snoc_shown,← h.sh]
  have e:v55_0 x (v136_5 s n v r p x) (n+1) (-1) t=false:=by
   unfold v55_0
   rw [decide_eq_false (show ¬ n+1≤t by have:=h.now;omega)]
   rfl
  show (bif _ && v55_0 x (v136_5 s n v r p x) (n+1) (-1) t then _ else _)=_
  rw [e,Bool.and_false]
  rfl
theorem shw_del {s:List AV} {n:Int} {v r p S:List AV} {N t a b:Int} (h:Shw s n v r p S N t a b) (tN:t≤N) (k:Int):Shw (DS s n v r p k) (DN s n v r p k) v r p S N t a b:=by
 cases hD:DB s n v r p k with
 | false =>
  have e1:DS s n v r p k=s:=by unfold DS;rw [hD];rfl
  have e2:DN s n v r p k=n:=by unfold DN;rw [hD];rfl
  rw [e1,e2]
  exact h
 | true =>
  have D:=deld hD
  have ok:=del_ok D
  obtain ⟨was,n1,now,i,i0,i1,i2,i3,st⟩:=D
  refine ⟨ok,h.two,by rw [now];have:=h.now;omega,?_⟩
  rw [← h.sh,st]
  unfold shown
  rw [List.length_set]
  refine appF_congr _ _ _ fun q q0 q1=>?_
  have same:∀ j:Nat,j<3→g (s.set i.toNat (cD s n i)) q j=g s q j:=fun j j3=>by
   rw [g_del i0 i1 q0]
   by_cases e:q=i
   ·rw [if_pos e,e]
    obtain rfl|rfl|rfl:j=0∨j=1∨j=2:=by omega
    ·rfl
    ·rfl
    ·rfl
   ·rw [if_neg e]
  refine ⟨?_,congrArg (AV.int .i64) (same 1 (by omega))⟩
  unfold pV v55_0
  rw [same 0 (by omega),same 2 (by omega),g_del i0 i1 q0]
  by_cases e:q=i
  ·rw [if_pos e,e,i3]
   have e1:decide (fI (cD s n i) 3 = -1)=false:=decide_eq_false (show ¬ n+1 = -1 by have:=(isS_now was).1;omega)
   have e2:decide (t<fI (cD s n i) 3)=true:=decide_eq_true (show t<n+1 by have:=h.now;omega)
   rw [e1,e2]
   rfl
  ·rw [if_neg e]
theorem raw3_true (code:List AV):raw3 code=some (.bool true):=by
 unfold raw3
 by_cases c:(code.length:Int) > 1048576
 ·unfold v6_0
  rw [decide_eq_true c]
  rfl
 have c6:v6_0 code=false:=decide_eq_false c
 obtain ⟨S,N,V,R,P,t,a,b,hW,z⟩:=drawQ code (by omega)
 obtain ⟨d0,d1,d2,d3,d4,d5,d6,d7,d8⟩:=g7 hW
 have o0:=at_ok (code:=code) (by omega) 0
 have o1:=at_ok (code:=code) (by omega) 1
 have o2:=at_ok (code:=code) (by omega) 2
 change q13 code 0=true at o0
 change q13 code 1=true at o1
 change q13 code 2=true at o2
 simp only [c6,d0,d1,d2,d3,d4,d5,d6,d7,d8,o0,o1,o2,cond_true,cond_false]
 generalize IntKind.i64.wrap (v13_0 code 1 - 100)=w1
 generalize Int.tmod (v13_0 code 0) 12=w2
 generalize v13_0 code 2=w3
 obtain ⟨⟨x0,x1⟩,⟨y0,y1,y2,y3,y4,y5,y6⟩,k0,k2,k3,k4,k5⟩:=same9 S N V R P t a b z.s z.v z.r z.p z.n
 obtain ⟨_,u0,u1,_,_,_,un,u6,uf,ut⟩:=qvR S N V R P t a b z.s z.v z.r z.p z.n
 rw [u0] at y0 k0
 rw [u1] at y1
 rw [x0,x1,y0,y1,y2,y3,y4,y5,y6,u0,u1]
 obtain ⟨i1,i2⟩:=eqSt S N _ _ _ k0 k2 k3 k4
 have j1:=(P11 _ (v9_5 S N V R P t a b) k5).1
 have j2:=(P11 _ (v9_5 S N V R P t a b) k5).2.trans (eqL_self ee1_self _)
 rw [i1,i2,j1,j2]
 cases hb:v9_6 S N V R P t a b with
 | false =>
  obtain ⟨f2,f3,f4⟩:=uf hb
  rw [f2,f3,f4] at i1 i2 ⊢
  rw [i1,i2]
  rfl
 | true =>
  obtain ⟨t2,t5⟩:=ut hb
  rw [u6,Bool.and_eq_true,Bool.and_eq_true,v52,Bool.and_eq_true,decide_eq_true_eq,decide_eq_true_eq] at hb
  obtain ⟨b1,b2,b3,b4⟩:=hb
  rw [t5] at j1 j2 k5 ⊢
  generalize v9_2 S N V R P t a b=X2 at *
  generalize v9_3 S N V R P t a b=X3 at *
  generalize v9_4 S N V R P t a b=X4 at *
  have H0:Shw S N X2 X3 X4 S N t a b:=⟨t2,un,Int.le_refl _,rfl⟩
  obtain ⟨p0,p1,e0,e1,e2,e3,e4,_,_,m0,m2,m3,m4⟩:=same136 S N X2 X3 X4 w1 k0 k2 k3 k4
  rw [p1,e0,e1,e2,e3,e4]
  have H1:=shw_ins H0 b4 k2 w1
  generalize v136_0 S N X2 X3 X4 w1=S1 at *
  generalize v136_1 S N X2 X3 X4 w1=N1 at *
  generalize v136_2 S N X2 X3 X4 w1=V1 at *
  generalize v136_3 S N X2 X3 X4 w1=R1 at *
  generalize v136_4 S N X2 X3 X4 w1=P1 at *
  obtain ⟨q1,g0,g1,g2,g3,g4,_⟩:=P14 S1 N1 V1 R1 P1 w2 m0 m2 m3 m4
  rw [q1,g0,g1,g2,g3,g4]
  have H2:=shw_del H1 b4 w2
  have l0:(DS S1 N1 V1 R1 P1 w2).length≤1048576:=by rw [DS_len];exact m0
  generalize DS S1 N1 V1 R1 P1 w2=S2 at *
  generalize DN S1 N1 V1 R1 P1 w2=M2 at *
  have nS:=isS_now H2.ok
  have nN:=H2.now
  have wt:IntKind.i64.wrap (t+1)=t+1:=wrap_in (by omega) (by omega)
  have wd:decide (t+1=0)=false:=decide_eq_false (by omega)
  rw [wt,wd]
  have ho:Int.tmod w3 (t+1)≤t:=by
   have:=Int.tmod_lt_of_pos w3 (show 0<t+1 by omega)
   omega
  generalize Int.tmod w3 (t+1)=old at *
  obtain ⟨r0,r1,h0,h1,h2,h3,h4,h5,_,n2,n3,n4⟩:=same16 S2 M2 V1 R1 P1 old l0 m2 m3 m4
  obtain ⟨_,vt,_⟩:=vacR S2 M2 V1 R1 P1 old l0 m2 m3 m4 H2.two
  obtain ⟨Vw,Rw,Pw,I,v0,v1,v2,v3,v4,v5⟩:=vt H2.ok
  have hw:=vac_ok m2 H2.ok I
  obtain ⟨z0,z1,z2,z3⟩:=H2.sz m2
  have zk:=kept_len S2 old S2.length
  rw [v2] at n2
  rw [v3] at n3
  rw [v4] at n4
  rw [r0,r1,h0,h1,h2,h3,h4,h5,v0,v1,v2,v3,v4,v5]
  obtain ⟨⟨_,s0⟩,⟨_,_,_,_,_,s5,s6⟩,_⟩:=same9 (kept S2 old S2.length) M2 Vw Rw Pw t a b (by omega) n2 n3 n4 I.two
  obtain ⟨_,_,_,_,_,_,_,w6,_,wtt⟩:=qvR (kept S2 old S2.length) M2 Vw Rw Pw t a b (by omega) n2 n3 n4 I.two
  have ok6:v9_6 (kept S2 old S2.length) M2 Vw Rw Pw t a b=true:=by
   rw [w6,hw,b2,v52,decide_eq_true b3,decide_eq_true (show t≤M2 by omega)]
   rfl
  have ok5:v9_5 (kept S2 old S2.length) M2 Vw Rw Pw t a b=shown S t a b:=by
   rw [(wtt ok6).2,shown_kept ho]
   exact H2.sh
  rw [s0,s6,s5,ok6,ok5,j1,j2,(P17 _ M2 Vw Rw Pw (by omega) n2 n3 n4).1,(P17 _ M2 Vw Rw Pw (by omega) n2 n3 n4).2,hw]
  obtain ⟨f1,f2⟩:=eqSt (kept S2 old S2.length) M2 Vw Rw Pw (by omega) n2 n3 n4
  rw [f1,f2]
  have fin:IntKind.i64.wrap (((kept S2 old S2.length).length:Int)+((S2.length:Int) - ((kept S2 old S2.length).length:Int)))=(S2.length:Int):=by
   rw [wrap_in (by omega) (by omega)]
   omega
  rw [fin]
  simp only [decide_true,Bool.not_true,Bool.not_false,cond_false,cond_true,beq_self_eq_true]
  rfl
theorem law3 {x0:AV} (t0:TA Tryz.prog 22 x0):m3 [x0]=some (true,.bool true):=by
 obtain ⟨code,rfl,a1,hb⟩:=tw_sl (ta_one (ct := .sl [.int .u8]) t0 (by kernel_rfl) (by kernel_rfl))
 show (raw3 code).map (fun r=>(true,r))=_
 rw [raw3_true code]
 rfl
end Go.Proofs.YtbmfgibbjchijaaGreat
