import Derived.Test.YtkdnhnkhcldonaaSTi
namespace Go.Proofs.Ytkdnhnkhcldonaa
open Go Go.Proofs.VE
set_option linter.unusedVariables false
set_option linter.unusedSimpArgs false
theorem isR_of {a b:Int} (h:v54_0 a b=true) : -1000≤a∧a≤b∧b≤1000:=by
 unfold v54_0 at h
 rw [v52,v52] at h
 cases hc:(decide (-1000≤a) && decide (a≤1000)) with
 | false=>rw [hc] at h;cases h
 | true =>
  rw [hc] at h
  simp only [cond_true,Bool.and_eq_true,decide_eq_true_eq] at h hc
  exact ⟨hc.1,h.1,h.2⟩
theorem hasI_ints {xs ys:List AV} (h:ints xs=ints ys) (x:Int):hasI xs x=hasI ys x:=by
 have hl:xs.length=ys.length:=by rw [← ints_len xs,← ints_len ys,h]
 rw [Bool.eq_iff_iff,hasI_iff,hasI_iff]
 constructor
 ·rintro ⟨j,h1,h2,h3⟩
  exact ⟨j,h1,by omega,by rw [← el_ints h j h1 h2];exact h3⟩
 ·rintro ⟨j,h1,h2,h3⟩
  exact ⟨j,h1,by omega,by rw [el_ints h j h1 (by omega)];exact h3⟩
def pA (rows ss:List AV) (t:Int) (i:Int):Bool:=hasI rows (fI (ss.getD i.toNat .undef) 1) && v27_0 (fI (ss.getD i.toNat .undef) 0) (fI (ss.getD i.toNat .undef) 1) (fI (ss.getD i.toNat .undef) 2) (fI (ss.getD i.toNat .undef) 3) t
def dA (ss:List AV) (i:Int):AV := .int .i64 (fI (ss.getD i.toNat .undef) 1)
theorem room8 (X:List AV) (a:AV) (h:X.length≤1048577):(decide ((X.length+[a].length)*8≤140737488355328) && decide (X.length+[a].length≤140737488355328))=true:=by
 simp only [List.length_singleton,Bool.and_eq_true,decide_eq_true_eq]
 omega
theorem run20 (t:Int) (h0 h1 ss:List AV) (n:Int) (v r p h3 h4:List AV) (h5 h6:Int) (rows:List AV) (hs:ss.length≤1048576) (hr:rows.length≤1048576) :
  runW (R20_0 t h0 h1 ss n v r p h3 h4 h5 h6 rows) (((ss.length:Int) - 0).toNat+1) (0,[])=some (appF (pA rows ss t) (dA ss) ss.length 0 []):=by
 refine runW_appK (fun i ys=>(i,ys)) (fun ys=>ys) ss.length (pA rows ss t) (dA ss) (fun i ys i0 hn hl=>?_) (fun ys=>?_)
 ·have d1:decide (i<(ss.length:Int))=true:=decide_eq_true hn
  have d2:decide (0≤i)=true:=decide_eq_true i0
  simp only [R20_0,F20_0,d1,d2,(P56 rows _ hr).1,(P56 rows _ hr).2,room8 ys _ (by omega),pA,Bool.and_self,cond_true]
  rw [wrap_in (a:=i+1) (by omega) (by omega)]
  cases hasI rows (fI (ss.getD i.toNat .undef) 1) <;> cases v27_0 (fI (ss.getD i.toNat .undef) 0) (fI (ss.getD i.toNat .undef) 1) (fI (ss.getD i.toNat .undef) 2) (fI (ss.getD i.toNat .undef) 3) t <;> rfl
 ·simp only [R20_0,F20_0,Int.lt_irrefl,decide_false,cond_false]
theorem hasI_sw {xs:List AV} {i j:Int} (i0:0≤i) (i1:i<xs.length) (j0:0≤j) (j1:j<xs.length) (x:Int):hasI (v103_0 i j xs) x=hasI xs x:=by
 rw [Bool.eq_iff_iff,hasI_iff,hasI_iff,sw_len]
 constructor
 ·rintro ⟨k,k0,k1,e⟩
  rw [el_sw xs i j k i0 i1 j0 j1 k0] at e
  split at e
  ·exact ⟨i,i0,i1,e⟩
  ·split at e
   ·exact ⟨j,j0,j1,e⟩
   ·exact ⟨k,k0,k1,e⟩
 ·rintro ⟨k,k0,k1,e⟩
  by_cases c1:k=i
  ·exact ⟨j,j0,j1,by rw [el_sw xs i j j i0 i1 j0 j1 j0,if_pos rfl,← c1];exact e⟩
  ·by_cases c2:k=j
   ·refine ⟨i,i0,i1,?_⟩
    rw [el_sw xs i j i i0 i1 j0 j1 i0]
    by_cases c3:i=j
    ·rw [if_pos c3];rw [c3,← c2];exact e
    ·rw [if_neg c3,if_pos rfl,← c2];exact e
   ·exact ⟨k,k0,k1,by rw [el_sw xs i j k i0 i1 j0 j1 k0,if_neg c2,if_neg c1];exact e⟩
theorem hasI_app:∀ (ss xs:List AV),inS 0 xs.length ss→∀ x,hasI (appS ss xs) x=hasI xs x
 | [],_,_,_=>rfl
 | s :: ss,xs,hs,x=>by
  obtain ⟨a,b,c,d⟩:=hs s List.mem_cons_self
  rw [appS_cons,hasI_app ss _ (by rw [sw_len];exact fun y hy=>hs y (List.mem_cons_of_mem _ hy)),hasI_sw a b c d]
theorem isSome_iff (ps:List AV) (v:Int):(findP ps v).isSome=true ↔ ∃ p ∈ ps,fI p 0=v:=by
 constructor
 ·intro h
  obtain ⟨j,hj⟩:=Option.isSome_iff_exists.1 h
  unfold findP at hj
  obtain ⟨h1,h2,h3⟩:=findF_some _ _ hj
  exact ⟨_,mem_at h1 (by omega),of_decide_eq_true h3⟩
 ·rintro ⟨p,hp,e⟩
  cases hf:(findP ps v).isSome with
  | true=>rfl
  | false =>
   obtain ⟨k,hk,rfl⟩:=List.mem_iff_getElem.1 hp
   have:=findP_none hf k (by omega) (by omega)
   unfold el at this
   rw [show ((k:Int)).toNat=k by omega,List.getD_eq_getElem?_getD,List.getElem?_eq_getElem hk] at this
   exact absurd e this
theorem mem_ins {ps:List AV} {v a:Int} {p:AV}:p ∈ insP ps v a ↔ p=mk2 v a∨p ∈ ps:=by
 unfold insP
 rw [List.mem_append,List.mem_append,List.mem_singleton]
 constructor
 ·rintro ((h|h)|h)
  ·exact .inr (List.mem_of_mem_take h)
  ·exact .inl h
  ·exact .inr (List.mem_of_mem_drop h)
 ·rintro (h|h)
  ·exact .inl (.inr h)
  ·rw [← List.take_append_drop (place ps v).toNat ps,List.mem_append] at h
   rcases h with h|h
   ·exact .inl (.inl h)
   ·exact .inr h
theorem roundS {vs rs ps:List AV} (h:Col vs rs ps) (hN:N2 ps) {v:Int} (hv : -1000≤v∧v≤1000) :
  q39 vs rs ps v=true∧Col (v39_0 vs rs ps v) (v39_1 vs rs ps v) (v39_2 vs rs ps v)∧N2 (v39_2 vs rs ps v)∧(v39_0 vs rs ps v).length=vs.length∧(findP (v39_2 vs rs ps v) v).isSome=true∧(∀ u,(findP ps u).isSome=true→(findP (v39_2 vs rs ps v) u).isSome=true)∧∀ x,hasI (v39_1 vs rs ps v) x=hasI rs x:=by
 cases hf:(findP ps v).isSome with
 | true =>
  obtain ⟨c0,c1,c2,c3,_⟩:=crack_oldS h hv hf
  rw [c0,c1,c2,c3]
  exact ⟨rfl,h,hN,rfl,hf,fun u hu=>hu,fun x=>rfl⟩
 | false =>
  obtain ⟨a,b,at_,ss,hc⟩:=crack_newS h hN hv hf
  obtain ⟨c0,c1,c2,c3,_⟩:=hc.c
  rw [c0,c1,c2,c3]
  refine ⟨rfl,hc.ok,hc.n2,appS_len _ _,(isSome_iff _ _).2 ⟨_,mem_ins.2 (.inl rfl),rfl⟩,fun u hu=>?_,hasI_app ss rs (by rw [h.len];exact hc.ins)⟩
  obtain ⟨p,hp,e⟩:=(isSome_iff _ _).1 hu
  exact (isSome_iff _ _).2 ⟨p,mem_ins.2 (.inr hp),e⟩
theorem P92s (vs rs ps:List AV) (a b:Int) (h1:vs.length≤1048576) (h2:rs.length≤1048576) (h3:ps.length≤1048576) (hN:N2 ps) :
  q92 vs rs ps a b=true∧(v92_0 vs rs ps a b).length≤1048576∧(v92_1 vs rs ps a b).length≤1048576∧(v92_2 vs rs ps a b).length≤1048576∧N2 (v92_2 vs rs ps a b) ∧
   (isC vs rs ps=true→v54_0 a b=true→Col (v92_0 vs rs ps a b) (v92_1 vs rs ps a b) (v92_2 vs rs ps a b)∧(v92_0 vs rs ps a b).length=vs.length∧(∀ x,hasI (v92_1 vs rs ps a b) x=hasI rs x) ∧
    (findP (v92_2 vs rs ps a b) a).isSome=true∧(findP (v92_2 vs rs ps a b) b).isSome=true∧v92_3 vs rs ps a b=ro (findP (v92_2 vs rs ps a b) a) 0 (pat (v92_2 vs rs ps a b))∧v92_4 vs rs ps a b=ro (findP (v92_2 vs rs ps a b) b) 0 (pat (v92_2 vs rs ps a b))):=by
 obtain ⟨m1,m2⟩:=P51 vs rs ps h1 h2 h3
 obtain ⟨c0,c1,c2,c3⟩:=P75 vs rs ps h1 h2 h3
 unfold q92 v92_0 v92_1 v92_2 v92_3 v92_4
 rw [m1,m2,c0,c1,c2,c3]
 cases hc:isC vs rs ps with
 | false=>exact ⟨rfl,h1,h2,h3,hN,fun h=>by cases h⟩
 | true =>
  cases hr:v54_0 a b with
  | false=>exact ⟨rfl,h1,h2,h3,hN,fun _ h=>by cases h⟩
  | true =>
   obtain ⟨r1,r2,r3⟩:=isR_of hr
   have hcol:=(isC_iff vs rs ps h1).1 hc
   obtain ⟨u1,u2,u3,u4,u5,u6,u7⟩:=roundS hcol hN (v:=a) ⟨r1,by omega⟩
   obtain ⟨w1,w2,w3,w4,w5,w6,w7⟩:=roundS u2 u3 (v:=b) ⟨by omega,r3⟩
   have w8:=w6 a u5
   rw [u1,w1]
   simp only [Bool.not_true,cond_false]
   generalize v39_0 (v39_0 vs rs ps a) (v39_1 vs rs ps a) (v39_2 vs rs ps a) b=X at *
   generalize v39_1 (v39_0 vs rs ps a) (v39_1 vs rs ps a) (v39_2 vs rs ps a) b=Y at *
   generalize v39_2 (v39_0 vs rs ps a) (v39_1 vs rs ps a) (v39_2 vs rs ps a) b=Z at *
   have k1:=w2.n64
   have k2:=w2.len
   have k3:=col_few w2
   obtain ⟨x1,x2,_⟩:=P73 X Y Z a (by omega)
   obtain ⟨y1,y2,_⟩:=P73 X Y Z b (by omega)
   rw [x1,y1]
   exact ⟨rfl,by omega,by omega,by omega,w3,fun _ _=>⟨w2,by omega,fun x=>(w7 x).trans (u7 x),w8,w5,x2,y2⟩⟩
theorem P93s (vs rs ps:List AV) (a b:Int) (h1:vs.length≤1048576) (h2:rs.length≤1048576) (h3:ps.length≤1048576) :
  q93 vs rs ps a b=true∧(v93_0 vs rs ps a b).length≤1048576∧(isC vs rs ps=true→a=0→b=rs.length→∀ x,hasI (v93_0 vs rs ps a b) x=hasI rs x):=by
 obtain ⟨m1,m2⟩:=P51 vs rs ps h1 h2 h3
 unfold q93 v93_0
 rw [m1,m2,v52]
 have hl:((rs.take (Int.toNat b)).drop (Int.toNat a)).length≤1048576:=by rw [List.length_drop,List.length_take];omega
 obtain ⟨k1,k2,k3⟩:=P110 _ hl
 cases isC vs rs ps with
 | false=>exact ⟨rfl,by simp,fun h=>by cases h⟩
 | true =>
  by_cases c1:0≤a
  ·by_cases c2:a≤b
   ·rw [decide_eq_true c1,decide_eq_true c2]
    by_cases c3:b > (rs.length:Int)
    ·rw [decide_eq_true c3]
     exact ⟨rfl,by simp,fun _ _ hb=>by omega⟩
    ·rw [decide_eq_false c3,decide_eq_true (show b≤(rs.length:Int) by omega),k1]
     refine ⟨rfl,by simp only [Bool.and_self,Bool.not_true,cond_false];rw [k2];exact hl,fun _ ha hb x=>?_⟩
     have e:(rs.take (Int.toNat b)).drop (Int.toNat a)=rs:=by
      rw [ha,hb]
      simp
     rw [e] at k3
     obtain ⟨s1,s2⟩:=srt_in k3
     simp only [Bool.and_self,Bool.not_true,cond_false]
     rw [e,Bool.eq_iff_iff,hasI_iff,hasI_iff]
     constructor
     ·rintro ⟨j,j0,j1,j2⟩
      obtain ⟨i,i0,i1,i2⟩:=s1 j j0 j1
      exact ⟨i,i0,i1,i2.trans j2⟩
     ·rintro ⟨j,j0,j1,j2⟩
      obtain ⟨i,i0,i1,i2⟩:=s2 j j0 j1
      exact ⟨i,i0,i1,i2.trans j2⟩
   ·rw [decide_eq_true c1,decide_eq_false c2]
    exact ⟨rfl,by simp,fun _ ha hb=>by omega⟩
  ·rw [decide_eq_false c1]
   exact ⟨rfl,by simp,fun _ ha hb=>by omega⟩
theorem P55s (vs rs ps:List AV) (a b:Int) (h1:vs.length≤1048576) (h2:rs.length≤1048576) (h3:ps.length≤1048576) (hN:N2 ps) :
  q55 vs rs ps a b=true∧(v55_0 vs rs ps a b).length≤1048576∧(v55_1 vs rs ps a b).length≤1048576∧(v55_2 vs rs ps a b).length≤1048576∧N2 (v55_2 vs rs ps a b)∧(v55_3 vs rs ps a b).length≤1048576 ∧
   (isC vs rs ps=true→a = -1000→b=1000→∀ x,hasI (v55_3 vs rs ps a b) x=hasI rs x):=by
 obtain ⟨a1,a2,a3,a4,a5,a6⟩:=P92s vs rs ps a b h1 h2 h3 hN
 obtain ⟨b1,b2,b3⟩:=P93s (v92_0 vs rs ps a b) (v92_1 vs rs ps a b) (v92_2 vs rs ps a b) (v92_3 vs rs ps a b) (v92_4 vs rs ps a b) a2 a3 a4
 unfold q55 v55_0 v55_1 v55_2 v55_3
 rw [a1,b1]
 refine ⟨rfl,a2,a3,a4,a5,b2,fun hc ha hb x=>?_⟩
 obtain ⟨c1,c2,c3,c4,c5,c6,c7⟩:=a6 hc (by rw [ha,hb];rfl)
 have hl:=c1.len
 have key:∀ u:Int,(findP (v92_2 vs rs ps a b) u).isSome=true→∃ q:Int,0≤q∧q<(v92_2 vs rs ps a b).length∧el (v92_2 vs rs ps a b) q=u∧ro (findP (v92_2 vs rs ps a b) u) 0 (pat (v92_2 vs rs ps a b))=pat (v92_2 vs rs ps a b) q:=fun u hu=>by
  obtain ⟨j,hj⟩:=Option.isSome_iff_exists.1 hu
  have hj':=hj
  unfold findP at hj'
  obtain ⟨h1,h2,h3⟩:=findF_some _ _ hj'
  exact ⟨j,h1,by omega,of_decide_eq_true h3,by rw [hj];rfl⟩
 obtain ⟨q,q0,q1,q2,q3⟩:=key a c4
 obtain ⟨p,p0,p1,p2,p3⟩:=key b c5
 have fa:v92_3 vs rs ps a b=0:=by
  rw [c6,q3]
  obtain ⟨z0,z1⟩:=c1.pa q q0 q1
  rcases Int.lt_or_le 0 (pat (v92_2 vs rs ps a b) q) with g|g
  ·have y:=(c1.part q q0 q1 0 (by omega) (by omega)).2 g
   have:=(c1.vals 0 (by omega) (by omega)).1
   omega
  ·omega
 have fb:v92_4 vs rs ps a b=(v92_1 vs rs ps a b).length:=by
  rw [c7,p3,hl]
  obtain ⟨z0,z1⟩:=c1.pa p p0 p1
  rcases Int.lt_or_le (pat (v92_2 vs rs ps a b) p) ((v92_0 vs rs ps a b).length) with g|g
  ·have y:=c1.part p p0 p1 (pat (v92_2 vs rs ps a b) p) z0 g
   have:=(c1.vals (pat (v92_2 vs rs ps a b) p) z0 g).2
   have:=y.1 (by omega)
   omega
  ·omega
 rw [b3 ((isC_iff _ _ _ a2).2 c1) fa fb x,c3]
end Go.Proofs.Ytkdnhnkhcldonaa
