import Derived.Test.YtkdnhnkhcldonaaSTn
namespace Go.Proofs.Ytkdnhnkhcldonaa
open Go Go.Proofs.VE
set_option linter.unusedVariables false
set_option linter.unusedSimpArgs false
theorem eq17 (S:List AV) (n:Int) (V R P:List AV) (z:Sz S V R P):q17 S n V R P S n V R P=true∧v17_0 S n V R P S n V R P=true:=by
 have e9:q9 V R P V R P=true∧v9_0 V R P V R P=true:=by
  unfold q9 v9_0
  rw [(P40 V V z.v).1,(P40 V V z.v).2,(P40 R R z.r).1,(P40 R R z.r).2,(P41 P P z.p).1,(P41 P P z.p).2,eqL_self ee1_self,eqL_self ee1_self,eqL_self ee2_self]
  exact ⟨rfl,rfl⟩
 have hs:=z.s
 obtain ⟨r,r1,rfl⟩:=runW_ends (f:=R17_0 S n V R P S n V R P) (fun k:Int=>0≤k∧k≤S.length) (fun r=>r = .inl ()) (fun k=>((S.length:Int) - k).toNat) (fun k hI=>by
   obtain ⟨k0,k1⟩:=hI
   by_cases ck:k<S.length
   ·have d1:decide (k<(S.length:Int))=true:=decide_eq_true ck
    have d2:decide (0≤k)=true:=decide_eq_true k0
    have wk_:IntKind.i64.wrap (k+1)=k+1:=wrap_in (by omega) (by omega)
    refine .inl ⟨k+1,?_,⟨by omega,by omega⟩,by omega⟩
    show F17_0 S n V R P S n V R P k=_
    unfold F17_0
    rw [d1,d2,wk_]
    simp only [decide_true,cond_true,Bool.not_true,cond_false,Bool.and_self]
   ·have d1:decide (k<(S.length:Int))=false:=decide_eq_false ck
    refine .inr ⟨.inl (),?_,rfl⟩
    show F17_0 S n V R P S n V R P k=_
    unfold F17_0
    rw [d1]
    rfl) (((S.length:Int) - 0).toNat+1) 0 ⟨Int.le_refl 0,by omega⟩ (by omega)
 unfold q17 v17_0
 rw [e9.1,e9.2,r1]
 simp only [decide_true,Bool.not_true,cond_false,ro,sumE,Bool.and_self]
 exact ⟨trivial,trivial⟩
theorem lives (a b c d e:Int):v26_0 a b c d e=v27_0 a b c d e:=rfl
theorem raw4_true (code:List AV):raw4 code=some (.bool true):=by
 unfold raw4
 by_cases c:(code.length:Int) > 1048576
 ·unfold v5_0
  rw [decide_eq_true c]
  rfl
 have c5:v5_0 code=false:=decide_eq_false c
 obtain ⟨d1,z⟩:=draw14 code (by omega)
 obtain ⟨d2,y⟩:=draw22 code (by omega)
 have d3:=draw25 code (by omega)
 generalize v14_0 code=s at *
 generalize v14_1 code=n at *
 generalize v14_2 code=v at *
 generalize v14_3 code=r at *
 generalize v14_4 code=p at *
 generalize v14_5 code=x at *
 generalize v22_0 code=s' at *
 generalize v22_1 code=n' at *
 generalize v22_2 code=v' at *
 generalize v22_3 code=r' at *
 generalize v22_4 code=p' at *
 generalize v22_5 code=k at *
 obtain ⟨a1,a2,e0,e1,e2,e3,e4,e5,e6,_⟩:=same16 s n v r p x z.s z.v z.r z.p
 obtain ⟨_,zi⟩:=sz16 n x z
 obtain ⟨f1,f2⟩:=eq17 _ (v16_1 s n v r p x) _ _ _ zi
 obtain ⟨g1,g2⟩:=P18 s n v r p z.s z.v z.r z.p
 obtain ⟨h1,h2⟩:=P19 s n v r p z.s z.v z.r z.p
 obtain ⟨b1,b2,b3,b4,b5,b6,b7⟩:=P24 s' n' v' r' p' k y.s y.v y.r y.p
 obtain ⟨c1,c2,c3,c4,c5',c6,c7⟩:=P23 s' n' v' r' p' k y.s y.v y.r y.p
 have yd:Sz (DS s' n' v' r' p' k) v' r' p':=⟨by rw [DS_len];exact y.s,y.v,y.r,y.p,y.n⟩
 obtain ⟨i1,i2⟩:=eq17 _ (DN s' n' v' r' p' k) _ _ _ yd
 obtain ⟨j1,_,_,_,_,_,_,j8⟩:=P20q s n v r p n (-1000) 1000 z.s z.v z.r z.p z.n
 obtain ⟨k1,_,_,_,_,_,_,k8⟩:=P20q _ (v16_1 s n v r p x) _ _ _ (v16_1 s n v r p x) (-1000) 1000 zi.s zi.v zi.r zi.p zi.n
 obtain ⟨l1,_,_,_,_,_,_,l8⟩:=P20q s' n' v' r' p' n' (-1000) 1000 y.s y.v y.r y.p y.n
 obtain ⟨m1,_,_,_,_,_,_,m8⟩:=P20q (DS s' n' v' r' p' k) (DN s' n' v' r' p' k) v' r' p' (DN s' n' v' r' p' k) (-1000) 1000 yd.s yd.v yd.r yd.p yd.n
 have tail:DB s' n' v' r' p' k=true→(decide (((live (DS s' n' v' r' p' k)).length:Int)=IntKind.i64.wrap (((live s').length:Int) - 1))=true∧(q21 (live (DS s' n' v' r' p' k)) k=true∧v21_0 (live (DS s' n' v' r' p' k)) k=false)∧(q21 (live s') k=true∧v21_0 (live s') k=true) ∧
   v20_5 s' n' v' r' p' n' (-1000) 1000=live s'∧v20_5 (DS s' n' v' r' p' k) (DN s' n' v' r' p' k) v' r' p' (DN s' n' v' r' p' k) (-1000) 1000=live (DS s' n' v' r' p' k)∧q18 (DS s' n' v' r' p' k) (DN s' n' v' r' p' k) v' r' p'=true∧v18_0 (DS s' n' v' r' p' k) (DN s' n' v' r' p' k) v' r' p'=true):=fun hD=>by
  have D:=deld hD
  have ok:=del_ok D
  obtain ⟨t1,t2,t3⟩:=live_del D
  have lb:=live_len s'
  have ly:=y.s
  have la:=live_len (DS s' n' v' r' p' k)
  rw [DS_len] at la
  obtain ⟨u1,u2⟩:=P21h (live (DS s' n' v' r' p' k)) k (by omega)
  obtain ⟨w1,w2⟩:=P21h (live s') k (by omega)
  obtain ⟨x1,x2⟩:=P18 (DS s' n' v' r' p' k) (DN s' n' v' r' p' k) v' r' p' yd.s yd.v yd.r yd.p
  refine ⟨?_,⟨u1,u2.trans t2⟩,⟨w1,w2.trans t3⟩,l8 D.was rfl rfl rfl,m8 ok rfl rfl rfl,x1,x2.trans ok⟩
  rw [wrap_in (by omega) (by omega)]
  exact decide_eq_true (by omega)
 have head:v16_6 s n v r p x=true→(decide (v16_1 s n v r p x=IntKind.i64.wrap (n+1))=true∧decide (((live (v16_0 s n v r p x)).length:Int)=IntKind.i64.wrap (((live s).length:Int)+1))=true∧(q21 (live (v16_0 s n v r p x)) (v16_5 s n v r p x)=true∧v21_0 (live (v16_0 s n v r p x)) (v16_5 s n v r p x)=true)∧(q21 (live s) (v16_5 s n v r p x)=true∧v21_0 (live s) (v16_5 s n v r p x)=false) ∧
   v20_5 s n v r p n (-1000) 1000=live s∧v20_5 (v16_0 s n v r p x) (v16_1 s n v r p x) (v16_2 s n v r p x) (v16_3 s n v r p x) (v16_4 s n v r p x) (v16_1 s n v r p x) (-1000) 1000=live (v16_0 s n v r p x) ∧
   q18 (v16_0 s n v r p x) (v16_1 s n v r p x) (v16_2 s n v r p x) (v16_3 s n v r p x) (v16_4 s n v r p x)=true∧v18_0 (v16_0 s n v r p x) (v16_1 s n v r p x) (v16_2 s n v r p x) (v16_3 s n v r p x) (v16_4 s n v r p x)=true):=fun hI=>by
  have I:=insd z.s z.v z.r z.p z.n hI
  have ok:=ins_ok I
  have lb:=live_len s
  have lz:=z.s
  have la:=live_len (v16_0 s n v r p x)
  have lzi:=zi.s
  have n0:=((isS_iff s n v r p).1 I.was).2.2.1
  have el_:live (v16_0 s n v r p x)=live s++[AV.int .i64 (v16_5 s n v r p x)]:=by
   rw [I.st,live_ins _ _ rfl]
   rfl
  obtain ⟨u1,u2⟩:=P21h (live (v16_0 s n v r p x)) (v16_5 s n v r p x) (by omega)
  obtain ⟨w1,w2⟩:=P21h (live s) (v16_5 s n v r p x) (by omega)
  obtain ⟨x1,x2⟩:=P18 (v16_0 s n v r p x) (v16_1 s n v r p x) (v16_2 s n v r p x) (v16_3 s n v r p x) (v16_4 s n v r p x) zi.s zi.v zi.r zi.p
  refine ⟨?_,?_,⟨u1,u2.trans ?_⟩,⟨w1,w2.trans ?_⟩,j8 I.was rfl rfl rfl,k8 ok rfl rfl rfl,x1,x2.trans ok⟩
  ·rw [wrap_in (by omega) (by omega)]
   exact decide_eq_true I.now
  ·rw [wrap_in (by omega) (by omega),el_,List.length_append,List.length_singleton]
   exact decide_eq_true (by omega)
  ·rw [el_]
   exact (hasI_mem _ _).2 ⟨_,List.mem_append_right _ (List.mem_singleton.2 rfl),rfl⟩
  ·cases hh:hasI (live s) (v16_5 s n v r p x) with
   | false=>rfl
   | true =>
    obtain ⟨i,i0,i1,_,i3⟩:=(has_live _ _).1 hh
    have:=I.row i i0 i1
    omega
 rw [c5,d1,d2,d3]
 simp only [e0,e1,e2,e3,e4,e5,e6,a1,a2,f1,f2,g1,g2,h1,h2,b1,b2,b3,b4,b5,b6,b7,c1,c2,c3,c4,c5',c6,c7,i1,i2,j1,k1,l1,m1,lives,beq_self_eq_true,decide_true,Bool.not_true,cond_false,cond_true]
 cases hD:DB s' n' v' r' p' k with
 | false =>
  cases hI:v16_6 s n v r p x with
  | false=>rfl
  | true =>
   obtain ⟨p1,p2,⟨p3,p4⟩,⟨p5,p6⟩,p7,p8,p9,p10⟩:=head hI
   simp only [p7,p8,p1,p2,p3,p4,p5,p6,p9,p10,Bool.not_true,cond_false,cond_true]
 | true =>
  obtain ⟨q1,⟨q2,q3⟩,⟨q4,q5⟩,q6,q7,q8,q9⟩:=tail hD
  simp only [q6,q7,q1,q2,q3,q4,q5,q8,q9,Bool.not_true,cond_false,cond_true]
  cases hI:v16_6 s n v r p x with
  | false=>rfl
  | true =>
   obtain ⟨p1,p2,⟨p3,p4⟩,⟨p5,p6⟩,p7,p8,p9,p10⟩:=head hI
   simp only [p7,p8,p1,p2,p3,p4,p5,p6,p9,p10,Bool.not_true,cond_false,cond_true]
theorem law4 {x0:AV} (t0:TA Try.prog 22 x0):m4 [x0]=some (true,.bool true):=by
 obtain ⟨code,rfl,a1,hb⟩:=tw_sl (ta_one (ct := .sl [.int .u8]) t0 (by kernel_rfl) (by kernel_rfl))
 show (raw4 code).map (fun r=>(true,r))=_
 rw [raw4_true code]
 rfl
end Go.Proofs.Ytkdnhnkhcldonaa
