import Derived.Test.YtkdnhnkhcldonaaSTj
namespace Go.Proofs.Ytkdnhnkhcldonaa
open Go Go.Proofs.VE
set_option linter.unusedVariables false
set_option linter.unusedSimpArgs false
theorem pat_of {P:List AV} {i:Int}:pat P i=fI (P.getD i.toNat .undef) 1:=rfl
structure Rp (vs rs ps:List AV) (x:Int) (s:S6) (τ:Int→Int):Prop where
 lv:s.2.2.2.1.length=vs.length+1
 lr:s.2.2.2.2.1.length=vs.length+1
 lp:s.2.2.2.2.2.length=ps.length
 k0 : -1≤s.2.2.1
 k1:s.2.2.1<ps.length
 m0:0≤s.2.1
 m1:s.2.1+s.2.2.1+1≤ps.length
 h0:0≤s.1
 h1:s.1≤vs.length
 hk:∀ q:Int,0≤q→q≤s.2.2.1→pat ps q≤s.1
 hq:∀ q:Int,s.2.2.1<q→q<ps.length→s.1≤pat ps q∧x<el ps q
 pq:∀ q:Int,0≤q→q<ps.length→el s.2.2.2.2.2 q=el ps q∧pat s.2.2.2.2.2 q=if s.2.2.1<q then pat ps q+1 else pat ps q
 n2:N2 s.2.2.2.2.2
 lo:∀ i:Int,0≤i→i<s.1→el s.2.2.2.1 i=el vs i∧el s.2.2.2.2.1 i=el rs i
 up:∀ i:Int,s.1<i→i≤vs.length→s.1≤τ i∧τ i<vs.length∧el s.2.2.2.1 i=el vs (τ i)∧el s.2.2.2.2.1 i=el rs (τ i)∧∀ q:Int,s.2.2.1<q→q<ps.length→(i<pat ps q+1 ↔ τ i<pat ps q)
 on:∀ j:Int,s.1≤j→j<vs.length→∃ i,s.1<i∧i≤vs.length∧τ i=j
 inj:∀ i i':Int,s.1<i→i≤vs.length→s.1<i'→i'≤vs.length→τ i=τ i'→i=i'
theorem pat_set {P:List AV} {i:Nat} {a b:Int} (h:i<P.length) (q:Int) (q0:0≤q):pat (P.set i (mk2 a b)) q=(if q=i then b else pat P q)∧el (P.set i (mk2 a b)) q=if q=i then a else el P q:=by
 unfold pat el
 by_cases e:q=i
 ·rw [if_pos e,if_pos e,show q.toNat=i by omega,getD_set h]
  exact ⟨rfl,rfl⟩
 ·rw [if_neg e,if_neg e,getD_set_ne (by omega)]
  exact ⟨rfl,rfl⟩
theorem N2.set {P:List AV} (h:N2 P) (i:Nat) (a b:Int):N2 (P.set i (mk2 a b)):=fun x hx=>by
 rcases List.mem_or_eq_of_mem_set hx with hx|rfl
 ·exact h x hx
 ·rfl
theorem stepRp {vs rs ps:List AV} (hc:Col vs rs ps) (x row:Int) (s:S6) (τ:Int→Int) (h:Rp vs rs ps x s τ) :
  (∃ s' τ',R48_0 x row s = .next s'∧Rp vs rs ps x s' τ'∧(s'.2.2.1+1).toNat<(s.2.2.1+1).toNat) ∨
  (R48_0 x row s = .stop (s.1,s.2.1,s.2.2.2.1,s.2.2.2.2.1,s.2.2.2.2.2)∧∀ q:Int,0≤q→q≤s.2.2.1→el ps q≤x):=by
 obtain ⟨h,mv,k,V,R,P⟩:=s
 obtain ⟨lv,lr,lp,k0,k1,m0,m1,h0,h1,hk,hq,pq,n2,lo,up,on,inj⟩:=h
 simp only at lv lr lp k0 k1 m0 m1 h0 h1 hk hq pq n2 lo up on inj
 have n64:=hc.n64
 have few:=col_few hc
 by_cases ck:k ≥ 0
 ·have dk1:decide (k ≥ 0)=true:=decide_eq_true ck
  have dk2:decide (0≤k)=true:=decide_eq_true ck
  have dk3:decide (k<(P.length:Int))=true:=decide_eq_true (by omega)
  obtain ⟨pv,pa⟩:=pq k ck k1
  rw [if_neg (by omega)] at pa
  have ev:fI (P.getD k.toNat AV.undef) 0=el ps k:=pv
  have ea:fI (P.getD k.toNat AV.undef) 1=pat ps k:=pa
  by_cases hv:el ps k > x
  ·have dv:decide (el ps k > x)=true:=decide_eq_true hv
   obtain ⟨b0,b1⟩:=hc.pa k ck k1
   have ah:=hk k ck (Int.le_refl _)
   have wk_:IntKind.i64.wrap (k - 1)=k - 1:=wrap_in (by omega) (by omega)
   have wa:IntKind.i64.wrap (pat ps k+1)=pat ps k+1:=wrap_in (by omega) (by omega)
   have hkN:k.toNat<P.length:=by omega
   have pq':∀ q:Int,0≤q→q<ps.length→el (P.set k.toNat (mk2 (el ps k) (pat ps k+1))) q=el ps q∧pat (P.set k.toNat (mk2 (el ps k) (pat ps k+1))) q=if k - 1<q then pat ps q+1 else pat ps q:=fun q q0 q1=>by
    obtain ⟨z1,z2⟩:=pat_set (a:=el ps k) (b:=pat ps k+1) hkN q q0
    rw [z1,z2]
    obtain ⟨w1,w2⟩:=pq q q0 q1
    by_cases e:q=k
    ·subst e
     rw [if_pos (by omega),if_pos (by omega),if_pos (by omega)]
     exact ⟨rfl,rfl⟩
    ·rw [if_neg (by omega),if_neg (by omega),w1,w2]
     refine ⟨rfl,?_⟩
     by_cases e2:k<q
     ·rw [if_pos e2,if_pos (by omega)]
     ·rw [if_neg e2,if_neg (by omega)]
   have hk':∀ q:Int,0≤q→q≤k - 1→pat ps q≤pat ps k:=fun q q0 q1=>(hc.lt (i:=q) (j:=k) q0 (by omega) k1).2
   have hq':∀ q:Int,k - 1<q→q<ps.length→pat ps k≤pat ps q∧x<el ps q:=fun q q0 q1=>by
    by_cases e:q=k
    ·subst e;exact ⟨Int.le_refl _,hv⟩
    ·have:=hc.lt (i:=k) (j:=q) ck (by omega) q1
     have:=(hq q (by omega) q1).2
     exact ⟨by omega,this⟩
   by_cases ha:pat ps k=h
   ·have da:decide (pat ps k=h)=true:=decide_eq_true ha
    have wm:IntKind.i64.wrap (mv+0)=mv:=by rw [wrap_in (by omega) (by omega),Int.add_zero]
    refine .inl ⟨(pat ps k,mv,k - 1,V,R,P.set k.toNat (mk2 (el ps k) (pat ps k+1))),τ,?_,⟨lv,lr,by simp only [List.length_set];exact lp,by simp only;omega,by simp only;omega,m0,by simp only;omega,by simp only;omega,by simp only;omega,hk',hq',pq',n2.set _ _ _,by simp only;rw [ha];exact lo,?_,by simp only;rw [ha];exact on,by simp only;rw [ha];exact inj⟩,by simp only;omega⟩
    ·show F48_0 x row h mv k V R P=_
     unfold F48_0
     rw [dk1,dk3,ev,dv,ea,da,wm,wk_,wa]
     rfl
    ·simp only
     intro i i0 i1
     rw [ha] at i0
     obtain ⟨u1,u2,u3,u4,u5⟩:=up i i0 i1
     refine ⟨by omega,u2,u3,u4,fun q q0 q1=>?_⟩
     by_cases e:q=k
     ·subst e
      constructor <;> intro <;> omega
     ·exact u5 q (by omega) q1
   ·have da:decide (pat ps k=h)=false:=decide_eq_false ha
    have c1:decide (0≤pat ps k)=true:=decide_eq_true b0
    have c2:decide (pat ps k<(V.length:Int))=true:=decide_eq_true (by omega)
    have c3:decide (pat ps k<(R.length:Int))=true:=decide_eq_true (by omega)
    have c4:decide (0≤h)=true:=decide_eq_true h0
    have c5:decide (h<(V.length:Int))=true:=decide_eq_true (by omega)
    have c6:decide (h<(R.length:Int))=true:=decide_eq_true (by omega)
    have wm:IntKind.i64.wrap (mv+1)=mv+1:=wrap_in (by omega) (by omega)
    have eV:∀ i:Int,0≤i→el (V.set h.toNat (AV.agg [AV.int .i64 (fI (V.getD (pat ps k).toNat AV.undef) 0)])) i=if i=h then el V (pat ps k) else el V i:=fun i i0=>el_set V h i _ h0 (by omega) i0
    have eR:∀ i:Int,0≤i→el (R.set h.toNat (AV.agg [AV.int .i64 (fI (R.getD (pat ps k).toNat AV.undef) 0)])) i=if i=h then el R (pat ps k) else el R i:=fun i i0=>el_set R h i _ h0 (by omega) i0
    obtain ⟨la,lb⟩:=lo (pat ps k) b0 (by omega)
    refine .inl ⟨(pat ps k,mv+1,k - 1,V.set h.toNat (AV.agg [AV.int .i64 (fI (V.getD (pat ps k).toNat AV.undef) 0)]),R.set h.toNat (AV.agg [AV.int .i64 (fI (R.getD (pat ps k).toNat AV.undef) 0)]),P.set k.toNat (mk2 (el ps k) (pat ps k+1))),
     fun i=>if i<h then i else if i=h then pat ps k else τ i,?_,⟨by simp only [List.length_set];exact lv,by simp only [List.length_set];exact lr,by simp only [List.length_set];exact lp,by simp only;omega,by simp only;omega,by simp only;omega,by simp only;omega,b0,by simp only;omega,hk',hq',pq',n2.set _ _ _,?_,?_,?_,?_⟩,by simp only;omega⟩
    ·show F48_0 x row h mv k V R P=_
     unfold F48_0
     rw [dk1,dk3,ev,dv,ea,da,c1,c2,c3,c4,c5,c6,wm,wk_,wa]
     rfl
    ·simp only
     intro i i0 i1
     rw [eV i i0,eR i i0,if_neg (by omega),if_neg (by omega)]
     exact lo i i0 (by omega)
    ·simp only
     intro i i0 i1
     rw [eV i (by omega),eR i (by omega)]
     rcases Int.lt_trichotomy i h with c|c|c
     ·rw [if_pos c,if_neg (by omega),if_neg (by omega)]
      obtain ⟨p1,p2⟩:=lo i (by omega) c
      refine ⟨by omega,by omega,p1,p2,fun q q0 q1=>?_⟩
      by_cases e:q=k
      ·subst e
       constructor <;> intro <;> omega
      ·have:=(hq q (by omega) q1).1
       constructor <;> intro <;> omega
     ·rw [if_neg (by omega),if_pos c,if_pos c,if_pos c]
      refine ⟨Int.le_refl _,by omega,la,lb,fun q q0 q1=>?_⟩
      by_cases e:q=k
      ·subst e
       constructor <;> intro <;> omega
      ·have:=(hq q (by omega) q1).1
       constructor <;> intro <;> omega
     ·rw [if_neg (by omega),if_neg (by omega),if_neg (by omega),if_neg (by omega)]
      obtain ⟨u1,u2,u3,u4,u5⟩:=up i c i1
      refine ⟨by omega,u2,u3,u4,fun q q0 q1=>?_⟩
      by_cases e:q=k
      ·subst e
       constructor <;> intro <;> omega
      ·exact u5 q (by omega) q1
    ·simp only
     intro j j0 j1
     rcases Int.lt_trichotomy j h with c|c|c
     ·by_cases e:j=pat ps k
      ·exact ⟨h,by omega,h1,by rw [if_neg (by omega),if_pos rfl,e]⟩
      ·exact ⟨j,by omega,by omega,by rw [if_pos c]⟩
     ·obtain ⟨i,i0,i1,i2⟩:=on j (by omega) j1
      exact ⟨i,by omega,i1,by rw [if_neg (by omega),if_neg (by omega)];exact i2⟩
     ·obtain ⟨i,i0,i1,i2⟩:=on j (by omega) j1
      exact ⟨i,by omega,i1,by rw [if_neg (by omega),if_neg (by omega)];exact i2⟩
    ·simp only
     intro i i' i0 i1 i2 i3 he
     have ui:h<i→h≤τ i:=fun c=>(up i c i1).1
     have ui':h<i'→h≤τ i':=fun c=>(up i' c i3).1
     rcases Int.lt_trichotomy i h with c|c|c <;> rcases Int.lt_trichotomy i' h with d|d|d
     ·rw [if_pos c,if_pos d] at he;exact he
     ·rw [if_pos c,if_neg (by omega),if_pos d] at he;omega
     ·rw [if_pos c,if_neg (by omega),if_neg (by omega)] at he;have:=ui' d;omega
     ·rw [if_neg (by omega),if_pos c,if_pos d] at he;omega
     ·omega
     ·rw [if_neg (by omega),if_pos c,if_neg (by omega),if_neg (by omega)] at he;have:=ui' d;omega
     ·rw [if_neg (by omega),if_neg (by omega),if_pos d] at he;have:=ui c;omega
     ·rw [if_neg (by omega),if_neg (by omega),if_neg (by omega),if_pos d] at he;have:=ui c;omega
     ·rw [if_neg (by omega),if_neg (by omega),if_neg (by omega),if_neg (by omega)] at he;exact inj i i' c i1 d i3 he
  ·have dv:decide (el ps k > x)=false:=decide_eq_false hv
   refine .inr ⟨?_,fun q q0 q1=>?_⟩
   ·show F48_0 x row h mv k V R P=_
    unfold F48_0
    rw [dk1,dk3,ev,dv]
    rfl
   ·simp only at q1
    by_cases e:q=k
    ·subst e;omega
    ·have:=(hc.lt (i:=q) (j:=k) q0 (by omega) k1).1
     omega
 ·have dk1:decide (k ≥ 0)=false:=decide_eq_false ck
  refine .inr ⟨?_,fun q q0 q1=>by simp only at q1;omega⟩
  show F48_0 x row h mv k V R P=_
  unfold F48_0
  rw [dk1]
  rfl
theorem runRp {vs rs ps:List AV} (hc:Col vs rs ps) (x row:Int):∀ (f:Nat) (s:S6) (τ:Int→Int),Rp vs rs ps x s τ→(s.2.2.1+1).toNat<f→∃ s' τ',runW (R48_0 x row) f s=some (s'.1,s'.2.1,s'.2.2.2.1,s'.2.2.2.2.1,s'.2.2.2.2.2)∧Rp vs rs ps x s' τ'∧∀ q:Int,0≤q→q≤s'.2.2.1→el ps q≤x
 | 0,s,τ,_,h=>by omega
 | f+1,s,τ,hI,hf=>by
  rcases stepRp hc x row s τ hI with ⟨s1,τ1,e,h1,h2⟩|⟨e,h1⟩
  ·obtain ⟨s',τ',g1,g2,g3⟩:=runRp hc x row f s1 τ1 h1 (by omega)
   refine ⟨s',τ',?_,g2,g3⟩
   show (R48_0 x row s).el none _ some=_
   rw [e]
   exact g1
  ·refine ⟨s,τ,?_,hI,h1⟩
   show (R48_0 x row s).el none _ some=_
   rw [e]
   rfl
structure Rin (vs rs ps:List AV) (x row:Int) (V R P:List AV):Prop where
 col:Col V R P
 two:N2 P
 lv:V.length=vs.length+1
 old:∀ j:Int,0≤j→j<vs.length→∃ i:Int,0≤i∧i<V.length∧el V i=el vs j∧el R i=el rs j
 new:∃ i:Int,0≤i∧i<V.length∧el V i=x∧el R i=row
theorem rin_of {vs rs ps:List AV} (hc:Col vs rs ps) {x row:Int} (hx : -999≤x∧x≤999) (hr:0≤row∧row≤999) (hn:∀ j:Int,0≤j→j<rs.length→el rs j ≠ row) (h64:vs.length<64) {s:S6} {τ:Int→Int} (h:Rp vs rs ps x s τ) (hst:∀ q:Int,0≤q→q≤s.2.2.1→el ps q≤x) :
  Rin vs rs ps x row (s.2.2.2.1.set s.1.toNat (AV.agg [AV.int .i64 x])) (s.2.2.2.2.1.set s.1.toNat (AV.agg [AV.int .i64 row])) s.2.2.2.2.2:=by
 obtain ⟨h,mv,k,V,R,P⟩:=s
 obtain ⟨lv,lr,lp,k0,k1,m0,m1,h0,h1,hk,hq,pq,n2,lo,up,on,inj⟩:=h
 simp only at lv lr lp k0 k1 m0 m1 h0 h1 hk hq pq n2 lo up on inj hst ⊢
 have hl:=hc.len
 have eV:∀ i:Int,0≤i→el (V.set h.toNat (AV.agg [AV.int .i64 x])) i=if i=h then x else el V i:=fun i i0=>el_set V h i x h0 (by omega) i0
 have eR:∀ i:Int,0≤i→el (R.set h.toNat (AV.agg [AV.int .i64 row])) i=if i=h then row else el R i:=fun i i0=>el_set R h i row h0 (by omega) i0
 have at_:∀ i:Int,0≤i→i≤vs.length→i ≠ h→∃ j:Int,0≤j∧j<vs.length∧el V i=el vs j∧el R i=el rs j∧(i<h∧j=i∨h<i∧h≤j∧j=τ i):=fun i i0 i1 ih=>by
  rcases Int.lt_trichotomy i h with c|c|c
  ·obtain ⟨p1,p2⟩:=lo i i0 c
   exact ⟨i,i0,by omega,p1,p2,.inl ⟨c,rfl⟩⟩
  ·exact absurd c ih
  ·obtain ⟨u1,u2,u3,u4,u5⟩:=up i c i1
   exact ⟨τ i,by omega,u2,u3,u4,.inr ⟨c,u1,rfl⟩⟩
 refine ⟨⟨?_,?_,?_,?_,?_,?_,?_,?_,?_⟩,n2,by rw [List.length_set];exact lv,?_,?_⟩
 ·rw [List.length_set];omega
 ·intro i i0 i1
  rw [List.length_set] at i1
  rw [eV i i0]
  by_cases e:i=h
  ·rw [if_pos e];exact hx
  ·rw [if_neg e]
   obtain ⟨j,j0,j1,e1,e2,_⟩:=at_ i i0 (by omega) e
   rw [e1];exact hc.vals j j0 j1
 ·rw [List.length_set,List.length_set];omega
 ·intro i i0 i1
  rw [List.length_set] at i1
  rw [eR i i0]
  by_cases e:i=h
  ·rw [if_pos e];exact hr
  ·rw [if_neg e]
   obtain ⟨j,j0,j1,e1,e2,_⟩:=at_ i i0 (by omega) e
   rw [e2];exact hc.rows j j0 (by omega)
 ·intro i i' i0 ii i1
  rw [List.length_set] at i1
  rw [eR i i0,eR i' (by omega)]
  have ne:∀ j j':Int,0≤j→j<rs.length→0≤j'→j'<rs.length→j ≠ j'→el rs j ≠ el rs j':=fun j j' a b c d e=>by
   rcases Int.lt_or_gt_of_ne e with f|f
   ·exact hc.dist j j' a f d
   ·exact fun g=>hc.dist j' j c f b g.symm
  by_cases e:i=h
  ·rw [if_pos e,if_neg (by omega)]
   obtain ⟨j,j0,j1,e1,e2,_⟩:=at_ i' (by omega) (by omega) (by omega)
   rw [e2]
   exact fun g=>hn j j0 (by omega) g.symm
  ·rw [if_neg e]
   obtain ⟨j,j0,j1,e1,e2,e3⟩:=at_ i i0 (by omega) e
   rw [e2]
   by_cases e':i'=h
   ·rw [if_pos e']
    exact hn j j0 (by omega)
   ·rw [if_neg e']
    obtain ⟨j',j0',j1',e1',e2',e3'⟩:=at_ i' (by omega) (by omega) e'
    rw [e2']
    refine ne j j' j0 (by omega) j0' (by omega) fun g=>?_
    rcases e3 with ⟨a1,a2⟩|⟨a1,a2,a3⟩ <;> rcases e3' with ⟨b1,b2⟩|⟨b1,b2,b3⟩
    ·omega
    ·omega
    ·omega
    ·have:=inj i i' a1 (by omega) b1 (by omega) (by rw [← a3,← b3];exact g)
     omega
 ·intro q q0 q1
  rw [(pq q q0 (by omega)).1]
  exact hc.pv q q0 (by omega)
 ·intro q q0 q1
  rw [(pq q q0 (by omega)).2,List.length_set]
  have:=hc.pa q q0 (by omega)
  split <;> omega
 ·intro q q0 q1
  rw [(pq q (by omega) (by omega)).1,(pq q (by omega) (by omega)).2,(pq (q - 1) (by omega) (by omega)).1,(pq (q - 1) (by omega) (by omega)).2]
  have:=hc.asc q q0 (by omega)
  refine ⟨this.1,?_⟩
  split <;> split <;> omega
 ·intro q q0 q1 i i0 i1
  rw [List.length_set] at i1
  rw [(pq q q0 (by omega)).1,(pq q q0 (by omega)).2,eV i i0]
  by_cases kq:k<q
  ·rw [if_pos kq]
   obtain ⟨z1,z2⟩:=hq q kq (by omega)
   by_cases e:i=h
   ·rw [if_pos e]
    constructor <;> intro <;> omega
   ·rw [if_neg e]
    rcases Int.lt_or_gt_of_ne e with c|c
    ·rw [(lo i i0 c).1]
     have:=hc.part q q0 (by omega) i i0 (by omega)
     constructor
     ·intro;omega
     ·intro;exact this.2 (by omega)
    ·obtain ⟨u1,u2,u3,u4,u5⟩:=up i c (by omega)
     rw [u3,hc.part q q0 (by omega) (τ i) (by omega) u2]
     exact (u5 q kq (by omega)).symm
  ·rw [if_neg kq]
   have z1:=hk q q0 (by omega)
   have z2:=hst q q0 (by omega)
   by_cases e:i=h
   ·rw [if_pos e]
    constructor <;> intro <;> omega
   ·rw [if_neg e]
    rcases Int.lt_or_gt_of_ne e with c|c
    ·rw [(lo i i0 c).1]
     exact hc.part q q0 (by omega) i i0 (by omega)
    ·obtain ⟨u1,u2,u3,u4,u5⟩:=up i c (by omega)
     rw [u3,hc.part q q0 (by omega) (τ i) (by omega) u2]
     constructor <;> intro <;> omega
 ·intro j j0 j1
  rcases Int.lt_or_le j h with c|c
  ·refine ⟨j,j0,by rw [List.length_set];omega,?_⟩
   rw [eV j j0,eR j j0,if_neg (by omega),if_neg (by omega)]
   exact lo j j0 c
  ·obtain ⟨i,i0,i1,i2⟩:=on j c j1
   obtain ⟨u1,u2,u3,u4,u5⟩:=up i i0 i1
   refine ⟨i,by omega,by rw [List.length_set];omega,?_⟩
   rw [eV i (by omega),eR i (by omega),if_neg (by omega),if_neg (by omega),u3,u4,i2]
   exact ⟨rfl,rfl⟩
 ·refine ⟨h,h0,by rw [List.length_set];omega,?_⟩
  rw [eV h h0,eR h h0,if_pos rfl,if_pos rfl]
  exact ⟨rfl,rfl⟩
end Go.Proofs.Ytkdnhnkhcldonaa
