import Derived.Test.YtkdnhnkhcldonaaSTe
namespace Go.Proofs.Ytkdnhnkhcldonaa
open Go Go.Proofs.VE
set_option linter.unusedVariables false
set_option linter.unusedSimpArgs false
structure ParJ (vs:List AV) (v a b:Int) (s:PS):Prop where
 i0:a≤s.1
 ij:s.1≤s.2.1+1
 j1:s.2.1<b
 ins:inS a b s.2.2
 n2:N2 s.2.2
 len:(s.2.2.length:Int)≤s.1 - a
 mid:∀ k:Int,s.1≤k→k≤s.2.1→el (appS s.2.2 vs) k=el vs k
 lo:∀ k:Int,a≤k→k<s.1→el (appS s.2.2 vs) k<v
 hi:∀ k:Int,s.2.1<k→k<b→v≤el (appS s.2.2 vs) k
 ord:∀ x ∈ s.2.2,fI x 0<fI x 1
theorem stepJ (vs:List AV) (v a b:Int) (hn:vs.length≤1048576) (a0:0≤a) (b1:b≤vs.length) (s:PS) (h:ParJ vs v a b s) :
  (∃ x,R76_0 vs v s = .next x∧ParJ vs v a b x∧(x.2.1+1 - x.1).toNat<(s.2.1+1 - s.1).toNat)∨∃ r,R76_0 vs v s = .stop r∧Parted vs v a b r.2 r.1:=by
 obtain ⟨i',j',ss'⟩:=s
 obtain ⟨i0,ij,j1,ins,n2,len,mid,lo,hi,ord⟩:=h
 simp only at i0 ij j1 ins n2 len mid lo hi ord
 have hlen:=appS_len ss' vs
 by_cases hij:i'≤j'
 ·have d0:decide (i'≤j')=true:=decide_eq_true hij
  have c1:decide (0≤i')=true:=decide_eq_true (by omega)
  have c2:decide (i'<(vs.length:Int))=true:=decide_eq_true (by omega)
  have c3:decide (0≤j')=true:=decide_eq_true (by omega)
  have c4:decide (j'<(vs.length:Int))=true:=decide_eq_true (by omega)
  have wi:IntKind.i64.wrap (i'+1)=i'+1:=wrap_in (by omega) (by omega)
  have wj:IntKind.i64.wrap (j' - 1)=j' - 1:=wrap_in (by omega) (by omega)
  have mi:=mid i' (Int.le_refl _) hij
  have mj:=mid j' hij (Int.le_refl _)
  have gi:fI (vs.getD i'.toNat AV.undef) 0=el vs i':=rfl
  have gj:fI (vs.getD j'.toNat AV.undef) 0=el vs j':=rfl
  by_cases h1:el vs i'<v
  ·have d1:decide (el vs i'<v)=true:=decide_eq_true h1
   refine .inl ⟨(i'+1,j',ss'),?_,⟨by simp only;omega,by simp only;omega,j1,ins,n2,by simp only;omega,fun k k0 k1=>mid k (by simp only at k0;omega) k1,fun k k0 k1=>?_,hi,ord⟩,by simp only;omega⟩
   ·simp only [R76_0,F76_0,gi,d0,c1,c2,d1,wi,Bool.and_self,cond_true]
   ·simp only at k1 ⊢
    by_cases e:k=i'
    ·rw [e,mi];exact h1
    ·exact lo k k0 (by omega)
  ·have d1:decide (el vs i'<v)=false:=decide_eq_false h1
   by_cases h2:el vs j' ≥ v
   ·have d2:decide (el vs j' ≥ v)=true:=decide_eq_true h2
    refine .inl ⟨(i',j' - 1,ss'),?_,⟨i0,by simp only;omega,by simp only;omega,ins,n2,len,fun k k0 k1=>mid k k0 (by simp only at k1;omega),lo,fun k k0 k1=>?_,ord⟩,by simp only;omega⟩
    ·simp only [R76_0,F76_0,gi,gj,d0,c1,c2,c3,c4,d1,d2,wj,Bool.and_self,cond_true,cond_false]
    ·simp only at k0 ⊢
     by_cases e:k=j'
     ·rw [e,mj];exact h2
     ·exact hi k (by omega) k1
   ·have d2:decide (el vs j' ≥ v)=false:=decide_eq_false h2
    have hne:i'<j':=by
     rcases Int.lt_or_eq_of_le hij with h|h
     ·exact h
     ·rw [h] at h1;omega
    have hr:=room2 ss' (AV.agg [AV.int .i64 i',AV.int .i64 j']) (by omega)
    have eap:appS (ss'++[AV.agg [AV.int .i64 i',AV.int .i64 j']]) vs=v103_0 i' j' (appS ss' vs):=appS_snoc _ _ _
    have ev:∀ k:Int,0≤k→el (v103_0 i' j' (appS ss' vs)) k=if k=j' then el (appS ss' vs) i' else if k=i' then el (appS ss' vs) j' else el (appS ss' vs) k:=fun k k0=>el_sw _ i' j' k (by omega) (by omega) (by omega) (by omega) k0
    refine .inl ⟨(i'+1,j' - 1,ss'++[AV.agg [AV.int .i64 i',AV.int .i64 j']]),?_,
     ⟨by simp only;omega,by simp only;omega,by simp only;omega,fun x hx=>?_,fun x hx=>?_,by simp only [List.length_append,List.length_singleton];omega,fun k k0 k1=>?_,fun k k0 k1=>?_,fun k k0 k1=>?_,fun x hx=>?_⟩,by simp only;omega⟩
    ·simp only [R76_0,F76_0,gi,gj,d0,c1,c2,c3,c4,d1,d2,wi,wj,hr,Bool.and_self,cond_true,cond_false]
    ·rcases List.mem_append.1 hx with hx|hx
     ·exact ins x hx
     ·rw [List.mem_singleton.1 hx]
      exact ⟨i0,by show i'<b;omega,by show a≤j';omega,j1⟩
    ·rcases List.mem_append.1 hx with hx|hx
     ·exact n2 x hx
     ·rw [List.mem_singleton.1 hx]
      rfl
    ·simp only at k0 k1
     rw [eap,ev k (by omega),if_neg (by omega),if_neg (by omega)]
     exact mid k (by omega) (by omega)
    ·simp only at k1
     rw [eap,ev k (by omega),if_neg (by omega)]
     split
     ·rw [mj];omega
     ·exact lo k k0 (by omega)
    ·simp only at k0
     rw [eap,ev k (by omega)]
     split
     ·rw [mi];omega
     ·rw [if_neg (by omega)]
      exact hi k (by omega) k1
    ·rcases List.mem_append.1 hx with hx|hx
     ·exact ord x hx
     ·rw [List.mem_singleton.1 hx]
      exact hne
 ·have d0:decide (i'≤j')=false:=decide_eq_false hij
  refine .inr ⟨(i',ss'),?_,⟨i0,by simp only;omega,ins,n2,len,lo,fun k k0 k1=>hi k (by simp only at k0;omega) k1,ord⟩⟩
  simp only [R76_0,F76_0,d0,cond_false]
theorem P76s (vs:List AV) (v a b:Int) (hn:vs.length≤1048576) (a0:0≤a) (ab:a≤b) (b1:b≤vs.length):q76 vs a b v=true∧Parted vs v a b (v76_0 vs a b v) (v76_1 vs a b v):=by
 obtain ⟨r,h1,h5⟩:=runW_ends (ParJ vs v a b) (fun (r:Int × List AV)=>Parted vs v a b r.2 r.1) (fun s=>(s.2.1+1 - s.1).toNat) (stepJ vs v a b hn a0 b1) (((b - 1) - a+1).toNat+1) (a,b - 1,[])
  ⟨Int.le_refl _,by simp only;omega,by simp only;omega,fun x hx=>by simp at hx,fun x hx=>by simp at hx,by simp,fun k _ _=>rfl,fun k k0 k1=>by simp only at k1;omega,fun k k0 k1=>by simp only at k0;omega,fun x hx=>by simp at hx⟩ (by simp only;omega)
 have wb:IntKind.i64.wrap (b - 1)=b - 1:=wrap_in (by omega) (by omega)
 have d3:decide (b > (vs.length:Int))=false:=decide_eq_false (by omega)
 have d4:v52_0 a 0 b=true:=by rw [v52,decide_eq_true a0,decide_eq_true ab];rfl
 unfold q76 v76_0 v76_1
 rw [wb,d3,d4,h1]
 exact ⟨rfl,h5⟩
structure Cs (vs rs ps:List AV) (v a b at_:Int) (ss:List AV):Prop where
 c:q39 vs rs ps v=true∧v39_0 vs rs ps v=appS ss vs∧v39_1 vs rs ps v=appS ss rs∧v39_2 vs rs ps v=insP ps v at_∧v39_4 vs rs ps v=true
 ok:Col (appS ss vs) (appS ss rs) (insP ps v at_)
 n2:N2 (insP ps v at_)
 ins:inS 0 vs.length ss
theorem crack_newS {vs rs ps:List AV} (h:Col vs rs ps) (hN:N2 ps) {v:Int} (hv : -1000≤v∧v≤1000) (hf:(findP ps v).isSome=false):∃ (a b at_:Int) (ss:List AV),Cs vs rs ps v a b at_ ss:=by
 have hl:=h.n64
 have hlen:=h.len
 have hfew:=col_few h
 have hp:=pc_of h hf
 have hpi:=piece_of h hp
 generalize (if place ps v=0 then 0 else pat ps (place ps v - 1))=a at hp hpi
 generalize (if place ps v=ps.length then (vs.length:Int) else pat ps (place ps v))=b at hp hpi
 have a0:=hpi.a0
 have ab:=hpi.ab
 have b1:=hpi.b1
 have k97:=P74 h hv hp
 obtain ⟨d1,par⟩:=P76s vs v a b (by omega) a0 ab b1
 generalize hss:v76_0 vs a b v=ss at par
 generalize hat:v76_1 vs a b v=at_ at par
 have i0:=par.i0
 have i1:=par.i1
 have hs64:ss.length≤64:=by have:=par.len;omega
 have hin:inS 0 vs.length ss:=fun s hs=>by obtain ⟨x1,x2,x3,x4⟩:=par.ins s hs;exact ⟨by omega,by omega,by omega,by omega⟩
 have hcol1:=Col.swaps (ps:=ps) a0 hpi.cut ss vs rs h b1 par.ins
 have la:=appS_len ss vs
 have lr:=appS_len ss rs
 have hout:=appS_out a0 ss vs b1 par.ins
 have hcol2:Col (appS ss vs) (appS ss rs) (insP ps v at_):=by
  refine hcol1.pivot (findP_none hf) hv ⟨by omega,by omega⟩ (fun k k0 k1=>?_) (fun p p0 p1=>?_)
  ·rw [la] at k1
   constructor
   ·intro hk
    rcases Int.lt_or_le k at_ with q|q
    ·exact q
    ·exfalso
     rcases Int.lt_or_le k b with q2|q2
     ·have:=par.hi k q q2;omega
     ·have:=hpi.hi k q2 k1
      rw [← hout k k0 (.inr q2)] at this
      omega
   ·intro hk
    rcases Int.lt_or_le k a with q|q
    ·rw [hout k k0 (.inl q)];exact hpi.lo k k0 q
    ·exact par.lo k q hk
  ·obtain ⟨x1,x2⟩:=Pc.cut h hp p0 p1
   exact ⟨fun q=>by have:=x1 q;omega,fun q=>by have:=x2 q;omega⟩
 have hc0:=(isC_iff vs rs ps (by omega)).2 h
 have hc1:=(isC_iff (appS ss vs) (appS ss rs) ps (by omega)).2 hcol1
 have hc2:=(isC_iff (appS ss vs) (appS ss rs) (insP ps v at_) (by omega)).2 hcol2
 obtain ⟨e1,e2,e3,e4,e5⟩:=P77 vs rs ps ss (by omega) (by omega) hlen (by omega) hin
 obtain ⟨g1,g2,g3,g4,g5⟩:=P78 (appS ss vs) (appS ss rs) ps v at_ (by omega) (by omega) (by omega) hN
 rw [hc1,hc2] at g4
 obtain ⟨m1,m2⟩:=P51 vs rs ps (by omega) (by omega) (by omega)
 obtain ⟨n1,n2,n3⟩:=P73 vs rs ps v (by omega)
 obtain ⟨k1,k2,k3⟩:=k97
 refine ⟨a,b,at_,ss,?_,hcol2,insP_N2 hN v at_,hin⟩
 unfold q39 v39_0 v39_1 v39_2 v39_4
 rw [m1,m2,hc0,bound_of hv,n1,n3,hf,k1,k2,k3,d1,hss,hat,e1,e2,e3,e4,g1,g2,g3,g4]
 exact ⟨rfl,rfl,rfl,rfl,rfl⟩
theorem crack_oldS {vs rs ps:List AV} (h:Col vs rs ps) {v:Int} (hv : -1000≤v∧v≤1000) (hf:(findP ps v).isSome=true) :
  q39 vs rs ps v=true∧v39_0 vs rs ps v=vs∧v39_1 vs rs ps v=rs∧v39_2 vs rs ps v=ps∧v39_4 vs rs ps v=true:=by
 have hl:=h.n64
 have hlen:=h.len
 have hfew:=col_few h
 have hc0:=(isC_iff vs rs ps (by omega)).2 h
 obtain ⟨m1,m2⟩:=P51 vs rs ps (by omega) (by omega) (by omega)
 obtain ⟨n1,n2,n3⟩:=P73 vs rs ps v (by omega)
 obtain ⟨c0,c1,c2,c3⟩:=P75 vs rs ps (by omega) (by omega) (by omega)
 unfold q39 v39_0 v39_1 v39_2 v39_4
 rw [m1,m2,hc0,bound_of hv,n1,n3,hf,c0,c1,c2,c3]
 exact ⟨rfl,rfl,rfl,rfl,rfl⟩
end Go.Proofs.Ytkdnhnkhcldonaa
