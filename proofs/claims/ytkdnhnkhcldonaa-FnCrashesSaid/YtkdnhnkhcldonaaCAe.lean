import Derived.Test.YtkdnhnkhcldonaaCAd
namespace Go.Proofs.Ytkdnhnkhcldonaa
open Go Go.Proofs.VE
set_option linter.unusedVariables false
set_option linter.unusedSimpArgs false
theorem col_few {vs rs ps:List AV} (h:Col vs rs ps):ps.length≤2001:=by
 have hl:=h.n64
 have hc:=(isC_iff vs rs ps (by omega)).2 h
 unfold isC at hc
 simp only [Bool.and_eq_true] at hc
 exact few vs ps hc.2.2.2.2
theorem appS_out {a b:Int} (a0:0≤a):∀ (ss vs:List AV),b≤vs.length→inS a b ss→∀ k:Int,0≤k→(k<a∨b≤k)→el (appS ss vs) k=el vs k
 | [],vs,_,_,k,_,_=>rfl
 | s :: ss,vs,hb,hs,k,k0,hk=>by
  obtain ⟨h1,h2,h3,h4⟩:=hs s List.mem_cons_self
  rw [appS_cons,appS_out a0 ss _ (by rw [sw_len];exact hb) (fun x hx=>hs x (List.mem_cons_of_mem _ hx)) k k0 hk,el_sw vs _ _ k (by omega) (by omega) (by omega) (by omega) k0,if_neg (by omega),if_neg (by omega)]
theorem Pc.cut {vs rs ps:List AV} (h:Col vs rs ps) {v a b t:Int} (hp:Pc vs.length ps v a b t) {p:Int} (p0:0≤p) (p1:p<ps.length):(el ps p<v→pat ps p≤a)∧(v<el ps p→b≤pat ps p):=by
 obtain ⟨t0,t1,lo,hi,ea,eb⟩:=hp
 constructor
 ·intro hl
  have hpt:p<t:=by
   rcases Int.lt_or_le p t with h1|h1
   ·exact h1
   ·have:=hi p h1 p1;omega
  rw [ea,if_neg (by omega)]
  by_cases e:p=t - 1
  ·rw [e];exact Int.le_refl _
  ·exact (h.lt (i:=p) (j:=t - 1) p0 (by omega) (by omega)).2
 ·intro hl
  have hpt:t≤p:=by
   rcases Int.lt_or_le p t with h1|h1
   ·have:=lo p p0 h1;omega
   ·exact h1
  rw [eb,if_neg (by omega)]
  by_cases e:p=t
  ·rw [e];exact Int.le_refl _
  ·exact (h.lt (i:=t) (j:=p) t0 (by omega) p1).2
structure Cr (vs rs ps:List AV) (v a b at_:Int) (ss:List AV):Prop where
 pc:q74 vs rs ps v=true∧v74_0 vs rs ps v=a∧v74_1 vs rs ps v=b
 pc':q67 vs rs ps v=true∧v67_0 vs rs ps v=a∧v67_1 vs rs ps v=b
 c:q39 vs rs ps v=true∧v39_0 vs rs ps v=appS ss vs∧v39_1 vs rs ps v=appS ss rs∧v39_2 vs rs ps v=insP ps v at_∧v39_3 vs rs ps v=ss∧v39_4 vs rs ps v=true
 c':q34 vs rs ps v=true∧v34_0 vs rs ps v=appS ss vs∧v34_1 vs rs ps v=appS ss rs∧v34_2 vs rs ps v=insP ps v at_∧v34_3 vs rs ps v=ss
 ok:Col (appS ss vs) (appS ss rs) (insP ps v at_)
 n2:N2 (insP ps v at_)
 pi:Piece vs ps v a b
 par:Parted vs v a b ss at_
 s64:ss.length≤64
 sw:v76_0 vs a b v=ss∧v76_1 vs a b v=at_
theorem bound_of {v:Int} (hv : -1000≤v∧v≤1000):v52_0 v (-1000) 1000=true:=by
 rw [v52,decide_eq_true hv.1,decide_eq_true hv.2]
 rfl
theorem P74 {vs rs ps:List AV} (h:Col vs rs ps) {v a b t:Int} (hv : -1000≤v∧v≤1000) (hp:Pc vs.length ps v a b t):q74 vs rs ps v=true∧v74_0 vs rs ps v=a∧v74_1 vs rs ps v=b:=by
 have hl:=h.n64
 have hlen:=h.len
 have hf:=col_few h
 have hc:=(isC_iff vs rs ps (by omega)).2 h
 obtain ⟨g1,g2⟩:=P51 vs rs ps (by omega) (by omega) (by omega)
 obtain ⟨k1,k2,k3⟩:=P102 hp (by omega)
 unfold q74 v74_0 v74_1
 rw [g1,g2,hc,bound_of hv,k1,k2,k3]
 exact ⟨rfl,rfl,rfl⟩
theorem crack_new {vs rs ps:List AV} (h:Col vs rs ps) (hN:N2 ps) {v:Int} (hv : -1000≤v∧v≤1000) (hf:(findP ps v).isSome=false):∃ (a b at_:Int) (ss:List AV),Cr vs rs ps v a b at_ ss:=by
 have hl:=h.n64
 have hlen:=h.len
 have hfew:=col_few h
 have hp:=pc_of h hf
 have hpi:=piece_of h hp
 generalize (if place ps v=0 then 0 else pat ps (place ps v - 1))=a at hp hpi
 generalize (if place ps v=ps.length then (vs.length:Int) else pat ps (place ps v))=b at hp hpi
 have a0:=hpi.a0
 have ab:=hpi.ab
 have b1:=hpi.b1
 have k97:=P74 h hv hp
 have k146:=P67 (rs:=rs) hp (by omega)
 obtain ⟨d1,d2,d3,d4,par⟩:=P76 vs v a b (by omega) a0 ab b1
 generalize hss:v76_0 vs a b v=ss at d3 par
 generalize hat:v76_1 vs a b v=at_ at d4 par
 have i0:=par.i0
 have i1:=par.i1
 have hs64:ss.length≤64:=by have:=par.len;omega
 have hin:inS 0 vs.length ss:=fun s hs=>by obtain ⟨x1,x2,x3,x4⟩:=par.ins s hs;exact ⟨by omega,by omega,by omega,by omega⟩
 have hcol1:=Col.swaps (ps:=ps) a0 hpi.cut ss vs rs h b1 par.ins
 have la:=appS_len ss vs
 have lr:=appS_len ss rs
 have hout:=appS_out a0 ss vs b1 par.ins
 have hcol2:Col (appS ss vs) (appS ss rs) (insP ps v at_):=by
  refine hcol1.pivot (findP_none hf) hv ⟨by omega,by omega⟩ (fun k k0 k1=>?_) (fun p p0 p1=>?_)
  ·rw [la] at k1
   constructor
   ·intro hk
    rcases Int.lt_or_le k at_ with q|q
    ·exact q
    ·exfalso
     rcases Int.lt_or_le k b with q2|q2
     ·have:=par.hi k q q2;omega
     ·have:=hpi.hi k q2 k1
      rw [← hout k k0 (.inr q2)] at this
      omega
   ·intro hk
    rcases Int.lt_or_le k a with q|q
    ·rw [hout k k0 (.inl q)];exact hpi.lo k k0 q
    ·exact par.lo k q hk
  ·obtain ⟨x1,x2⟩:=Pc.cut h hp p0 p1
   exact ⟨fun q=>by have:=x1 q;omega,fun q=>by have:=x2 q;omega⟩
 have hc0:=(isC_iff vs rs ps (by omega)).2 h
 have hc1:=(isC_iff (appS ss vs) (appS ss rs) ps (by omega)).2 hcol1
 have hc2:=(isC_iff (appS ss vs) (appS ss rs) (insP ps v at_) (by omega)).2 hcol2
 obtain ⟨e1,e2,e3,e4,e5⟩:=P77 vs rs ps ss (by omega) (by omega) hlen (by omega) hin
 obtain ⟨f1,f2,f3,f4,f5⟩:=P71 vs rs ps ss (by omega) (by omega) hlen (by omega) hin
 obtain ⟨g1,g2,g3,g4,g5⟩:=P78 (appS ss vs) (appS ss rs) ps v at_ (by omega) (by omega) (by omega) hN
 obtain ⟨l1,l2,l3,l4⟩:=P72 (appS ss vs) (appS ss rs) ps v at_ (by omega) (by omega) (by omega)
 rw [hc1,hc2] at g4
 obtain ⟨m1,m2⟩:=P51 vs rs ps (by omega) (by omega) (by omega)
 obtain ⟨n1,n2,n3⟩:=P73 vs rs ps v (by omega)
 obtain ⟨o1,o2⟩:=P66 vs rs ps v (by omega)
 obtain ⟨k1,k2,k3⟩:=k97
 obtain ⟨k1',k2',k3'⟩:=k146
 refine ⟨a,b,at_,ss,⟨k1,k2,k3⟩,⟨k1',k2',k3'⟩,?_,?_,hcol2,insP_N2 hN v at_,hpi,par,hs64,hss,hat⟩
 ·unfold q39 v39_0 v39_1 v39_2 v39_3 v39_4
  rw [m1,m2,hc0,bound_of hv,n1,n3,hf,k1,k2,k3,d1,hss,hat,e1,e2,e3,e4,g1,g2,g3,g4]
  exact ⟨rfl,rfl,rfl,rfl,rfl,rfl⟩
 ·unfold q34 v34_0 v34_1 v34_2 v34_3
  rw [o1,o2,hf,k1',k2',k3',d2,d3,d4,f1,f2,f3,f4,l1,l2,l3,l4]
  exact ⟨rfl,rfl,rfl,rfl,rfl⟩
theorem crack_old {vs rs ps:List AV} (h:Col vs rs ps) {v:Int} (hv : -1000≤v∧v≤1000) (hf:(findP ps v).isSome=true) :
  (q39 vs rs ps v=true∧v39_0 vs rs ps v=vs∧v39_1 vs rs ps v=rs∧v39_2 vs rs ps v=ps∧v39_3 vs rs ps v=[]∧v39_4 vs rs ps v=true) ∧
  (q34 vs rs ps v=true∧v34_0 vs rs ps v=vs∧v34_1 vs rs ps v=rs∧v34_2 vs rs ps v=ps∧v34_3 vs rs ps v=[]):=by
 have hl:=h.n64
 have hlen:=h.len
 have hfew:=col_few h
 have hc0:=(isC_iff vs rs ps (by omega)).2 h
 obtain ⟨m1,m2⟩:=P51 vs rs ps (by omega) (by omega) (by omega)
 obtain ⟨n1,n2,n3⟩:=P73 vs rs ps v (by omega)
 obtain ⟨o1,o2⟩:=P66 vs rs ps v (by omega)
 obtain ⟨c0,c1,c2,c3⟩:=P75 vs rs ps (by omega) (by omega) (by omega)
 obtain ⟨d0,d1,d2,d3⟩:=P69 vs rs ps (by omega) (by omega) (by omega)
 constructor
 ·unfold q39 v39_0 v39_1 v39_2 v39_3 v39_4
  rw [m1,m2,hc0,bound_of hv,n1,n3,hf,c0,c1,c2,c3]
  exact ⟨rfl,rfl,rfl,rfl,rfl,rfl⟩
 ·unfold q34 v34_0 v34_1 v34_2 v34_3
  rw [o1,o2,hf,d0,d1,d2,d3]
  exact ⟨rfl,rfl,rfl,rfl,rfl⟩
end Go.Proofs.Ytkdnhnkhcldonaa
