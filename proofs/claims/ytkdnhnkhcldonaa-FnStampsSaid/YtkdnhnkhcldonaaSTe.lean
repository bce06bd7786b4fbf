import Derived.Test.YtkdnhnkhcldonaaSTd
namespace Go.Proofs.Ytkdnhnkhcldonaa
open Go Go.Proofs.VE
set_option linter.unusedVariables false
set_option linter.unusedSimpArgs false
theorem col_few {vs rs ps:List AV} (h:Col vs rs ps):ps.length≤2001:=by
 have hl:=h.n64
 have hc:=(isC_iff vs rs ps (by omega)).2 h
 unfold isC at hc
 simp only [Bool.and_eq_true] at hc
 exact few vs ps hc.2.2.2.2
theorem appS_out {a b:Int} (a0:0≤a):∀ (ss vs:List AV),b≤vs.length→inS a b ss→∀ k:Int,0≤k→(k<a∨b≤k)→el (appS ss vs) k=el vs k
 | [],vs,_,_,k,_,_=>rfl
 | s :: ss,vs,hb,hs,k,k0,hk=>by
  obtain ⟨h1,h2,h3,h4⟩:=hs s List.mem_cons_self
  rw [appS_cons,appS_out a0 ss _ (by rw [sw_len];exact hb) (fun x hx=>hs x (List.mem_cons_of_mem _ hx)) k k0 hk,el_sw vs _ _ k (by omega) (by omega) (by omega) (by omega) k0,if_neg (by omega),if_neg (by omega)]
theorem Pc.cut {vs rs ps:List AV} (h:Col vs rs ps) {v a b t:Int} (hp:Pc vs.length ps v a b t) {p:Int} (p0:0≤p) (p1:p<ps.length):(el ps p<v→pat ps p≤a)∧(v<el ps p→b≤pat ps p):=by
 obtain ⟨t0,t1,lo,hi,ea,eb⟩:=hp
 constructor
 ·intro hl
  have hpt:p<t:=by
   rcases Int.lt_or_le p t with h1|h1
   ·exact h1
   ·have:=hi p h1 p1;omega
  rw [ea,if_neg (by omega)]
  by_cases e:p=t - 1
  ·rw [e];exact Int.le_refl _
  ·exact (h.lt (i:=p) (j:=t - 1) p0 (by omega) (by omega)).2
 ·intro hl
  have hpt:t≤p:=by
   rcases Int.lt_or_le p t with h1|h1
   ·have:=lo p p0 h1;omega
   ·exact h1
  rw [eb,if_neg (by omega)]
  by_cases e:p=t
  ·rw [e];exact Int.le_refl _
  ·exact (h.lt (i:=t) (j:=p) t0 (by omega) p1).2
theorem bound_of {v:Int} (hv : -1000≤v∧v≤1000):v52_0 v (-1000) 1000=true:=by
 rw [v52,decide_eq_true hv.1,decide_eq_true hv.2]
 rfl
theorem P74 {vs rs ps:List AV} (h:Col vs rs ps) {v a b t:Int} (hv : -1000≤v∧v≤1000) (hp:Pc vs.length ps v a b t):q74 vs rs ps v=true∧v74_0 vs rs ps v=a∧v74_1 vs rs ps v=b:=by
 have hl:=h.n64
 have hlen:=h.len
 have hf:=col_few h
 have hc:=(isC_iff vs rs ps (by omega)).2 h
 obtain ⟨g1,g2⟩:=P51 vs rs ps (by omega) (by omega) (by omega)
 obtain ⟨k1,k2,k3⟩:=P102 hp (by omega)
 unfold q74 v74_0 v74_1
 rw [g1,g2,hc,bound_of hv,k1,k2,k3]
 exact ⟨rfl,rfl,rfl⟩
end Go.Proofs.Ytkdnhnkhcldonaa
