import Derived.Test.YtmcnplggcedihaaGreatBPn
namespace Go.Proofs.YtmcnplggcedihaaGreat
open Go Go.Proofs.VE
set_option linter.unusedVariables false
set_option linter.unusedSimpArgs false
theorem q94_ok (n:Int) (ps:List AV) (v:Int) (h:ps.length≤1048576):q94 n ps v=true:=by
 obtain ⟨r,h1,_⟩:=runW_ends (f:=R94_0 ps v n) (fun s:Int × Int=>0≤s.2∧s.2≤ps.length) (fun _=>True) (fun s=>((ps.length:Int) - s.2).toNat) (fun s hI=>by
  obtain ⟨t,k⟩:=s
  obtain ⟨k0,k1⟩:=hI
  simp only at k0 k1
  by_cases hk:k<ps.length
  ·have d1:decide (k<(ps.length:Int))=true:=decide_eq_true hk
   have d2:decide (0≤k)=true:=decide_eq_true k0
   have wk:IntKind.i64.wrap (k+1)=k+1:=wrap_in (by omega) (by omega)
   cases h3:decide (fI (ps.getD k.toNat .undef) 0≤v)
   ·exact .inl ⟨(t,k+1),by simp only [R94_0,F94_0,d1,d2,wk,h3,Bool.and_self,cond_true,cond_false],⟨by simp only;omega,by simp only;omega⟩,by simp only;omega⟩
   ·exact .inl ⟨(fI (ps.getD k.toNat .undef) 1,k+1),by simp only [R94_0,F94_0,d1,d2,wk,h3,Bool.and_self,cond_true],⟨by simp only;omega,by simp only;omega⟩,by simp only;omega⟩
  ·have d1:decide (k<(ps.length:Int))=false:=decide_eq_false hk
   exact .inr ⟨t,by simp only [R94_0,F94_0,d1,cond_false],trivial⟩) (((ps.length:Int) - 0:Int).toNat+1) (0,0) ⟨Int.le_refl _,by simp⟩ (by simp only;omega)
 obtain ⟨r',h2,_⟩:=runW_ends (f:=R94_2 ps v r) (fun s:Int × Int => -1≤s.2∧s.2<ps.length) (fun _=>True) (fun s=>(s.2+1).toNat) (fun s hI=>by
  obtain ⟨t,k⟩:=s
  obtain ⟨k0,k1⟩:=hI
  simp only at k0 k1
  by_cases hk:k ≥ 0
  ·have d1:decide (k ≥ 0)=true:=decide_eq_true hk
   have d2:decide (0≤k)=true:=decide_eq_true hk
   have d4:decide (k<(ps.length:Int))=true:=decide_eq_true k1
   have wk:IntKind.i64.wrap (k - 1)=k - 1:=wrap_in (by omega) (by omega)
   cases h3:decide (fI (ps.getD k.toNat .undef) 0 ≥ v)
   ·exact .inl ⟨(t,k - 1),by simp only [R94_2,F94_2,d1,d2,d4,wk,h3,Bool.and_self,cond_true,cond_false],⟨by simp only;omega,by simp only;omega⟩,by simp only;omega⟩
   ·exact .inl ⟨(fI (ps.getD k.toNat .undef) 1,k - 1),by simp only [R94_2,F94_2,d1,d2,d4,wk,h3,Bool.and_self,cond_true],⟨by simp only;omega,by simp only;omega⟩,by simp only;omega⟩
  ·have d1:decide (k ≥ 0)=false:=decide_eq_false hk
   exact .inr ⟨t,by simp only [R94_2,F94_2,d1,cond_false],trivial⟩) ((((ps.length:Int) - 1) - 0+1:Int).toNat+1) (n,(ps.length:Int) - 1) ⟨by simp only;omega,by simp only;omega⟩ (by simp only;omega)
 unfold q94
 rw [h1]
 simp only [ro]
 rw [wrap_in (a:=(ps.length:Int) - 1) (by omega) (by omega),h2]
theorem q83_ok {vs rs ps:List AV} (h:Col vs rs ps) (v:Int):q83 vs rs ps v=true:=by
 have hl:=h.n64
 have hlen:=h.len
 have hf:=col_few h
 obtain ⟨g1,g2⟩:=P53 vs rs ps (by omega) (by omega) (by omega)
 unfold q83
 rw [g1,g2,q94_ok _ _ _ (by omega)]
 cases isC vs rs ps <;> cases v28_0 v (-1000) 1000 <;> rfl
def tot (L:List AV):Int:=(L.map fun x=>fI x 4).sum
theorem tot_snoc (L:List AV) (x:AV):tot (L++[x])=tot L+fI x 4:=by
 unfold tot
 rw [List.map_append,List.sum_append]
 simp
structure One (vs rs ps:List AV) (v:Int) (vs' rs' ps':List AV) (n:Int):Prop where
 ok:Col vs' rs' ps'
 n2:N2 ps'
 n0:0≤n
 n1:n≤64
 grow:ps.length≤ps'.length
 nn:n≤64*((ps'.length:Int) - ps.length)
 new:(findP ps v).isSome=false→ps'.length=ps.length+1
 i0:q89 vs rs ps v=true∧v89_0 vs rs ps v=(findP ps v).isSome
 i1:(findP ps v).isSome=false→q90 vs rs ps v=true∧q91 vs rs ps v=true∧v91_0 vs rs ps v=vs'∧v91_1 vs rs ps v=rs'∧v91_2 vs rs ps v=ps'∧((v91_3 vs rs ps v).length:Int)=n
 i2:(findP ps v).isSome=true→vs'=vs∧rs'=rs∧ps'=ps∧n=0
theorem one_div {vs rs ps:List AV} (h:Col vs rs ps) (hN:N2 ps) {v:Int} (hv : -1000≤v∧v≤1000) (q:Int) (L:List AV) (hL:L.length≤100000000) :
  ∃ (vs' rs' ps':List AV) (n:Int) (L':List AV),One vs rs ps v vs' rs' ps' n∧q85 v q vs rs ps L=true∧v85_0 v q vs rs ps L=vs'∧v85_1 v q vs rs ps L=rs'∧v85_2 v q vs rs ps L=ps'∧v85_6 v q vs rs ps L=L'∧tot L'=tot L+n∧(L'.length:Int)≤L.length+((ps'.length:Int) - ps.length):=by
 have hl:=h.n64
 have hlen:=h.len
 have hf:=col_few h
 obtain ⟨f1,f2,f3⟩:=P58 vs rs ps v (by omega)
 obtain ⟨i1,i2⟩:=P89 vs rs ps v (by omega)
 have pc:=q83_ok h v
 cases hfd:(findP ps v).isSome with
 | true =>
  obtain ⟨⟨c1,c2,c3,c4,c5,c6⟩,d1,d2,d3,d4,d5⟩:=crack_old h hv hfd
  refine ⟨vs,rs,ps,0,L,⟨h,hN,Int.le_refl _,by omega,Nat.le_refl _,by omega,(fun e=>by rw [hfd] at e;cases e),⟨i1,i2⟩,(fun e=>by rw [hfd] at e;cases e),fun _=>⟨rfl,rfl,rfl,rfl⟩⟩,?_,c2,c3,c4,?_,by omega,by omega⟩
  ·unfold q85
   rw [pc,f1,f3,hfd,c1,c6]
   rfl
  ·unfold v85_6
   rw [f3,hfd,c6]
   rfl
 | false =>
  obtain ⟨a,b,at_,ss,C⟩:=crack_new h hN hv hfd
  obtain ⟨c1,c2,c3,c4,c5,c6⟩:=C.c
  obtain ⟨d1,d2,d3,d4,d5⟩:=C.c'
  have s64:=C.s64
  refine ⟨_,_,_,(ss.length:Int),_,⟨C.ok,C.n2,by omega,by omega,by rw [insP_len];omega,by rw [insP_len];omega,fun _=>insP_len ..,⟨i1,i2⟩,fun _=>⟨C.pc'.1,d1,d2,d3,d4,by rw [d5]⟩,(fun e=>by rw [hfd] at e;cases e)⟩,?_,c2,c3,c4,rfl,?_,?_⟩
  ·unfold q85
   rw [pc,f1,f3,hfd,c1,c6]
   simp only [Bool.true_and,Bool.not_false,cond_true,List.length_singleton,Bool.and_eq_true,decide_eq_true_eq]
   omega
  ·unfold v85_6
   rw [f3,hfd,c6,c5]
   simp only [Bool.not_false,cond_true]
   rw [tot_snoc]
   rfl
  ·unfold v85_6
   rw [f3,hfd,c6]
   simp only [Bool.not_false,cond_true,List.length_append,List.length_singleton]
   rw [insP_len]
   omega
theorem seed_both (s:Int) (h0:0≤s) (h1:s≤10006):q95 s=true∧q102 s=true∧v102_0 s=v95_0 s∧0≤v95_0 s∧v95_0 s≤10006:=by
 have e1:Int.tmod s 10007=s:=by rw [Int.tmod_eq_emod_of_nonneg h0];omega
 have e2:Int.tmod (s+10007) 10007=s:=by rw [Int.tmod_eq_emod_of_nonneg (by omega)];omega
 have w1:IntKind.i64.wrap (s+10007)=s+10007:=wrap_in (by omega) (by omega)
 have w2:IntKind.i64.wrap (s*1103)=s*1103:=wrap_in (by omega) (by omega)
 have w3:IntKind.i64.wrap (s*1103+2345)=s*1103+2345:=wrap_in (by omega) (by omega)
 have e3:v95_0 s=Int.tmod (s*1103+2345) 10007:=by
  unfold v95_0
  rw [e1,w1,e2,w2,w3]
 refine ⟨by unfold q95;decide,by unfold q102;rw [e1];simp,?_,?_,?_⟩
 ·rw [e3]
  unfold v102_0
  rw [e1]
  simp only [decide_eq_false (by omega:¬ s<0),cond_false,w2,w3]
 ·rw [e3,Int.tmod_eq_emod_of_nonneg (by omega)]
  omega
 ·rw [e3,Int.tmod_eq_emod_of_nonneg (by omega)]
  omega
theorem med_both (l:List AV) (h0:0<l.length) (h1:l.length≤64):q96 l=true∧q103 l=true∧v103_0 l=v96_0 l∧∃ j:Int,0≤j∧j<l.length∧v96_0 l=el l j:=by
 obtain ⟨a1,a2,a3⟩:=P74 l (by omega)
 obtain ⟨b1,b2,b3⟩:=P93 l (by omega)
 have w1:IntKind.i64.wrap ((l.length:Int) - 1)=(l.length:Int) - 1:=wrap_in (by omega) (by omega)
 have e1:Int.tdiv ((l.length:Int) - 1) 2=((l.length:Int) - 1) / 2:=Int.tdiv_eq_ediv_of_nonneg (by omega)
 have w2:IntKind.i64.wrap (((l.length:Int) - 1) / 2)=((l.length:Int) - 1) / 2:=wrap_in (by omega) (by omega)
 obtain ⟨i,hi⟩:∃ i,i=((l.length:Int) - 1) / 2:=⟨_,rfl⟩
 have i0:0≤i:=by omega
 have i1:i<l.length:=by omega
 have d1:decide ((l.length:Int)=0)=false:=decide_eq_false (by omega)
 have d2:decide ((l.length:Int) > 64)=false:=decide_eq_false (by omega)
 have d3:decide (0≤i)=true:=decide_eq_true i0
 have d4:decide (i<((v74_0 l).length:Int))=true:=decide_eq_true (by omega)
 have d5:decide (i<((v93_0 l).length:Int))=true:=decide_eq_true (by omega)
 have ev:v96_0 l=el (v74_0 l) i:=by
  unfold v96_0
  rw [d1,d2,w1,e1,w2,← hi]
  rfl
 have ev':v103_0 l=el (v93_0 l) i:=by
  unfold v103_0
  rw [d1,d2,w1,e1,w2,← hi]
  rfl
 refine ⟨?_,?_,?_,?_⟩
 ·unfold q96
  rw [d1,d2,w1,e1,w2,← hi,d3,d4,a1]
  rfl
 ·unfold q103
  rw [d1,d2,w1,e1,w2,← hi,d3,d5,b1]
  rfl
 ·rw [ev,ev']
  exact el_ints (b3.trans a3.symm) i i0 (by omega)
 ·obtain ⟨j,j0,j1,e⟩:=(srt_in a3).1 i i0 (by omega)
  exact ⟨j,j0,j1,by rw [ev,e]⟩
theorem el_sub (vs:List AV) (a b j:Int) (a0:0≤a) (b1:b≤vs.length) (j0:0≤j) (j1:j<b - a):el ((vs.take (Int.toNat b)).drop (Int.toNat a)) j=el vs (a+j):=by
 unfold el
 rw [List.getD_eq_getElem?_getD,List.getD_eq_getElem?_getD,List.getElem?_drop,List.getElem?_take_of_lt (by omega),show a.toNat+j.toNat=(a+j).toNat by omega]
structure Sett (pol thr seed:Int):Prop where
 p0:0≤pol
 p1:pol≤2
 t0:1≤thr
 t1:thr≤64
 s0:0≤seed
 s1:seed≤10006
theorem sett_both (pol thr seed:Int):v37_0 pol thr seed=v47_0 pol thr seed∧(v37_0 pol thr seed=true ↔ Sett pol thr seed):=by
 unfold v37_0 v47_0
 simp only [v28]
 constructor
 ·by_cases h1:0≤pol <;> by_cases h2:pol≤2 <;> by_cases h3:1≤thr <;> by_cases h4:thr≤64 <;> by_cases h5:0≤seed <;> by_cases h6:seed≤10006 <;> simp [h1,h2,h3,h4,h5,h6]
 ·constructor
  ·intro h
   by_cases h1:0≤pol <;> by_cases h2:pol≤2 <;> by_cases h3:1≤thr <;> by_cases h4:thr≤64 <;> by_cases h5:0≤seed <;> by_cases h6:seed≤10006 <;> simp [h1,h2,h3,h4,h5,h6] at h
   exact ⟨h1,h2,h3,h4,h5,h6⟩
  ·rintro ⟨h1,h2,h3,h4,h5,h6⟩
   simp [h1,h2,h3,h4,h5,h6]
theorem choose_both {vs rs ps:List AV} (h:Col vs rs ps) {pol thr seed a b:Int} (hS:Sett pol thr seed) (a0:0≤a) (ab:a<b) (b1:b≤vs.length) :
  q84 vs rs ps pol thr seed a b=true∧q92 vs rs ps pol thr seed a b=true∧v92_0 vs rs ps pol thr seed a b=v84_0 vs rs ps pol thr seed a b∧v92_3 vs rs ps pol thr seed a b=v84_3 vs rs ps pol thr seed a b ∧
  0≤v84_3 vs rs ps pol thr seed a b∧v84_3 vs rs ps pol thr seed a b≤10006∧∃ k:Int,a≤k∧k<b∧v84_0 vs rs ps pol thr seed a b=el vs k:=by
 have hl:=h.n64
 have hlen:=h.len
 have hf:=col_few h
 have hc:=(isC_iff vs rs ps (by omega)).2 h
 obtain ⟨g1,g2⟩:=P53 vs rs ps (by omega) (by omega) (by omega)
 obtain ⟨g3,g4⟩:=P54 vs rs ps (by omega) (by omega) (by omega)
 obtain ⟨e1,e2⟩:=sett_both pol thr seed
 have e2:=e2.2 hS
 have e3:v47_0 pol thr seed=true:=by rw [← e1];exact e2
 have d1:decide (a<0)=false:=decide_eq_false (by omega)
 have d2:decide (a ≥ b)=false:=decide_eq_false (by omega)
 have d3:decide (b > (vs.length:Int))=false:=decide_eq_false (by omega)
 obtain ⟨n1,n2,n3,n4,n5⟩:=seed_both seed hS.s0 hS.s1
 have w1:IntKind.i64.wrap (b - a)=b - a:=wrap_in (by omega) (by omega)
 unfold q84 q92 v84_0 v92_0 v84_3 v92_3
 rw [g1,g2,g3,g4,hc,e2,e3,d1,d2,d3]
 simp only [Bool.not_true,cond_false,Bool.true_and]
 by_cases hp:pol=2
 ·have d4:decide (pol=2)=true:=decide_eq_true hp
  obtain ⟨t,ht⟩:∃ t,t=Int.tmod (v95_0 seed) (b - a):=⟨_,rfl⟩
  have t0:0≤t∧t<b - a:=by
   rw [ht,Int.tmod_eq_emod_of_nonneg n4]
   exact ⟨Int.emod_nonneg _ (by omega),Int.emod_lt_of_pos _ (by omega)⟩
  have w2:IntKind.i64.wrap (a+t)=a+t:=wrap_in (by omega) (by omega)
  have d5:decide (b - a=0)=false:=decide_eq_false (by omega)
  have d6:decide (0≤a+t)=true:=decide_eq_true (by omega)
  have d7:decide (a+t<(vs.length:Int))=true:=decide_eq_true (by omega)
  simp only [d4,cond_true,n1,n2,n3,w1,← ht,w2,d5,d6,d7,Bool.not_false,Bool.and_self]
  refine ⟨trivial,trivial,trivial,trivial,n4,n5,a+t,by omega,by omega,rfl⟩
 ·have d4:decide (pol=2)=false:=decide_eq_false hp
  have d5:decide (0≤a)=true:=decide_eq_true a0
  have d6:decide (a≤b)=true:=decide_eq_true (by omega)
  have d7:decide (b≤(vs.length:Int))=true:=decide_eq_true b1
  have hlenS:((vs.take (Int.toNat b)).drop (Int.toNat a)).length=(b - a).toNat:=by rw [List.length_drop,List.length_take];omega
  obtain ⟨m1,m2,m3,j,j0,j1,m4⟩:=med_both ((vs.take (Int.toNat b)).drop (Int.toNat a)) (by omega) (by omega)
  simp only [d4,cond_false,d5,d6,d7,m1,m2,m3,Bool.and_self]
  refine ⟨trivial,trivial,trivial,trivial,hS.s0,hS.s1,a+j,by omega,by omega,?_⟩
  rw [m4,el_sub vs a b j a0 b1 j0 (by omega)]
structure VS where
 vs:List AV
 rs:List AV
 ps:List AV
 pol:Int
 thr:Int
 seed:Int
 L:List AV
abbrev SA:=Int × Int × Int × Int × Int × Int × List AV × List AV × List AV × List AV
abbrev SB:=List AV × List AV × List AV × List AV × Int × Int × Int × Int × Int × Int × List AV × List AV × List AV
def viewS:SA ⊕ SB→VS
 | .inl (p,t,s,_,_,_,v,r,ps,L)=>⟨v,r,ps,p,t,s,L⟩
 | .inr (v,r,ps,L,p,t,s,_,_,_,_,_,_)=>⟨v,r,ps,p,t,s,L⟩
theorem stop72 {v q:Int} (s:SA ⊕ SB) {vs rs ps L:List AV} {pol thr seed:Int} (hv:viewS s=⟨vs,rs,ps,pol,thr,seed,L⟩) (h83:q83 vs rs ps v=true) (h58:q58 vs rs ps v=true)
  (hs:pol=0∨v58_1 vs rs ps v=true∨IntKind.i64.wrap (v83_1 vs rs ps v - v83_0 vs rs ps v)≤thr):∃ r:SA ⊕ SB,R72_0 v q s = .stop r∧viewS r=viewS s:=by
 refine ⟨s,?_,rfl⟩
 rcases s with ⟨p,t,s,x1,x2,x3,v0,r0,p0,L0⟩|⟨v0,r0,p0,L0,p,t,s,x1,x2,x3,x4,x5,x6⟩
 all_goals
  simp only [viewS,VS.mk.injEq] at hv
  obtain ⟨rfl,rfl,rfl,rfl,rfl,rfl,rfl⟩:=hv
  simp only [R72_0,sumE,F72_0_s0,F72_0_s1]
  rcases hs with hs|hs|hs
  ·rw [decide_eq_true hs];rfl
  ·rw [h83,h58,hs];cases decide (p=0) <;> rfl
  ·rw [h83,h58,decide_eq_true hs];cases decide (p=0) <;> cases v58_1 v0 r0 p0 v <;> rfl
theorem next72 {v q:Int} (s:SA ⊕ SB) {vs rs ps L:List AV} {pol thr seed:Int} (hv:viewS s=⟨vs,rs,ps,pol,thr,seed,L⟩) (h83:q83 vs rs ps v=true) (h58:q58 vs rs ps v=true)
  (hp:pol ≠ 0) (hf:v58_1 vs rs ps v=false) (ht:¬ IntKind.i64.wrap (v83_1 vs rs ps v - v83_0 vs rs ps v)≤thr)
  {m sd:Int} (h84:q84 vs rs ps pol thr seed (v83_0 vs rs ps v) (v83_1 vs rs ps v)=true) (hm:v84_0 vs rs ps pol thr seed (v83_0 vs rs ps v) (v83_1 vs rs ps v)=m) (hsd:v84_3 vs rs ps pol thr seed (v83_0 vs rs ps v) (v83_1 vs rs ps v)=sd)
  (wm:IntKind.i64.wrap (m+1)=m+1) {vs1 rs1 ps1 L1 vs2 rs2 ps2 L2:List AV}
  (a:q85 m q vs rs ps L=true) (a0:v85_0 m q vs rs ps L=vs1) (a1:v85_1 m q vs rs ps L=rs1) (a2:v85_2 m q vs rs ps L=ps1) (a6:v85_6 m q vs rs ps L=L1)
  (b:q85 (m+1) q vs1 rs1 ps1 L1=true) (b0:v85_0 (m+1) q vs1 rs1 ps1 L1=vs2) (b1:v85_1 (m+1) q vs1 rs1 ps1 L1=rs2) (b2:v85_2 (m+1) q vs1 rs1 ps1 L1=ps2) (b6:v85_6 (m+1) q vs1 rs1 ps1 L1=L2) :
  ∃ s2:SA ⊕ SB,R72_0 v q s = .next s2∧viewS s2=⟨vs2,rs2,ps2,pol,thr,sd,L2⟩:=by
 have e1:∀ a b:Int,v84_1 vs rs ps pol thr seed a b=pol:=fun _ _=>rfl
 have e2:∀ a b:Int,v84_2 vs rs ps pol thr seed a b=thr:=fun _ _=>rfl
 rcases s with ⟨p,t,s,x1,x2,x3,v0,r0,p0,L0⟩|⟨v0,r0,p0,L0,p,t,s,x1,x2,x3,x4,x5,x6⟩
 all_goals
  simp only [viewS,VS.mk.injEq] at hv
  obtain ⟨rfl,rfl,rfl,rfl,rfl,rfl,rfl⟩:=hv
  simp only [R72_0,sumE,F72_0_s0,F72_0_s1,decide_eq_false hp,h83,h58,hf,decide_eq_false ht,h84,hm,hsd,wm,a,a0,a1,a2,a6,b,b0,b1,b2,b6,e1,e2,Bool.not_false,cond_true,cond_false]
  exact ⟨_,rfl,rfl⟩
structure VI where
 vs:List AV
 rs:List AV
 ps:List AV
 pol:Int
 thr:Int
 seed:Int
 tl:Int
abbrev IA:=Int × Int × Int × Int × Int × Int × Int × List AV × List AV × List AV × Int
abbrev IB:=List AV × List AV × List AV × Int × Int × Int × Int × Int × Int × Int × List AV × List AV × List AV × Int
def viewI:IA ⊕ IB→VI
 | .inl (p,t,s,_,_,_,tl,v,r,ps,_)=>⟨v,r,ps,p,t,s,tl⟩
 | .inr (v,r,ps,p,t,s,_,_,_,tl,_,_,_,_)=>⟨v,r,ps,p,t,s,tl⟩
theorem stop79 {v:Int} (s:IA ⊕ IB) {vs rs ps:List AV} {pol thr seed tl:Int} (hv:viewI s=⟨vs,rs,ps,pol,thr,seed,tl⟩) (h89:q89 vs rs ps v=true)
  (hs:pol=0∨v89_0 vs rs ps v=true∨(q90 vs rs ps v=true∧IntKind.i64.wrap (v90_1 vs rs ps v - v90_0 vs rs ps v)≤thr)):∃ r:IA ⊕ IB,R79_0 v s = .stop r∧viewI r=viewI s:=by
 refine ⟨s,?_,rfl⟩
 rcases s with ⟨p,t,s,x1,x2,x3,t0,v0,r0,p0,x4⟩|⟨v0,r0,p0,p,t,s,x1,x2,x3,t0,x4,x5,x6,x7⟩
 all_goals
  simp only [viewI,VI.mk.injEq] at hv
  obtain ⟨rfl,rfl,rfl,rfl,rfl,rfl,rfl⟩:=hv
  simp only [R79_0,sumE,F79_0_s0,F79_0_s1]
  rcases hs with hs|hs|⟨hq,hs⟩
  ·rw [decide_eq_true hs];rfl
  ·rw [h89,hs];cases decide (p=0) <;> rfl
  ·rw [h89,hq,decide_eq_true hs];cases decide (p=0) <;> cases v89_0 v0 r0 p0 v <;> rfl
theorem next79 {v:Int} (s:IA ⊕ IB) {vs rs ps:List AV} {pol thr seed tl:Int} (hv:viewI s=⟨vs,rs,ps,pol,thr,seed,tl⟩) (h89:q89 vs rs ps v=true) (h90:q90 vs rs ps v=true)
  (hp:pol ≠ 0) (hf:v89_0 vs rs ps v=false) (ht:¬ IntKind.i64.wrap (v90_1 vs rs ps v - v90_0 vs rs ps v)≤thr)
  {m sd:Int} (h92:q92 vs rs ps pol thr seed (v90_0 vs rs ps v) (v90_1 vs rs ps v)=true) (hm:v92_0 vs rs ps pol thr seed (v90_0 vs rs ps v) (v90_1 vs rs ps v)=m) (hsd:v92_3 vs rs ps pol thr seed (v90_0 vs rs ps v) (v90_1 vs rs ps v)=sd)
  (wm:IntKind.i64.wrap (m+1)=m+1) {vs1 rs1 ps1 vs2 rs2 ps2:List AV} {n1 n2:Int} (O1:One vs rs ps m vs1 rs1 ps1 n1) (O2:One vs1 rs1 ps1 (m+1) vs2 rs2 ps2 n2)
  (hnew:(findP ps m).isSome=true→(findP ps1 (m+1)).isSome=false) (w1:IntKind.i64.wrap (tl+n1)=tl+n1) (w2:IntKind.i64.wrap (tl+n1+n2)=tl+n1+n2) (w3:IntKind.i64.wrap (tl+n2)=tl+n2) :
  ∃ s2:IA ⊕ IB,R79_0 v s = .next s2∧viewI s2=⟨vs2,rs2,ps2,pol,thr,sd,tl+n1+n2⟩:=by
 have e1:∀ a b:Int,v92_1 vs rs ps pol thr seed a b=pol:=fun _ _=>rfl
 have e2:∀ a b:Int,v92_2 vs rs ps pol thr seed a b=thr:=fun _ _=>rfl
 obtain ⟨k1,k2⟩:=O1.i0
 obtain ⟨l1,l2⟩:=O2.i0
 cases f1:(findP ps m).isSome with
 | true =>
  obtain ⟨rfl,rfl,rfl,rfl⟩:=O1.i2 f1
  have f2:=hnew f1
  obtain ⟨c1,c2,c3,c4,c5,c6⟩:=O2.i1 f2
  rw [f1] at k2
  rw [f2] at l2
  rw [Int.add_zero]
  rcases s with ⟨p,t,s,x1,x2,x3,t0,v0,r0,p0,x4⟩|⟨v0,r0,p0,p,t,s,x1,x2,x3,t0,x4,x5,x6,x7⟩
  all_goals
   simp only [viewI,VI.mk.injEq] at hv
   obtain ⟨rfl,rfl,rfl,rfl,rfl,rfl,rfl⟩:=hv
   simp only [R79_0,sumE,F79_0_s0,F79_0_s1,decide_eq_false hp,h89,hf,h90,decide_eq_false ht,h92,hm,hsd,wm,k1,k2,l1,l2,c1,c2,c3,c4,c5,c6,w3,e1,e2,Bool.not_false,cond_true,cond_false]
   exact ⟨_,rfl,rfl⟩
 | false =>
  obtain ⟨c1,c2,c3,c4,c5,c6⟩:=O1.i1 f1
  rw [f1] at k2
  cases f2:(findP ps1 (m+1)).isSome with
  | true =>
   obtain ⟨rfl,rfl,rfl,rfl⟩:=O2.i2 f2
   rw [f2] at l2
   rw [Int.add_zero]
   rcases s with ⟨p,t,s,x1,x2,x3,t0,v0,r0,p0,x4⟩|⟨v0,r0,p0,p,t,s,x1,x2,x3,t0,x4,x5,x6,x7⟩
   all_goals
    simp only [viewI,VI.mk.injEq] at hv
    obtain ⟨rfl,rfl,rfl,rfl,rfl,rfl,rfl⟩:=hv
    simp only [R79_0,sumE,F79_0_s0,F79_0_s1,decide_eq_false hp,h89,hf,h90,decide_eq_false ht,h92,hm,hsd,wm,k1,k2,c1,c2,c3,c4,c5,c6,l1,l2,w1,e1,e2,Bool.not_false,cond_true,cond_false]
    exact ⟨_,rfl,rfl⟩
  | false =>
   obtain ⟨g1,g2,g3,g4,g5,g6⟩:=O2.i1 f2
   rw [f2] at l2
   rcases s with ⟨p,t,s,x1,x2,x3,t0,v0,r0,p0,x4⟩|⟨v0,r0,p0,p,t,s,x1,x2,x3,t0,x4,x5,x6,x7⟩
   all_goals
    simp only [viewI,VI.mk.injEq] at hv
    obtain ⟨rfl,rfl,rfl,rfl,rfl,rfl,rfl⟩:=hv
    simp only [R79_0,sumE,F79_0_s0,F79_0_s1,decide_eq_false hp,h89,hf,h90,decide_eq_false ht,h92,hm,hsd,wm,k1,k2,c1,c2,c3,c4,c5,c6,l1,l2,g1,g2,g3,g4,g5,g6,w1,w2,e1,e2,Bool.not_false,cond_true,cond_false]
    exact ⟨_,rfl,rfl⟩
theorem findP_at {ps:List AV} {v:Int} (h:(findP ps v).isSome=true):∃ i:Int,0≤i∧i<ps.length∧el ps i=v:=by
 obtain ⟨j,hj⟩:=Option.isSome_iff_exists.1 h
 obtain ⟨h1,h2,h3⟩:=findF_some _ _ hj
 exact ⟨j,h1,by omega,of_decide_eq_true h3⟩
theorem newm {vs rs ps:List AV} (h:Col vs rs ps) {v a b t k:Int} (hp:Pc vs.length ps v a b t) (a0:0≤a) (ka:a≤k) (kb:k<b) (b1:b≤vs.length)
  (h1:(findP ps (el vs k)).isSome=true) (h2:(findP ps (el vs k+1)).isSome=true):False:=by
 obtain ⟨i,i0,i1,ei⟩:=findP_at h1
 obtain ⟨j,j0,j1,ej⟩:=findP_at h2
 have t0:=hp.t0
 have t1:=hp.t1
 have ea:=hp.ea
 have eb:=hp.eb
 have hi:i<t:=by
  rcases Int.lt_or_le i t with h|hit
  ·exact h
  ·have htl:t<ps.length:=by omega
   rw [if_neg (by omega)] at eb
   have:=(h.part t t0 htl k (by omega) (by omega)).2 (by omega)
   rcases Int.lt_or_le t i with h'|h'
   ·have:=(h.lt t0 h' i1).1
    omega
   ·have:i=t:=by omega
    subst this
    omega
 have hlo:=hp.lo i i0 hi
 have hj:t≤j:=by
  rcases Int.lt_or_le j t with hjt|h
  ·rw [if_neg (by omega)] at ea
   have hn:¬ el vs k<el ps (t - 1):=fun e=>by
    have:=(h.part (t - 1) (by omega) (by omega) k (by omega) (by omega)).1 e
    omega
   rcases Int.lt_or_le j (t - 1) with h'|h'
   ·have:=(h.lt j0 h' (by omega:t - 1<ps.length)).1
    omega
   ·have:j=t - 1:=by omega
    subst this
    omega
  ·exact h
 have hhi:=hp.hi j hj j1
 omega
def InvP (pol thr T c:Int) (s:SA ⊕ SB) (s':IA ⊕ IB):Prop:=∃ (vs rs ps:List AV) (seed:Int) (L:List AV) (tl:Int),viewS s=⟨vs,rs,ps,pol,thr,seed,L⟩∧viewI s'=⟨vs,rs,ps,pol,thr,seed,tl⟩ ∧
 Col vs rs ps∧N2 ps∧Sett pol thr seed∧tot L=T+tl∧0≤tl∧tl≤64*ps.length∧(L.length:Int)≤c+ps.length
theorem loop_both {pol thr T c v q:Int} (hv : -1000≤v∧v≤1000) (hc:c≤10000000) (s:SA ⊕ SB) (s':IA ⊕ IB) (hI:InvP pol thr T c s s') :
  ∃ r r',runW (R72_0 v q) 2100 s=some r∧runW (R79_0 v) 2100 s'=some r'∧InvP pol thr T c r r':=by
 refine runW_pair (f:=R72_0 v q) (g:=R79_0 v) (InvP pol thr T c) (InvP pol thr T c) (fun s=>2050 - (viewS s).ps.length) (fun s s' hI=>?_) 2100 2100 s s' hI (by omega) (by omega)
 obtain ⟨vs,rs,ps,seed,L,tl,e1,e2,hC,hN,hS,hT,t0,t1,hL⟩:=hI
 have hl:=hC.n64
 have hlen:=hC.len
 have hf:=col_few hC
 obtain ⟨f1,f2,f3⟩:=P58 vs rs ps v (by omega)
 obtain ⟨i1,i2⟩:=P89 vs rs ps v (by omega)
 have h83:=q83_ok hC v
 have stop:∀ {r:SA ⊕ SB} {r':IA ⊕ IB},viewS r=viewS s→viewI r'=viewI s'→InvP pol thr T c r r':=fun h h'=>⟨vs,rs,ps,seed,L,tl,h.trans e1,h'.trans e2,hC,hN,hS,hT,t0,t1,hL⟩
 by_cases hp:pol=0
 ·obtain ⟨r,k1,k2⟩:=stop72 (v:=v) (q:=q) s e1 h83 f1 (.inl hp)
  obtain ⟨r',l1,l2⟩:=stop79 (v:=v) s' e2 i1 (.inl hp)
  exact .inr ⟨r,r',k1,l1,stop k2 l2⟩
 cases hfd:(findP ps v).isSome with
 | true =>
  obtain ⟨r,k1,k2⟩:=stop72 (v:=v) (q:=q) s e1 h83 f1 (.inr (.inl (by rw [f3,hfd])))
  obtain ⟨r',l1,l2⟩:=stop79 (v:=v) s' e2 i1 (.inr (.inl (by rw [i2,hfd])))
  exact .inr ⟨r,r',k1,l1,stop k2 l2⟩
 | false =>
  have hpc:=pc_of hC hfd
  have hpi:=piece_of hC hpc
  generalize (if place ps v=0 then 0 else pat ps (place ps v - 1))=a at hpc hpi
  generalize (if place ps v=ps.length then (vs.length:Int) else pat ps (place ps v))=b at hpc hpi
  have a0:=hpi.a0
  have ab:=hpi.ab
  have b1:=hpi.b1
  obtain ⟨p1,p2,p3⟩:=P83 hC hv hpc
  obtain ⟨p4,p5,p6⟩:=P90 (rs:=rs) hpc (by omega)
  have wb:IntKind.i64.wrap (b - a)=b - a:=wrap_in (by omega) (by omega)
  by_cases ht:b - a≤thr
  ·obtain ⟨r,k1,k2⟩:=stop72 (v:=v) (q:=q) s e1 h83 f1 (.inr (.inr (by rw [p2,p3,wb];exact ht)))
   obtain ⟨r',l1,l2⟩:=stop79 (v:=v) s' e2 i1 (.inr (.inr ⟨p4,by rw [p5,p6,wb];exact ht⟩))
   exact .inr ⟨r,r',k1,l1,stop k2 l2⟩
  ·have ht0:=hS.t0
   obtain ⟨c1,c2,c3,c4,c5,c6,k,ka,kb,c7⟩:=choose_both hC hS a0 (by omega:a<b) b1
   obtain ⟨m0,m1⟩:=hC.vals k (by omega) (by omega)
   obtain ⟨vs1,rs1,ps1,n1,L1,O1,x1,x2,x3,x4,x5,x6,x7⟩:=one_div hC hN (v:=el vs k) (by omega) q L (by omega)
   have hf1:=col_few O1.ok
   have g1:=O1.grow
   have nn1:=O1.nn
   have n10:=O1.n0
   obtain ⟨vs2,rs2,ps2,n2,L2,O2,y1,y2,y3,y4,y5,y6,y7⟩:=one_div O1.ok O1.n2 (v:=el vs k+1) (by omega) q L1 (by omega)
   have hf2:=col_few O2.ok
   have g2:=O2.grow
   have nn2:=O2.nn
   have n20:=O2.n0
   have hnew:(findP ps (el vs k)).isSome=true→(findP ps1 (el vs k+1)).isSome=false:=fun e=>by
    obtain ⟨_,_,rfl,_⟩:=O1.i2 e
    cases e':(findP ps1 (el vs k+1)).isSome with
    | false=>rfl
    | true=>exact (newm hC hpc a0 ka kb b1 e e').elim
   have hgrow:ps.length<ps2.length:=by
    cases e:(findP ps (el vs k)).isSome with
    | false=>have:=O1.new e;omega
    | true=>have:=O2.new (hnew e);omega
   have wm:IntKind.i64.wrap (el vs k+1)=el vs k+1:=wrap_in (by omega) (by omega)
   obtain ⟨s2,z1,z2⟩:=next72 (v:=v) (q:=q) (sd:=v84_3 vs rs ps pol thr seed a b) s e1 h83 f1 hp (by rw [f3,hfd]) (by rw [p2,p3,wb];exact ht) (by rw [p2,p3];exact c1) (by rw [p2,p3];exact c7) (by rw [p2,p3]) wm x1 x2 x3 x4 x5 y1 y2 y3 y4 y5
   obtain ⟨s2',z3,z4⟩:=next79 (v:=v) (sd:=v84_3 vs rs ps pol thr seed a b) s' e2 i1 p4 hp (by rw [i2,hfd]) (by rw [p5,p6,wb];exact ht) (by rw [p5,p6];exact c2) (by rw [p5,p6];exact c3.trans c7) (by rw [p5,p6];exact c4) wm O1 O2 hnew (wrap_in (by omega) (by omega)) (wrap_in (by omega) (by omega)) (wrap_in (by omega) (by omega))
   refine .inl ⟨s2,s2',z1,z3,⟨vs2,rs2,ps2,v84_3 vs rs ps pol thr seed a b,L2,tl+n1+n2,z2,z4,O2.ok,O2.n2,⟨hS.p0,hS.p1,hS.t0,hS.t1,c5,c6⟩,by omega,by omega,by omega,by omega⟩,?_⟩
   rw [z2,e1]
   simp only
   omega
structure Wit (vs rs ps:List AV) (pol thr seed v q:Int) (L:List AV) (x:Int) (vs' rs' ps':List AV) (seed' tl:Int):Prop where
 ok:Col vs' rs' ps'
 n2:N2 ps'
 st:Sett pol thr seed'
 t0:0≤tl
 t1:tl≤200000
 spec:q72 pol thr seed v q vs rs ps L=true∧v72_0 pol thr seed v q vs rs ps L=vs'∧v72_1 pol thr seed v q vs rs ps L=rs'∧v72_2 pol thr seed v q vs rs ps L=ps' ∧
  v72_3 pol thr seed v q vs rs ps L=pol∧v72_4 pol thr seed v q vs rs ps L=thr∧v72_5 pol thr seed v q vs rs ps L=seed'∧tot (v72_9 pol thr seed v q vs rs ps L)=tot L+tl∧(v72_9 pol thr seed v q vs rs ps L).length≤L.length+2002
 imp:q79 pol thr seed v vs rs ps x=true∧v79_0 pol thr seed v vs rs ps x=vs'∧v79_1 pol thr seed v vs rs ps x=rs'∧v79_2 pol thr seed v vs rs ps x=ps' ∧
  v79_3 pol thr seed v vs rs ps x=pol∧v79_4 pol thr seed v vs rs ps x=thr∧v79_5 pol thr seed v vs rs ps x=seed'∧v79_6 pol thr seed v vs rs ps x=tl
theorem with_both {vs rs ps:List AV} (h:Col vs rs ps) (hN:N2 ps) {pol thr seed v:Int} (hS:Sett pol thr seed) (hv : -1000≤v∧v≤1000) (q:Int) (L:List AV) (hL:L.length≤1000000) (x:Int) :
  ∃ (vs' rs' ps':List AV) (seed' tl:Int),Wit vs rs ps pol thr seed v q L x vs' rs' ps' seed' tl:=by
 obtain ⟨r,r',k1,k2,⟨vs1,rs1,ps1,sd1,L1,tl1,e1,e2,C1,N1,S1,hT,t0,t1,hL1⟩⟩:=loop_both (pol:=pol) (thr:=thr) (T:=tot L) (c:=L.length) (v:=v) (q:=q) hv (by omega) (.inl (pol,thr,seed,0,0,0,vs,rs,ps,L)) (.inl (pol,thr,seed,0,0,0,0,vs,rs,ps,x))
  ⟨vs,rs,ps,seed,L,0,rfl,rfl,h,hN,hS,by omega,Int.le_refl _,by omega,by omega⟩
 have hf1:=col_few C1
 obtain ⟨vs2,rs2,ps2,n2,L2,O2,y1,y2,y3,y4,y5,y6,y7⟩:=one_div C1 N1 (v:=v) hv q L1 (by omega)
 have hf2:=col_few O2.ok
 have n20:=O2.n0
 have n21:=O2.n1
 have w1:IntKind.i64.wrap (tl1+n2)=tl1+n2:=wrap_in (by omega) (by omega)
 obtain ⟨i1,i2⟩:=O2.i0
 refine ⟨vs2,rs2,ps2,sd1,tl1+n2,O2.ok,O2.n2,S1,by omega,by omega,?_,?_⟩
 ·unfold q72 v72_0 v72_1 v72_2 v72_3 v72_4 v72_5 v72_9
  rw [k1]
  rcases r with ⟨p,t,s,x1,x2,x3,v0,r0,p0,L0⟩|⟨v0,r0,p0,L0,p,t,s,x1,x2,x3,x4,x5,x6⟩
  all_goals
   simp only [viewS,VS.mk.injEq] at e1
   obtain ⟨rfl,rfl,rfl,rfl,rfl,rfl,rfl⟩:=e1
   simp only [ro,sumE,y1,y2,y3,y4,y5]
   refine ⟨trivial,trivial,trivial,trivial,?_,?_,?_,by omega,by omega⟩ <;> trivial
 ·unfold q79 v79_0 v79_1 v79_2 v79_3 v79_4 v79_5 v79_6
  rw [k2]
  cases hfd:(findP ps1 v).isSome with
  | true =>
   obtain ⟨g1,g2,g3,g4⟩:=O2.i2 hfd
   rw [hfd] at i2
   rcases r' with ⟨p,t,s,x1,x2,x3,t0',v0,r0,p0,x4⟩|⟨v0,r0,p0,p,t,s,x1,x2,x3,t0',x4,x5,x6,x7⟩
   all_goals
    simp only [viewI,VI.mk.injEq] at e2
    obtain ⟨rfl,rfl,rfl,rfl,rfl,rfl,rfl⟩:=e2
    subst g1 g2 g3 g4
    simp only [ro,sumE,i1,i2,cond_true,Bool.and_self,Int.add_zero]
    refine ⟨trivial,trivial,trivial,trivial,?_,?_,?_,?_⟩ <;> trivial
  | false =>
   obtain ⟨g1,g2,g3,g4,g5,g6⟩:=O2.i1 hfd
   rw [hfd] at i2
   rcases r' with ⟨p,t,s,x1,x2,x3,t0',v0,r0,p0,x4⟩|⟨v0,r0,p0,p,t,s,x1,x2,x3,t0',x4,x5,x6,x7⟩
   all_goals
    simp only [viewI,VI.mk.injEq] at e2
    obtain ⟨rfl,rfl,rfl,rfl,rfl,rfl,rfl⟩:=e2
    simp only [ro,sumE,i1,i2,cond_false,g1,g2,g3,g4,g5,g6,w1,Bool.and_self]
    refine ⟨trivial,trivial,trivial,trivial,?_,?_,?_,?_⟩ <;> trivial
end Go.Proofs.YtmcnplggcedihaaGreat
