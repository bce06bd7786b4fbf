import Derived.Test.YteppndjaglhehaaDoorP11
namespace Go.Proofs.YteppndjaglhehaaDoor
open Go Go.Proofs.VE
set_option linter.unusedVariables false
set_option linter.unusedSimpArgs false
theorem foldF_foldl {T:Type} (g:T→AV→T) (l:List AV):∀ (m i:Nat) (t:T),i+m=l.length→foldF (fun (k:Int) t=>g t (l.getD k.toNat .undef)) m (i:Int) t=(l.drop i).foldl g t
 | 0,i,t,h=>by
  rw [List.drop_eq_nil_of_le (by omega)]
  rfl
 | m+1,i,t,h=>by
  show foldF _ m ((i:Int)+1) (g t (l.getD ((i:Int)).toNat .undef))=_
  have:=foldF_foldl g l m (i+1) (g t (l.getD i .undef)) (by omega)
  rw [show (((i+1:Nat):Int))=(i:Int)+1 by omega] at this
  rw [Int.toNat_natCast,this,List.drop_eq_getElem_cons (show i<l.length by omega),List.foldl_cons]
  congr 2
  rw [List.getD_eq_getElem?_getD,List.getElem?_eq_getElem (by omega)]
  rfl
def sub (vs:List AV) (a b:Int):List AV:=(vs.take (Int.toNat b)).drop (Int.toNat a)
theorem sub_len {vs:List AV} {a b:Int} (a0:0≤a) (ab:a≤b) (b1:b≤vs.length):((sub vs a b).length:Int)=b - a:=by
 unfold sub
 rw [List.length_drop,List.length_take]
 omega
theorem sub_el {vs:List AV} {a b:Int} (a0:0≤a) (b1:b≤vs.length) (k:Int) (k0:0≤k) (k1:k<b - a):el (sub vs a b) k=el vs (a+k):=by
 unfold el sub
 rw [List.getD_eq_getElem?_getD,List.getD_eq_getElem?_getD,List.getElem?_drop,List.getElem?_take_of_lt (by omega),show a.toNat+k.toNat=(a+k).toNat by omega]
def pre (vs:List AV):Nat→Int
 | 0=>0
 | k+1=>pre vs k+el vs k
structure Small (vs:List AV):Prop where
 n:vs.length≤64
 v:∀ k:Int,0≤k→k<vs.length → -999≤el vs k∧el vs k≤999
theorem pre_in {vs:List AV} (h:Small vs):∀ k:Nat,k≤vs.length → -999*(k:Int)≤pre vs k∧pre vs k≤999*(k:Int)
 | 0,_=>by simp [pre]
 | k+1,hk=>by
  have:=pre_in h k (by omega)
  have hv:=h.v k (by omega) (by omega)
  show -999*((k+1:Nat):Int)≤pre vs k+el vs k∧pre vs k+el vs k≤_
  omega
structure AggP (vs:List AV) (a b c s lo hi:Int):Prop where
 cnt:c=b - a
 sum:s=pre vs b.toNat - pre vs a.toNat
 low:∀ k,a≤k→k<b→lo≤el vs k
 high:∀ k,a≤k→k<b→el vs k≤hi
 lowA:a<b→∃ k,a≤k∧k<b∧el vs k=lo
 highA:a<b→∃ k,a≤k∧k<b∧el vs k=hi
 lowZ:a=b→lo=0
 highZ:a=b→hi=0
theorem AggP.uniq {vs:List AV} {a b c s lo hi c' s' lo' hi':Int} (ab:a≤b) (h:AggP vs a b c s lo hi) (g:AggP vs a b c' s' lo' hi'):c=c'∧s=s'∧lo=lo'∧hi=hi':=by
 refine ⟨h.cnt.trans g.cnt.symm,h.sum.trans g.sum.symm,?_⟩
 by_cases e:a=b
 ·rw [h.lowZ e,h.highZ e,g.lowZ e,g.highZ e]
  exact ⟨rfl,rfl⟩
 ·obtain ⟨k,k0,k1,k2⟩:=h.lowA (by omega)
  obtain ⟨l,l0,l1,l2⟩:=g.lowA (by omega)
  obtain ⟨m,m0,m1,m2⟩:=h.highA (by omega)
  obtain ⟨n,n0,n1,n2⟩:=g.highA (by omega)
  have:=h.low l l0 l1
  have:=g.low k k0 k1
  have:=h.high n n0 n1
  have:=g.high m m0 m1
  omega
theorem AggP.join {vs:List AV} (S:Small vs) {a b d c s lo hi c' s' lo' hi':Int} (a0:0≤a) (ab:a≤b) (bd:b≤d) (d1:d≤vs.length) (h:AggP vs a b c s lo hi) (g:AggP vs b d c' s' lo' hi') :
  AggP vs a d (v16_0 c s lo hi c' s' lo' hi') (v16_1 c s lo hi c' s' lo' hi') (v16_2 c s lo hi c' s' lo' hi') (v16_3 c s lo hi c' s' lo' hi'):=by
 unfold v16_0 v16_1 v16_2 v16_3
 have hc:=h.cnt
 have gc:=g.cnt
 have hs:=h.sum
 have gs:=g.sum
 have n64:=S.n
 have pa:=pre_in S a.toNat (by omega)
 have pb:=pre_in S b.toNat (by omega)
 have pd:=pre_in S d.toNat (by omega)
 by_cases e1:c≤0
 ·rw [decide_eq_true e1]
  have:a=b:=by omega
  subst this
  exact g
 ·rw [decide_eq_false e1]
  by_cases e2:c'≤0
  ·rw [decide_eq_true e2]
   have:b=d:=by omega
   subst this
   exact h
  ·rw [decide_eq_false e2]
   simp only [cond_false]
   rw [wrap_in (a:=c+c') (by omega) (by omega),wrap_in (a:=s+s') (by omega) (by omega)]
   obtain ⟨k,k0,k1,k2⟩:=h.lowA (by omega)
   obtain ⟨l,l0,l1,l2⟩:=g.lowA (by omega)
   obtain ⟨m,m0,m1,m2⟩:=h.highA (by omega)
   obtain ⟨n,n0,n1,n2⟩:=g.highA (by omega)
   refine ⟨by omega,by omega,fun x x0 x1=>?_,fun x x0 x1=>?_,fun _=>?_,fun _=>?_,fun e=>by omega,fun e=>by omega⟩
   ·by_cases xb:x<b
    ·have:=h.low x x0 xb
     split <;> omega
    ·have:=g.low x (by omega) x1
     split <;> omega
   ·by_cases xb:x<b
    ·have:=h.high x x0 xb
     split <;> omega
    ·have:=g.high x (by omega) x1
     split <;> omega
   ·split
    ·exact ⟨l,by omega,l1,l2⟩
    ·exact ⟨k,k0,by omega,k2⟩
   ·split
    ·exact ⟨n,by omega,n1,n2⟩
    ·exact ⟨m,m0,by omega,m2⟩
theorem sum_sub {vs:List AV} (S:Small vs) {a b:Int} (a0:0≤a) (b1:b≤vs.length):∀ (m i:Nat),a+i+m≤b→foldF (gS (sub vs a b)) m i (pre vs (a+i).toNat - pre vs a.toNat)=pre vs (a+i+m).toNat - pre vs a.toNat
 | 0,i,h=>by
  show pre vs (a+i).toNat - pre vs a.toNat=_
  rw [show a+(i:Int)+((0:Nat):Int)=a+i by omega]
 | m+1,i,h=>by
  have n64:=S.n
  have hv:=S.v (a+i) (by omega) (by omega)
  have pa:=pre_in S a.toNat (by omega)
  have pi:=pre_in S (a+i).toNat (by omega)
  have e:gS (sub vs a b) i (pre vs (a+i).toNat - pre vs a.toNat)=pre vs (a+((i+1:Nat):Int)).toNat - pre vs a.toNat:=by
   unfold gS
   rw [show fI ((sub vs a b).getD (i:Int).toNat .undef) 0=el vs (a+i) from sub_el a0 b1 i (by omega) (by omega),wrap_in (by omega) (by omega),show (a+((i+1:Nat):Int)).toNat=(a+(i:Int)).toNat+1 by omega]
   show _=pre vs (a+(i:Int)).toNat+el vs (((a+(i:Int)).toNat:Nat):Int) - _
   rw [show (((a+(i:Int)).toNat:Nat):Int)=a+i by omega]
   omega
  show foldF (gS (sub vs a b)) m ((i:Int)+1) (gS (sub vs a b) i _)=_
  rw [e]
  have:=sum_sub S a0 b1 m (i+1) (by omega)
  rw [show (((i+1:Nat):Int))=(i:Int)+1 by omega] at this ⊢
  rw [this,show a+((i:Int)+1)+(m:Int)=a+i+((m+1:Nat):Int) by omega]
theorem min_fold (xs:List AV):∀ (m i:Nat) (t:Int),(∀ k:Int,0≤k→k<i→t≤el xs k)→(∃ k:Int,0≤k∧k<i∧el xs k=t) →
  (∀ k:Int,0≤k→k<i+m→foldF (gMin xs) m i t≤el xs k)∧∃ k:Int,0≤k∧k<i+m∧el xs k=foldF (gMin xs) m i t
 | 0,i,t,h1,h2=>by
  refine ⟨fun k k0 k1=>h1 k k0 (by omega),?_⟩
  obtain ⟨k,k0,k1,k2⟩:=h2
  exact ⟨k,k0,by omega,k2⟩
 | m+1,i,t,h1,h2=>by
  have e:gMin xs i t=if el xs i<t then el xs i else t:=rfl
  have:=min_fold xs m (i+1) (gMin xs i t) (fun k k0 k1=>by
   rw [e]
   by_cases hk:k<i
   ·have:=h1 k k0 hk
    split <;> omega
   ·obtain rfl:k=i:=by omega
    split <;> omega) (by
   rw [e]
   split
   ·exact ⟨i,by omega,by omega,rfl⟩
   ·obtain ⟨k,k0,k1,k2⟩:=h2
    exact ⟨k,k0,by omega,k2⟩)
  rw [show (((i+1:Nat):Int))=(i:Int)+1 by omega] at this
  obtain ⟨g1,k,k0,k1,k2⟩:=this
  exact ⟨fun k k0 k1=>g1 k k0 (by omega),k,k0,by omega,k2⟩
theorem max_fold (xs:List AV):∀ (m i:Nat) (t:Int),(∀ k:Int,0≤k→k<i→el xs k≤t)→(∃ k:Int,0≤k∧k<i∧el xs k=t) →
  (∀ k:Int,0≤k→k<i+m→el xs k≤foldF (gMax xs) m i t)∧∃ k:Int,0≤k∧k<i+m∧el xs k=foldF (gMax xs) m i t
 | 0,i,t,h1,h2=>by
  refine ⟨fun k k0 k1=>h1 k k0 (by omega),?_⟩
  obtain ⟨k,k0,k1,k2⟩:=h2
  exact ⟨k,k0,by omega,k2⟩
 | m+1,i,t,h1,h2=>by
  have e:gMax xs i t=if el xs i > t then el xs i else t:=rfl
  have:=max_fold xs m (i+1) (gMax xs i t) (fun k k0 k1=>by
   rw [e]
   by_cases hk:k<i
   ·have:=h1 k k0 hk
    split <;> omega
   ·obtain rfl:k=i:=by omega
    split <;> omega) (by
   rw [e]
   split
   ·exact ⟨i,by omega,by omega,rfl⟩
   ·obtain ⟨k,k0,k1,k2⟩:=h2
    exact ⟨k,k0,by omega,k2⟩)
  rw [show (((i+1:Nat):Int))=(i:Int)+1 by omega] at this
  obtain ⟨g1,k,k0,k1,k2⟩:=this
  exact ⟨fun k k0 k1=>g1 k k0 (by omega),k,k0,by omega,k2⟩
theorem agg_sub {vs:List AV} (S:Small vs) {a b:Int} (a0:0≤a) (ab:a≤b) (b1:b≤vs.length) :
  q17 (sub vs a b)=true∧AggP vs a b (v17_0 (sub vs a b)) (v17_1 (sub vs a b)) (v17_2 (sub vs a b)) (v17_3 (sub vs a b)):=by
 have n64:=S.n
 have hl:=sub_len a0 ab b1
 have he:=fun k k0 k1=>sub_el (vs:=vs) (b:=b) a0 b1 k k0 k1
 have hsum:=sum_sub S a0 b1 (sub vs a b).length 0 (by omega)
 rw [show (a+((0:Nat):Int))=a by omega,Int.sub_self,show a+((sub vs a b).length:Int)=b by omega] at hsum
 have h33:q33 (sub vs a b)=true∧v33_0 (sub vs a b)=true:=by
  obtain ⟨p1,p2⟩:=P33 (sub vs a b) (by omega)
  obtain ⟨p3,p4⟩:=P37 (sub vs a b) (by omega)
  refine ⟨p1,?_⟩
  rw [p2,p4,Bool.and_eq_true]
  refine ⟨?_,decide_eq_true (by omega)⟩
  rw [findF_isNone]
  intro j j0 j1
  have:=S.v (a+j) (by omega) (by omega)
  rw [v38,show fI ((sub vs a b).getD j.toNat .undef) 0=el vs (a+j) from he j (by omega) (by omega),decide_eq_true this.1,decide_eq_true this.2]
  rfl
 generalize sub vs a b=xs at *
 unfold q17 v17_0 v17_1 v17_2 v17_3
 by_cases e:(xs.length:Int)=0
 ·rw [decide_eq_true e]
  have:a=b:=by omega
  subst this
  exact ⟨rfl,⟨(by simp),(by simp),fun k k0 k1=>by omega,fun k k0 k1=>by omega,fun h=>by omega,fun h=>by omega,fun _=>rfl,fun _=>rfl⟩⟩
 ·rw [decide_eq_false e,h33.1,h33.2]
  have l1:1≤xs.length:=by omega
  have m0:=min_fold xs (xs.length - 1) 1 (el xs 0) (fun k k0 k1=>by have e:k=0:=(by omega);subst e;exact Int.le_refl _) ⟨0,Int.le_refl _,by decide,rfl⟩
  have m1:=max_fold xs (xs.length - 1) 1 (el xs 0) (fun k k0 k1=>by have e:k=0:=(by omega);subst e;exact Int.le_refl _) ⟨0,Int.le_refl _,by decide,rfl⟩
  have d1:decide ((xs.length:Int)<1)=false:=decide_eq_false (by omega)
  have d2:decide ((0:Int)<(xs.length:Int))=true:=decide_eq_true (by omega)
  unfold q44 q45 q46 v44_0 v45_0 v46_0
  rw [sum47 xs (by omega),min95 xs (by omega) l1,max96 xs (by omega) l1,d1,d2]
  refine ⟨rfl,?_⟩
  have e1:(((1:Nat):Int))=1:=rfl
  rw [e1,show (1:Int)+((xs.length - 1:Nat):Int)=b - a by omega] at m0 m1
  have e0:fI (xs.getD (0:Int).toNat .undef) 0=el xs 0:=rfl
  rw [e0]
  generalize foldF (gMin xs) (xs.length - 1) 1 (el xs 0)=lo at *
  generalize foldF (gMax xs) (xs.length - 1) 1 (el xs 0)=hi at *
  obtain ⟨u1,k,k0,k1,k2⟩:=m0
  obtain ⟨w1,m,n0,n1,n2⟩:=m1
  rw [he k k0 k1] at k2
  rw [he m n0 n1] at n2
  refine ⟨?_,?_,fun x x0 x1=>?_,fun x x0 x1=>?_,fun _=>⟨a+k,by omega,by omega,k2⟩,fun _=>⟨a+m,by omega,by omega,n2⟩,fun h=>by omega,fun h=>by omega⟩
  ·exact hl
  ·exact hsum
  ·have:=u1 (x - a) (by omega) (by omega)
   rw [he (x - a) (by omega) (by omega),show a+(x - a)=x by omega] at this
   exact this
  ·have:=w1 (x - a) (by omega) (by omega)
   rw [he (x - a) (by omega) (by omega),show a+(x - a)=x by omega] at this
   exact this
end Go.Proofs.YteppndjaglhehaaDoor

namespace Go.Proofs.YteppndjaglhehaaDoor
open Go Go.Proofs.VE
set_option linter.unusedVariables false
set_option linter.unusedSimpArgs false
theorem isC_at {vs rs ps:List AV} (h:isC vs rs ps=true) (j:Nat) (hj:j<ps.length):0≤fI (ps.getD j .undef) 1∧fI (ps.getD j .undef) 1≤vs.length:=by
 unfold isC at h
 simp only [Bool.and_eq_true] at h
 have e:=(noneB_iff.1 h.2.2.2.2) (j:Int) (by omega) (by omega)
 simp only [badP,badA,v38,Bool.or_eq_false_iff,Bool.not_eq_false',Bool.and_eq_true,decide_eq_true_eq,Int.toNat_natCast] at e
 exact e.1.2.1
def endsP (vs ps:List AV):List AV:=ps++[AV.agg [AV.int .i64 0,AV.int .i64 (vs.length:Int)]]
def eP (vs ps:List AV) (k:Int):Int:=fI ((endsP vs ps).getD k.toNat .undef) 1
theorem eP_lt (vs ps:List AV) (k:Int) (h0:0≤k) (h:k<ps.length):eP vs ps k=fI (ps.getD k.toNat .undef) 1:=by
 unfold eP endsP
 rw [List.getD_eq_getElem?_getD,List.getElem?_append_left (by omega),← List.getD_eq_getElem?_getD]
theorem eP_last (vs ps:List AV):eP vs ps ps.length=vs.length:=by
 unfold eP endsP
 rw [List.getD_eq_getElem?_getD,List.getElem?_append_right (by omega),show ((ps.length:Int).toNat - ps.length)=0 by omega]
 rfl
theorem eP_in {vs rs ps:List AV} (hC:isC vs rs ps=true) (k:Int) (h0:0≤k) (h:k<ps.length+1):0≤eP vs ps k∧eP vs ps k≤vs.length:=by
 by_cases hk:k<ps.length
 ·rw [eP_lt vs ps k h0 hk]
  exact isC_at hC k.toNat (by omega)
 ·rw [show k=ps.length by omega,eP_last]
  omega
theorem ends68 (vs rs ps:List AV) (h:ps.length≤1048576):q32 vs rs ps=true∧(v32_0 vs rs ps).length=ps.length+1∧∀ k:Int,0≤k→k<ps.length+1→fI ((v32_0 vs rs ps).getD k.toNat .undef) 0=eP vs ps k:=by
 have hr:=runW_fold (f:=R32_0 vs rs ps) (fun i (t:List AV)=>(i,t)) ps.length (fun i t=>t++[(fun i:Int=>AV.int .i64 (fI (ps.getD i.toNat .undef) 1)) i]) (fun t=>t) (fun i t=>(t.length:Int)=i) (fun i t h0 hn hI=>by
  refine ⟨?_,by rw [List.length_append];simp only [List.length_cons,List.length_nil];omega⟩
  have d0:decide (i<(ps.length:Int))=true:=decide_eq_true hn
  have d1:decide (0≤i)=true:=decide_eq_true h0
  unfold R32_0 F32_0 G32_0
  rw [d0,d1,wrap_in (a:=i+1) (by omega) (by omega)]
  have d4:∀ s:AV,decide ((t.length+([s]).length)*8≤140737488355328)=true:=fun s=>decide_eq_true (by simp only [List.length_cons,List.length_nil];omega)
  have d5:∀ s:AV,decide ((t.length+([s]).length)≤140737488355328)=true:=fun s=>decide_eq_true (by simp only [List.length_cons,List.length_nil];omega)
  rw [d4,d5]
  rfl) (fun t _=>by
  unfold R32_0 F32_0 G32_0
  rw [decide_eq_false (Int.lt_irrefl _)]
  rfl) ps.length (((ps.length:Int) - 0).toNat+1) 0 [] (Int.le_refl 0) (by omega) (by omega) rfl
 rw [app_fold (fun i:Int=>AV.int .i64 (fI (ps.getD i.toNat .undef) 1)),List.nil_append] at hr
 have hl:((List.range ps.length).map (fun k:Nat=>(fun i:Int=>AV.int .i64 (fI (ps.getD i.toNat .undef) 1)) (0+(k:Int)))).length=ps.length:=by simp
 unfold q32 v32_0
 rw [hr]
 simp only [ro]
 refine ⟨?_,?_,fun k h0 hk=>?_⟩
 ·simp only [Bool.and_eq_true,decide_eq_true_eq,List.length_map,List.length_range,List.length_cons,List.length_nil]
  omega
 ·rw [List.length_append,hl]
  rfl
 ·by_cases hk2:k<ps.length
  ·rw [eP_lt vs ps k h0 hk2,List.getD_eq_getElem?_getD,List.getElem?_append_left (by rw [hl];omega),← List.getD_eq_getElem?_getD,getD_range _ _ _ (by omega)]
   show fI (ps.getD (0+((k.toNat:Nat):Int)).toNat .undef) 1=_
   rw [show (0+((k.toNat:Nat):Int)).toNat=k.toNat by omega]
  ·rw [show k=ps.length by omega,eP_last,List.getD_eq_getElem?_getD,List.getElem?_append_right (by rw [hl];omega),hl,show ((ps.length:Int).toNat - ps.length)=0 by omega]
   rfl
structure Cx (vs rs ps:List AV):Prop where
 v:vs.length≤1048576
 p:ps.length≤1048576
 r:(rs.length:Int)=vs.length
 c:isC vs rs ps=true
 n:∀ y ∈ vs,In64 (fI y 0)
 q:q12 vs rs ps=true
 w:v12_0 vs rs ps=true
def gQ (e:Int→Int) (i:Int) (t:Int × List AV):Int × List AV:=(e i,bif decide (e i > t.1) then t.2++[AV.agg [AV.int .i64 t.1,AV.int .i64 (e i)]] else t.2)
def okP (N:Int) (p:AV):Prop:=∃ x y:Int,p=AV.agg [AV.int .i64 x,AV.int .i64 y]∧0≤x∧x<y∧y≤N
theorem gQ_inv (e:Int→Int) (N:Int):∀ (m:Nat) (i a:Int) (L:List AV),(∀ k,i≤k→k<i+m→0≤e k∧e k≤N)→0≤a→(∀ p ∈ L,okP N p)→(∀ p ∈ (foldF (gQ e) m i (a,L)).2,okP N p)∧(foldF (gQ e) m i (a,L)).2.length≤L.length+m
 | 0,_,_,_,_,_,h=>⟨h,Nat.le_refl _⟩
 | m+1,i,a,L,hb,ha,h=>by
  have e0:=hb i (Int.le_refl _) (by omega)
  show (∀ p ∈ (foldF (gQ e) m (i+1) (gQ e i (a,L))).2,okP N p)∧_
  have hstep:gQ e i (a,L)=(e i,bif decide (e i > a) then L++[AV.agg [AV.int .i64 a,AV.int .i64 (e i)]] else L):=rfl
  rw [show foldF (gQ e) (m+1) i (a,L)=foldF (gQ e) m (i+1) (gQ e i (a,L)) from rfl,hstep]
  cases hd:decide (e i > a) with
  | false =>
   have:=gQ_inv e N m (i+1) (e i) L (fun k h1 h2=>hb k (by omega) (by omega)) e0.1 h
   exact ⟨this.1,by have:=this.2;simp only [cond_false];omega⟩
  | true =>
   have hgt:=of_decide_eq_true hd
   have:=gQ_inv e N m (i+1) (e i) (L++[AV.agg [AV.int .i64 a,AV.int .i64 (e i)]]) (fun k h1 h2=>hb k (by omega) (by omega)) e0.1 (fun p hp=>by
    rcases List.mem_append.1 hp with hp|hp
    ·exact h p hp
    ·obtain rfl:=List.mem_singleton.1 hp
     exact ⟨a,e i,rfl,ha,by omega,e0.2⟩)
   refine ⟨this.1,?_⟩
   have h2:=this.2
   simp only [List.length_append,List.length_cons,List.length_nil] at h2
   simp only [cond_true]
   omega
theorem run31 {vs rs ps:List AV} (X:Cx vs rs ps):runW (R31_0 ((endsP vs ps).length:Int) (endsP vs ps)) ((((endsP vs ps).length:Int) - 0).toNat+1) (0,0,([]:List AV))=some (foldF (gQ (eP vs ps)) (endsP vs ps).length 0 (0,[])).2 :=
 runW_fold (f:=R31_0 ((endsP vs ps).length:Int) (endsP vs ps)) (fun i (t:Int × List AV)=>(t.1,i,t.2)) (endsP vs ps).length (gQ (eP vs ps)) (fun t=>t.2) (fun i t=>(t.2.length:Int)≤i) (fun i t h0 hn hI=>by
  have hp:=X.p
  have hl:(endsP vs ps).length=ps.length+1:=by unfold endsP;simp
  obtain ⟨a,L⟩:=t
  simp only at hI
  refine ⟨?_,?_⟩
  ·have d0:decide (i<((endsP vs ps).length:Int))=true:=decide_eq_true hn
   have d1:decide (0≤i)=true:=decide_eq_true h0
   unfold R31_0 F31_0 G31_0 gQ
   simp only
   rw [d0,d1,wrap_in (a:=i+1) (by omega) (by omega),show fI ((endsP vs ps).getD i.toNat .undef) 1=eP vs ps i from rfl]
   have c6:∀ s:AV,decide ((L.length+([s]).length)*16≤140737488355328)=true:=fun s=>decide_eq_true (by simp only [List.length_cons,List.length_nil];omega)
   have c7:∀ s:AV,decide ((L.length+([s]).length)≤140737488355328)=true:=fun s=>decide_eq_true (by simp only [List.length_cons,List.length_nil];omega)
   rw [c6,c7]
   cases decide (eP vs ps i > a) <;> rfl
  ·unfold gQ
   simp only
   cases decide (eP vs ps i > a)
   ·simp only [cond_false];omega
   ·simp only [cond_true,List.length_append,List.length_cons,List.length_nil];omega) (fun t _=>by
  unfold R31_0 F31_0 G31_0
  rw [decide_eq_false (Int.lt_irrefl _)]
  rfl) (endsP vs ps).length _ 0 (0,[]) (Int.le_refl 0) (by omega) (by omega) (by simp)
end Go.Proofs.YteppndjaglhehaaDoor

namespace Go.Proofs.YteppndjaglhehaaDoor
open Go Go.Proofs.VE
set_option linter.unusedVariables false
set_option linter.unusedSimpArgs false
theorem getD_snoc (l:List AV) (y:AV) (j:Nat):(l++[y]).getD j .undef=if j<l.length then l.getD j .undef else if j=l.length then y else .undef:=by
 rw [List.getD_eq_getElem?_getD,List.getD_eq_getElem?_getD]
 by_cases h:j<l.length
 ·rw [if_pos h,List.getElem?_append_left h]
 ·rw [if_neg h]
  by_cases h2:j=l.length
  ·subst h2
   rw [if_pos rfl,List.getElem?_append_right (Nat.le_refl _)]
   simp
  ·rw [if_neg h2,List.getElem?_eq_none (by rw [List.length_append,List.length_singleton];omega)]
   rfl
def fr (L:List AV) (j:Nat):Int:=fI (L.getD j .undef) 0
def tO (L:List AV) (j:Nat):Int:=fI (L.getD j .undef) 1
structure PL (vs ps L:List AV) (b:Int):Prop where
 le:∀ j,j<L.length→0≤fr L j∧fr L j<tO L j∧tO L j≤vs.length
 nxt:∀ j,j+1<L.length→fr L (j+1)=tO L j∧∃ k:Int,0≤k∧k<ps.length∧tO L j=pat ps k
 ends:0<L.length→fr L 0=0∧tO L (L.length - 1)=b
 none:L.length=0→b=0
theorem PL.snoc {vs ps L:List AV} {a b:Int} (h:PL vs ps L a) (a0:0≤a) (ab:a<b) (b1:b≤vs.length) (hk:0<L.length→∃ k:Int,0≤k∧k<ps.length∧a=pat ps k):PL vs ps (L++[AV.agg [AV.int .i64 a,AV.int .i64 b]]) b:=by
 have hl:(L++[AV.agg [AV.int .i64 a,AV.int .i64 b]]).length=L.length+1:=by rw [List.length_append,List.length_singleton]
 have lt:∀ j,j<L.length→fr (L++[AV.agg [AV.int .i64 a,AV.int .i64 b]]) j=fr L j∧tO (L++[AV.agg [AV.int .i64 a,AV.int .i64 b]]) j=tO L j:=fun j hj=>by
  unfold fr tO
  rw [getD_snoc,if_pos hj]
  exact ⟨rfl,rfl⟩
 have eq:fr (L++[AV.agg [AV.int .i64 a,AV.int .i64 b]]) L.length=a∧tO (L++[AV.agg [AV.int .i64 a,AV.int .i64 b]]) L.length=b:=by
  unfold fr tO
  rw [getD_snoc,if_neg (Nat.lt_irrefl _),if_pos rfl]
  exact ⟨rfl,rfl⟩
 refine ⟨fun j hj=>?_,fun j hj=>?_,fun _=>?_,fun g=>by omega⟩
 ·by_cases hj':j<L.length
  ·rw [(lt j hj').1,(lt j hj').2]
   exact h.le j hj'
  ·have:j=L.length:=by omega
   subst this
   rw [eq.1,eq.2]
   exact ⟨a0,ab,b1⟩
 ·by_cases hj':j+1<L.length
  ·rw [(lt _ hj').1,(lt j (by omega)).2]
   exact h.nxt j hj'
  ·have e:j+1=L.length:=by omega
   have hn:=(h.ends (by omega)).2
   rw [show L.length - 1=j by omega] at hn
   rw [e,eq.1,(lt j (by omega)).2,hn]
   exact ⟨rfl,hk (by omega)⟩
 ·rw [hl,Nat.add_sub_cancel,eq.2]
  refine ⟨?_,rfl⟩
  by_cases h0:0<L.length
  ·rw [(lt 0 h0).1]
   exact (h.ends h0).1
  ·have e:L.length=0:=by omega
   have:=eq.1
   rw [e] at this
   rw [this]
   exact h.none e
theorem gQ_fst (e:Int→Int):∀ (m:Nat) (i a:Int) (L:List AV),(foldF (gQ e) (m+1) i (a,L)).1=e (i+m)
 | 0,i,a,L=>by
  show e i=e (i+((0:Nat):Int))
  rw [show i+((0:Nat):Int)=i by omega]
 | m+1,i,a,L=>by
  show (foldF (gQ e) (m+1) (i+1) (e i,(gQ e i (a,L)).2)).1=_
  rw [gQ_fst e m (i+1),show i+1+(m:Int)=i+((m+1:Nat):Int) by omega]
theorem eP_mono {vs rs ps:List AV} (h:Col vs rs ps) (i:Int) (i0:0≤i) (i1:i<ps.length):eP vs ps i≤eP vs ps (i+1):=by
 rw [eP_lt vs ps i i0 i1]
 by_cases hi:i+1<ps.length
 ·rw [eP_lt vs ps (i+1) (by omega) hi]
  have:=(h.lt (i:=i) (j:=i+1) i0 (by omega) hi).2
  exact this
 ·rw [show i+1=(ps.length:Int) by omega,eP_last]
  exact (h.pa i i0 i1).2
theorem foldPL {vs rs ps:List AV} (h:Col vs rs ps):∀ (m:Nat) (i a:Int) (L:List AV),0≤i→i+m=ps.length+1→PL vs ps L a→0≤a→a≤eP vs ps i∨i=ps.length+1→(0<i→a=eP vs ps (i - 1))→(i=0→L.length=0) →
  PL vs ps (foldF (gQ (eP vs ps)) m i (a,L)).2 (foldF (gQ (eP vs ps)) m i (a,L)).1
 | 0,i,a,L,_,_,hp,_,_,_,_=>hp
 | m+1,i,a,L,i0,hm,hp,a0,ha,hb,hz=>by
  have hle:a≤eP vs ps i:=by
   rcases ha with g|g
   ·exact g
   ·omega
  have hin:eP vs ps i≤vs.length:=by
   by_cases hi:i<ps.length
   ·rw [eP_lt vs ps i i0 hi]
    exact (h.pa i i0 hi).2
   ·rw [show i=(ps.length:Int) by omega,eP_last]
    omega
  have hnx:eP vs ps i≤eP vs ps (i+1)∨i+1=ps.length+1:=by
   by_cases hi:i<ps.length
   ·exact .inl (eP_mono h i i0 hi)
   ·exact .inr (by omega)
  have hstep:gQ (eP vs ps) i (a,L)=(eP vs ps i,bif decide (eP vs ps i > a) then L++[AV.agg [AV.int .i64 a,AV.int .i64 (eP vs ps i)]] else L):=rfl
  show PL vs ps (foldF (gQ (eP vs ps)) m (i+1) (gQ (eP vs ps) i (a,L))).2 (foldF (gQ (eP vs ps)) m (i+1) (gQ (eP vs ps) i (a,L))).1
  rw [hstep]
  refine foldPL h m (i+1) _ _ (by omega) (by omega) ?_ (by omega) hnx (fun _=>by rw [show i+1 - 1=i by omega]) (fun g=>by omega)
  by_cases hd:eP vs ps i > a
  ·rw [decide_eq_true hd]
   refine hp.snoc a0 hd hin (fun hl=>?_)
   have i1:0<i:=by
    by_cases g:i=0
    ·have:=hz g;omega
    ·omega
   refine ⟨i - 1,by omega,by omega,?_⟩
   rw [hb i1,eP_lt vs ps (i - 1) (by omega) (by omega)]
   rfl
  ·rw [decide_eq_false hd]
   have:eP vs ps i=a:=by omega
   rw [this]
   exact hp
theorem run9 {vs rs ps:List AV} (X:Cx vs rs ps) (es:List AV) (e:Int→Int) (hl:es.length=ps.length+1) (he:∀ k:Int,0≤k→k<es.length→fI (es.getD k.toNat .undef) 0=e k) :
  runW (R9_0 vs rs ps es) (((es.length:Int) - 0).toNat+1) (0,0,0)=some ((foldF (gQ e) es.length 0 (0,[])).2.length:Int) :=
 runW_fold (f:=R9_0 vs rs ps es) (fun i (t:Int × List AV)=>((t.2.length:Int),t.1,i)) es.length (gQ e) (fun t=>(t.2.length:Int)) (fun i t=>(t.2.length:Int)≤i) (fun i t h0 hn hI=>by
  obtain ⟨a,L⟩:=t
  simp only at hI
  have hpl:=X.p
  refine ⟨?_,?_⟩
  ·have d0:decide (i<(es.length:Int))=true:=decide_eq_true hn
   have d1:decide (0≤i)=true:=decide_eq_true h0
   unfold R9_0 F9_0 G9_0 gQ
   simp only
   rw [he i h0 hn,d0,d1,X.q,X.w,wrap_in (a:=i+1) (by omega) (by omega),wrap_in (a:=(L.length:Int)+1) (by omega) (by omega)]
   cases decide (e i > a)
   ·rfl
   ·simp only [cond_true,List.length_append,List.length_singleton]
    rw [show ((L.length+1:Nat):Int)=(L.length:Int)+1 by omega]
    rfl
  ·unfold gQ
   simp only
   cases decide (e i > a)
   ·simp only [cond_false];omega
   ·simp only [cond_true,List.length_append,List.length_cons,List.length_nil];omega) (fun t _=>by
  unfold R9_0 F9_0 G9_0
  rw [decide_eq_false (Int.lt_irrefl _)]
  rfl) es.length _ 0 (0,[]) (Int.le_refl 0) (by omega) (by omega) (by simp)
def gm (t:Int) (x:AV):Int:=if IntKind.i64.wrap (fI x 1 - fI x 0) > t then IntKind.i64.wrap (fI x 1 - fI x 0) else t
theorem gm_up:∀ (L:List AV) (t:Int),t≤L.foldl gm t∧∀ x ∈ L,IntKind.i64.wrap (fI x 1 - fI x 0)≤L.foldl gm t
 | [],t=>⟨Int.le_refl _,fun x hx=>by cases hx⟩
 | y :: L,t=>by
  rw [List.foldl_cons]
  obtain ⟨h1,h2⟩:=gm_up L (gm t y)
  have:t≤gm t y∧IntKind.i64.wrap (fI y 1 - fI y 0)≤gm t y:=by unfold gm;split <;> omega
  refine ⟨by omega,fun x hx=>?_⟩
  rcases List.mem_cons.1 hx with rfl|hx
  ·omega
  ·exact h2 x hx
theorem run10 {vs rs ps:List AV} (X:Cx vs rs ps) (es:List AV) (e:Int→Int) (hl:es.length=ps.length+1) (he:∀ k:Int,0≤k→k<es.length→fI (es.getD k.toNat .undef) 0=e k) (hb:∀ k:Int,0≤k→k<es.length→0≤e k∧e k≤vs.length) :
  runW (R10_0 vs rs ps es) (((es.length:Int) - 0).toNat+1) (0,0,0)=some ((foldF (gQ e) es.length 0 (0,[])).2.foldl gm 0) :=
 runW_fold (f:=R10_0 vs rs ps es) (fun i (t:Int × List AV)=>(t.2.foldl gm 0,t.1,i)) es.length (gQ e) (fun t=>t.2.foldl gm 0) (fun i t=>0≤t.1∧t.1≤vs.length) (fun i t h0 hn hI=>by
  obtain ⟨a,L⟩:=t
  simp only at hI
  have hpl:=X.p
  have hvl:=X.v
  obtain ⟨b0,b1⟩:=hb i h0 hn
  refine ⟨?_,b0,b1⟩
  have d0:decide (i<(es.length:Int))=true:=decide_eq_true hn
  have d1:decide (0≤i)=true:=decide_eq_true h0
  unfold R10_0 F10_0 G10_0 gQ
  simp only
  rw [he i h0 hn,d0,d1,X.q,X.w,wrap_in (a:=i+1) (by omega) (by omega)]
  have h2:=(gm_up L 0).1
  by_cases hd:e i > a
  ·rw [decide_eq_true hd]
   simp only [cond_true,List.foldl_append,List.foldl_cons,List.foldl_nil,Bool.and_self]
   rfl
  ·rw [decide_eq_false hd,wrap_in (a:=e i - a) (by omega) (by omega),if_neg (by omega:¬ e i - a > L.foldl gm 0)]
   rfl) (fun t _=>by
  unfold R10_0 F10_0 G10_0
  rw [decide_eq_false (Int.lt_irrefl _)]
  rfl) es.length _ 0 (0,[]) (Int.le_refl 0) (by omega) (by omega) ⟨Int.le_refl 0,by simp⟩
theorem run8 (L:List AV) (h:L.length≤1048577):runW (R8_0 (L.length:Int) L) (((L.length:Int) - 0).toNat+1) (0,0)=some (L.foldl gm 0):=by
 have hr:=runW_fold (f:=R8_0 (L.length:Int) L) (fun i (t:Int)=>(t,i)) L.length (fun i t=>gm t (L.getD i.toNat .undef)) (fun t=>t) (fun _ _=>True) (fun i t h0 hn _=>by
  refine ⟨?_,trivial⟩
  have d0:decide (i<(L.length:Int))=true:=decide_eq_true hn
  have d1:decide (0≤i)=true:=decide_eq_true h0
  unfold R8_0 F8_0 G8_0 gm
  simp only
  rw [d0,d1,wrap_in (a:=i+1) (by omega) (by omega)]
  rfl) (fun t _=>by
  unfold R8_0 F8_0 G8_0
  rw [decide_eq_false (Int.lt_irrefl _)]
  rfl) L.length (((L.length:Int) - 0).toNat+1) 0 0 (Int.le_refl 0) (by omega) (by omega) trivial
 rw [hr]
 have:=foldF_foldl gm L L.length 0 0 (by omega)
 rw [Int.ofNat_zero] at this
 rw [this,List.drop_zero]
theorem foldl_app (c:AV→AV):∀ (l t:List AV),l.foldl (fun t x=>t++[c x]) t=t++l.map c
 | [],t=>by simp
 | x :: l,t=>by rw [List.foldl_cons,foldl_app c l,List.map_cons,List.append_assoc];rfl
def aggA (vs:List AV) (x:AV):AV:=AV.agg [AV.int .i64 (v17_0 (sub vs (fI x 0) (fI x 1))),AV.int .i64 (v17_1 (sub vs (fI x 0) (fI x 1))),AV.int .i64 (v17_2 (sub vs (fI x 0) (fI x 1))),AV.int .i64 (v17_3 (sub vs (fI x 0) (fI x 1)))]
theorem run15 {vs ps:List AV} (S:Small vs) (rs:List AV) (L:List AV) {b:Int} (hp:PL vs ps L b) (h:L.length≤1048577) :
  runW (R15_0 (L.length:Int) vs rs ps L) (((L.length:Int) - 0).toNat+1) (0,[])=some (L.map (aggA vs)):=by
 have hr:=runW_fold (f:=R15_0 (L.length:Int) vs rs ps L) (fun i (t:List AV)=>(i,t)) L.length (fun i t=>t++[aggA vs (L.getD i.toNat .undef)]) (fun t=>t) (fun i t=>(t.length:Int)=i) (fun i t h0 hn hI=>by
  refine ⟨?_,by rw [List.length_append];simp only [List.length_cons,List.length_nil];omega⟩
  have d0:decide (i<(L.length:Int))=true:=decide_eq_true hn
  have d1:decide (0≤i)=true:=decide_eq_true h0
  obtain ⟨p0,p1,p2⟩:=hp.le i.toNat (by omega)
  unfold fr at p0 p1
  unfold tO at p1 p2
  obtain ⟨g1,_⟩:=agg_sub S p0 (Int.le_of_lt p1) p2
  have d4:∀ s:AV,decide ((t.length+([s]).length)*32≤140737488355328)=true:=fun s=>decide_eq_true (by simp only [List.length_cons,List.length_nil];omega)
  have d5:∀ s:AV,decide ((t.length+([s]).length)≤140737488355328)=true:=fun s=>decide_eq_true (by simp only [List.length_cons,List.length_nil];omega)
  unfold R15_0 F15_0 G15_0 aggA
  rw [show ∀ a b,(vs.take (Int.toNat b)).drop (Int.toNat a)=sub vs a b from fun _ _=>rfl]
  rw [d0,d1,wrap_in (a:=i+1) (by omega) (by omega),g1,decide_eq_true p0,decide_eq_true (Int.le_of_lt p1),decide_eq_true p2,d4,d5]
  rfl) (fun t _=>by
  unfold R15_0 F15_0 G15_0
  rw [decide_eq_false (Int.lt_irrefl _)]
  rfl) L.length (((L.length:Int) - 0).toNat+1) 0 [] (Int.le_refl 0) (by omega) (by omega) rfl
 rw [hr]
 have:=foldF_foldl (fun t x=>t++[aggA vs x]) L L.length 0 [] (by omega)
 rw [Int.ofNat_zero] at this
 rw [this,List.drop_zero,foldl_app,List.nil_append]
theorem ends_down {f:Int→Out Int (Unit ⊕ Unit)} (n:Int) (h:∀ i,0<i→i≤n→f i = .next (i - 1)∨f i = .stop (.inr ())) (h0:∀ i,i≤0→f i = .stop (.inl ())) (m:Nat) (i:Int) (hi:i≤n) (hm:i.toNat<m):∃ r,runW f m i=some r:=by
 obtain ⟨r,r1,_⟩:=runW_ends (f:=f) (fun i=>i≤n) (fun _=>True) (fun i=>i.toNat) (fun i hI=>by
  by_cases g:0<i
  ·rcases h i g hI with e|e
   ·exact .inl ⟨i - 1,e,by omega,by omega⟩
   ·exact .inr ⟨_,e,trivial⟩
  ·exact .inr ⟨_,h0 i (by omega),trivial⟩) m i hi hm
 exact ⟨r,r1⟩
theorem q48t (vs rs ps:List AV) (l r:Int) (h:vs.length≤1048576) (h':(rs.length:Int)=vs.length) (l0:0≤l) (lr:l<r) (r1:r≤vs.length):q48 vs rs ps l r=true:=by
 have hv:v72_0 vs rs ps l r=(List.range (r - l).toNat).map (fun k:Nat=>ce vs rs (l+(k:Int))):=by
  unfold v72_0;rw [run72 vs rs ps l r h h' l0 lr r1];rfl
 have hq:q72 vs rs ps l r=true:=by
  unfold q72;rw [run72 vs rs ps l r h h' l0 lr r1];rfl
 have hlen:((List.range (r - l).toNat).map (fun k:Nat=>ce vs rs (l+(k:Int)))).length=(r - l).toNat:=by simp
 unfold q48
 rw [hq,hv]
 generalize (List.range (r - l).toNat).map (fun k:Nat=>ce vs rs (l+(k:Int)))=es at *
 unfold q71
 rw [wrap_in (a:=(es.length:Int) - 1) (by omega) (by omega)]
 obtain ⟨z,e⟩:=ends_down (f:=R71_0 es) ((es.length:Int) - 1) (fun i h0 hi=>by
  have w1:IntKind.i64.wrap (i - 1)=i - 1:=wrap_in (by omega) (by omega)
  unfold R71_0 F71_0 G71_0
  rw [w1,decide_eq_true (by omega:i > 0),decide_eq_true (by omega:(0:Int)≤i),decide_eq_true (by omega:i<(es.length:Int)),decide_eq_true (by omega:(0:Int)≤i - 1),decide_eq_true (by omega:i - 1<(es.length:Int)),(cmp_eq _ _ _ _).1]
  cases decide (v73_0 (fI (es.getD i.toNat .undef) 0) (fI (es.getD i.toNat .undef) 1) (fI (es.getD (i - 1).toNat .undef) 0) (fI (es.getD (i - 1).toNat .undef) 1)<0)
  ·exact .inl rfl
  ·exact .inr rfl) (fun i hi=>by
  unfold R71_0 F71_0 G71_0
  rw [decide_eq_false (by omega:¬ i > 0)]
  rfl) (((es.length:Int) - 1 - 0).toNat+1) ((es.length:Int) - 1) (Int.le_refl _) (by omega)
 rw [e]
 cases z <;> rfl
theorem q47t (a b c d:Int) (ha:In64 a) (hb:In64 b) (hc:In64 c) (hd:In64 d):q47 a b c d=true∧(v47_0 a b c d).size≤120:=by
 obtain ⟨a1,a2⟩:=fmtInt' a ha.1 ha.2
 obtain ⟨b1,b2⟩:=fmtInt' b hb.1 hb.2
 obtain ⟨c1,c2⟩:=fmtInt' c hc.1 hc.2
 obtain ⟨d1,d2⟩:=fmtInt' d hd.1 hd.2
 have la:=itoaB_len a ha.1 ha.2
 have lb:=itoaB_len b hb.1 hb.2
 have lc:=itoaB_len c hc.1 hc.2
 have ld:=itoaB_len d hd.1 hd.2
 have o1:(ByteArray.mk #[32,115,117,109,32]).size=5:=rfl
 have o2:(ByteArray.mk #[32,102,114,111,109,32]).size=6:=rfl
 have o3:(ByteArray.mk #[32,116,111,32]).size=4:=rfl
 unfold q47 v47_0
 rw [a1,a2,b1,b2,c1,c2,d1,d2]
 cases decide (a≤0) with
 | true=>exact ⟨rfl,(by decide:(ByteArray.mk #[110,111,110,101]).size≤120)⟩
 | false =>
  simp only [cond_false,Bool.and_eq_true,decide_eq_true_eq,ByteArray.size_append,Bool.true_and]
  omega
theorem AggP.in64 {vs:List AV} (S:Small vs) {a b c s lo hi:Int} (a0:0≤a) (ab:a≤b) (b1:b≤vs.length) (h:AggP vs a b c s lo hi):In64 c∧In64 s∧In64 lo∧In64 hi:=by
 have n64:=S.n
 have pa:=pre_in S a.toNat (by omega)
 have pb:=pre_in S b.toNat (by omega)
 have hc:=h.cnt
 have hs:=h.sum
 unfold In64
 by_cases e:a=b
 ·have:=h.lowZ e
  have:=h.highZ e
  omega
 ·obtain ⟨k,k0,k1,k2⟩:=h.lowA (by omega)
  obtain ⟨m,m0,m1,m2⟩:=h.highA (by omega)
  have:=S.v k (by omega) (by omega)
  have:=S.v m (by omega) (by omega)
  omega
theorem run18 {vs ps:List AV} (S:Small vs) {rs:List AV} (hr':(rs.length:Int)=vs.length) (L:List AV) {b:Int} (hp:PL vs ps L b) (h:L.length≤1048577) :
  ∃ r,runW (R18_0 (L.length:Int) vs rs ps L) (((L.length:Int) - 0).toNat+1) (0,[])=some r∧r.length=L.length:=by
 have n64:=S.n
 refine runW_ends (f:=R18_0 (L.length:Int) vs rs ps L) (fun s:Int × List AV=>0≤s.1∧s.1≤L.length∧(s.2.length:Int)=s.1) (fun r=>r.length=L.length) (fun s=>((L.length:Int) - s.1).toNat) (fun s hI=>?_) _ (0,[]) ⟨Int.le_refl 0,by simp,rfl⟩ (by simp only;omega)
 obtain ⟨i,t⟩:=s
 obtain ⟨h0,hn,hI⟩:=hI
 simp only at h0 hn hI
 by_cases hi:i<L.length
 ·obtain ⟨p0,p1,p2⟩:=hp.le i.toNat (by omega)
  unfold fr at p0 p1
  unfold tO at p1 p2
  obtain ⟨g1,g2⟩:=agg_sub S p0 (Int.le_of_lt p1) p2
  obtain ⟨k0,k1,k2,k3⟩:=g2.in64 S p0 (Int.le_of_lt p1) p2
  obtain ⟨f1,f2⟩:=q47t _ _ _ _ k0 k1 k2 k3
  have sq:=q48t vs rs ps _ _ (by omega) hr' p0 p1 p2
  have d0:decide (i<(L.length:Int))=true:=decide_eq_true hi
  have d1:decide (0≤i)=true:=decide_eq_true h0
  have wi:IntKind.i64.wrap (i+1)=i+1:=wrap_in (by omega) (by omega)
  show (∃ a,F18_0 (L.length:Int) vs rs ps L i t = .next a∧_∧_)∨∃ r,F18_0 (L.length:Int) vs rs ps L i t = .stop r∧_
  unfold F18_0 G18_0
  simp only [show ∀ a b,(vs.take (Int.toNat b)).drop (Int.toNat a)=sub vs a b from fun _ _=>rfl]
  have q2:=decide_eq_true p0
  have q3:=decide_eq_true (Int.le_of_lt p1)
  have q4:=decide_eq_true p2
  generalize fI (L.getD i.toNat .undef) 0=x at *
  generalize fI (L.getD i.toNat .undef) 1=y at *
  obtain ⟨a1,a2⟩:=fmtInt' x (by omega) (by omega)
  obtain ⟨b1,b2⟩:=fmtInt' y (by omega) (by omega)
  have la:=itoaB_len x (by omega) (by omega)
  have lb:=itoaB_len y (by omega) (by omega)
  generalize v47_0 (v17_0 (sub vs x y)) (v17_1 (sub vs x y)) (v17_2 (sub vs x y)) (v17_3 (sub vs x y))=w at *
  rw [a2,b2]
  generalize itoaB x=A at *
  generalize itoaB y=B at *
  have o1:(ByteArray.mk #[46,46]).size=2:=rfl
  have o2:(ByteArray.mk #[32]).size=1:=rfl
  have o3:(ByteArray.mk #[32,115,111,114,116,101,100]).size=7:=rfl
  have c1:decide (A.size+(ByteArray.mk #[46,46]).size≤4611686018427387904)=true:=decide_eq_true (by omega)
  have c2:decide ((A++ByteArray.mk #[46,46]).size+B.size≤4611686018427387904)=true:=decide_eq_true (by simp only [ByteArray.size_append];omega)
  have c3:decide (((A++ByteArray.mk #[46,46])++B).size+(ByteArray.mk #[32]).size≤4611686018427387904)=true:=decide_eq_true (by simp only [ByteArray.size_append];omega)
  have c4:decide ((((A++ByteArray.mk #[46,46])++B)++ByteArray.mk #[32]).size+w.size≤4611686018427387904)=true:=decide_eq_true (by simp only [ByteArray.size_append];omega)
  have c5:decide (((((A++ByteArray.mk #[46,46])++B)++ByteArray.mk #[32])++w).size+(ByteArray.mk #[32,115,111,114,116,101,100]).size≤4611686018427387904)=true:=decide_eq_true (by simp only [ByteArray.size_append];omega)
  have c6:∀ s:AV,decide ((t.length+([s]).length)*16≤140737488355328)=true:=fun s=>decide_eq_true (by simp only [List.length_cons,List.length_nil];omega)
  have c7:∀ s:AV,decide ((t.length+([s]).length)≤140737488355328)=true:=fun s=>decide_eq_true (by simp only [List.length_cons,List.length_nil];omega)
  simp only [d0,d1,wi,a1,b1,g1,f1,sq,q2,q3,q4,c1,c2,c3,c4,c5,c6,c7,Bool.and_self,cond_true]
  cases v48_0 vs rs ps x y
  ·exact .inl ⟨_,rfl,⟨by simp only;omega,by simp only;omega,by simp only [List.length_append,List.length_singleton];omega⟩,by simp only;omega⟩
  ·exact .inl ⟨_,rfl,⟨by simp only;omega,by simp only;omega,by simp only [List.length_append,List.length_singleton];omega⟩,by simp only;omega⟩
 ·refine .inr ⟨t,?_,by omega⟩
  show F18_0 (L.length:Int) vs rs ps L i t=_
  unfold F18_0 G18_0
  simp only [decide_eq_false hi,cond_false]
def cut (L:List AV) (i:Nat):Int:=if i=0 then 0 else tO L (i - 1)
theorem PL.cut0 {vs ps L:List AV} {b:Int} (h:PL vs ps L b) (i:Nat) (hi:i<L.length):fr L i=cut L i:=by
 unfold cut
 by_cases e:i=0
 ·subst e
  rw [if_pos rfl]
  exact (h.ends hi).1
 ·rw [if_neg e]
  have:=(h.nxt (i - 1) (by omega)).1
  rw [show i - 1+1=i by omega] at this
  exact this
theorem cut1 (L:List AV) (i:Nat):cut L (i+1)=tO L i:=by unfold cut;rw [if_neg (by omega),Nat.add_sub_cancel]
theorem PL.cutN {vs ps L:List AV} {b:Int} (h:PL vs ps L b):cut L L.length=b:=by
 unfold cut
 by_cases e:L.length=0
 ·rw [if_pos e]
  exact (h.none e).symm
 ·rw [if_neg e]
  exact (h.ends (by omega)).2
theorem getD_map (c:AV→AV) (xs:List AV) (i:Nat) (h:i<xs.length):(xs.map c).getD i .undef=c (xs.getD i .undef):=by
 rw [List.getD_eq_getElem?_getD,List.getD_eq_getElem?_getD,List.getElem?_map,List.getElem?_eq_getElem h]
 rfl
theorem aggAt (vs L:List AV) (i:Nat) (h:i<L.length):fI ((L.map (aggA vs)).getD i .undef) 0=v17_0 (sub vs (fr L i) (tO L i))∧fI ((L.map (aggA vs)).getD i .undef) 1=v17_1 (sub vs (fr L i) (tO L i))∧fI ((L.map (aggA vs)).getD i .undef) 2=v17_2 (sub vs (fr L i) (tO L i))∧fI ((L.map (aggA vs)).getD i .undef) 3=v17_3 (sub vs (fr L i) (tO L i)):=by
 rw [getD_map (aggA vs) L i h]
 exact ⟨rfl,rfl,rfl,rfl⟩
theorem AggP.zero (vs:List AV):AggP vs 0 0 0 0 0 0:=⟨rfl,rfl,fun k k0 k1=>by omega,fun k k0 k1=>by omega,fun h=>by omega,fun h=>by omega,fun _=>rfl,fun _=>rfl⟩
theorem run3 {vs rs ps:List AV} (C:Col vs rs ps) (S:Small vs) (L:List AV) {b:Int} (hp:PL vs ps L b) (h:L.length≤1048577) (n most:Int) (hm:∀ j,j<L.length→tO L j - fr L j≤most) :
  ∃ r:Int × Int × Int × Int × Int,runW (R3_0 n most vs rs ps (L.map (aggA vs))) ((((L.map (aggA vs)).length:Int) - 0).toNat+1) (0,0,0,0,0,0)=some (.inl r)∧r.1=b∧AggP vs 0 b r.2.1 r.2.2.1 r.2.2.2.1 r.2.2.2.2:=by
 have n64:=S.n
 have hl:(L.map (aggA vs)).length=L.length:=List.length_map _
 obtain ⟨r,r1,t,rfl,r2,r3⟩:=runW_ends (f:=R3_0 n most vs rs ps (L.map (aggA vs))) (fun s:Int × Int × Int × Int × Int × Int=>0≤s.2.1∧s.2.1≤L.length∧s.1=cut L s.2.1.toNat∧AggP vs 0 (cut L s.2.1.toNat) s.2.2.1 s.2.2.2.1 s.2.2.2.2.1 s.2.2.2.2.2) (fun r=>∃ t:Int × Int × Int × Int × Int,r = .inl t∧t.1=b∧AggP vs 0 b t.2.1 t.2.2.1 t.2.2.2.1 t.2.2.2.2) (fun s=>((L.length:Int) - s.2.1).toNat) (fun s hI=>by
  obtain ⟨t,i,c,s,lo,hi⟩:=s
  obtain ⟨h0,h1,h2,h3⟩:=hI
  simp only at h0 h1 h2 h3
  show (∃ a,F3_0 n most vs rs ps (L.map (aggA vs)) t i c s lo hi = .next a∧_∧_)∨∃ r,F3_0 n most vs rs ps (L.map (aggA vs)) t i c s lo hi = .stop r∧_
  unfold F3_0 G3_0
  by_cases hlt:i<L.length
  ·have hlt':i.toNat<L.length:=by omega
   obtain ⟨p0,p1,p2⟩:=hp.le i.toNat hlt'
   obtain ⟨_,g2⟩:=agg_sub S p0 (Int.le_of_lt p1) p2
   obtain ⟨e0,e1,e2,e3⟩:=aggAt vs L i.toNat hlt'
   have hc:=hp.cut0 i.toNat hlt'
   have hmo:=hm i.toNat hlt'
   have d0:decide (i<((L.map (aggA vs)).length:Int))=true:=decide_eq_true (by omega)
   have d1:decide (0≤i)=true:=decide_eq_true h0
   have wi:IntKind.i64.wrap (i+1)=i+1:=wrap_in (by omega) (by omega)
   have d2:decide (v17_0 (sub vs (fr L i.toNat) (tO L i.toNat)) > most)=false:=decide_eq_false (by have:=g2.cnt;omega)
   have wt:IntKind.i64.wrap (t+v17_0 (sub vs (fr L i.toNat) (tO L i.toNat)))=cut L (i+1).toNat:=by
    rw [show (i+1).toNat=i.toNat+1 by omega,cut1]
    have:=g2.cnt
    rw [wrap_in (by omega) (by omega)]
    omega
   have J:=AggP.join S (Int.le_refl 0) (by omega:0≤fr L i.toNat) (Int.le_of_lt p1) p2 (by rw [hc];exact h3) g2
   have hcut:cut L (i+1).toNat=tO L i.toNat:=by rw [show (i+1).toNat=i.toNat+1 by omega,cut1]
   simp only [d0,d1,wi,e0,e1,e2,e3,d2,wt,Bool.and_self,cond_true,cond_false]
   by_cases hg:i > 0
   ·have w1:IntKind.i64.wrap (i - 1)=i - 1:=wrap_in (by omega) (by omega)
    have hj:(i - 1).toNat+1=i.toNat:=by omega
    obtain ⟨q1,k,k0,k1,k2⟩:=hp.nxt (i - 1).toNat (by omega)
    rw [hj] at q1
    obtain ⟨u0,u1,u2⟩:=hp.le (i - 1).toNat (by omega)
    obtain ⟨_,g4⟩:=agg_sub S u0 (Int.le_of_lt u1) u2
    obtain ⟨_,_,_,e7⟩:=aggAt vs L (i - 1).toNat (by omega)
    obtain ⟨x,x0,x1,x2⟩:=g2.lowA p1
    obtain ⟨y,y0,y1,y2⟩:=g4.highA u1
    have px:=C.part k k0 k1 x (by omega) (by omega)
    have py:=C.part k k0 k1 y (by omega) (by omega)
    have d3:decide (v17_2 (sub vs (fr L i.toNat) (tO L i.toNat))≤v17_3 (sub vs (fr L (i - 1).toNat) (tO L (i - 1).toNat)))=false:=decide_eq_false (by omega)
    have d4:decide (0≤i - 1)=true:=decide_eq_true (by omega)
    have d5:decide (i - 1<((L.map (aggA vs)).length:Int))=true:=decide_eq_true (by omega)
    simp only [decide_eq_true hg,w1,e7,d3,d4,d5,Bool.and_self,cond_true,cond_false]
    exact .inl ⟨_,rfl,⟨by simp only;omega,by simp only;omega,rfl,(by simp only;rw [hcut];exact J)⟩,by simp only;omega⟩
   ·simp only [decide_eq_false hg,cond_false]
    exact .inl ⟨_,rfl,⟨by simp only;omega,by simp only;omega,rfl,(by simp only;rw [hcut];exact J)⟩,by simp only;omega⟩
  ·have e:i.toNat=L.length:=by omega
   rw [e,hp.cutN] at h2 h3
   have d0:decide (i<((L.map (aggA vs)).length:Int))=false:=decide_eq_false (by omega)
   simp only [d0,cond_false]
   exact .inr ⟨_,rfl,(t,c,s,lo,hi),rfl,h2,h3⟩) ((((L.map (aggA vs)).length:Int) - 0).toNat+1) (0,0,0,0,0,0) ⟨Int.le_refl 0,by simp,rfl,AggP.zero vs⟩ (by simp only;omega)
 exact ⟨t,r1,r2,r3⟩
end Go.Proofs.YteppndjaglhehaaDoor

namespace Go.Proofs.YteppndjaglhehaaDoor
open Go Go.Proofs.VE
set_option linter.unusedVariables false
set_option linter.unusedSimpArgs false
theorem runW_two {S T A B:Type} {f:S→Out S A} {g:T→Out T B} (I:S→T→Prop) (J:A→B→Prop) (μ:S→Nat)
  (h:∀ s t,I s t→(∃ s' t',f s = .next s'∧g t = .next t'∧I s' t'∧μ s'<μ s)∨∃ a b,f s = .stop a∧g t = .stop b∧J a b) :
  ∀ (n:Nat) (s:S) (t:T) (m:Nat),I s t→μ s<n→μ s<m→∃ a b,runW f n s=some a∧runW g m t=some b∧J a b
 | 0,s,t,m,_,h1,_=>by omega
 | n+1,s,t,m,hI,h1,h2=>by
  obtain ⟨m,rfl⟩:∃ k,m=k+1:=⟨m - 1,by omega⟩
  rcases h s t hI with ⟨s',t',e1,e2,hI',hm⟩|⟨a,b,e1,e2,hJ⟩
  ·obtain ⟨a,b,r1,r2,r3⟩:=runW_two I J μ h n s' t' m hI' (by omega) (by omega)
   refine ⟨a,b,?_,?_,r3⟩
   ·unfold runW
    rw [e1]
    exact r1
   ·unfold runW
    rw [e2]
    exact r2
  ·refine ⟨a,b,?_,?_,hJ⟩
   ·unfold runW
    rw [e1]
    rfl
   ·unfold runW
    rw [e2]
    rfl
def Cat (L:List AV) (s:ByteArray):Prop:=(s.size:Nat)≤24*L.length∧((L=[]∧s=ByteArray.empty)∨(L ≠ []∧s=ByteArray.mk #[32]++joinB L (ByteArray.mk #[32])))
theorem Cat.snoc {L:List AV} {s:ByteArray} (h:Cat L s) (w:ByteArray) (hw:w.size≤23):Cat (L++[AV.str w]) ((s++ByteArray.mk #[32])++w):=by
 have o1:(ByteArray.mk #[32]).size=1:=rfl
 refine ⟨by simp only [ByteArray.size_append,List.length_append,List.length_singleton];have:=h.1;omega,.inr ⟨by simp,?_⟩⟩
 rw [joinB_snoc]
 rcases h.2 with ⟨rfl,rfl⟩|⟨hn,rfl⟩
 ·show (ByteArray.empty++ByteArray.mk #[32])++w=_
  rw [ByteArray.empty_append]
  rfl
 ·rw [decide_eq_false (by intro g;exact hn (List.eq_nil_of_length_eq_zero g))]
  simp only [cond_false]
  rw [ByteArray.append_assoc,ByteArray.append_assoc,ByteArray.append_assoc]
theorem piv_size (n:Int) (h0 : -1000≤n) (h1:n≤1000):(((ByteArray.mk #[91])++itoaB n)++(ByteArray.mk #[93])).size≤23:=by
 have:=itoaB_len n (by omega) (by omega)
 have o1:(ByteArray.mk #[91]).size=1:=rfl
 have o2:(ByteArray.mk #[93]).size=1:=rfl
 simp only [ByteArray.size_append]
 omega
theorem cat_piv (s x:ByteArray):((s++ByteArray.mk #[32,91])++x)++ByteArray.mk #[93]=(s++ByteArray.mk #[32])++((ByteArray.mk #[91]++x)++ByteArray.mk #[93]):=by
 have e:(ByteArray.mk #[32,91])=ByteArray.mk #[32]++ByteArray.mk #[91]:=rfl
 rw [e]
 simp only [ByteArray.append_assoc]
theorem pivs {vs rs ps:List AV} (C:Col vs rs ps) (hps:ps.length≤2001) (i n13:Int) (j:Int) (L:List AV) (s:ByteArray) (j0:0≤j) (j1:j≤ps.length) (hL:(L.length:Int)≤j+65) (hc:Cat L s) :
  ∃ a b,runW (R13_2 i n13 i vs rs ps) (((ps.length:Int) - j).toNat+1) (j,L)=some a∧runW (R14_2 i vs rs ps) (((ps.length:Int) - j).toNat+1) (s,j)=some b∧b.2=a.1∧j≤a.1∧a.1≤ps.length∧(a.2.length:Int)=L.length+(a.1 - j)∧Cat a.2 b.1 :=
 runW_two (f:=R13_2 i n13 i vs rs ps) (g:=R14_2 i vs rs ps) (fun p q=>q.2=p.1∧j≤p.1∧p.1≤ps.length∧(p.2.length:Int)=L.length+(p.1 - j)∧Cat p.2 q.1) (fun a b=>b.2=a.1∧j≤a.1∧a.1≤ps.length∧(a.2.length:Int)=L.length+(a.1 - j)∧Cat a.2 b.1) (fun p=>((ps.length:Int) - p.1).toNat) (fun p q hI=>by
  obtain ⟨k,M⟩:=p
  obtain ⟨u,k'⟩:=q
  obtain ⟨e,k0,k1,k2,k3⟩:=hI
  simp only at e k0 k1 k2 k3
  subst e
  show (∃ s' t',F13_2 i n13 i vs rs ps k' M = .next s'∧F14_2 i vs rs ps u k' = .next t'∧_∧_)∨∃ a b,F13_2 i n13 i vs rs ps k' M = .stop a∧F14_2 i vs rs ps u k' = .stop b∧_
  unfold F13_2 G13_2 F14_2 G14_2
  by_cases hlt:k'<ps.length
  ·have d0:decide (k'<(ps.length:Int))=true:=decide_eq_true hlt
   have d1:decide (0≤k')=true:=decide_eq_true (by omega)
   have wi:IntKind.i64.wrap (k'+1)=k'+1:=wrap_in (by omega) (by omega)
   have pv:=C.pv k' (by omega) hlt
   unfold el at pv
   by_cases he:fI (ps.getD k'.toNat .undef) 1=i
   ·obtain ⟨a1,a2⟩:=fmtInt (fI (ps.getD k'.toNat .undef) 0) (by omega) (by omega)
    obtain ⟨b1,b2⟩:=fmtInt' (fI (ps.getD k'.toNat .undef) 0) (by omega) (by omega)
    have hz:=piv_size _ pv.1 pv.2
    have hs:=k3.1
    have li:=itoaB_len (fI (ps.getD k'.toNat .undef) 0) (by omega) (by omega)
    have hn:=k3.snoc _ hz
    rw [← cat_piv] at hn
    rw [a2,b2]
    generalize itoaB (fI (ps.getD k'.toNat .undef) 0)=w at *
    have o1:(ByteArray.mk #[91]).size=1:=rfl
    have o2:(ByteArray.mk #[93]).size=1:=rfl
    have o3:(ByteArray.mk #[32,91]).size=2:=rfl
    have c1:decide ((ByteArray.mk #[91]).size+w.size≤4611686018427387904)=true:=decide_eq_true (by omega)
    have c2:decide (((ByteArray.mk #[91])++w).size+(ByteArray.mk #[93]).size≤4611686018427387904)=true:=decide_eq_true (by simp only [ByteArray.size_append];omega)
    have c3:decide (u.size+(ByteArray.mk #[32,91]).size≤4611686018427387904)=true:=decide_eq_true (by omega)
    have c4:decide ((u++(ByteArray.mk #[32,91])).size+w.size≤4611686018427387904)=true:=decide_eq_true (by simp only [ByteArray.size_append];omega)
    have c5:decide (((u++(ByteArray.mk #[32,91]))++w).size+(ByteArray.mk #[93]).size≤4611686018427387904)=true:=decide_eq_true (by simp only [ByteArray.size_append];omega)
    have c6:∀ s:AV,decide ((M.length+([s]).length)*16≤140737488355328)=true:=fun s=>decide_eq_true (by simp only [List.length_cons,List.length_nil];omega)
    have c7:∀ s:AV,decide ((M.length+([s]).length)≤140737488355328)=true:=fun s=>decide_eq_true (by simp only [List.length_cons,List.length_nil];omega)
    simp only [d0,d1,wi,decide_eq_true he,a1,b1,c1,c2,c3,c4,c5,c6,c7,Bool.and_self,cond_true]
    exact .inl ⟨_,_,rfl,rfl,⟨rfl,by simp only;omega,by simp only;omega,by simp only [List.length_append,List.length_singleton];omega,hn⟩,by simp only;omega⟩
   ·simp only [d0,d1,decide_eq_false he,Bool.and_self,cond_true,cond_false]
    exact .inr ⟨_,_,rfl,rfl,rfl,k0,k1,k2,k3⟩
  ·simp only [decide_eq_false hlt,cond_false]
   exact .inr ⟨_,_,rfl,rfl,rfl,k0,k1,k2,k3⟩) _ (j,L) (s,j) _ ⟨rfl,Int.le_refl _,j1,by simp only;omega,hc⟩ (by simp only;omega) (by simp only;omega)
theorem fmtC {vs rs ps:List AV} (C:Col vs rs ps) (hps:ps.length≤2001) (hrs:rs.length≤1048576) (hv:isC vs rs ps=true):q13 vs rs ps=true∧q14 vs rs ps=true∧v13_0 vs rs ps=v14_0 vs rs ps:=by
 have n64:=C.n64
 obtain ⟨s1,s2⟩:=P11 vs rs ps (by omega) hrs (by omega)
 obtain ⟨s3,s4⟩:=P12 vs rs ps (by omega) hrs (by omega)
 have w1:IntKind.i64.wrap ((vs.length:Int)+1)=(vs.length:Int)+1:=wrap_in (by omega) (by omega)
 obtain ⟨a,b,r1,r2,r3,r4⟩:=runW_two (f:=R13_0 ((vs.length:Int)+1) vs rs ps) (g:=R14_0 vs rs ps) (fun p q=>q.2.1=p.1∧q.2.2=p.2.1∧0≤p.1∧p.1≤ps.length∧0≤p.2.1∧p.2.1≤(vs.length:Int)+1∧(p.2.2.length:Int)≤p.1+p.2.1∧Cat p.2.2 q.1) (fun a b=>a.length≤3000∧Cat a b) (fun p=>((vs.length:Int)+1 - p.2.1).toNat) (fun p q hI=>by
  obtain ⟨j,i,M⟩:=p
  obtain ⟨u,j',i'⟩:=q
  obtain ⟨e1,e2,j0,j1,i0,i1,hM,hc⟩:=hI
  simp only at e1 e2 j0 j1 i0 i1 hM hc
  subst e1
  subst e2
  show (∃ s' t',F13_0 ((vs.length:Int)+1) vs rs ps j' i' M = .next s'∧F14_0 vs rs ps u j' i' = .next t'∧_∧_)∨∃ a b,F13_0 ((vs.length:Int)+1) vs rs ps j' i' M = .stop a∧F14_0 vs rs ps u j' i' = .stop b∧_
  unfold F13_0 G13_0 F14_0 G14_0
  by_cases hlt:i'<(vs.length:Int)+1
  ·obtain ⟨a,b,x1,x2,x3,x4,x5,x6,x7⟩:=pivs C hps i' ((vs.length:Int)+1) j' M u j0 j1 (by omega) hc
   have d0:decide (i'<(vs.length:Int)+1)=true:=decide_eq_true hlt
   have d1:decide (i'≤(vs.length:Int))=true:=decide_eq_true (by omega)
   have wi:IntKind.i64.wrap (i'+1)=i'+1:=wrap_in (by omega) (by omega)
   obtain ⟨k,N⟩:=a
   obtain ⟨v,k'⟩:=b
   simp only at x3 x4 x5 x6 x7
   subst x3
   by_cases hv:i'<vs.length
   ·have va:=C.vals i' i0 hv
    unfold el at va
    obtain ⟨a1,a2⟩:=fmtInt (fI (vs.getD i'.toNat .undef) 0) (by omega) (by omega)
    obtain ⟨b1,b2⟩:=fmtInt' (fI (vs.getD i'.toNat .undef) 0) (by omega) (by omega)
    have li:=itoaB_len (fI (vs.getD i'.toNat .undef) 0) (by omega) (by omega)
    have hs:=x7.1
    have hn:=x7.snoc (itoaB (fI (vs.getD i'.toNat .undef) 0)) (by omega)
    generalize hw:itoaB (fI (vs.getD i'.toNat .undef) 0)=w at *
    have o1:(ByteArray.mk #[32]).size=1:=rfl
    have d2:decide (i'<(vs.length:Int))=true:=decide_eq_true hv
    have d3:decide (0≤i')=true:=decide_eq_true i0
    have c1:decide (v.size+(ByteArray.mk #[32]).size≤4611686018427387904)=true:=decide_eq_true (by omega)
    have c2:decide ((v++(ByteArray.mk #[32])).size+w.size≤4611686018427387904)=true:=decide_eq_true (by simp only [ByteArray.size_append];omega)
    have c6:∀ s:AV,decide ((N.length+([s]).length)*16≤140737488355328)=true:=fun s=>decide_eq_true (by simp only [List.length_cons,List.length_nil];omega)
    have c7:∀ s:AV,decide ((N.length+([s]).length)≤140737488355328)=true:=fun s=>decide_eq_true (by simp only [List.length_cons,List.length_nil];omega)
    simp only [d0,d1,x1,x2,ro,d2,d3,wi,a1,a2,b1,b2,c1,c2,c6,c7,Bool.and_self,cond_true]
    exact .inl ⟨_,_,rfl,rfl,⟨rfl,rfl,by simp only;omega,by simp only;omega,by simp only;omega,by simp only;omega,by simp only [List.length_append,List.length_singleton];omega,hn⟩,by simp only;omega⟩
   ·simp only [d0,d1,x1,x2,ro,decide_eq_false hv,wi,cond_true,cond_false]
    exact .inl ⟨_,_,rfl,rfl,⟨rfl,rfl,by simp only;omega,by simp only;omega,by simp only;omega,by simp only;omega,by simp only;omega,x7⟩,by simp only;omega⟩
  ·have d0:decide (i'<(vs.length:Int)+1)=false:=decide_eq_false hlt
   have d1:decide (i'≤(vs.length:Int))=false:=decide_eq_false (by omega)
   simp only [d0,d1,cond_false]
   exact .inr ⟨_,_,rfl,rfl,by omega,hc⟩) (((vs.length:Int)+1 - 0).toNat+1) (0,0,[]) (ByteArray.empty,0,0) (((vs.length:Int) - 0+1).toNat+1) ⟨rfl,rfl,Int.le_refl 0,by simp only;omega,Int.le_refl 0,by simp only;omega,by simp,by decide,.inl ⟨rfl,rfl⟩⟩ (by simp only;omega) (by simp only;omega)
 unfold q13 q14 v13_0 v14_0
 rw [s1,s2,s3,s4,hv,w1,r1,r2]
 rcases r4.2 with ⟨rfl,rfl⟩|⟨hn,hb⟩
 ·refine ⟨rfl,?_,?_⟩
  ·show (true && (bif !true then true else (bif (ByteArray.empty.toList == ByteArray.empty.toList) then true else _)))=true
   rw [beq_self_eq_true]
   rfl
  ·show _=(bif (ByteArray.empty.toList == ByteArray.empty.toList) then _ else _)
   rw [beq_self_eq_true]
   rfl
 ·have hl:(1:Int)≤b.size:=by
   rw [hb,ByteArray.size_append]
   have:(ByteArray.mk #[32]).size=1:=rfl
   omega
  have hz:=r4.1
  have hn':decide ((a.length:Int)=0)=false:=decide_eq_false (by intro g;exact hn (List.eq_nil_of_length_eq_zero (by omega)))
  have hj:(joinB a (ByteArray.mk #[32])).size+1=b.size:=by
   rw [hb,ByteArray.size_append]
   have:(ByteArray.mk #[32]).size=1:=rfl
   omega
  have q42t:q42 a (ByteArray.mk #[32])=true:=by
   unfold q42
   rw [decide_eq_true (by omega:a.length≤140737488355328),decide_eq_true (by omega)]
   rfl
  have hx:b.extract (Int.toNat 1) (Int.toNat (b.size:Int))=joinB a (ByteArray.mk #[32]):=by
   apply ByteArray.ext
   apply Array.toList_inj.1
   rw [Lib.extract_data,hb,ByteArray.data_append,Array.toList_append]
   have:(joinB a (ByteArray.mk #[32])).data.toList.length=(joinB a (ByteArray.mk #[32])).size:=by rw [Array.length_toList];rfl
   have e1:(ByteArray.mk #[32]).data.toList=[32]:=rfl
   rw [e1,← hb,Int.toNat_natCast,show (1:Int).toNat=1 from rfl,← hj]
   simp only [List.singleton_append,List.drop_succ_cons,List.drop_zero,Nat.add_sub_cancel]
   rw [← this,List.take_length]
  simp only [ro,hn',q42t,beq_empty b (by omega),hx,cond_true,cond_false,Bool.not_true,Bool.true_and,decide_eq_true hl,decide_eq_true (Int.le_refl (b.size:Int))]
  exact ⟨trivial,rfl,rfl⟩
end Go.Proofs.YteppndjaglhehaaDoor

namespace Go.Proofs.YteppndjaglhehaaDoor
open Go Go.Proofs.VE
set_option linter.unusedVariables false
set_option linter.unusedSimpArgs false
theorem draw6 (code:List AV) (h:code.length≤1048576):∃ V R P,W6 code=some (V,R,P)∧V.length≤1048576∧R.length≤1048576∧P.length≤1048576:=by
 obtain ⟨p,hp⟩:=start_of (f:=R6i30_0 code) code (fun g k k0 k1=>by
  have d1:decide (k<(code.length:Int))=true:=decide_eq_true k1
  have d2:decide (0≤k)=true:=decide_eq_true k0
  have wk_:IntKind.i64.wrap (k+1)=k+1:=wrap_in (by omega) (by omega)
  show (∃ g',F6i30_0 code g k=_)∨F6i30_0 code g k=_
  unfold F6i30_0 G6i30_0
  rw [d1,d2,wk_]
  cases decide (k<4000)
  ·exact .inr rfl
  ·exact .inl ⟨_,rfl⟩) (fun g k k1=>by
  have d1:decide (k<(code.length:Int))=false:=decide_eq_false k1
  show F6i30_0 code g k=_
  unfold F6i30_0 G6i30_0
  rw [d1]
  rfl) (IntKind.i64.wrap (10101+(code.length:Int)))
 have c0:Cur code 0:=⟨by omega,by omega,h⟩
 obtain ⟨V,R,P,i',h',hW,l0,l1,l2,_,_⟩:=anyCrk c0 p
 obtain ⟨a0,a1,a2,a3,_⟩:=g29 hW
 unfold W6 T6
 simp only [hp,ro,a0,a1,a2,a3,cond_true]
 exact ⟨_,_,_,rfl,l0,l1,l2⟩
theorem raw3_true (code:List AV):raw3 code=some (.bool true):=by
 unfold raw3
 by_cases hb:code.length≤1048576
 case neg =>
  have:v5_0 code=true:=by unfold v5_0;exact decide_eq_true (by omega)
  rw [this]
  rfl
 have hb':v5_0 code=false:=by unfold v5_0;exact decide_eq_false (by omega)
 obtain ⟨vs,rs,ps,hW,l0,l1,l2⟩:=draw6 code hb
 obtain ⟨a0,a1,a2,a3⟩:=g6 hW
 obtain ⟨s1,s2⟩:=P11 vs rs ps l0 l1 l2
 obtain ⟨s3,s4⟩:=P12 vs rs ps l0 l1 l2
 obtain ⟨e1,e2,e3⟩:=ends68 vs rs ps l2
 simp only [hb',a0,a1,a2,a3]
 cases hc:isC vs rs ps with
 | false =>
  have hr9:runW (R9_0 vs rs ps (v32_0 vs rs ps)) ((((v32_0 vs rs ps).length:Int) - 0).toNat+1) (0,0,0)=some 0:=by
   unfold runW R9_0 F9_0 G9_0
   rw [s3,s4,hc,decide_eq_true (by omega:(0:Int)<((v32_0 vs rs ps).length:Int))]
   rfl
  have hr10:runW (R10_0 vs rs ps (v32_0 vs rs ps)) ((((v32_0 vs rs ps).length:Int) - 0).toNat+1) (0,0,0)=some 0:=by
   unfold runW R10_0 F10_0 G10_0
   rw [s3,s4,hc,decide_eq_true (by omega:(0:Int)<((v32_0 vs rs ps).length:Int))]
   rfl
  unfold q7 q8 q9 q10 v7_0 v8_0 v9_0 v10_0 q13 q14 v13_0 v14_0
  rw [s1,s2,s3,s4,hc,e1,hr9,hr10]
  simp only [ro,Bool.not_false,cond_true,cond_false,Bool.and_self,decide_true,Bool.not_true,beq_self_eq_true]
 | true =>
  have C:=(isC_iff vs rs ps l0).1 hc
  have n64:=C.n64
  have S:Small vs:=⟨C.n64,C.vals⟩
  have hps:ps.length≤2001:=by
   unfold isC at hc
   simp only [Bool.and_eq_true] at hc
   exact few vs ps hc.2.2.2.2
  have X:Cx vs rs ps:=⟨l0,l2,C.len,hc,fun y hy=>by
   obtain ⟨j,hj,rfl⟩:=List.getElem_of_mem hy
   have:=C.vals j (by omega) (by omega)
   unfold el at this
   rw [Int.toNat_natCast,List.getD_eq_getElem?_getD,List.getElem?_eq_getElem hj] at this
   simp only [Option.getD_some] at this
   unfold In64
   omega,s3,s4.trans hc⟩
  have hl:(endsP vs ps).length=ps.length+1:=by unfold endsP;simp
  have he:∀ k:Int,0≤k→k<(v32_0 vs rs ps).length→fI ((v32_0 vs rs ps).getD k.toNat .undef) 0=eP vs ps k:=fun k h0 h1=>e3 k h0 (by omega)
  have r9:=run9 X (v32_0 vs rs ps) (eP vs ps) e2 he
  have r10:=run10 X (v32_0 vs rs ps) (eP vs ps) e2 he (fun k h0 h1=>eP_in hc k h0 (by omega))
  have inv:=gQ_inv (eP vs ps) vs.length (endsP vs ps).length 0 0 [] (fun k a b=>eP_in hc k a (by omega)) (Int.le_refl 0) (fun p hp=>by cases hp)
  have hpl:=foldPL C (ps.length+1) 0 0 [] (Int.le_refl 0) (by omega) ⟨fun j hj=>by simp at hj,fun j hj=>by simp at hj,fun hj=>by simp at hj,fun _=>rfl⟩ (Int.le_refl 0) (.inl (eP_in hc 0 (Int.le_refl 0) (by omega)).1) (fun g=>by omega) (fun _=>rfl)
  have hfst:=gQ_fst (eP vs ps) ps.length 0 0 []
  have r31:=run31 X
  have v31:v31_0 vs rs ps=(foldF (gQ (eP vs ps)) (ps.length+1) 0 (0,[])).2:=by
   show ro (runW (R31_0 ((endsP vs ps).length:Int) (endsP vs ps)) ((((endsP vs ps).length:Int) - 0).toNat+1) (0,0,([]:List AV))) [] (fun p=>p)=_
   rw [r31,hl]
   rfl
  have q31':q31 vs rs ps=true:=by
   show ((decide (ps.length*16≤140737488355328) && decide (ps.length≤140737488355328)) && ((decide ((ps.length+1)*16≤140737488355328) && decide ((ps.length+1)≤140737488355328)) && (ro (runW (R31_0 ((endsP vs ps).length:Int) (endsP vs ps)) ((((endsP vs ps).length:Int) - 0).toNat+1) (0,0,([]:List AV))) false (fun p=>true))))=true
   rw [r31,decide_eq_true (by omega),decide_eq_true (by omega),decide_eq_true (by omega),decide_eq_true (by omega)]
   rfl
  rw [Int.zero_add,eP_last] at hfst
  rw [hl] at inv
  rw [e2] at r9 r10
  rw [hfst] at hpl
  generalize (foldF (gQ (eP vs ps)) (ps.length+1) 0 (0,[])).2=L at *
  have hLn:L.length≤ps.length+1:=by have:=inv.2;simp only [List.length_nil] at this;omega
  have r8:=run8 L (by omega)
  have r15:=run15 S rs L hpl (by omega)
  obtain ⟨z,r18,hz⟩:=run18 S C.len L hpl (by omega)
  obtain ⟨t,r3,t0,tA⟩:=run3 C S L hpl (by omega) (L.length:Int) (L.foldl gm 0) (fun j hj=>by
   obtain ⟨p0,p1,p2⟩:=hpl.le j hj
   have hm:L.getD j .undef ∈ L:=by
    rw [List.getD_eq_getElem?_getD,List.getElem?_eq_getElem hj]
    exact List.getElem_mem hj
   have:=(gm_up L 0).2 _ hm
   rw [show fI (L.getD j .undef) 1 - fI (L.getD j .undef) 0=tO L j - fr L j from rfl,wrap_in (by omega) (by omega)] at this
   exact this)
  obtain ⟨f1,f2,f3⟩:=fmtC C hps l1 hc
  obtain ⟨g1,g2⟩:=agg_sub S (Int.le_refl 0) (by omega:(0:Int)≤vs.length) (Int.le_refl _)
  have hsub:sub vs 0 vs.length=vs:=by
   unfold sub
   rw [Int.toNat_natCast,List.take_length]
   rfl
  rw [hsub] at g1 g2
  obtain ⟨u1,u2,u3,u4⟩:=tA.uniq (by omega) g2
  have Q7:q7 vs rs ps=true:=by unfold q7;rw [s1,s2,hc,q31'];rfl
  have V7:v7_0 vs rs ps=L.length:=by unfold v7_0;rw [s2,hc,v31];rfl
  have Q8:q8 vs rs ps=true:=by unfold q8;rw [s1,s2,hc,q31',v31,r8];rfl
  have V8:v8_0 vs rs ps=L.foldl gm 0:=by unfold v8_0;rw [s2,hc,v31,r8];rfl
  have Q9:q9 vs rs ps=true:=by unfold q9;rw [e1,e2,r9];rfl
  have V9:v9_0 vs rs ps=L.length:=by unfold v9_0;rw [e2,r9];rfl
  have Q10:q10 vs rs ps=true:=by unfold q10;rw [e1,e2,r10];rfl
  have V10:v10_0 vs rs ps=L.foldl gm 0:=by unfold v10_0;rw [e2,r10];rfl
  have Q15:q15 vs rs ps=true:=by unfold q15;rw [s1,s2,hc,q31',v31,r15];rfl
  have V15:v15_0 vs rs ps=L.map (aggA vs):=by unfold v15_0;rw [s2,hc,v31,r15];rfl
  have Q18:q18 vs rs ps=true:=by unfold q18;rw [s1,s2,hc,q31',v31,r18];rfl
  have V18:(v18_0 vs rs ps).length=L.length:=by unfold v18_0;rw [s2,hc,v31,r18];exact hz
  have w1:IntKind.i64.wrap ((ps.length:Int)+1)=(ps.length:Int)+1:=wrap_in (by omega) (by omega)
  obtain ⟨t1,t2,t3,t4,t5⟩:=t
  simp only at t0 u1 u2 u3 u4
  have hml:(L.map (aggA vs)).length=L.length:=List.length_map _
  rw [hml] at r3
  simp only [Q7,V7,Q8,V8,Q9,V9,Q10,V10,s1,s2,s3,s4,hc,f1,f2,f3,Q15,V15,r3,g1,Q18,V18,w1,hml,t0,u1,u2,u3,u4,ro,sumE,decide_true,beq_self_eq_true,Bool.not_true,Bool.not_false,cond_true,cond_false,decide_eq_true (by omega:(L.length:Int)≤(ps.length:Int)+1)]
theorem law3 {x0:AV} (t0:TA Tryd.prog 22 x0):m3 [x0]=some (true,.bool true):=by
 obtain ⟨xs,rfl,_,_⟩:=tw_sl (ta_one (ct := .sl [.int .u8]) t0 (by kernel_rfl) (by kernel_rfl))
 show (bif ctsEq [.int .u8] [.int .u8] then (raw3 xs).map fun r=>(true,r) else none)=_
 rw [raw3_true xs]
 rfl
end Go.Proofs.YteppndjaglhehaaDoor
