import Derived.Test.YteppndjaglhehaaDoorP15
namespace Go.Proofs.YteppndjaglhehaaDoor
open Go Go.Proofs.VE
set_option linter.unusedVariables false
set_option linter.unusedSimpArgs false
theorem getD_snoc (l:List AV) (y:AV) (j:Nat):(l++[y]).getD j .undef=if j<l.length then l.getD j .undef else if j=l.length then y else .undef:=by
 rw [List.getD_eq_getElem?_getD,List.getD_eq_getElem?_getD]
 by_cases h:j<l.length
 ·rw [if_pos h,List.getElem?_append_left h]
 ·rw [if_neg h]
  by_cases h2:j=l.length
  ·subst h2
   rw [if_pos rfl,List.getElem?_append_right (Nat.le_refl _)]
   simp
  ·rw [if_neg h2,List.getElem?_eq_none (by rw [List.length_append,List.length_singleton];omega)]
   rfl
def aW (lo hi c j:Int):Int:=lo+(hi - lo)*j / c
def GoodE (k lo hi c:Int) (l:List AV) (j:Nat):Prop :=
 lo≤fI (l.getD j .undef) 0∧fI (l.getD j .undef) 0≤fI (l.getD j .undef) 1∧fI (l.getD j .undef) 1≤hi ∧
 (k=1→fI (l.getD j .undef) 0=aW lo hi c j∧fI (l.getD j .undef) 1=aW lo hi c (j+1)) ∧
 (k=2→∀ i,j=i+1→fI (l.getD i .undef) 0≤fI (l.getD j .undef) 0∧fI (l.getD j .undef) 1≤fI (l.getD i .undef) 1)
def InvW (k lo hi c:Int) (i:Nat) (a b:Int) (l:List AV):Prop :=
 l.length=i∧lo≤a∧a≤b∧b≤hi∧(∀ j,j<i→GoodE k lo hi c l j)∧(k=2→∀ m,i=m+1→fI (l.getD m .undef) 0≤a∧b≤fI (l.getD m .undef) 1)
theorem growW {k lo hi c:Int} {i:Nat} {a b:Int} {l:List AV} (h:InvW k lo hi c i a b l) (y:AV) (a' b':Int)
  (y0:lo≤fI y 0) (y1:fI y 0≤fI y 1) (y2:fI y 1≤hi) (y3:k=1→fI y 0=aW lo hi c i∧fI y 1=aW lo hi c (i+1)) (y4:k=2→fI y 0=a∧fI y 1=b)
  (b0:lo≤a') (b1:a'≤b') (b2:b'≤hi) (b3:k=2→a≤a'∧b'≤b):InvW k lo hi c (i+1) a' b' (l++[y]):=by
 obtain ⟨e,i1,i2,i3,i4,i5⟩:=h
 have lt:∀ j,j<i→(l++[y]).getD j .undef=l.getD j .undef:=fun j hj=>by rw [getD_snoc,if_pos (by omega)]
 have eq:(l++[y]).getD i .undef=y:=by rw [getD_snoc,if_neg (by omega),if_pos e.symm]
 refine ⟨by rw [List.length_append,List.length_singleton,e],b0,b1,b2,fun j hj=>?_,fun h2 m hm=>?_⟩
 ·by_cases hj':j<i
  ·obtain ⟨g1,g2,g3,g4,g5⟩:=i4 j hj'
   unfold GoodE
   rw [lt j hj']
   exact ⟨g1,g2,g3,g4,fun h2 p hp=>by rw [lt p (by omega)];exact g5 h2 p hp⟩
  ·obtain rfl:j=i:=by omega
   unfold GoodE
   rw [eq]
   refine ⟨y0,y1,y2,y3,fun h2 p hp=>?_⟩
   rw [lt p (by omega),(y4 h2).1,(y4 h2).2]
   exact i5 h2 p hp
 ·obtain rfl:i=m:=by omega
  rw [eq,(y4 h2).1,(y4 h2).2]
  exact b3 h2
theorem v53_in (x:Int):0≤v53_0 x∧v53_0 x<10007:=by
 unfold v53_0
 obtain ⟨h1,h2⟩:=tmod_lt x
 generalize Int.tmod x 10007=r at *
 by_cases h:r<0
 ·rw [decide_eq_true h,cond_true,wrap_in (a:=r+10007) (by omega) (by omega),wrap_in (a:=(r+10007)*1103) (by omega) (by omega),wrap_in (a:=(r+10007)*1103+2345) (by omega) (by omega)]
  exact ⟨Int.tmod_nonneg _ (by omega),Int.tmod_lt_of_pos _ (by omega)⟩
 ·rw [decide_eq_false h,cond_false,wrap_in (a:=r*1103) (by omega) (by omega),wrap_in (a:=r*1103+2345) (by omega) (by omega)]
  exact ⟨Int.tmod_nonneg _ (by omega),Int.tmod_lt_of_pos _ (by omega)⟩
theorem v52_in (x:Int) {lo hi:Int} (h1 : -1000≤lo) (h2:lo≤hi) (h3:hi≤1000):lo≤v52_0 x lo hi∧v52_0 x lo hi≤hi:=by
 unfold v52_0
 obtain ⟨a0,a1⟩:=v53_in x
 rw [wrap_in (a:=hi - lo) (by omega) (by omega),wrap_in (a:=hi - lo+1) (by omega) (by omega)]
 have t0:=Int.tmod_nonneg (hi - lo+1) a0
 have t1:=Int.tmod_lt_of_pos (v53_0 x) (show 0<hi - lo+1 by omega)
 rw [wrap_in (by omega) (by omega)]
 omega
theorem aW_in {lo hi c i:Int} (h1 : -1000≤lo) (h2:lo≤hi) (h3:hi≤1000) (h4:c≤30) (i0:0≤i) (i1:i≤c) (c0:0<c) :
  IntKind.i64.wrap (lo+IntKind.i64.wrap (Int.tdiv (IntKind.i64.wrap (IntKind.i64.wrap (hi - lo)*i)) c))=aW lo hi c i∧lo≤aW lo hi c i∧aW lo hi c i≤hi:=by
 unfold aW
 rw [wrap_in (a:=hi - lo) (by omega) (by omega)]
 have d0:0≤hi - lo:=by omega
 have d1:hi - lo≤2000:=by omega
 generalize hd:hi - lo=d at *
 have p0:0≤d*i:=Int.mul_nonneg d0 i0
 have p1:d*i≤d*c:=Int.mul_le_mul_of_nonneg_left i1 d0
 have p2:d*c≤2000*30:=Int.mul_le_mul d1 h4 (by omega) (by omega)
 rw [wrap_in (a:=d*i) (by omega) (by omega),Int.tdiv_eq_ediv_of_nonneg p0]
 have q0:0≤d*i / c:=Int.ediv_nonneg p0 (by omega)
 have q1:d*i / c≤d:=by
  have:=Int.ediv_le_ediv c0 p1
  rwa [Int.mul_ediv_cancel _ (by omega)] at this
 rw [wrap_in (a:=d*i / c) (by omega) (by omega),wrap_in (by omega) (by omega)]
 exact ⟨rfl,by omega,by omega⟩
theorem aW_mono {lo hi c:Int} (i:Int) (h2:lo≤hi) (c0:0<c):aW lo hi c i≤aW lo hi c (i+1):=by
 unfold aW
 have:=Int.ediv_le_ediv c0 (Int.mul_le_mul_of_nonneg_left (show i≤i+1 by omega) (show 0≤hi - lo by omega))
 omega
theorem stepW {k lo hi c:Int} (hk:k=0∨k=1∨k=2) (h1 : -1000≤lo) (h2:lo≤hi) (h3:hi≤1000) (h4:c≤30) (i:Nat) (hi':(i:Int)<c) (s:Int × Int × Int × List AV) (h:InvW k lo hi c i s.2.1 s.2.2.1 s.2.2.2) :
  InvW k lo hi c (i+1) (gW k lo hi c i s).2.1 (gW k lo hi c i s).2.2.1 (gW k lo hi c i s).2.2.2:=by
 have hh:=h
 obtain ⟨e,i1,i2,i3,i4,i5⟩:=hh
 rcases hk with rfl|rfl|rfl
 ·have A:=v52_in (v53_0 s.1) h1 h2 h3
  have B:=v52_in s.1 h1 h2 h3
  have hg:gW 0 lo hi c i s=(v53_0 (v53_0 s.1),s.2.1,s.2.2.1,s.2.2.2++[AV.agg [AV.int .i64 (if v52_0 (v53_0 s.1) lo hi<v52_0 s.1 lo hi then v52_0 (v53_0 s.1) lo hi else v52_0 s.1 lo hi),AV.int .i64 (if v52_0 (v53_0 s.1) lo hi > v52_0 s.1 lo hi then v52_0 (v53_0 s.1) lo hi else v52_0 s.1 lo hi)]]):=rfl
  rw [hg]
  generalize v52_0 (v53_0 s.1) lo hi=u at *
  generalize v52_0 s.1 lo hi=w at *
  have f0:fI (AV.agg [AV.int .i64 (if u<w then u else w),AV.int .i64 (if u > w then u else w)]) 0=if u<w then u else w:=rfl
  have f1:fI (AV.agg [AV.int .i64 (if u<w then u else w),AV.int .i64 (if u > w then u else w)]) 1=if u > w then u else w:=rfl
  refine growW h _ _ _ ?_ ?_ ?_ (fun g=>by cases g) (fun g=>by cases g) i1 i2 i3 (fun g=>by cases g)
  ·rw [f0];split <;> omega
  ·rw [f0,f1];split <;> split <;> omega
  ·rw [f1];split <;> omega
 ·have A:=aW_in h1 h2 h3 h4 (i:=(i:Int)) (by omega) (by omega) (by omega)
  have B:=aW_in h1 h2 h3 h4 (i:=(i:Int)+1) (by omega) (by omega) (by omega)
  have M:=aW_mono (lo:=lo) (hi:=hi) (c:=c) (i:Int) h2 (by omega)
  have hg:gW 1 lo hi c i s=(s.1,s.2.1,s.2.2.1,s.2.2.2++[AV.agg [AV.int .i64 (aW lo hi c i),AV.int .i64 (aW lo hi c (i+1))]]):=by
   unfold gW
   rw [wrap_in (a:=(i:Int)+1) (by omega) (by omega),A.1,B.1]
   rfl
  rw [hg]
  exact growW h _ _ _ A.2.1 M B.2.2 (fun _=>⟨rfl,rfl⟩) (fun g=>by cases g) i1 i2 i3 (fun g=>by cases g)
 ·have hg:gW 2 lo hi c i s=(s.1,s.2.1+(s.2.2.1 - s.2.1) / 4,s.2.2.1 - (s.2.2.1 - s.2.1) / 4,s.2.2.2++[AV.agg [AV.int .i64 s.2.1,AV.int .i64 s.2.2.1]]):=by
   unfold gW
   rw [wrap_in (a:=s.2.2.1 - s.2.1) (by omega) (by omega),Int.tdiv_eq_ediv_of_nonneg (a:=s.2.2.1 - s.2.1) (by omega),wrap_in (a:=(s.2.2.1 - s.2.1) / 4) (by omega) (by omega),wrap_in (a:=s.2.1+(s.2.2.1 - s.2.1) / 4) (by omega) (by omega),wrap_in (a:=s.2.2.1 - (s.2.2.1 - s.2.1) / 4) (by omega) (by omega)]
   rfl
  rw [hg]
  exact growW h _ _ _ i1 i2 i3 (fun g=>by cases g) (fun _=>⟨rfl,rfl⟩) (by simp only;omega) (by simp only;omega) (by simp only;omega) (fun _=>by simp only;omega)
theorem foldW {k lo hi c:Int} (hk:k=0∨k=1∨k=2) (h1 : -1000≤lo) (h2:lo≤hi) (h3:hi≤1000) (h4:c≤30):∀ (m i:Nat) (s:Int × Int × Int × List AV),((i+m:Nat):Int)≤c→InvW k lo hi c i s.2.1 s.2.2.1 s.2.2.2 →
  InvW k lo hi c (i+m) (foldF (gW k lo hi c) m i s).2.1 (foldF (gW k lo hi c) m i s).2.2.1 (foldF (gW k lo hi c) m i s).2.2.2
 | 0,i,s,_,h=>h
 | m+1,i,s,hc,h=>by
  have:=foldW hk h1 h2 h3 h4 m (i+1) (gW k lo hi c i s) (by omega) (stepW hk h1 h2 h3 h4 i (by omega) s h)
  rw [show i+1+m=i+(m+1) by omega,show (((i+1:Nat):Int))=(i:Int)+1 by omega] at this
  exact this
theorem W_good {k lo hi c:Int} (x:Int) (h:isW k lo hi c=true):(W k lo hi c x).length=c.toNat∧∀ j,j<(W k lo hi c x).length→GoodE k lo hi c (W k lo hi c x) j:=by
 obtain ⟨hk,h1,h2,h3,h4,h5⟩:=isW_spec h
 have hw:W k lo hi c x=(foldF (gW k lo hi c) c.toNat 0 (x,lo,hi,[])).2.2.2:=by unfold W;rw [h];rfl
 have:=foldW hk h1 h2 h3 h5 c.toNat 0 (x,lo,hi,[]) (by omega) ⟨rfl,Int.le_refl _,h2,Int.le_refl _,fun j hj=>by omega,fun _ m hm=>by omega⟩
 rw [Int.ofNat_zero,Nat.zero_add,← hw] at this
 exact ⟨this.1,fun j hj=>this.2.2.2.2.1 j (by rw [← this.1];exact hj)⟩
theorem runL (a0:List AV) {k lo hi c:Int} {l:List AV} (hl:l.length≤1048576) (hk:k=0∨k=1∨k=2) (h1 : -1000≤lo) (h3:hi≤1000) (hg:∀ j,j<l.length→GoodE k lo hi c l j) :
  runW (R4_0 a0 k lo hi l l) (((l.length:Int) - 0).toNat+1) 0=some (.inl ()):=by
 have hr:=runW_find (f:=R4_0 a0 k lo hi l l) (fun i=>i) l.length (fun _=>false) (.inl ()) (fun _ => .inr ()) (fun i h0 hn=>by
  have d0:decide (i<(l.length:Int))=true:=decide_eq_true hn
  have d1:decide (0≤i)=true:=decide_eq_true h0
  have wi:IntKind.i64.wrap (i+1)=i+1:=wrap_in (by omega) (by omega)
  obtain ⟨g1,g2,g3,g4,g5⟩:=hg i.toNat (by omega)
  have e1:v22_0 (fI (l.getD i.toNat .undef) 0) (fI (l.getD i.toNat .undef) 1)=true:=by rw [isR34];exact decide_eq_true ⟨by omega,by omega,by omega⟩
  have e2:decide (fI (l.getD i.toNat .undef) 0<lo)=false:=decide_eq_false (by omega)
  have e3:decide (fI (l.getD i.toNat .undef) 1 > hi)=false:=decide_eq_false (by omega)
  have t1:decide (fI (l.getD i.toNat .undef) 0=fI (l.getD i.toNat .undef) 0)=true:=decide_eq_true rfl
  have t2:decide (fI (l.getD i.toNat .undef) 1=fI (l.getD i.toNat .undef) 1)=true:=decide_eq_true rfl
  show R4_0 a0 k lo hi l l i = .next (i+1)
  unfold R4_0 F4_0 G4_0
  simp only [d0,d1,t1,t2,e1,e2,e3,wi,Bool.and_self,Bool.not_true,cond_true,cond_false]
  by_cases hp:i > 0
  ·have w0:IntKind.i64.wrap (i - 1)=i - 1:=wrap_in (by omega) (by omega)
   obtain ⟨p,hpi⟩:∃ p:Nat,i=(p:Int)+1:=⟨(i - 1).toNat,by omega⟩
   subst hpi
   have q1:((p:Int)+1 - 1).toNat=p:=by omega
   have q2:((p:Int)+1).toNat=p+1:=by omega
   have d2:decide (0≤(p:Int)+1 - 1)=true:=decide_eq_true (by omega)
   have d3:decide ((p:Int)+1 - 1<(l.length:Int))=true:=decide_eq_true (by omega)
   simp only [decide_eq_true hp,w0,d2,d3,q1,q2,Bool.and_self,cond_true] at *
   obtain ⟨_,_,_,p4,_⟩:=hg p (by omega)
   rcases hk with rfl|rfl|rfl
   ·rfl
   ·have z:decide (fI (l.getD (p+1) .undef) 0=fI (l.getD p .undef) 1)=true:=decide_eq_true (by rw [(g4 rfl).1,(p4 rfl).2];rfl)
    rw [z]
    rfl
   ·obtain ⟨z1,z2⟩:=g5 rfl p rfl
    rw [decide_eq_false (by omega:¬ fI (l.getD (p+1) .undef) 0<fI (l.getD p .undef) 0),decide_eq_false (by omega:¬ fI (l.getD (p+1) .undef) 1 > fI (l.getD p .undef) 1)]
    rfl
  ·rw [decide_eq_false hp]
   rcases hk with rfl|rfl|rfl <;> rfl) (by
  unfold R4_0 F4_0 G4_0
  simp only
  rw [decide_eq_false (Int.lt_irrefl _)]
  rfl) l.length (((l.length:Int) - 0).toNat+1) 0 (Int.le_refl 0) (by omega) (by omega)
 rw [hr,findF_none _ _ fun _ _ _=>rfl]
 rfl
theorem sumW {lo hi:Int} {l:List AV} (h1 : -1000≤lo) (h2:lo≤hi) (h3:hi≤1000) (hl:l.length≤30) (hg:∀ j,j<l.length→lo≤fI (l.getD j .undef) 0∧fI (l.getD j .undef) 0≤fI (l.getD j .undef) 1∧fI (l.getD j .undef) 1≤hi) :
  ∀ (m i:Nat) (t:Int),i+m=l.length→0≤t→t≤i*(hi - lo)→0≤foldF (fun i t=>IntKind.i64.wrap (IntKind.i64.wrap (t+fI (l.getD i.toNat .undef) 1) - fI (l.getD i.toNat .undef) 0)) m i t∧foldF (fun i t=>IntKind.i64.wrap (IntKind.i64.wrap (t+fI (l.getD i.toNat .undef) 1) - fI (l.getD i.toNat .undef) 0)) m i t≤l.length*(hi - lo)
 | 0,i,t,h,t0,t1=>by
  obtain rfl:i=l.length:=by omega
  exact ⟨t0,t1⟩
 | m+1,i,t,h,t0,t1=>by
  obtain ⟨g1,g2,g3⟩:=hg i (by omega)
  have b:(i:Int)*(hi - lo)≤30*2000:=Int.mul_le_mul (by omega) (by omega) (by omega) (by omega)
  have e:(((i+1:Nat):Int))*(hi - lo)=(i:Int)*(hi - lo)+(hi - lo):=by
   rw [show (((i+1:Nat):Int))=(i:Int)+1 by omega,Int.add_mul,Int.one_mul]
  have:=sumW h1 h2 h3 hl hg m (i+1) (t+fI (l.getD i .undef) 1 - fI (l.getD i .undef) 0) (by omega) (by omega) (by rw [e];omega)
  rw [show (((i+1:Nat):Int))=(i:Int)+1 by omega] at this
  show 0≤foldF _ m ((i:Int)+1) (IntKind.i64.wrap (IntKind.i64.wrap (t+fI (l.getD (i:Int).toNat .undef) 1) - fI (l.getD (i:Int).toNat .undef) 0))∧foldF _ m ((i:Int)+1) (IntKind.i64.wrap (IntKind.i64.wrap (t+fI (l.getD (i:Int).toNat .undef) 1) - fI (l.getD (i:Int).toNat .undef) 0))≤_
  rw [Int.toNat_natCast,wrap_in (a:=t+fI (l.getD i .undef) 1) (by omega) (by omega),wrap_in (by omega) (by omega)]
  exact this
theorem meanW {lo hi:Int} {l:List AV} (h1 : -1000≤lo) (h2:lo≤hi) (h3:hi≤1000) (hl:l.length≤30) (hn:0<l.length) (hg:∀ j,j<l.length→lo≤fI (l.getD j .undef) 0∧fI (l.getD j .undef) 0≤fI (l.getD j .undef) 1∧fI (l.getD j .undef) 1≤hi) (ho:v60_0 l=true):v28_0 l≤hi - lo:=by
 have S:=sumW h1 h2 h3 hl hg l.length 0 0 (by omega) (Int.le_refl 0) (by simp)
 rw [Int.ofNat_zero] at S
 unfold v28_0
 rw [run28 l (by omega),ho,decide_eq_false (by omega:¬ (l.length:Int)=0)]
 generalize foldF (S:=Int) _ l.length 0 0=t at S ⊢
 obtain ⟨s0,s1⟩:=S
 show IntKind.i64.wrap (Int.tdiv t (l.length:Int))≤_
 rw [Int.tdiv_eq_ediv_of_nonneg s0]
 have q0:0≤t / (l.length:Int):=Int.ediv_nonneg s0 (by omega)
 have q1:t / (l.length:Int)≤hi - lo:=Int.ediv_le_of_le_mul (by omega) (by rw [Int.mul_comm];exact s1)
 rw [wrap_in (by omega) (by omega)]
 exact q1
end Go.Proofs.YteppndjaglhehaaDoor

namespace Go.Proofs.YteppndjaglhehaaDoor
open Go Go.Proofs.VE
set_option linter.unusedVariables false
set_option linter.unusedSimpArgs false
theorem jn_le (c:UInt8):∀ ws:List (List UInt8),(∀ w ∈ ws,w.length≤42)→(jn c ws).length≤43*ws.length
 | [],_=>Nat.le_refl _
 | [v],h=>by
  have:=h v (by simp)
  show v.length≤43*1
  omega
 | u :: v :: ws,h=>by
  have h1:=h u (by simp)
  have h2:=jn_le c (v :: ws) fun w hw=>h w (List.mem_cons_of_mem _ hw)
  show (u++c :: jn c (v :: ws)).length≤_
  simp only [List.length_append,List.length_cons] at *
  omega
theorem fmtE_le {y:AV} (h:okE y):(fmtE y).length≤42:=by
 obtain ⟨h0,h1,h3⟩:=h
 have la:=itoaB_len (fI y 0) (by omega) (by omega)
 have lb:=itoaB_len (fI y 1) (by omega) (by omega)
 rw [ba_size,itoaB_list] at la lb
 unfold fmtE fmtL
 simp only [List.length_append,List.length_cons]
 omega
def noneL:List UInt8:=[110,111,110,101]
theorem parse24 (s:ByteArray) (h:s.size≤1048576):q24 s=true∧(s.data.toList=noneL→v24_0 s=[]∧v24_1 s=true)∧(s.data.toList ≠ noneL→(goodW s→(v24_0 s).length=(wds s).length∧v24_1 s=true)∧(¬ goodW s→v24_1 s=false)):=by
 obtain ⟨z1,z2,z3⟩:=wds_size s h
 have hsp:v57_0 s (ByteArray.mk #[32])=wds s:=by unfold v57_0;exact splitL_pcs s 32
 have hq:q57 s (ByteArray.mk #[32])=true:=by
  unfold q57
  rw [decide_eq_true (by omega)]
  rfl
 have hb:(s.toList == (ByteArray.mk #[110,111,110,101]).toList)=decide (s.data.toList=noneL):=ba_beq _ _
 obtain ⟨r1,r2⟩:=run24 (wds s) z1 z2
 unfold q24 v24_0 v24_1
 rw [hsp,hq,hb]
 by_cases hn:s.data.toList=noneL
 ·rw [decide_eq_true hn]
  exact ⟨rfl,fun _=>⟨rfl,rfl⟩,fun g=>absurd hn g⟩
 ·rw [decide_eq_false hn]
  by_cases hg:goodW s
  ·rw [r1 hg]
   exact ⟨rfl,fun g=>absurd g hn,fun _=>⟨fun _=>⟨List.length_map _,rfl⟩,fun g=>absurd hg g⟩⟩
  ·obtain ⟨r,e⟩:=r2 hg
   rw [e]
   exact ⟨rfl,fun g=>absurd g hn,fun _=>⟨fun g=>absurd g hg,fun _=>rfl⟩⟩
theorem okW_fmt {y:AV} (h:okE y):okW (txt (fmtE y)):=by
 have hs:(fS (txt (fmtE y)) 0).size≤1048576:=by
  rw [ba_size,txt_fS]
  have:=fmtE_le h
  omega
 unfold okW
 rcases (P58 _ hs).2 with ⟨a,b,g,e0,e1,e2⟩|⟨g,e0,e1,e2⟩
 ·exact e2
 ·exact absurd ⟨h,txt_fS _⟩ (g (fI y 0) (fI y 1))
theorem okW_nil:¬ okW (txt []):=by
 have hs:(fS (txt []) 0).size≤1048576:=by
  rw [ba_size,txt_fS]
  simp
 unfold okW
 rcases (P58 _ hs).2 with ⟨a,b,g,e0,e1,e2⟩|⟨g,e0,e1,e2⟩
 ·have:=congrArg List.length g.2
  rw [txt_fS] at this
  have h2:=fmtL_len a b
  simp only [List.length_nil] at this
  omega
 ·rw [e2]
  exact Bool.false_ne_true
theorem FP (ys:List AV) (h:ys.length≤1048576):q23 ys=true∧q26 ys=true∧v23_0 ys=v26_0 ys∧q24 (v26_0 ys)=true∧(v24_1 (v26_0 ys) == !((v26_0 ys).toList == ByteArray.empty.toList))=true ∧
  ((∀ y ∈ ys,okE y)∧ys.length≤30→v24_1 (v26_0 ys)=true∧(v24_0 (v26_0 ys)).length=ys.length):=by
 obtain ⟨w1,w2,w3⟩:=workl ys h
 refine ⟨w2,w1,w3,?_⟩
 obtain ⟨_,p1,p2⟩:=P26 ys (by omega)
 have hbe:∀ s:ByteArray,(s.toList == ByteArray.empty.toList)=decide (s.data.toList=[]):=fun s=>ba_beq _ _
 by_cases hk:(∀ y ∈ ys,okE y)∧ys.length≤30
 ·by_cases hne:ys=[]
  ·subst hne
   have e:v26_0 []=ByteArray.mk #[110,111,110,101]:=by
    unfold v26_0
    rw [(RgD [] (by simp)).2,decide_eq_true hk,runFw [] (by simp)]
    show (bif (ByteArray.empty.toList == ByteArray.empty.toList) then _ else _)=_
    rw [beq_self_eq_true]
    rfl
   rw [e]
   obtain ⟨a1,a2,_⟩:=parse24 (ByteArray.mk #[110,111,110,101]) (by decide)
   obtain ⟨a3,a4⟩:=a2 rfl
   rw [a1,a3,a4,hbe]
   exact ⟨rfl,by decide,fun _=>⟨rfl,rfl⟩⟩
  ·have hs:=p1 hk hne
   generalize v26_0 ys=s at *
   have hn1:ys.map fmtE ≠ []:=fun g=>hne (List.map_eq_nil_iff.1 g)
   have hpc:pcs 32 [] s.data.toList=ys.map fmtE:=by
    rw [hs]
    exact pcs_jn 32 _ hn1 (fun w hw=>by
     obtain ⟨y,_,rfl⟩:=List.mem_map.1 hw
     exact fmtL_no32 _ _)
   have hw:wds s=(ys.map fmtE).map txt:=by unfold wds;rw [hpc]
   have hsz:s.size≤1048576:=by
    have:=jn_le 32 (ys.map fmtE) (fun w hw=>by
     obtain ⟨y,hy,rfl⟩:=List.mem_map.1 hw
     exact fmtE_le (hk.1 y hy))
    rw [ba_size,hs]
    rw [List.length_map] at this
    omega
   have hg:goodW s:=by
    unfold goodW
    rw [hw]
    refine ⟨fun x hx=>?_,by rw [List.length_map,List.length_map];exact hk.2⟩
    obtain ⟨l,hl,rfl⟩:=List.mem_map.1 hx
    obtain ⟨y,hy,rfl⟩:=List.mem_map.1 hl
    exact okW_fmt (hk.1 y hy)
   have hnn:s.data.toList ≠ noneL:=fun g=>by
    rw [g] at hpc
    have hp:pcs 32 [] noneL=[noneL]:=pcs_free 32 noneL [] (by decide)
    rw [hp] at hpc
    cases ys with
    | nil=>exact hne rfl
    | cons y r =>
     have h1:noneL=fmtE y:=(List.cons.inj hpc).1
     have h2:(46:UInt8) ∈ fmtE y:=by unfold fmtE fmtL;simp
     rw [← h1] at h2
     revert h2
     decide
   obtain ⟨a1,_,a3⟩:=parse24 s hsz
   obtain ⟨b1,b2⟩:=(a3 hnn).1 hg
   have hnz:s.data.toList ≠ []:=fun g=>by
    rw [g] at hpc
    have hp:pcs 32 [] ([]:List UInt8)=[[]]:=pcs_free 32 [] [] (by simp)
    rw [hp] at hpc
    cases ys with
    | nil=>exact hne rfl
    | cons y r =>
     have h1:[]=fmtE y:=(List.cons.inj hpc).1
     have h2:=fmtL_len (fI y 0) (fI y 1)
     unfold fmtE at h1
     rw [← h1] at h2
     simp at h2
   rw [a1,b1,b2,hbe,decide_eq_false hnz,hw]
   exact ⟨rfl,rfl,fun _=>⟨rfl,by rw [List.length_map,List.length_map]⟩⟩
 ·rw [p2 hk]
  obtain ⟨a1,_,a3⟩:=parse24 ByteArray.empty (by decide)
  have hng:¬ goodW ByteArray.empty:=fun g=>okW_nil (g.1 _ (by
   unfold wds
   rw [show ByteArray.empty.data.toList=[] from rfl,pcs_free 32 [] [] (by simp)]
   simp))
  rw [a1,(a3 (by decide)).2 hng,hbe]
  exact ⟨rfl,by decide,fun g=>absurd g hk⟩
end Go.Proofs.YteppndjaglhehaaDoor

namespace Go.Proofs.YteppndjaglhehaaDoor
open Go Go.Proofs.VE
set_option linter.unusedVariables false
set_option linter.unusedSimpArgs false
theorem draw19 (code:List AV) (h:code.length≤1048576):∃ k lo hi c x,W19 code=some (k,lo,hi,c,x):=by
 obtain ⟨p,hp⟩:=start_of (f:=R19i30_0 code) code (fun g k k0 k1=>by
  have d1:decide (k<(code.length:Int))=true:=decide_eq_true k1
  have d2:decide (0≤k)=true:=decide_eq_true k0
  have wk_:IntKind.i64.wrap (k+1)=k+1:=wrap_in (by omega) (by omega)
  show (∃ g',F19i30_0 code g k=_)∨F19i30_0 code g k=_
  unfold F19i30_0 G19i30_0
  rw [d1,d2,wk_]
  cases decide (k<4000)
  ·exact .inr rfl
  ·exact .inl ⟨_,rfl⟩) (fun g k k1=>by
  have d1:decide (k<(code.length:Int))=false:=decide_eq_false k1
  show F19i30_0 code g k=_
  unfold F19i30_0 G19i30_0
  rw [d1]
  rfl) (IntKind.i64.wrap (10101+(code.length:Int)))
 have c0:Cur code 0:=⟨by omega,by omega,h⟩
 obtain ⟨x,i1,h1,a0,a1,a2,a3,a4,_,_,c1⟩:=below c0 p (n:=5) (by decide)
 obtain ⟨x2,i2,h2,hW2,c2,_⟩:=pick c1 h1 (L:=[AV.int .i64 0,AV.int .i64 (-5),AV.int .i64 (-1000),AV.int .i64 1000,AV.int .i64 (-1001)]) (by decide)
 obtain ⟨b0,b1,b2,b3,b4,_⟩:=g50 hW2
 obtain ⟨x3,i3,h3,hW3,c3,_⟩:=pick c2 h2 (L:=[AV.int .i64 20,AV.int .i64 7,AV.int .i64 0,AV.int .i64 1000,AV.int .i64 1001]) (by decide)
 obtain ⟨d0,d1,d2,d3,d4,_⟩:=g50 hW3
 obtain ⟨x4,i4,h4,hW4,c4,_⟩:=pick c3 h3 (L:=[AV.int .i64 0,AV.int .i64 1,AV.int .i64 5,AV.int .i64 30,AV.int .i64 31,AV.int .i64 (-1)]) (by decide)
 obtain ⟨e0,e1,e2,e3,e4,_⟩:=g50 hW4
 obtain ⟨x5,i5,h5,hW5,c5,_⟩:=pick c4 h4 (L:=[AV.int .i64 0,AV.int .i64 7,AV.int .i64 (-3),AV.int .i64 10006]) (by decide)
 obtain ⟨f0,f1,f2,f3,f4,_⟩:=g50 hW5
 unfold W19 T19
 simp only [hp,ro,a0,a1,a2,a3,a4,b0,b1,b2,b3,b4,d0,d1,d2,d3,d4,e0,e1,e2,e3,e4,f0,f1,f2,f3,f4,cond_true]
 exact ⟨_,_,_,_,_,rfl⟩
theorem draw25 (code:List AV) (h:code.length≤1048576):∃ L,W25 code=some L∧L.length≤1048576:=by
 obtain ⟨p,hp⟩:=start_of (f:=R25i30_0 code) code (fun g k k0 k1=>by
  have d1:decide (k<(code.length:Int))=true:=decide_eq_true k1
  have d2:decide (0≤k)=true:=decide_eq_true k0
  have wk_:IntKind.i64.wrap (k+1)=k+1:=wrap_in (by omega) (by omega)
  show (∃ g',F25i30_0 code g k=_)∨F25i30_0 code g k=_
  unfold F25i30_0 G25i30_0
  rw [d1,d2,wk_]
  cases decide (k<4000)
  ·exact .inr rfl
  ·exact .inl ⟨_,rfl⟩) (fun g k k1=>by
  have d1:decide (k<(code.length:Int))=false:=decide_eq_false k1
  show F25i30_0 code g k=_
  unfold F25i30_0 G25i30_0
  rw [d1]
  rfl) (IntKind.i64.wrap (10101+(code.length:Int)))
 have c0:Cur code 0:=⟨by omega,by omega,h⟩
 obtain ⟨x,i1,h1,a0,a1,a2,a3,a4,x0,x1,c1⟩:=below c0 p (n:=5) (by decide)
 obtain ⟨r,r1,r2⟩:=runW_ends (f:=R25_0) (fun s:Int × List AV × Int × Int × List AV=>0≤s.1∧s.1≤5∧s.2.1=code∧Cur code s.2.2.1∧s.2.2.2.2.length+s.1≤5) (fun r=>r.2.2.2.length≤1048576) (fun s=>s.1.toNat) (fun s hI=>by
   obtain ⟨t,b',k,g,L⟩:=s
   obtain ⟨t0,t5,hb,hk,hL⟩:=hI
   simp only at t0 t5 hb hk hL
   subst hb
   by_cases ct:t > 0
   ·obtain ⟨y,z,k1,g1,hW,hk1⟩:=rangeAny hk g
    obtain ⟨e0,e1,e2,e3,e4,e5⟩:=g59 hW
    refine .inl ⟨(t - 1,b',k1,g1,L++[AV.agg [AV.int .i64 y,AV.int .i64 z]]),?_,⟨by simp only;omega,by simp only;omega,rfl,hk1,by simp only [List.length_append,List.length_singleton];omega⟩,by simp only;omega⟩
    show F25_0 t b' k g L=_
    unfold F25_0 G25_0
    simp only [decide_eq_true ct,e0,e1,e2,e3,e4,e5,rm16 L _ (by omega),wrap1 ct (by omega),cond_true]
   ·refine .inr ⟨(b',k,g,L),?_,by simp only;omega⟩
    show F25_0 t b' k g L=_
    unfold F25_0 G25_0
    simp only [decide_eq_false ct,cond_false]) ((x - 0).toNat+1) (x,code,i1,h1,[]) ⟨x0,by simp only;omega,rfl,c1,by simp only [List.length_nil];omega⟩ (by simp only;omega)
 unfold W25 T25
 simp only [hp,ro,a0,a1,a2,a3,a4,r1,cond_true]
 exact ⟨_,rfl,r2⟩
theorem okE_all {k lo hi c:Int} {l:List AV} (h1 : -1000≤lo) (h3:hi≤1000) (hg:∀ j,j<l.length→GoodE k lo hi c l j):∀ y ∈ l,okE y:=fun y hy=>by
 obtain ⟨j,hj,rfl⟩:=List.getElem_of_mem hy
 obtain ⟨g1,g2,g3,_⟩:=hg j hj
 rw [getD_mem l j hj] at g1 g2 g3
 exact ⟨by omega,by omega,by omega⟩
theorem raw4_true (code:List AV):raw4 code=some (.bool true):=by
 unfold raw4
 by_cases hb:code.length≤1048576
 case neg =>
  have:v5_0 code=true:=by unfold v5_0;exact decide_eq_true (by omega)
  rw [this]
  rfl
 have hb':v5_0 code=false:=by unfold v5_0;exact decide_eq_false (by omega)
 obtain ⟨k,lo,hi,c,x,hW⟩:=draw19 code hb
 obtain ⟨a0,a1,a2,a3,a4,a5⟩:=g19 hW
 obtain ⟨L,hL,lL⟩:=draw25 code hb
 obtain ⟨b0,b1⟩:=g25 hL
 obtain ⟨p1,p2⟩:=P20 k lo hi c x
 obtain ⟨q1,q2⟩:=P21 k lo hi c x
 obtain ⟨F1,F2,F3,F4,F5,_⟩:=FP L lL
 obtain ⟨s1,s2,s3⟩:=same L lL
 have hl:=W_len k lo hi c x
 obtain ⟨G1,G2,G3,G4,G5,G6⟩:=FP (W k lo hi c x) hl
 obtain ⟨t1,t2,t3⟩:=same (W k lo hi c x) hl
 simp only [hb',a0,a1,a2,a3,a4,a5,p1,p2,q1,q2,b0,b1,F1,F2,F3,F4,F5,s1,s2,s3,G1,G3,G4,t2,t3,decide_true,beq_self_eq_true,Bool.not_true,cond_true,cond_false]
 cases hw:isW k lo hi c with
 | false =>
  have e:W k lo hi c x=[]:=by unfold W;rw [hw];rfl
  rw [e] at G6 ⊢
  obtain ⟨g1,g2⟩:=G6 ⟨fun y hy=>(by cases hy),by decide⟩
  have hr:runW (R4_0 code k lo hi [] []) (((([]:List AV).length:Int) - 0).toNat+1) 0=some (.inl ()):=by
   show runW (R4_0 code k lo hi [] []) 1 0=_
   rfl
  rw [hr,g1,g2]
  rfl
 | true =>
  obtain ⟨hk,h1,h2,h3,h4,h5⟩:=isW_spec hw
  obtain ⟨wl,wg⟩:=W_good x hw
  generalize W k lo hi c x=l at *
  have hl30:l.length≤30:=by omega
  have hok:=okE_all h1 h3 wg
  obtain ⟨g1,g2⟩:=G6 ⟨hok,hl30⟩
  rw [runL code hl hk h1 h3 wg,g1,g2]
  by_cases hz:l.length=0
  ·simp only [ro,sumE,decide_true,cond_true,decide_eq_true (by omega:(l.length:Int)=0)]
  ·have M:=meanW h1 h2 h3 hl30 (by omega) (fun j hj=>⟨(wg j hj).1,(wg j hj).2.1,(wg j hj).2.2.1⟩) (by rw [(RgD l (by omega)).2];exact decide_eq_true ⟨hok,hl30⟩)
   have wz:IntKind.i64.wrap (hi - lo)=hi - lo:=wrap_in (by omega) (by omega)
   simp only [ro,sumE,decide_true,cond_true,cond_false,decide_eq_false (by omega:¬ (l.length:Int)=0),wz,decide_eq_true M]
theorem law4 {x0:AV} (t0:TA Tryd.prog 22 x0):m4 [x0]=some (true,.bool true):=by
 obtain ⟨xs,rfl,_,_⟩:=tw_sl (ta_one (ct := .sl [.int .u8]) t0 (by kernel_rfl) (by kernel_rfl))
 show (bif ctsEq [.int .u8] [.int .u8] then (raw4 xs).map fun r=>(true,r) else none)=_
 rw [raw4_true xs]
 rfl
end Go.Proofs.YteppndjaglhehaaDoor
