import Derived.Test.YtmcnplggcedihaaGreatBPm
namespace Go.Proofs.YtmcnplggcedihaaGreat
open Go Go.Proofs.VE
set_option linter.unusedVariables false
set_option linter.unusedSimpArgs false
structure Bst (l:List AV) (b a c d:Int):Prop where
 e:b=a
 n : -1≤b∧b<l.length
 f:0≤b→c=fI (l.getD b.toNat .undef) 1∧d=fI (l.getD b.toNat .undef) 2
theorem run18 (l:List AV) (hl:l.length≤1048576) (hp:∀ k:Int,0≤k→k<l.length→fI (l.getD k.toNat .undef) 0=k) :
  ∃ r r',runW (R18_0 l) (((l.length:Int) - 0:Int).toNat+1) ((-1),0)=some r∧runW (R19_0 l.length l) (((l.length:Int) - 0:Int).toNat+1) (0,(-1),0,0,0,0)=some r'∧r'.1=r:=by
 refine runW_pair (fun (s:Int × Int) (s':Int × Int × Int × Int × Int × Int)=>s.2=s'.1∧0≤s.2∧s.2≤l.length∧Bst l s.1 s'.2.1 s'.2.2.1 s'.2.2.2.1) (fun (r:Int) (r':Int × Int × Int × Int × Int)=>r'.1=r) (fun (s:Int × Int)=>((l.length:Int) - s.2).toNat) ?_ _ _ _ _ ⟨rfl,by decide,by show (0:Int)≤l.length;omega,⟨rfl,⟨by decide,by show (-1:Int)<l.length;omega⟩,fun h=>absurd h (by decide)⟩⟩ (by show ((l.length:Int) - 0).toNat<_;omega) (by show ((l.length:Int) - 0).toNat<_;omega)
 rintro ⟨b,i⟩ ⟨i',a,c,d,e,f⟩ ⟨rfl,i0,i1,B⟩
 dsimp only at i0 i1 B ⊢
 obtain ⟨rfl,⟨b0,b1⟩,hf⟩:=B
 show (∃ x y,F18_0 l b i = .next x∧F19_0 l.length l i b c d e f = .next y∧_)∨∃ r r',F18_0 l b i = .stop r∧F19_0 l.length l i b c d e f = .stop r'∧_
 by_cases hi:i<(l.length:Int)
 ·left
  have w:IntKind.i64.wrap (i+1)=i+1:=wrap_in (by omega) (by omega)
  have hB:Bst l i (fI (l.getD i.toNat .undef) 0) (fI (l.getD i.toNat .undef) 1) (fI (l.getD i.toNat .undef) 2):=⟨(hp i i0 hi).symm,⟨by omega,hi⟩,fun _=>⟨rfl,rfl⟩⟩
  have hO:Bst l b b c d:=⟨rfl,⟨b0,b1⟩,hf⟩
  have m:((l.length:Int) - (i+1)).toNat<((l.length:Int) - i).toNat:=by omega
  unfold F18_0 F19_0
  rw [w,decide_eq_true hi,decide_eq_true i0]
  simp only [cond_true,Bool.and_self]
  by_cases hb:b<0
  ·rw [decide_eq_true hb]
   simp only [cond_true]
   exact ⟨_,_,rfl,rfl,⟨rfl,by omega,by omega,hB⟩,m⟩
  ·obtain ⟨h1,h2⟩:=hf (by omega)
   rw [decide_eq_false hb,decide_eq_true (by omega:0≤b),decide_eq_true b1,← h1,← h2]
   simp only [cond_true,cond_false,Bool.and_self]
   cases decide (fI (l.getD i.toNat .undef) 2<d) with
   | true=>exact ⟨_,_,rfl,rfl,⟨rfl,by omega,by omega,hB⟩,m⟩
   | false =>
    cases decide (fI (l.getD i.toNat .undef) 2=d) with
    | false=>exact ⟨_,_,rfl,rfl,⟨rfl,by omega,by omega,hO⟩,m⟩
    | true =>
     cases decide (fI (l.getD i.toNat .undef) 1<c) with
     | true=>exact ⟨_,_,rfl,rfl,⟨rfl,by omega,by omega,hB⟩,m⟩
     | false=>exact ⟨_,_,rfl,rfl,⟨rfl,by omega,by omega,hO⟩,m⟩
 ·right
  unfold F18_0 F19_0
  rw [decide_eq_false hi]
  exact ⟨_,_,rfl,rfl,rfl⟩
theorem v14_pol {vs qs:List AV} {p thr seed:Int} (h:v14_5 vs p thr seed qs=true):v14_0 vs p thr seed qs=p:=by
 unfold v14_5 at h
 unfold v14_0
 cases h1:v36_0 vs with
 | false=>rw [h1] at h;cases h
 | true =>
  cases h2:v37_0 p thr seed with
  | false=>rw [h1,h2] at h;cases h
  | true =>
   cases h3:v38_0 qs with
   | false=>rw [h1,h2,h3] at h;cases h
   | true=>rfl
theorem best_both (vs qs:List AV) (thr seed:Int) (hl:vs.length≤1048576) (hq:qs.length≤1048576):q18 vs thr seed qs=true∧q19 vs thr seed qs=true∧v19_0 vs thr seed qs=v18_0 vs thr seed qs:=by
 obtain ⟨a1,a2,a3,a4⟩:=cmp_both vs qs thr seed hl hq
 have a5:(v20_0 vs thr seed qs).length≤1048576∧∀ k:Int,0≤k→k<(v20_0 vs thr seed qs).length→fI ((v20_0 vs thr seed qs).getD k.toNat .undef) 0=k:=by
  rcases a4 with a4|⟨h,a4⟩
  ·rw [a4]
   exact ⟨by decide,fun k h0 h1=>by simp at h1;omega⟩
  ·rw [a4]
   refine ⟨by show 3≤1048576;decide,fun k h0 h1=>?_⟩
   have h1':k<3:=h1
   have p0:=v14_pol h
   have p1:v14_0 vs 1 thr seed qs=1:=v14_pol (show v14_5 vs 1 thr seed qs=true from h)
   have p2:v14_0 vs 2 thr seed qs=2:=v14_pol (show v14_5 vs 2 thr seed qs=true from h)
   obtain rfl|rfl|rfl:k=0∨k=1∨k=2:=by omega
   ·exact p0
   ·exact p1
   ·exact p2
 obtain ⟨r,r',e1,e2,e3⟩:=run18 _ a5.1 a5.2
 unfold q18 q19 v18_0 v19_0
 rw [a1,a2,a3,e1,e2]
 exact ⟨rfl,rfl,e3⟩
theorem raw5_true (xs:List AV) (t s:Int) (qs:List AV) (a1:xs.length≤9223372036854775807) (a2:qs.length≤9223372036854775807):raw5 xs t s qs=some (.bool true):=by
 unfold raw5
 by_cases c1:(xs.length:Int) > 1048576
 ·rw [decide_eq_true c1]
  rfl
 rw [decide_eq_false c1,P7 a2 (by omega) (by omega)]
 by_cases c2:(1048576:Int)<qs.length
 ·rw [if_pos c2]
  rfl
 rw [if_neg c2,decide_eq_false (by omega:¬ (1048576:Int) - (qs.length:Int)<0)]
 obtain ⟨t1,t2⟩:=P9 xs (by omega)
 obtain ⟨u1,u2⟩:=P10 qs (by omega)
 have l1:(xs.map cp9).length≤1048576:=by rw [List.length_map];omega
 have l2:(qs.map cp10).length≤1048576:=by rw [List.length_map];omega
 rw [t1,t2,u1,u2]
 generalize xs.map cp9=xs' at *
 generalize qs.map cp10=qs' at *
 obtain ⟨x1,x2,y0⟩:=best_both xs' qs' t s l1 l2
 rw [x1,x2,y0,(P12s xs' l1).1,(P12s xs' l1).2,(P13 qs' qs' l2).1,(P13 qs' qs' l2).2,eqL_self ee2_self qs']
 simp only [decide_true,Bool.not_true,cond_false,cond_true]
theorem law5 {x0 x1 x2 x3:AV} (t0:TA Tryz.prog 22 x0) (t1:TA Tryz.prog 3 x1) (t2:TA Tryz.prog 3 x2) (t3:TA Tryz.prog 23 x3):m5 [x0,x1,x2,x3]=some (true,.bool true):=by
 obtain ⟨xs,rfl,a1,_⟩:=tw_sl (ta_one (ct := .sl [.int .i64]) t0 (by kernel_rfl) (by kernel_rfl))
 obtain ⟨t,rfl,_⟩:=tw_int (ta_one (ct := .int .i64) t1 (by kernel_rfl) (by kernel_rfl))
 obtain ⟨s,rfl,_⟩:=tw_int (ta_one (ct := .int .i64) t2 (by kernel_rfl) (by kernel_rfl))
 obtain ⟨qs,rfl,a2,_⟩:=tw_sl (ta_one (ct := .sl [.int .i64,.int .i64]) t3 (by kernel_rfl) (by kernel_rfl))
 show (raw5 xs t s qs).map (fun r=>(true,r))=_
 rw [raw5_true xs t s qs a1 a2]
 rfl
end Go.Proofs.YtmcnplggcedihaaGreat
