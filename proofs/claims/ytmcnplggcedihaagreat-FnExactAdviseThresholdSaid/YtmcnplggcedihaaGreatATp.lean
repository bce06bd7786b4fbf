import Derived.Test.YtmcnplggcedihaaGreatATm
namespace Go.Proofs.YtmcnplggcedihaaGreat
open Go Go.Proofs.VE
set_option linter.unusedVariables false
set_option linter.unusedSimpArgs false
theorem step8 {vs qs:List AV} {seed:Int} (hl:vs.length≤1048576) (hq:qs.length≤1048576) (h1:v36_0 vs=true) (h2:v28_0 seed 0 10006=true) (h3:v38_0 qs=true) (b l t:Int) (t1:1≤t) (t2:t≤64) :
  ∃ b' l',R8_0 vs seed qs (b,l,t) = .next (b',l',t*2)∧R11_0 vs seed qs (b,l,t) = .next (b',l',t*2):=by
 have hs:v37_0 1 t seed=true:=by
  unfold v37_0
  rw [h2,show v28_0 1 0 2=true from rfl]
  unfold v28_0
  rw [decide_eq_true (by omega:t ≥ 1),decide_eq_true t2]
  rfl
 obtain ⟨vs',rs',ps',cs,W⟩:=rq_both hl hq h1 hs h3
 obtain ⟨s0,s1,s2,s3,s4⟩:=W.spec
 obtain ⟨i0,i1,i2,i3,i4⟩:=W.imp
 have lc:=W.l
 obtain ⟨x1,x2⟩:=P34 cs (by omega)
 have q27:q27 vs qs=true:=by
  unfold q27
  rw [(P36 vs hl).1,(P38 qs hq).1,h1]
  rfl
 have v27:v27_0 vs qs=true:=by
  unfold v27_0
  rw [h1,h3]
  rfl
 have w:IntKind.i64.wrap (t*2)=t*2:=wrap_in (by omega) (by omega)
 show ∃ b' l',F8_0 vs seed qs b l t=_∧F11_0 vs seed qs b l t=_
 unfold F8_0 F11_0
 rw [q27,v27,h2,s0,s4,i0,i4,P30 cs (by omega),x1,x2,decide_eq_true t2,w]
 simp only [cond_true]
 cases decide (b=0) with
 | true=>exact ⟨_,_,rfl,rfl⟩
 | false =>
  cases decide (v30_0 cs<l) with
  | true=>exact ⟨_,_,rfl,rfl⟩
  | false=>exact ⟨_,_,rfl,rfl⟩
theorem run8 {vs qs:List AV} {seed:Int} (hl:vs.length≤1048576) (hq:qs.length≤1048576) (h1:v36_0 vs=true) (h2:v28_0 seed 0 10006=true) (h3:v38_0 qs=true):∀ (n:Nat) (b l t:Int),1≤t→64<t*2 ^ n →
  ∃ p,runW (R8_0 vs seed qs) (n+1) (b,l,t)=some p∧runW (R11_0 vs seed qs) (n+1) (b,l,t)=some p:=by
 intro n
 induction n with
 | zero =>
  intro b l t t1 t2
  refine ⟨b,?_,?_⟩
  ·show (F8_0 vs seed qs b l t).el none _ some=_
   unfold F8_0
   rw [decide_eq_false (by omega:¬ t≤64)]
   rfl
  ·show (F11_0 vs seed qs b l t).el none _ some=_
   unfold F11_0
   rw [decide_eq_false (by omega:¬ t≤64)]
   rfl
 | succ n ih =>
  intro b l t t1 t2
  by_cases c:t≤64
  ·obtain ⟨b',l',e1,e2⟩:=step8 hl hq h1 h2 h3 b l t t1 c
   obtain ⟨p,p1,p2⟩:=ih b' l' (t*2) (by omega) (by rw [Int.mul_assoc,← Int.pow_succ'];exact t2)
   refine ⟨p,?_,?_⟩
   ·show (R8_0 vs seed qs (b,l,t)).el none (fun s=>runW (R8_0 vs seed qs) (n+1) s) some=_
    rw [e1]
    exact p1
   ·show (R11_0 vs seed qs (b,l,t)).el none (fun s=>runW (R11_0 vs seed qs) (n+1) s) some=_
    rw [e2]
    exact p2
  ·refine ⟨b,?_,?_⟩
   ·show (F8_0 vs seed qs b l t).el none _ some=_
    unfold F8_0
    rw [decide_eq_false c]
    rfl
   ·show (F11_0 vs seed qs b l t).el none _ some=_
    unfold F11_0
    rw [decide_eq_false c]
    rfl
theorem adv_both (vs qs:List AV) (seed:Int) (hl:vs.length≤1048576) (hq:qs.length≤1048576):q8 vs seed qs=true∧q11 vs seed qs=true∧v11_0 vs seed qs=v8_0 vs seed qs:=by
 obtain ⟨c0,c1⟩:=P32 vs 1 1 seed qs hl hq
 have hs:v37_0 1 1 seed=v28_0 seed 0 10006:=rfl
 rw [hs] at c1
 have no:(v27_0 vs qs=false∨v27_0 vs qs=true∧v28_0 seed 0 10006=false)→v32_0 vs 1 1 seed qs=false→q8 vs seed qs=true∧q11 vs seed qs=true∧v11_0 vs seed qs=v8_0 vs seed qs:=by
  intro h c
  have q27:q27 vs qs=true:=by
   unfold q27
   rw [(P36 vs hl).1,(P38 qs hq).1]
   cases v36_0 vs <;> rfl
  have e:runW (R8_0 vs seed qs) ((64 - 1+1:Int).toNat+1) (0,0,1)=some 0:=by
   show (F8_0 vs seed qs 0 0 1).el none _ some=_
   unfold F8_0
   rw [q27]
   rcases h with h|⟨h,h'⟩
   ·rw [h]
    rfl
   ·rw [h,h']
    rfl
  unfold q8 v8_0 q11 v11_0
  rw [e,c0,c]
  exact ⟨rfl,rfl,rfl⟩
 cases h1:v36_0 vs with
 | false=>exact no (.inl (by unfold v27_0;rw [h1];rfl)) (by rw [c1,h1];rfl)
 | true =>
  cases h3:v38_0 qs with
  | false=>exact no (.inl (by unfold v27_0;rw [h1,h3];rfl)) (by rw [c1,h1,h3];simp)
  | true =>
   cases h2:v28_0 seed 0 10006 with
   | false=>exact no (.inr ⟨by unfold v27_0;rw [h1,h3];rfl,h2⟩) (by rw [c1,h2];simp)
   | true =>
    obtain ⟨p,p1,p2⟩:=run8 hl hq h1 h2 h3 64 0 0 1 (by omega) (by decide)
    rw [h1,h2,h3] at c1
    have f:(64 - 1+1:Int).toNat+1=64+1:=rfl
    unfold q8 v8_0 q11 v11_0
    rw [f,p1,p2,c0,c1]
    exact ⟨rfl,rfl,rfl⟩
theorem raw3_true (xs:List AV) (s:Int) (qs:List AV) (a1:xs.length≤9223372036854775807) (a2:qs.length≤9223372036854775807):raw3 xs s qs=some (.bool true):=by
 unfold raw3
 by_cases c1:(xs.length:Int) > 1048576
 ·rw [decide_eq_true c1]
  rfl
 rw [decide_eq_false c1,P7 a2 (by omega) (by omega)]
 by_cases c2:(1048576:Int)<qs.length
 ·rw [if_pos c2]
  rfl
 rw [if_neg c2,decide_eq_false (by omega:¬ (1048576:Int) - (qs.length:Int)<0)]
 obtain ⟨t1,t2⟩:=P9 xs (by omega)
 obtain ⟨u1,u2⟩:=P10 qs (by omega)
 have l1:(xs.map cp9).length≤1048576:=by rw [List.length_map];omega
 have l2:(qs.map cp10).length≤1048576:=by rw [List.length_map];omega
 rw [t1,t2,u1,u2]
 generalize xs.map cp9=xs' at *
 generalize qs.map cp10=qs' at *
 obtain ⟨x1,x2,y0⟩:=adv_both xs' qs' s l1 l2
 rw [x1,x2,y0,(P12s xs' l1).1,(P12s xs' l1).2,(P13 qs' qs' l2).1,(P13 qs' qs' l2).2,eqL_self ee2_self qs']
 simp only [decide_true,Bool.not_true,cond_false,cond_true]
theorem law3 {x0 x1 x2:AV} (t0:TA Tryz.prog 22 x0) (t1:TA Tryz.prog 3 x1) (t2:TA Tryz.prog 23 x2):m3 [x0,x1,x2]=some (true,.bool true):=by
 obtain ⟨xs,rfl,a1,_⟩:=tw_sl (ta_one (ct := .sl [.int .i64]) t0 (by kernel_rfl) (by kernel_rfl))
 obtain ⟨s,rfl,_⟩:=tw_int (ta_one (ct := .int .i64) t1 (by kernel_rfl) (by kernel_rfl))
 obtain ⟨qs,rfl,a2,_⟩:=tw_sl (ta_one (ct := .sl [.int .i64,.int .i64]) t2 (by kernel_rfl) (by kernel_rfl))
 show (raw3 xs s qs).map (fun r=>(true,r))=_
 rw [raw3_true xs s qs a1 a2]
 rfl
end Go.Proofs.YtmcnplggcedihaaGreat
