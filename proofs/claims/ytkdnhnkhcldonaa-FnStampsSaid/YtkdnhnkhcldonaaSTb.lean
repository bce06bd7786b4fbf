import Derived.Test.YtkdnhnkhcldonaaSTa
namespace Go.Proofs.Ytkdnhnkhcldonaa
open Go Go.Proofs.VE
set_option linter.unusedVariables false
set_option linter.unusedSimpArgs false
def mk2 (a b:Int):AV:=AV.agg [AV.int .i64 a,AV.int .i64 b]
def N2 (ps:List AV):Prop:=∀ x ∈ ps,mk2 (fI x 0) (fI x 1)=x
theorem N2.at {ps:List AV} (h:N2 ps) {k:Int} (h0:0≤k) (h1:k<ps.length):mk2 (fI (ps.getD k.toNat .undef) 0) (fI (ps.getD k.toNat .undef) 1)=ps.getD k.toNat .undef:=by
 refine h _ ?_
 rw [List.getD_eq_getElem?_getD,List.getElem?_eq_getElem (by omega)]
 exact List.getElem_mem _
theorem N2.map {f:AV→AV} (hf:∀ x,∃ a b,f x=mk2 a b) (xs:List AV):N2 (xs.map f):=fun x hx=>by
 obtain ⟨y,_,rfl⟩:=List.mem_map.1 hx
 obtain ⟨a,b,e⟩:=hf y
 rw [e]
 rfl
theorem take_snoc {xs:List AV} {k:Int} (h0:0≤k) (h1:k<xs.length):xs.take (k+1).toNat=xs.take k.toNat++[xs.getD k.toNat .undef]:=by
 rw [show (k+1).toNat=k.toNat+1 by omega,List.take_add_one,List.getD_eq_getElem?_getD,List.getElem?_eq_getElem (by omega)]
 rfl
def findP (ps:List AV) (v:Int):Option Int:=findF (fun i=>decide (fI (ps.getD i.toNat .undef) 0=v)) ps.length 0
theorem P73 (vs rs ps:List AV) (v:Int) (h:ps.length≤1048576):q73 vs rs ps v=true∧v73_0 vs rs ps v=ro (findP ps v) 0 (pat ps)∧v73_1 vs rs ps v=(findP ps v).isSome:=by
 have hr:runW (R73_0 v vs rs ps) (((ps.length:Int) - 0).toNat+1) 0=some (ro (findP ps v) (.inl ()) fun i => .inr (fI (ps.getD i.toNat .undef) 1)):=by
  refine runW_find (fun i=>i) ps.length _ _ _ (fun i h0 hn=>?_) ?_ ps.length _ 0 (Int.le_refl 0) (by omega) (by omega)
  ·simp only [R73_0,F73_0,h0,hn,decide_true,Bool.and_self,cond_true]
   rw [wrap_in (a:=i+1) (by omega) (by omega)]
  ·simp only [R73_0,F73_0,Int.lt_irrefl,decide_false,cond_false]
 unfold q73 v73_0 v73_1
 rw [hr]
 cases findP ps v <;> exact ⟨rfl,rfl,rfl⟩
theorem findP_none {ps:List AV} {v:Int} (h:(findP ps v).isSome=false):∀ k:Int,0≤k→k<ps.length→el ps k ≠ v:=fun k h0 h1 e=>by
 have:(findP ps v).isNone=true:=by
  cases hf:findP ps v with
  | none=>rfl
  | some j=>rw [hf] at h;cases h
 have:=(findF_isNone _ _).1 this k h0 (by omega)
 exact of_decide_eq_false this e
structure Pc (n:Int) (ps:List AV) (v a b t:Int):Prop where
 t0:0≤t
 t1:t≤ps.length
 lo:∀ k:Int,0≤k→k<t→el ps k<v
 hi:∀ k:Int,t≤k→k<ps.length→v<el ps k
 ea:a=if t=0 then 0 else pat ps (t - 1)
 eb:b=if t=ps.length then n else pat ps t
def place (ps:List AV) (v:Int):Int:=ro (findF (fun i=>decide (fI (ps.getD i.toNat .undef) 0 > v)) ps.length 0) ps.length id
theorem place_spec (ps:List AV) (v:Int):0≤place ps v∧place ps v≤ps.length∧(∀ k:Int,0≤k→k<place ps v→el ps k≤v)∧(place ps v<ps.length→v<el ps (place ps v)):=by
 unfold place
 cases hf:findF (fun i=>decide (fI (ps.getD i.toNat .undef) 0 > v)) ps.length 0 with
 | none =>
  refine ⟨by simp [ro],by simp [ro],fun k h0 h1=>?_,fun h=>?_⟩
  ·have:(findF (fun i=>decide (fI (ps.getD i.toNat .undef) 0 > v)) ps.length 0).isNone=true:=by rw [hf];rfl
   have:=(findF_isNone _ _).1 this k h0 (by simp only [ro] at h1;omega)
   have:=of_decide_eq_false this
   unfold el
   omega
  ·simp only [ro] at h
   omega
 | some j =>
  obtain ⟨h1,h2,h3⟩:=findF_some _ _ hf
  refine ⟨by simpa [ro] using h1,by simp only [ro,id];omega,fun k h0 hk=>?_,fun _=>?_⟩
  ·simp only [ro,id] at hk
   have key:∀ (m:Nat) (i:Int),findF (fun i=>decide (fI (ps.getD i.toNat .undef) 0 > v)) m i=some j→∀ k,i≤k→k<j→¬ fI (ps.getD k.toNat .undef) 0 > v:=by
    intro m
    induction m with
    | zero=>intro i h;cases h
    | succ m ih =>
     intro i h k hk1 hk2
     simp only [findF] at h
     cases hp:decide (fI (ps.getD i.toNat .undef) 0 > v) with
     | true=>rw [hp] at h;simp only [cond_true,Option.some.injEq] at h;omega
     | false =>
      rw [hp] at h
      by_cases e:k=i
      ·subst e;exact of_decide_eq_false hp
      ·exact ih (i+1) h k (by omega) hk2
   have:=key _ _ hf k h0 hk
   unfold el
   omega
  ·simp only [ro,id]
   exact of_decide_eq_true h3
theorem pc_of {vs rs ps:List AV} (h:Col vs rs ps) {v:Int} (hf:(findP ps v).isSome=false):Pc vs.length ps v (if place ps v=0 then 0 else pat ps (place ps v - 1)) (if place ps v=ps.length then (vs.length:Int) else pat ps (place ps v)) (place ps v):=by
 obtain ⟨h0,h1,h2,h3⟩:=place_spec ps v
 refine ⟨h0,h1,fun k k0 k1=>?_,fun k k0 k1=>?_,rfl,rfl⟩
 ·have:=findP_none hf k k0 (by omega)
  have:=h2 k k0 k1
  omega
 ·by_cases e:k=place ps v
  ·rw [e];exact h3 (by omega)
  ·have:=(h.lt (i:=place ps v) (j:=k) h0 (by omega) k1).1
   have:=h3 (by omega)
   omega
theorem P102 {n:Nat} {ps:List AV} {v a b t:Int} (h:Pc n ps v a b t) (hl:ps.length≤1048576):q102 n ps v=true∧v102_0 n ps v=a∧v102_1 n ps v=b:=by
 have ht1:=h.t1
 have ht0:=h.t0
 obtain ⟨r,h1,h2⟩:=runW_ends (f:=R102_0 ps v (n:Int)) (fun s:Int × Int=>0≤s.2∧s.2≤ps.length∧s.1=if min s.2 t=0 then 0 else pat ps (min s.2 t - 1)) (fun r=>r=a) (fun s=>((ps.length:Int) - s.2).toNat) (fun s hs=>by
   obtain ⟨t8,k⟩:=s
   obtain ⟨k0,k1,e⟩:=hs
   simp only at k0 k1 e
   by_cases hk:k<ps.length
   ·have d1:decide (k<(ps.length:Int))=true:=decide_eq_true hk
    have d2:decide (0≤k)=true:=decide_eq_true k0
    have wk:IntKind.i64.wrap (k+1)=k+1:=wrap_in (by omega) (by omega)
    by_cases hkt:k<t
    ·have hv:=h.lo k k0 hkt
     have d3:decide (fI (ps.getD k.toNat .undef) 0≤v)=true:=decide_eq_true (Int.le_of_lt hv)
     refine .inl ⟨(pat ps k,k+1),?_,⟨by simp only;omega,by simp only;omega,?_⟩,by simp only;omega⟩
     ·simp only [R102_0,F102_0,d1,d2,d3,wk,Bool.and_self,cond_true,cond_false]
      rfl
     ·simp only
      rw [Int.min_eq_left (by omega:k+1≤t),if_neg (by omega),show k+1 - 1=k by omega]
    ·have hv:=h.hi k (by omega) hk
     have d3:decide (fI (ps.getD k.toNat .undef) 0≤v)=false:=decide_eq_false (by unfold el at hv;omega)
     refine .inl ⟨(t8,k+1),?_,⟨by simp only;omega,by simp only;omega,?_⟩,by simp only;omega⟩
     ·simp only [R102_0,F102_0,d1,d2,d3,wk,Bool.and_self,cond_true,cond_false]
     ·simp only
      rw [e,Int.min_eq_right (by omega:t≤k+1),Int.min_eq_right (by omega:t≤k)]
   ·have d1:decide (k<(ps.length:Int))=false:=decide_eq_false hk
    refine .inr ⟨t8,?_,?_⟩
    ·simp only [R102_0,F102_0,d1,cond_false]
    ·rw [e,h.ea,Int.min_eq_right (by omega:t≤k)]) (((ps.length:Int) - 0).toNat+1) (0,0) ⟨by simp,by simp,by simp only;rw [Int.min_eq_left ht0];rfl⟩ (by simp)
 subst h2
 obtain ⟨r',h3,h4⟩:=runW_ends (f:=R102_2 ps v r) (fun s:Int × Int => -1≤s.2∧s.2<ps.length∧s.1=if max (s.2+1) t=ps.length then (n:Int) else pat ps (max (s.2+1) t)) (fun r=>r=b) (fun s=>(s.2+1).toNat) (fun s hs=>by
   obtain ⟨t9,k⟩:=s
   obtain ⟨k0,k1,e⟩:=hs
   simp only at k0 k1 e
   by_cases hk:k ≥ 0
   ·have d1:decide (k ≥ 0)=true:=decide_eq_true hk
    have d2:decide (0≤k)=true:=decide_eq_true hk
    have d3:decide (k<(ps.length:Int))=true:=decide_eq_true k1
    have wk:IntKind.i64.wrap (k - 1)=k - 1:=wrap_in (by omega) (by omega)
    by_cases hkt:k<t
    ·have hv:=h.lo k hk hkt
     have d4:decide (fI (ps.getD k.toNat .undef) 0 ≥ v)=false:=decide_eq_false (by unfold el at hv;omega)
     refine .inl ⟨(t9,k - 1),?_,⟨by simp only;omega,by simp only;omega,?_⟩,by simp only;omega⟩
     ·simp only [R102_2,F102_2,d1,d2,d3,d4,wk,Bool.and_self,cond_true,cond_false]
     ·simp only
      rw [e,Int.max_eq_right (by omega:k+1≤t),Int.max_eq_right (by omega:k - 1+1≤t)]
    ·have hv:=h.hi k (by omega) k1
     have d4:decide (fI (ps.getD k.toNat .undef) 0 ≥ v)=true:=decide_eq_true (Int.le_of_lt hv)
     refine .inl ⟨(pat ps k,k - 1),?_,⟨by simp only;omega,by simp only;omega,?_⟩,by simp only;omega⟩
     ·simp only [R102_2,F102_2,d1,d2,d3,d4,wk,Bool.and_self,cond_true,cond_false]
      rfl
     ·simp only
      rw [Int.max_eq_left (by omega:t≤k - 1+1),show k - 1+1=k by omega,if_neg (by omega)]
   ·have d1:decide (k ≥ 0)=false:=decide_eq_false hk
    refine .inr ⟨t9,?_,?_⟩
    ·simp only [R102_2,F102_2,d1,cond_false]
    ·rw [e,h.eb,Int.max_eq_right (by omega:k+1≤t)]) (((((ps.length:Int) - 1)) - 0+1).toNat+1) ((n:Int),(ps.length:Int) - 1) ⟨by simp only;omega,by simp only;omega,by simp only;rw [Int.max_eq_left (by omega:t≤(ps.length:Int) - 1+1),if_pos (by omega)]⟩ (by simp only;omega)
 subst h4
 unfold q102 v102_0 v102_1
 rw [wrap_in (a:=(ps.length:Int) - 1) (by omega) (by omega),h1]
 simp only [ro]
 rw [h3]
 refine ⟨?_,?_,?_⟩ <;> first|rfl|trivial
structure Piece (vs ps:List AV) (v a b:Int):Prop where
 a0:0≤a
 ab:a≤b
 b1:b≤vs.length
 cut:∀ p:Int,0≤p→p<ps.length→pat ps p≤a∨b≤pat ps p
 lo:∀ k:Int,0≤k→k<a→el vs k<v
 hi:∀ k:Int,b≤k→k<vs.length→v≤el vs k
theorem piece_of {vs rs ps:List AV} (h:Col vs rs ps) {v a b t:Int} (hp:Pc vs.length ps v a b t):Piece vs ps v a b:=by
 obtain ⟨t0,t1,lo,hi,ea,eb⟩:=hp
 have fa:0≤a∧a≤vs.length∧∀ k:Int,0≤k→k<a→el vs k<v:=by
  rw [ea]
  split
  ·exact ⟨Int.le_refl 0,by omega,fun k h0 h1=>by omega⟩
  ·have:=h.pa (t - 1) (by omega) (by omega)
   refine ⟨this.1,this.2,fun k k0 k1=>?_⟩
   have h1:=(h.part (t - 1) (by omega) (by omega) k k0 (by omega)).2 k1
   have h2:=lo (t - 1) (by omega) (by omega)
   omega
 have fb:0≤b∧b≤vs.length∧∀ k:Int,b≤k→k<vs.length→v≤el vs k:=by
  rw [eb]
  split
  ·exact ⟨by omega,Int.le_refl _,fun k h0 h1=>by omega⟩
  ·have:=h.pa t (by omega) (by omega)
   refine ⟨this.1,this.2,fun k k0 k1=>?_⟩
   have h1:=h.part t (by omega) (by omega) k (by omega) k1
   have h2:=hi t (Int.le_refl _) (by omega)
   omega
 refine ⟨fa.1,?_,fb.2.1,fun p p0 p1=>?_,fa.2.2,fb.2.2⟩
 ·rw [ea,eb]
  split
  ·split
   ·omega
   ·exact (h.pa t (by omega) (by omega)).1
  ·split
   ·exact (h.pa (t - 1) (by omega) (by omega)).2
   ·exact (h.lt (i:=t - 1) (j:=t) (by omega) (by omega) (by omega)).2
 ·by_cases hpt:p<t
  ·left
   rw [ea,if_neg (by omega)]
   by_cases e:p=t - 1
   ·rw [e];exact Int.le_refl _
   ·exact (h.lt (i:=p) (j:=t - 1) p0 (by omega) (by omega)).2
  ·right
   rw [eb,if_neg (by omega)]
   by_cases e:p=t
   ·rw [e];exact Int.le_refl _
   ·exact (h.lt (i:=t) (j:=p) t0 (by omega) p1).2
end Go.Proofs.Ytkdnhnkhcldonaa
