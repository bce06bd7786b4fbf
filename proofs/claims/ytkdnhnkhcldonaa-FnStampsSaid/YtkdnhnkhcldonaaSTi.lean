import Derived.Test.YtkdnhnkhcldonaaSTg
namespace Go.Proofs.Ytkdnhnkhcldonaa
open Go Go.Proofs.VE
set_option linter.unusedVariables false
set_option linter.unusedSimpArgs false
def ints (xs:List AV):List Int:=xs.map fun x=>fI x 0
theorem ints_len (xs:List AV):(ints xs).length=xs.length:=List.length_map _
theorem ints_el (xs:List AV) (k:Int) (h0:0≤k) (h1:k<xs.length):(ints xs)[k.toNat]?=some (el xs k):=by
 unfold ints el
 rw [List.getElem?_map,List.getD_eq_getElem?_getD,List.getElem?_eq_getElem (by omega)]
 rfl
theorem ints_get (xs:List AV) (k:Nat) (h:k<(ints xs).length):(ints xs)[k]=el xs k:=by
 rw [ints_len] at h
 have:=ints_el xs k (by omega) (by omega)
 rw [show ((k:Int)).toNat=k by omega,List.getElem?_eq_getElem (by rw [ints_len];exact h)] at this
 exact Option.some.inj this
def srt (xs:List AV):List Int:=(ints xs).mergeSort fun x y=>decide (x≤y)
theorem srt_len (xs:List AV):(srt xs).length=xs.length:=by unfold srt;rw [List.length_mergeSort,ints_len]
def asc (xs:List AV) (n:Int):Prop:=∀ a b:Int,0≤a→a<b→b<n→el xs a≤el xs b
theorem srt_pair (xs:List AV):(srt xs).Pairwise fun x y=>decide (x≤y)=true :=
 List.pairwise_mergeSort (le:=fun x y=>decide (x≤y)) (fun a b c h1 h2=>by simp only [decide_eq_true_eq] at *;omega) (fun a b=>by simp only [Bool.or_eq_true,decide_eq_true_eq];omega) _
theorem srt_of {xs ys:List AV} (hp:(ints ys).Perm (ints xs)) (ha:asc ys ys.length):ints ys=srt xs:=by
 refine List.Perm.eq_of_pairwise (le:=fun x y=>decide (x≤y)=true) (fun a b _ _ h1 h2=>by simp only [decide_eq_true_eq] at h1 h2;omega) ?_ (srt_pair xs) (hp.trans (List.mergeSort_perm _ _).symm)
 rw [List.pairwise_iff_getElem]
 intro i j hi hj hij
 rw [ints_len] at hi hj
 rw [ints_get ys i (by rw [ints_len];exact hi),ints_get ys j (by rw [ints_len];exact hj),decide_eq_true_eq]
 exact ha i j (by omega) (by omega) (by omega)
theorem asc_of {xs ys:List AV} (h:ints ys=srt xs):asc ys ys.length:=fun a b a0 ab hb=>by
 have:=srt_pair xs
 rw [← h,List.pairwise_iff_getElem] at this
 have:=this a.toNat b.toNat (by rw [ints_len];omega) (by rw [ints_len];omega) (by omega)
 rw [ints_get,ints_get,decide_eq_true_eq] at this
 rw [show ((a.toNat:Nat):Int)=a by omega,show ((b.toNat:Nat):Int)=b by omega] at this
 exact this
theorem ints_sw (i j:Int) (xs:List AV) (i0:0≤i) (i1:i<xs.length) (j0:0≤j) (j1:j<xs.length):(ints (v103_0 i j xs)).Perm (ints xs):=by
 have e:ints (v103_0 i j xs)=((ints xs).set i.toNat ((ints xs)[j.toNat]'(by rw [ints_len];omega))).set j.toNat ((ints xs)[i.toNat]'(by rw [ints_len];omega)):=by
  rw [ints_get xs j.toNat,ints_get xs i.toNat,show ((i.toNat:Nat):Int)=i by omega,show ((j.toNat:Nat):Int)=j by omega]
  unfold v103_0 ints
  rw [List.map_set,List.map_set]
  rfl
 rw [e]
 exact List.set_set_perm _ _
theorem run110i (t i:Int) (h:List AV) (hn:h.length≤1048576) (i0:0≤i) (i1:i<h.length) (ha:asc h i) :
  ∃ r,runW (R110_2 t) ((i - 0).toNat+1) (i,h)=some r∧r.length=h.length∧(ints r).Perm (ints h)∧asc r (i+1):=by
 refine runW_ends (f:=R110_2 t) (fun s:Int × List AV=>0≤s.1∧s.1≤i∧s.2.length=h.length∧(ints s.2).Perm (ints h)∧∀ a b:Int,0≤a→a<b→b≤i→b ≠ s.1→el s.2 a≤el s.2 b) (fun r=>r.length=h.length∧(ints r).Perm (ints h)∧asc r (i+1)) (fun s=>s.1.toNat) (fun s hI=>?_) _ (i,h)
  ⟨i0,Int.le_refl _,rfl,List.Perm.refl _,fun a b a0 ab bi bn=>ha a b a0 ab (by simp only at bn;omega)⟩ (by simp only;omega)
 obtain ⟨k,x⟩:=s
 obtain ⟨k0,k1,hl,hp,hI⟩:=hI
 simp only at k0 k1 hl hp hI
 by_cases hk:k > 0
 ·have d1:decide (k > 0)=true:=decide_eq_true hk
  have wk:IntKind.i64.wrap (k - 1)=k - 1:=wrap_in (by omega) (by omega)
  have d2:decide (0≤k - 1)=true:=decide_eq_true (by omega)
  have d3:decide (k - 1<(x.length:Int))=true:=decide_eq_true (by omega)
  have d4:decide (0≤k)=true:=decide_eq_true k0
  have d5:decide (k<(x.length:Int))=true:=decide_eq_true (by omega)
  have f1:fI (x.getD (k - 1).toNat AV.undef) 0=el x (k - 1):=rfl
  have f2:fI (x.getD k.toNat AV.undef) 0=el x k:=rfl
  by_cases hs:el x (k - 1) > el x k
  ·have d6:decide (el x (k - 1) > el x k)=true:=decide_eq_true hs
   have q1:=q103_in (k - 1) k x (by omega) (by omega) k0 (by omega)
   have ev:∀ c:Int,0≤c→el (v103_0 (k - 1) k x) c=if c=k then el x (k - 1) else if c=k - 1 then el x k else el x c:=fun c c0=>el_sw x (k - 1) k c (by omega) (by omega) k0 (by omega) c0
   refine .inl ⟨(k - 1,v103_0 (k - 1) k x),?_,⟨by simp only;omega,by simp only;omega,by simp only;rw [sw_len];exact hl,(ints_sw (k - 1) k x (by omega) (by omega) k0 (by omega)).trans hp,fun a b a0 ab bi bn=>?_⟩,by simp only;omega⟩
   ·simp only [R110_2,F110_2,d1,d2,d3,d4,d5,f1,f2,d6,q1,wk,Bool.and_self,cond_true]
   ·simp only at bn ⊢
    rw [ev a a0,ev b (by omega)]
    by_cases e1:b=k
    ·rw [if_pos e1]
     by_cases e2:a=k - 1
     ·rw [if_neg (by omega),if_pos e2];omega
     ·rw [if_neg (by omega),if_neg e2]
      exact hI a (k - 1) a0 (by omega) (by omega) (by omega)
    ·rw [if_neg e1,if_neg bn]
     by_cases e2:a=k
     ·rw [if_pos e2]
      exact hI (k - 1) b (by omega) (by omega) bi e1
     ·rw [if_neg e2]
      by_cases e3:a=k - 1
      ·rw [if_pos e3]
       exact hI k b k0 (by omega) bi e1
      ·rw [if_neg e3]
       exact hI a b a0 ab bi e1
  ·have d6:decide (el x (k - 1) > el x k)=false:=decide_eq_false hs
   refine .inr ⟨x,by simp only [R110_2,F110_2,d1,d2,d3,d4,d5,f1,f2,d6,wk,Bool.and_self,cond_true,cond_false],hl,hp,fun a b a0 ab bi=>?_⟩
   by_cases e1:b=k
   ·subst e1
    by_cases e2:a=b - 1
    ·subst e2;omega
    ·have:=hI a (b - 1) a0 (by omega) (by omega) (by omega)
     omega
   ·exact hI a b a0 ab (by omega) e1
 ·have d1:decide (k > 0)=false:=decide_eq_false hk
  exact .inr ⟨x,by simp only [R110_2,F110_2,d1,cond_false],hl,hp,fun a b a0 ab bi=>hI a b a0 ab (by omega) (by omega)⟩
theorem P110 (xs:List AV) (h:xs.length≤1048576):q110 xs=true∧(v110_0 xs).length=xs.length∧ints (v110_0 xs)=srt xs:=by
 obtain ⟨r,h1,h2,h3,h4⟩:=runW_ends (f:=R110_0) (fun s:Int × List AV=>1≤s.1∧(s.1≤xs.length∨s.1=1)∧s.2.length=xs.length∧(ints s.2).Perm (ints xs)∧asc s.2 s.1) (fun r=>r.length=xs.length∧(ints r).Perm (ints xs)∧asc r xs.length) (fun s=>((xs.length:Int) - s.1).toNat) (fun s hI=>by
   obtain ⟨i,x⟩:=s
   obtain ⟨i0,i1,hl,hp,ha⟩:=hI
   simp only at i0 i1 hl hp ha
   by_cases hi:i<xs.length
   ·have d1:decide (i<(x.length:Int))=true:=decide_eq_true (by omega)
    have wi:IntKind.i64.wrap (i+1)=i+1:=wrap_in (by omega) (by omega)
    obtain ⟨r,k1,k2,k3,k4⟩:=run110i i i x (by omega) (by omega) (by omega) ha
    refine .inl ⟨(i+1,r),?_,⟨by simp only;omega,by simp only;omega,by simp only;omega,k3.trans hp,k4⟩,by simp only;omega⟩
    simp only [R110_0,F110_0,d1,k1,ro,wi,cond_true]
   ·have d1:decide (i<(x.length:Int))=false:=decide_eq_false (by omega)
    exact .inr ⟨x,by simp only [R110_0,F110_0,d1,cond_false],hl,hp,fun a b a0 ab hb=>ha a b a0 ab (by omega)⟩) ((((xs.length:Int) - 1).toNat+1)) (1,xs) ⟨Int.le_refl _,.inr rfl,rfl,List.Perm.refl _,fun a b a0 ab hb=>by simp only at hb;omega⟩ (by simp only;omega)
 unfold q110 v110_0
 simp only [List.length_nil,Nat.zero_add,List.nil_append]
 rw [h1,decide_eq_true (by omega:xs.length*8≤140737488355328),decide_eq_true (by omega:xs.length≤140737488355328)]
 exact ⟨rfl,h2,srt_of h3 (by simp only [ro];rw [h2];exact h4)⟩
theorem el_ints {xs ys:List AV} (h:ints xs=ints ys) (k:Int) (h0:0≤k) (h1:k<xs.length):el xs k=el ys k:=by
 have hl:xs.length=ys.length:=by rw [← ints_len xs,← ints_len ys,h]
 have a:=ints_el xs k h0 h1
 have b:=ints_el ys k h0 (by omega)
 rw [h,b] at a
 exact (Option.some.inj a).symm
theorem srt_in {xs ys:List AV} (h:ints ys=srt xs):(∀ k:Int,0≤k→k<ys.length→∃ j:Int,0≤j∧j<xs.length∧el xs j=el ys k)∧∀ j:Int,0≤j→j<xs.length→∃ k:Int,0≤k∧k<ys.length∧el ys k=el xs j:=by
 have hp:(ints ys).Perm (ints xs):=by rw [h];exact List.mergeSort_perm _ _
 constructor
 ·intro k k0 k1
  have:el ys k ∈ ints ys:=List.mem_of_getElem? (ints_el ys k k0 k1)
  obtain ⟨j,hj,e⟩:=List.getElem_of_mem (hp.mem_iff.1 this)
  rw [ints_get xs j hj] at e
  rw [ints_len] at hj
  exact ⟨j,by omega,by omega,e⟩
 ·intro j j0 j1
  have:el xs j ∈ ints xs:=List.mem_of_getElem? (ints_el xs j j0 j1)
  obtain ⟨k,hk,e⟩:=List.getElem_of_mem (hp.mem_iff.2 this)
  rw [ints_get ys k hk] at e
  rw [ints_len] at hk
  exact ⟨k,by omega,by omega,e⟩
end Go.Proofs.Ytkdnhnkhcldonaa
