import Derived.Test.YtbmfgibbjchijaaGreatP13
namespace Go.Proofs.YtbmfgibbjchijaaGreat
open Go Go.Proofs.VE
set_option linter.unusedVariables false
set_option linter.unusedSimpArgs false
def SM (T zs:List Int):Prop:=T.Pairwise (·<·)∧∀ z,z ∈ T ↔ z ∈ zs
theorem SM.dup {T zs:List Int} {x:Int} (h:SM T zs) (hx:x ∈ zs):SM T (zs++[x]):=by
 refine ⟨h.1,fun z=>?_⟩
 rw [h.2 z,List.mem_append,List.mem_singleton]
 constructor
 ·exact .inl
 ·rintro (h1|rfl)
  ·exact h1
  ·exact hx
theorem SM.new {T zs:List Int} {x:Int} (h:SM T zs) (hx:∀ z ∈ zs,z<x):SM (T++[x]) (zs++[x]):=by
 refine ⟨List.pairwise_append.2 ⟨h.1,List.pairwise_singleton ..,fun a ha b hb=>?_⟩,fun z=>?_⟩
 ·rw [List.mem_singleton] at hb
  subst hb
  exact hx a ((h.2 a).1 ha)
 ·rw [List.mem_append,List.mem_append,h.2 z]
theorem SM.nodup {T:List Int} (h:T.Pairwise (·<·)):T.Nodup:=h.imp fun {a b} hab=>by omega
theorem SM.uniq {T T' zs zs':List Int} (h:SM T zs) (h':SM T' zs') (he:∀ z,z ∈ zs ↔ z ∈ zs'):T=T' :=
 List.Perm.eq_of_pairwise (le:=(·<·)) (fun a b _ _ h1 h2=>by omega) h.1 h'.1 ((List.perm_ext_iff_of_nodup (SM.nodup h.1) (SM.nodup h'.1)).2 fun z=>by rw [h.2,h'.2,he])
theorem ints_next (xs:List AV) (i:Nat) (h:i<xs.length):ints (xs.take (i+1))=ints (xs.take i)++[el xs i]:=by
 unfold ints el
 rw [List.take_succ_eq_append_getElem h,List.map_append,show ((i:Nat):Int).toNat=i by omega,getD_get xs i h]
 rfl
theorem ints_mem {xs:List AV} {z:Int}:z ∈ ints xs ↔ ∃ k:Int,0≤k∧k<xs.length∧el xs k=z:=by
 constructor
 ·intro h
  obtain ⟨k,hk,e⟩:=List.getElem_of_mem h
  rw [ints_get xs k hk] at e
  rw [ints_len] at hk
  exact ⟨k,by omega,by omega,e⟩
 ·rintro ⟨k,k0,k1,rfl⟩
  exact List.mem_of_getElem? (ints_el xs k k0 k1)
theorem ints_mem_take {xs:List AV} {z:Int} {n:Nat} (hn:n≤xs.length):z ∈ ints (xs.take n) ↔ ∃ k:Int,0≤k∧k<n∧el xs k=z:=by
 rw [ints_mem,List.length_take]
 constructor
 ·rintro ⟨k,k0,k1,e⟩
  refine ⟨k,k0,by omega,?_⟩
  rw [← e]
  unfold el
  rw [List.getD_eq_getElem?_getD,List.getD_eq_getElem?_getD,List.getElem?_take_of_lt (by omega)]
 ·rintro ⟨k,k0,k1,e⟩
  refine ⟨k,k0,by omega,?_⟩
  rw [← e]
  unfold el
  rw [List.getD_eq_getElem?_getD,List.getD_eq_getElem?_getD,List.getElem?_take_of_lt (by omega)]
theorem strict_take {xs:List AV} (ha:asc xs xs.length) (n:Nat) (hn:n≤xs.length) (hd:∀ j:Int,1≤j→j<n→el xs j ≠ el xs (j - 1)):(ints (xs.take n)).Pairwise (·<·):=by
 induction n with
 | zero=>exact List.Pairwise.nil
 | succ n ih =>
  rw [ints_next xs n (by omega)]
  refine List.pairwise_append.2 ⟨ih (by omega) fun j j1 j2=>hd j j1 (by omega),List.pairwise_singleton ..,fun a h1 b hb=>?_⟩
  rw [List.mem_singleton] at hb
  subst hb
  obtain ⟨k,k0,k1,rfl⟩:=(ints_mem_take (by omega)).1 h1
  have e1:=hd (n:Int) (by omega) (by omega)
  have e2:=ha ((n:Int) - 1) n (by omega) (by omega) (by omega)
  by_cases e:k=(n:Int) - 1
  ·rw [e];omega
  ·have:=ha k ((n:Int) - 1) k0 (by omega) (by omega)
   omega
theorem run76 (xs:List AV) (k:Int) (h:xs.length≤1048576) (ha:asc xs xs.length) (k1:1≤k) (k2:k<xs.length) (he:el xs k=el xs (k - 1)) (hs:(ints (xs.take k.toNat)).Pairwise (·<·)) :
  ∃ r,runW (R76_2 (Int.toNat k) (Int.toNat (xs.length:Int) - Int.toNat k)) ((((Int.toNat (xs.length:Int) - Int.toNat k:Nat):Int) - 1:Int).toNat+1) (k,1,xs)=some r∧0≤r.1∧r.1≤xs.length∧r.2.length=xs.length∧SM (ints (r.2.take r.1.toNat)) (ints xs):=by
 refine runW_ends (f:=R76_2 (Int.toNat k) (Int.toNat (xs.length:Int) - Int.toNat k)) (fun s:Int × Int × List AV=>k≤s.1∧s.1≤k+s.2.1 - 1∧1≤s.2.1∧k+s.2.1≤xs.length∧s.2.2.length=xs.length∧s.2.2.drop (k+s.2.1 - 1).toNat=xs.drop (k+s.2.1 - 1).toNat∧SM (ints (s.2.2.take s.1.toNat)) (ints (xs.take (k+s.2.1).toNat)))
  (fun r=>0≤r.1∧r.1≤xs.length∧r.2.length=xs.length∧SM (ints (r.2.take r.1.toNat)) (ints xs)) (fun s=>((xs.length:Int) - k - s.2.1).toNat) (fun s hI=>?_) _ (k,1,xs)
  ⟨Int.le_refl _,by simp only;omega,by simp only;omega,by simp only;omega,rfl,rfl,?_⟩ (by simp only;omega)
 ·obtain ⟨t,j,ys⟩:=s
  obtain ⟨t0,t1,j0,j1,hl,hd,hT⟩:=hI
  simp only at t0 t1 j0 j1 hl hd hT
  by_cases hj:k+j<xs.length
  ·have d1:decide (j<((Int.toNat (xs.length:Int) - Int.toNat k:Nat):Int))=true:=decide_eq_true (by omega)
   have d2:decide (0≤j)=true:=decide_eq_true (by omega)
   have wj1:IntKind.i64.wrap (j - 1)=j - 1:=wrap_in (by omega) (by omega)
   have wj:IntKind.i64.wrap (j+1)=j+1:=wrap_in (by omega) (by omega)
   have wt:IntKind.i64.wrap (t+1)=t+1:=wrap_in (by omega) (by omega)
   have d3:decide (Int.toNat k+(Int.toNat (xs.length:Int) - Int.toNat k)≤ys.length)=true:=decide_eq_true (by omega)
   have d4:decide (0≤j - 1)=true:=decide_eq_true (by omega)
   have d5:decide (j - 1<((Int.toNat (xs.length:Int) - Int.toNat k:Nat):Int))=true:=decide_eq_true (by omega)
   have d6:decide (0≤t)=true:=decide_eq_true (by omega)
   have d7:decide (t<(ys.length:Int))=true:=decide_eq_true (by omega)
   have x1:=drop_at hd hl
   have hdn:=drop_next hd
   have x2:=drop_at hdn hl
   rw [show (k+j - 1).toNat+1=(k+j).toNat by omega] at x2 hdn
   have g1:fI (ys.getD (Int.toNat k+Int.toNat j) AV.undef) 0=el xs (k+j):=by
    unfold el;rw [← x2,show Int.toNat k+Int.toNat j=(k+j).toNat by omega]
   have g2:fI (ys.getD (Int.toNat k+Int.toNat (j - 1)) AV.undef) 0=el xs (k+j - 1):=by
    unfold el;rw [← x1,show Int.toNat k+Int.toNat (j - 1)=(k+j - 1).toNat by omega]
   have nx:=ints_next xs (k+j).toNat (by omega)
   rw [show (k+j).toNat+1=(k+(j+1)).toNat by omega,show (((k+j).toNat:Nat):Int)=k+j by omega] at nx
   by_cases hq:el xs (k+j)=el xs (k+j - 1)
   ·have d8:decide (el xs (k+j)=el xs (k+j - 1))=true:=decide_eq_true hq
    refine .inl ⟨(t,j+1,ys),?_,⟨t0,by simp only;omega,by simp only;omega,by simp only;omega,hl,?_,?_⟩,by simp only;omega⟩
    ·simp only [R76_2,F76_2,G76_2,d1,d2,d3,d4,d5,wj1,wj,g1,g2,d8,Bool.and_self,Bool.not_true,cond_true,cond_false]
    ·simp only
     rw [show k+(j+1) - 1=k+j by omega]
     exact hdn
    ·simp only
     rw [nx]
     refine hT.dup ((ints_mem_take (by omega)).2 ⟨k+j - 1,by omega,by omega,hq.symm⟩)
   ·have d8:decide (el xs (k+j)=el xs (k+j - 1))=false:=decide_eq_false hq
    refine .inl ⟨(t+1,j+1,ys.set t.toNat (AV.agg [AV.int .i64 (el xs (k+j))])),?_,⟨by simp only;omega,by simp only;omega,by simp only;omega,by simp only;omega,by simp only;rw [List.length_set];exact hl,?_,?_⟩,by simp only;omega⟩
    ·simp only [R76_2,F76_2,G76_2,d1,d2,d3,d4,d5,d6,d7,wj1,wj,wt,g1,g2,d8,Bool.and_self,Bool.not_false,cond_true]
    ·simp only
     rw [show k+(j+1) - 1=k+j by omega,List.drop_set_of_lt (by omega)]
     exact hdn
    ·simp only
     rw [nx,show (t+1).toNat=t.toNat+1 by omega,take_set_step ys t.toNat _ (by omega)]
     show SM (List.map _ _) _
     rw [List.map_append]
     refine SM.new (x:=el xs (k+j)) hT fun z hz=>?_
     obtain ⟨i,i0,i1,rfl⟩:=(ints_mem_take (by omega)).1 hz
     have e1:=ha (k+j - 1) (k+j) (by omega) (by omega) (by omega)
     by_cases e:i=k+j - 1
     ·rw [e];omega
     ·have:=ha i (k+j - 1) i0 (by omega) (by omega)
      omega
  ·have d1:decide (j<((Int.toNat (xs.length:Int) - Int.toNat k:Nat):Int))=false:=decide_eq_false (by omega)
   refine .inr ⟨(t,ys),by simp only [R76_2,F76_2,G76_2,d1,cond_false],by simp only;omega,by simp only;omega,hl,?_⟩
   simp only
   rw [List.take_of_length_le (by omega:xs.length≤(k+j).toNat)] at hT
   exact hT
 ·simp only
  have nx:=ints_next xs k.toNat (by omega)
  rw [show k.toNat+1=(k+1).toNat by omega,show ((k.toNat:Nat):Int)=k by omega] at nx
  rw [nx]
  refine SM.dup ⟨hs,fun z=>Iff.rfl⟩ ((ints_mem_take (by omega)).2 ⟨k - 1,by omega,by omega,he.symm⟩)
theorem P76 (xs:List AV) (h:xs.length≤1048576) (ha:asc xs xs.length):q76 xs=true∧SM (ints (((v76_2 xs).drop (v76_0 xs)).take (v76_1 xs))) (ints xs):=by
 unfold q76 v76_0 v76_1 v76_2
 by_cases h2:(xs.length:Int)<2
 ·rw [decide_eq_true h2]
  refine ⟨rfl,?_⟩
  show SM (ints ((xs.drop 0).take xs.length)) (ints xs)
  rw [List.drop_zero,List.take_length]
  refine ⟨?_,fun z=>Iff.rfl⟩
  have:=strict_take ha xs.length (Nat.le_refl _) fun j j1 j2=>by omega
  rw [List.take_length] at this
  exact this
 rw [decide_eq_false h2]
 obtain ⟨r,e1,e2⟩:=runW_ends (f:=R76_0 xs) (fun s:Int=>1≤s∧s≤xs.length∧∀ j:Int,1≤j→j<s→el xs j ≠ el xs (j - 1))
  (fun r:Unit ⊕ (Nat × Nat × List AV)=>match r with
   | .inl _=>SM (ints xs) (ints xs)
   | .inr p=>SM (ints ((p.2.2.drop p.1).take p.2.1)) (ints xs)) (fun s=>((xs.length:Int) - s).toNat) (fun s hI=>by
   obtain ⟨s1,s2,hd⟩:=hI
   by_cases hs:s<xs.length
   ·have d1:decide (s<(xs.length:Int))=true:=decide_eq_true hs
    have d2:decide (0≤s)=true:=decide_eq_true (by omega)
    have w1:IntKind.i64.wrap (s - 1)=s - 1:=wrap_in (by omega) (by omega)
    have w2:IntKind.i64.wrap (s+1)=s+1:=wrap_in (by omega) (by omega)
    have d3:decide (0≤s - 1)=true:=decide_eq_true (by omega)
    have d4:decide (s - 1<(xs.length:Int))=true:=decide_eq_true (by omega)
    have g1:fI (xs.getD s.toNat AV.undef) 0=el xs s:=rfl
    have g2:fI (xs.getD (s - 1).toNat AV.undef) 0=el xs (s - 1):=rfl
    by_cases hq:el xs s=el xs (s - 1)
    ·have d5:decide (el xs s=el xs (s - 1))=true:=decide_eq_true hq
     have d6:decide (s≤(xs.length:Int))=true:=decide_eq_true (by omega)
     have d7:decide ((xs.length:Int)≤(xs.length:Int))=true:=decide_eq_true (by omega)
     obtain ⟨r,r1,r2,r3,r4,r5⟩:=run76 xs s h ha s1 hs hq (strict_take ha s.toNat (by omega) fun j j1 j2=>hd j j1 (by omega))
     have d8:decide (0≤r.1)=true:=decide_eq_true r2
     have d9:decide (r.1≤(r.2.length:Int))=true:=decide_eq_true (by omega)
     have d10:decide ((r.2.length:Int)≤(r.2.length:Int))=true:=decide_eq_true (by omega)
     have tl:(r.2.take r.1.toNat).length=r.1.toNat:=by rw [List.length_take];omega
     obtain ⟨H,hH⟩:∃ H,H=List.take (Int.toNat r.1) r.2++List.replicate (Int.toNat (r.2.length:Int) - (Int.toNat r.1)) (AV.int .i64 0)++List.drop ((Int.toNat r.1)+(Int.toNat (r.2.length:Int) - (Int.toNat r.1))) r.2:=⟨_,rfl⟩
     have hHl:r.1≤(H.length:Int):=by
      rw [hH,List.length_append,List.length_append,tl]
      omega
     have d11:decide (r.1≤(H.length:Int))=true:=decide_eq_true hHl
     refine .inr ⟨.inr (Int.toNat 0,Int.toNat r.1 - Int.toNat 0,H),?_,?_⟩
     ·simp only [R76_0,F76_0,G76_0,d1,d2,w1,d3,d4,g1,g2,d5,d6,d7,r1,ro,d8,d9,d10,← hH,d11,Bool.and_self,cond_true]
      rfl
     ·show SM (ints ((H.drop 0).take (r.1.toNat - 0))) (ints xs)
      rw [List.drop_zero,Nat.sub_zero,hH,List.append_assoc,List.take_append_of_le_length (by omega),List.take_of_length_le (by omega)]
      exact r5
    ·have d5:decide (el xs s=el xs (s - 1))=false:=decide_eq_false hq
     refine .inl ⟨s+1,?_,⟨by omega,by omega,fun j j1 j2=>?_⟩,by omega⟩
     ·simp only [R76_0,F76_0,G76_0,d1,d2,w1,w2,d3,d4,g1,g2,d5,Bool.and_self,cond_true,cond_false]
     ·by_cases e:j=s
      ·rw [e];exact hq
      ·exact hd j j1 (by omega)
   ·have d1:decide (s<(xs.length:Int))=false:=decide_eq_false hs
    refine .inr ⟨.inl (),by simp only [R76_0,F76_0,G76_0,d1,cond_false],?_⟩
    refine ⟨?_,fun z=>Iff.rfl⟩
    have:=strict_take ha xs.length (Nat.le_refl _) fun j j1 j2=>hd j j1 (by omega)
    rw [List.take_length] at this
    exact this) (((xs.length:Int) - 1:Int).toNat+1) 1 ⟨Int.le_refl _,by omega,fun j j1 j2=>by omega⟩ (by omega)
 rw [e1]
 refine ⟨?_,?_⟩
 ·cases r <;> rfl
 ·cases r with
  | inl _ =>
   show SM (ints ((xs.drop 0).take xs.length)) (ints xs)
   rw [List.drop_zero,List.take_length]
   exact e2
  | inr p=>exact e2
def sm1 (us:List AV) (x:AV):List AV:=bif hasI us (fI x 0) then [.int .i64 (fI x 1)] else []
def smL (v r us:List AV):List AV:=(els v r).flatMap (sm1 us)
theorem sm1_len (us:List AV) (x:AV):(sm1 us x).length≤1:=by unfold sm1;cases hasI us (fI x 0) <;> simp
theorem smL_len (v r us:List AV):(smL v r us).length≤v.length:=by
 have:=flat_len (g:=sm1 us) (c:=1) (els v r) fun x _=>sm1_len us x
 rw [els_len] at this
 unfold smL
 omega
theorem srt_nil:srt []=[]:=List.eq_nil_of_length_eq_zero (srt_len [])
theorem P26 (v r p v' r' p':List AV) (h1:v.length≤1048576) (h2:r.length≤1048576) (h3:p.length≤1048576) (h4:v'.length≤1048576) (h5:r'.length≤1048576) (h6:p'.length≤1048576) :
  q26 v r p v' r' p'=true∧ints (v26_0 v r p v' r' p')=srt (bif isC v r p && isC v' r' p' then smL v r v' else []):=by
 obtain ⟨a1,a2⟩:=P68 v r p h1 h2 h3
 obtain ⟨a3,a4⟩:=P68 v' r' p' h4 h5 h6
 have key:runW (R26_0 v r p v' r' p') (((v.length:Int) - 0).toNat+1) (0,[])=some (bif isC v r p && isC v' r' p' then smL v r v' else []):=by
  cases hc:isC v r p && isC v' r' p' with
  | false =>
   show (R26_0 v r p v' r' p' (0,[])).el _ _ _=_
   by_cases hn:0<v.length
   ·have d1:decide ((0:Int)<(v.length:Int))=true:=decide_eq_true (by omega)
    simp only [R26_0,F26_0,G26_0,d1,a1,a2,a3,a4,cond_true]
    cases c1:isC v r p
    ·rfl
    ·rw [c1] at hc
     rw [show isC v' r' p'=false from hc]
     rfl
   ·have d1:decide ((0:Int)<(v.length:Int))=false:=decide_eq_false (by omega)
    simp only [R26_0,F26_0,G26_0,d1,cond_false]
    rfl
  | true =>
   rw [Bool.and_eq_true] at hc
   obtain ⟨c1,c2⟩:=hc
   obtain ⟨l1,l2⟩:=isC_len h1 c1
   have k2:=runW_flat (f:=R26_0 v r p v' r' p') (fun i zs=>(i,zs)) id (els v r) (sm1 v') 1 (fun x _=>sm1_len v' x) []
    (fun i zs i0 hi hz=>by
     rw [els_len] at hi
     simp only [List.length_nil,Nat.zero_add,Nat.one_mul] at hz
     have d1:decide (i<(v.length:Int))=true:=decide_eq_true hi
     have d2:decide (0≤i)=true:=decide_eq_true i0
     have d3:decide (i<(r.length:Int))=true:=decide_eq_true (by omega)
     have wi:IntKind.i64.wrap (i+1)=i+1:=wrap_in (by omega) (by omega)
     obtain ⟨b1,b2⟩:=P54 v' (fI (v.getD i.toNat .undef) 0) h4
     rw [els_get v r i i0 hi]
     simp only [R26_0,F26_0,G26_0,d1,d2,d3,a1,a2,a3,a4,c1,c2,b1,b2,wi,Bool.and_self,cond_true,List.length_singleton]
     rw [decide_eq_true (by omega:(zs.length+1)*8≤140737488355328),decide_eq_true (by omega:zs.length+1≤140737488355328)]
     unfold sm1
     rw [avP0]
     show (bif hasI v' (el v i) then _ else _)=_
     cases hasI v' (el v i)
     ·simp
     ·rfl)
    (fun zs=>by rw [els_len];simp only [R26_0,F26_0,G26_0,Int.lt_irrefl,decide_false,cond_false];rfl) v.length (els_len v r).symm
   rw [k2]
   rfl
 have hl:(bif isC v r p && isC v' r' p' then smL v r v' else []).length≤1048576:=by
  have:=smL_len v r v'
  cases isC v r p && isC v' r' p'
  ·exact Nat.zero_le _
  ·rw [cond_true];omega
 unfold q26 v26_0
 rw [key]
 obtain ⟨e1,e2,e3⟩:=P77 _ hl
 exact ⟨e1,e3⟩
theorem asc_pair {xs:List AV} (h:(ints xs).Pairwise (·≤·)):asc xs xs.length:=fun a b a0 ab hb=>by
 rw [List.pairwise_iff_getElem] at h
 have:=h a.toNat b.toNat (by rw [ints_len];omega) (by rw [ints_len];omega) (by omega)
 rw [ints_get,ints_get] at this
 rw [show ((a.toNat:Nat):Int)=a by omega,show ((b.toNat:Nat):Int)=b by omega] at this
 exact this
theorem firsts (w:List AV):ints (w.flatMap fun y=>[AV.int .i64 (fI y 0)])=w.map fun y=>fI y 0:=by
 unfold ints
 induction w with
 | nil=>rfl
 | cons y w ih=>rw [List.flatMap_cons,List.map_append,ih];rfl
theorem sortPL_firsts (J:List AV):((sortPL J).map fun y=>fI y 0).Pairwise (·≤·):=by
 unfold sortPL
 rw [List.map_map,List.pairwise_map]
 refine (List.pairwise_mergeSort (le:=leP) (fun x y z h1 h2=>?_) (fun x y=>?_) _).imp fun {x y} h=>?_
 ·unfold leP at *
  simp only [Bool.or_eq_true,Bool.and_eq_true,decide_eq_true_eq] at *
  omega
 ·unfold leP
  simp only [Bool.or_eq_true,Bool.and_eq_true,decide_eq_true_eq]
  omega
 ·show x.1≤y.1
  unfold leP at h
  simp only [Bool.or_eq_true,Bool.and_eq_true,decide_eq_true_eq] at h
  omega
theorem sortPL_mem (J:List AV) (z:Int):(z ∈ (sortPL J).map fun y=>fI y 0) ↔ ∃ y ∈ J,fI y 0=z:=by
 unfold sortPL
 rw [List.map_map,List.mem_map]
 constructor
 ·rintro ⟨x,hx,rfl⟩
  have:=(List.mergeSort_perm _ _).mem_iff.1 hx
  obtain ⟨y,hy,rfl⟩:=List.mem_map.1 this
  exact ⟨y,hy,rfl⟩
 ·rintro ⟨y,hy,rfl⟩
  exact ⟨(fI y 0,fI y 1),(List.mergeSort_perm _ _).mem_iff.2 (List.mem_map.2 ⟨y,hy,rfl⟩),rfl⟩
theorem els_mem {v r:List AV} {x:AV}:x ∈ els v r ↔ ∃ k:Int,0≤k∧k<v.length∧x=avP (el v k,el r k):=by
 unfold els
 rw [List.mem_map]
 constructor
 ·rintro ⟨k,hk,rfl⟩
  rw [List.mem_range] at hk
  exact ⟨k,by omega,by omega,rfl⟩
 ·rintro ⟨k,k0,k1,rfl⟩
  refine ⟨k.toNat,List.mem_range.2 (by omega),?_⟩
  rw [show ((k.toNat:Nat):Int)=k by omega]
theorem jns_mem {A B:List AV} {z:Int}:(∃ y ∈ jns A B,fI y 0=z) ↔ ∃ x ∈ A,fI x 1=z∧∃ y ∈ B,fI x 0=fI y 0:=by
 unfold jns jn
 constructor
 ·rintro ⟨u,hu,rfl⟩
  obtain ⟨x,hx,hu⟩:=List.mem_flatMap.1 hu
  obtain ⟨y,hy,hu⟩:=List.mem_flatMap.1 hu
  unfold jn1 at hu
  by_cases e:fI x 0=fI y 0
  ·rw [decide_eq_true e,cond_true,List.mem_singleton] at hu
   subst hu
   exact ⟨x,hx,rfl,y,hy,e⟩
  ·rw [decide_eq_false e] at hu
   cases hu
 ·rintro ⟨x,hx,rfl,y,hy,e⟩
  refine ⟨avP (fI x 1,fI y 1),List.mem_flatMap.2 ⟨x,hx,List.mem_flatMap.2 ⟨y,hy,?_⟩⟩,rfl⟩
  unfold jn1
  rw [decide_eq_true e]
  exact List.mem_singleton.2 rfl
theorem smL_mem {v r v':List AV} {z:Int}:z ∈ ints (smL v r v') ↔ ∃ x ∈ els v r,fI x 1=z∧hasI v' (fI x 0)=true:=by
 unfold ints smL
 rw [List.map_flatMap]
 constructor
 ·intro h
  obtain ⟨x,hx,hu⟩:=List.mem_flatMap.1 h
  unfold sm1 at hu
  cases hh:hasI v' (fI x 0) with
  | false=>rw [hh] at hu;cases hu
  | true =>
   rw [hh] at hu
   have:z=fI x 1:=List.mem_singleton.1 hu
   exact ⟨x,hx,this.symm,hh⟩
 ·rintro ⟨x,hx,rfl,hh⟩
  refine List.mem_flatMap.2 ⟨x,hx,?_⟩
  unfold sm1
  rw [hh]
  exact List.mem_singleton.2 rfl
theorem meets_mem {v r v' r':List AV} {z:Int}:(∃ y ∈ jns (els v r) (els v' r'),fI y 0=z) ↔ z ∈ ints (smL v r v'):=by
 rw [jns_mem,smL_mem]
 refine exists_congr fun x=>and_congr_right fun _=>and_congr_right fun _=>?_
 rw [hasI_iff]
 constructor
 ·rintro ⟨y,hy,e⟩
  obtain ⟨k,k0,k1,rfl⟩:=els_mem.1 hy
  exact ⟨k,k0,k1,e.symm⟩
 ·rintro ⟨k,k0,k1,e⟩
  exact ⟨_,els_mem.2 ⟨k,k0,k1,rfl⟩,e.symm⟩
theorem smL_nodup {v r p:List AV} (hc:Col v r p) (v':List AV):(ints (smL v r v')).Nodup:=by
 have hl:=hc.len
 unfold ints smL els
 rw [List.map_flatMap,List.flatMap_map]
 refine List.pairwise_flatMap.2 ⟨fun k _=>?_,?_⟩
 ·unfold sm1
  cases hasI v' (fI (avP (el v k,el r k)) 0)
  ·exact List.Pairwise.nil
  ·exact List.pairwise_singleton ..
 ·refine List.pairwise_lt_range.imp_of_mem fun {i j} _ hj h x hx y hy e=>?_
  rw [List.mem_range] at hj
  have f1:∀ (k:Nat) (x:Int),x ∈ (sm1 v' (avP (el v k,el r k))).map (fun x=>fI x 0)→x=el r k:=fun k x hx=>by
   unfold sm1 at hx
   cases hh:hasI v' (fI (avP (el v k,el r k)) 0) with
   | false=>rw [hh] at hx;cases hx
   | true=>rw [hh] at hx;exact List.mem_singleton.1 hx
  have e1:=f1 i x hx
  have e2:=f1 j y hy
  exact hc.dist i j (by omega) (by omega) (by omega) (by rw [← e1,← e2,e])
theorem srt_SM {v r p:List AV} (hc:Col v r p) (v':List AV):SM (srt (smL v r v')) (ints (smL v r v')):=by
 have hp:(srt (smL v r v')).Perm (ints (smL v r v')):=List.mergeSort_perm _ _
 refine ⟨?_,fun z=>hp.mem_iff⟩
 have hn:(srt (smL v r v')).Nodup:=hp.nodup_iff.2 (smL_nodup hc v')
 refine ((srt_pair (smL v r v')).and hn).imp fun {a b} h=>?_
 have:=of_decide_eq_true h.1
 have:=h.2
 omega
theorem P23 (v r p v' r' p':List AV) (h1:v.length≤1048576) (h2:r.length≤1048576) (h3:p.length≤1048576) (h4:v'.length≤1048576) (h5:r'.length≤1048576) (h6:p'.length≤1048576) :
  q23 v r p v' r' p'=true∧ints (v23_0 v r p v' r' p')=ints (v26_0 v r p v' r' p'):=by
 obtain ⟨a1,a2⟩:=P22 v r p v' r' p' (-1000) 1000 h1 h2 h3 h4 h5 h6
 obtain ⟨w,hw⟩:∃ w,w=v22_0 v r p v' r' p' (-1000) 1000:=⟨_,rfl⟩
 have hlen:w.length≤4096:=by
  rw [hw,a2]
  cases hc:isC v r p && isC v' r' p' with
  | false=>exact Nat.zero_le _
  | true =>
   rw [Bool.and_eq_true] at hc
   obtain ⟨l1,_⟩:=isC_len h1 hc.1
   obtain ⟨l3,_⟩:=isC_len h4 hc.2
   rw [cond_true,sortPL_len]
   unfold scanJ
   refine Nat.le_trans (jns_len _ _) ?_
   have f1:((els v r).filter (keepR (-1000) 1000)).length≤64:=Nat.le_trans (List.length_filter_le ..) (by rw [els_len];exact l1)
   have f2:((els v' r').filter (keepR (-1000) 1000)).length≤64:=Nat.le_trans (List.length_filter_le ..) (by rw [els_len];exact l3)
   exact Nat.le_trans (Nat.mul_le_mul f2 f1) (by omega)
 have key:=runW_flat (f:=R23_0 w.length w) (fun i zs=>(i,zs)) id w (fun y=>[AV.int .i64 (fI y 0)]) 1 (fun _ _=>Nat.le_refl _) []
  (fun i zs i0 hi hz=>by
   simp only [List.length_nil,Nat.zero_add,Nat.one_mul] at hz
   have d1:decide (i<(w.length:Int))=true:=decide_eq_true hi
   have d2:decide (0≤i)=true:=decide_eq_true i0
   have wi:IntKind.i64.wrap (i+1)=i+1:=wrap_in (by omega) (by omega)
   simp only [R23_0,F23_0,G23_0,d1,d2,wi,Bool.and_self,cond_true,List.length_singleton]
   rw [decide_eq_true (by omega:(zs.length+1)*8≤140737488355328),decide_eq_true (by omega:zs.length+1≤140737488355328)]
   rfl)
  (fun zs=>by simp only [R23_0,F23_0,G23_0,Int.lt_irrefl,decide_false,cond_false];rfl) w.length rfl
 obtain ⟨L,hL⟩:∃ L,L=w.flatMap fun y=>[AV.int .i64 (fI y 0)]:=⟨_,rfl⟩
 have hiL:ints L=w.map fun y=>fI y 0:=by rw [hL];exact firsts w
 have hLl:L.length≤1048576:=by
  have:=flat_len (g:=fun y=>[AV.int .i64 (fI y 0)]) (c:=1) w fun _ _=>Nat.le_refl _
  rw [hL]
  omega
 have hpw:(w.map fun y=>fI y 0).Pairwise (·≤·):=by
  rw [hw,a2]
  cases isC v r p && isC v' r' p'
  ·exact List.Pairwise.nil
  ·exact sortPL_firsts _
 have hasc:asc L L.length:=asc_pair (by rw [hiL];exact hpw)
 obtain ⟨b1,b2⟩:=P76 L hLl hasc
 have e0:q23 v r p v' r' p'=q76 L∧v23_0 v r p v' r' p'=((v76_2 L).drop (v76_0 L)).take (v76_1 L):=by
  unfold q23 v23_0
  rw [a1,← hw,key,← hL]
  exact ⟨rfl,rfl⟩
 rw [e0.1,e0.2]
 refine ⟨b1,?_⟩
 rw [(P26 v r p v' r' p' h1 h2 h3 h4 h5 h6).2]
 rw [hiL,hw,a2] at b2
 cases hc:isC v r p && isC v' r' p' with
 | false =>
  rw [hc] at b2
  rw [cond_false,srt_nil]
  exact SM.uniq b2 (T':=[]) (zs':=[]) ⟨List.Pairwise.nil,fun z=>Iff.rfl⟩ fun z=>Iff.rfl
 | true =>
  rw [hc] at b2
  rw [Bool.and_eq_true] at hc
  have c1:=(isC_iff v r p h1).1 hc.1
  have c2:=(isC_iff v' r' p' h4).1 hc.2
  refine SM.uniq b2 (srt_SM c1 v') fun z=>?_
  rw [cond_true,sortPL_mem]
  unfold scanJ
  rw [keep_all c1,keep_all c2]
  exact meets_mem
theorem eqL_ints {xs ys:List AV} (h:ints xs=ints ys):eqL ee1 xs ys=true:=by
 have hl:xs.length=ys.length:=by rw [← ints_len xs,← ints_len ys,h]
 unfold eqL
 rw [findF_none _ _ fun j j0 j1=>by
  have:=el_ints h j j0 (by omega)
  unfold el at this
  unfold ee1
  rw [this,decide_eq_true rfl]
  rfl,hl]
 simp
end Go.Proofs.YtbmfgibbjchijaaGreat

namespace Go.Proofs.YtbmfgibbjchijaaGreat
open Go Go.Proofs.VE
set_option linter.unusedVariables false
set_option linter.unusedSimpArgs false
def prt (xs:List AV) (f t:Int):List AV:=(xs.take (Int.toNat t)).drop (Int.toNat f)
theorem prt_len {xs:List AV} {f t:Int} (f0:0≤f) (ft:f≤t) (tn:t≤xs.length):(prt xs f t).length=(t - f).toNat:=by
 unfold prt
 rw [List.length_drop,List.length_take]
 omega
theorem el_prt {xs:List AV} {f t k:Int} (f0:0≤f) (k0:0≤k) (k1:f+k<t):el (prt xs f t) k=el xs (f+k):=by
 unfold el prt
 rw [getD_cut xs _ _ _ (by omega),show Int.toNat f+k.toNat=(f+k).toNat by omega]
theorem col_prt {V R P:List AV} (h:Col V R P) {f t:Int} (f0:0≤f) (ft:f≤t) (tn:t≤V.length):Col (prt V f t) (prt R f t) []:=by
 have hl:=h.len
 have e1:=prt_len (xs:=V) f0 ft tn
 have e2:=prt_len (xs:=R) f0 ft (by omega)
 have n:=h.n64
 have no:∀ i:Int,0≤i→i<(([]:List AV).length:Int)→False:=fun i i0 i1=>by
  rw [List.length_nil] at i1
  omega
 refine ⟨by omega,fun k k0 k1=>?_,by omega,fun k k0 k1=>?_,fun j k j0 jk k1=>?_,fun i i0 i1=>(no i i0 i1).elim,fun i i0 i1=>(no i i0 i1).elim,fun i i0 i1=>(no i (by omega) i1).elim,fun i i0 i1=>(no i i0 i1).elim⟩
 ·rw [el_prt f0 k0 (by omega)]
  exact h.vals _ (by omega) (by omega)
 ·rw [el_prt f0 k0 (by omega)]
  exact h.rows _ (by omega) (by omega)
 ·rw [el_prt f0 j0 (by omega),el_prt f0 (by omega) (by omega)]
  exact h.dist _ _ (by omega) (by omega) (by omega)
theorem elemsG (vs rs ps:List AV) (i j:Int) (i0:0≤i) (ij:i≤j) (jn:j≤vs.length) (h:vs.length≤1048576) (hl:rs.length=vs.length):q67 vs rs ps i j=true∧v67_0 vs rs ps i j=els (prt vs i j) (prt rs i j):=by
 have e1:=prt_len (xs:=vs) i0 ij jn
 have key:=runW_flat (f:=R67_0 j vs rs ps) (fun k zs=>(i+k,zs)) id (els (prt vs i j) (prt rs i j)) (fun x=>[x]) 1 (fun _ _=>Nat.le_refl _) []
  (fun k zs k0 hn hz=>by
   rw [els_len,e1] at hn
   simp only [List.length_nil,Nat.zero_add,Nat.one_mul] at hz
   have d1:decide (i+k<j)=true:=decide_eq_true (by omega)
   have d2:decide (0≤i+k)=true:=decide_eq_true (by omega)
   have d3:decide (i+k<(vs.length:Int))=true:=decide_eq_true (by omega)
   have d4:decide (i+k<(rs.length:Int))=true:=decide_eq_true (by omega)
   rw [els_get _ _ k k0 (by rw [e1];omega),el_prt i0 k0 (by omega),el_prt i0 k0 (by omega)]
   simp only [R67_0,F67_0,G67_0,d1,d2,d3,d4,Bool.and_self,cond_true,List.length_singleton]
   rw [decide_eq_true (by omega:(zs.length+1)*16≤140737488355328),decide_eq_true (by omega:zs.length+1≤140737488355328),wrap_in (a:=i+k+1) (by omega) (by omega),Int.add_assoc]
   rfl)
  (fun zs=>by
   have d1:decide (i+((els (prt vs i j) (prt rs i j)).length:Int)<j)=false:=decide_eq_false (by rw [els_len,e1];omega)
   simp only [R67_0,F67_0,G67_0,d1,cond_false]
   rfl) (j - i).toNat (by rw [els_len,e1])
 simp only [Int.add_zero] at key
 rw [show ((((j - i).toNat:Nat):Int) - 0).toNat=(j - i).toNat by omega] at key
 unfold q67 v67_0
 rw [key]
 refine ⟨rfl,?_⟩
 show []++_=_
 rw [List.nil_append]
 simp
theorem els_nodup {vs rs ps:List AV} (h:Col vs rs ps):(els vs rs).Nodup:=by
 have hl:=h.len
 unfold els List.Nodup
 rw [List.pairwise_map]
 refine List.Pairwise.imp_of_mem (fun {i j} hi hj hij e=>?_) List.pairwise_lt_range
 rw [List.mem_range] at hi hj
 have:=congrArg (fun x=>fI x 1) e
 exact h.dist (i:Int) (j:Int) (by omega) (by omega) (by omega) this
theorem Sel.box {vs rs ps:List AV} {a b:Int} {V R P:List AV} {f t:Int} (h:Sel vs rs ps a b V R P f t) (ab:a≤b):0≤f∧f≤t∧t≤V.length∧∀ j:Int,0≤j→j<V.length→((f≤j∧j<t) ↔ (a≤el V j∧el V j<b)):=by
 obtain ⟨c1,c2,c3,c4,c5,c6,c7⟩:=h
 have hl:=c1.len
 obtain ⟨q,q0,q1,q2,q3⟩:=key_of c4
 obtain ⟨p,p0,p1,p2,p3⟩:=key_of c5
 rw [q3] at c6
 rw [p3] at c7
 obtain ⟨z0,z1⟩:=c1.pa q q0 q1
 obtain ⟨z2,z3⟩:=c1.pa p p0 p1
 have qp:pat P q≤pat P p:=by
  rcases Int.lt_trichotomy q p with c|c|c
  ·exact (c1.lt q0 c p1).2
  ·rw [c]
   exact Int.le_refl _
  ·have:=(c1.lt p0 c q1).1
   omega
 refine ⟨by omega,by omega,by omega,fun j j0 j1=>?_⟩
 have y1:=c1.part q q0 q1 j j0 j1
 have y2:=c1.part p p0 p1 j j0 j1
 rw [q2] at y1
 rw [p2] at y2
 rw [c6,c7]
 constructor
 ·rintro ⟨g1,g2⟩
  refine ⟨?_,y2.2 g2⟩
  rcases Int.lt_or_le (el V j) a with g|g
  ·have:=y1.1 g
   omega
  ·exact g
 ·rintro ⟨g1,g2⟩
  refine ⟨?_,y2.1 g2⟩
  rcases Int.lt_or_le j (pat P q) with g|g
  ·have:=y1.2 g
   omega
  ·exact g
theorem keepR_in {a b:Int} (hr:v45_0 a b=true) (x:AV):keepR a b x=(decide (a≤fI x 0) && decide (fI x 0<b)):=by
 unfold keepR v86_0
 rw [hr]
 cases decide (a≤fI x 0) <;> rfl
theorem part_perm {vs rs ps:List AV} {a b:Int} {V R P:List AV} {f t:Int} (h0:Col vs rs ps) (h:Sel vs rs ps a b V R P f t) (hr:v45_0 a b=true) (ab:a≤b):(els (prt V f t) (prt R f t)).Perm ((els vs rs).filter (keepR a b)):=by
 obtain ⟨b0,b1,b2,b3⟩:=h.box ab
 have e1:=prt_len (xs:=V) b0 b1 b2
 refine (List.perm_ext_iff_of_nodup (els_nodup (col_prt h.col b0 b1 b2)) (List.Pairwise.filter _ (els_nodup h0))).2 fun x=>?_
 rw [List.mem_filter,els_mem,els_mem]
 constructor
 ·rintro ⟨k,k0,k1,rfl⟩
  rw [e1] at k1
  rw [el_prt b0 k0 (by omega),el_prt b0 k0 (by omega)]
  obtain ⟨j,j0,j1,j2,j3⟩:=(h.pr _ _).1 ⟨f+k,by omega,by omega,rfl,rfl⟩
  have:=(b3 (f+k) (by omega) (by omega)).1 ⟨by omega,by omega⟩
  refine ⟨⟨j,j0,j1,by rw [j2,j3]⟩,?_⟩
  rw [keepR_in hr,avP0,decide_eq_true this.1,decide_eq_true this.2]
  rfl
 ·rintro ⟨⟨k,k0,k1,rfl⟩,hk⟩
  rw [keepR_in hr,avP0,Bool.and_eq_true,decide_eq_true_eq,decide_eq_true_eq] at hk
  obtain ⟨j,j0,j1,j2,j3⟩:=(h.pr _ _).2 ⟨k,k0,k1,rfl,rfl⟩
  have:=(b3 j j0 j1).2 (by rw [j2];exact hk)
  refine ⟨j - f,by omega,by rw [e1];omega,?_⟩
  rw [el_prt b0 (by omega) (by omega),el_prt b0 (by omega) (by omega),show f+(j - f)=j by omega,j2,j3]
theorem jns_perm {A A' B B':List AV} (h:A.Perm A') (h':B.Perm B'):(jns A B).Perm (jns A' B'):=(h.flatMap_right _).trans (flat_perm _ fun x _=>h'.flatMap_right _)
theorem sortPL_perm {J J':List AV} (h:J.Perm J'):sortPL J=sortPL J':=by
 unfold sortPL
 refine congrArg (List.map avP) ?_
 exact List.Perm.eq_of_pairwise (le:=fun x y=>leP x y=true) (fun x y _ _=>leP_anti x y) (List.pairwise_mergeSort leP_trans leP_total _) (List.pairwise_mergeSort leP_trans leP_total _)
  ((List.mergeSort_perm _ _).trans ((h.map _).trans (List.mergeSort_perm _ _).symm))
theorem part_keep {vs rs ps:List AV} {a b:Int} {V R P:List AV} {f t:Int} (h:Sel vs rs ps a b V R P f t) (hr:v45_0 a b=true) (ab:a≤b):(els (prt V f t) (prt R f t)).filter (keepR a b)=els (prt V f t) (prt R f t):=by
 obtain ⟨b0,b1,b2,b3⟩:=h.box ab
 have e1:=prt_len (xs:=V) b0 b1 b2
 refine List.filter_eq_self.2 fun x hx=>?_
 obtain ⟨k,k0,k1,rfl⟩:=els_mem.1 hx
 rw [e1] at k1
 have:=(b3 (f+k) (by omega) (by omega)).1 ⟨by omega,by omega⟩
 rw [keepR_in hr,avP0,el_prt b0 k0 (by omega),decide_eq_true this.1,decide_eq_true this.2]
 rfl
theorem jn1_sym (x y:AV):(jn1 x y).length=(jn1 y x).length:=by
 unfold jn1
 rw [show decide (fI x 0=fI y 0)=decide (fI y 0=fI x 0) from decide_eq_decide.2 ⟨Eq.symm,Eq.symm⟩]
 cases decide (fI y 0=fI x 0) <;> rfl
theorem jns_cons (x:AV) (A:List AV):∀ B:List AV,(jns B (x :: A)).length=(jn x B).length+(jns B A).length
 | []=>rfl
 | y :: B=>by
  have ih:=jns_cons x A B
  unfold jns jn at *
  rw [List.flatMap_cons,List.flatMap_cons,List.flatMap_cons,List.flatMap_cons,List.length_append,List.length_append,List.length_append,List.length_append,ih,jn1_sym x y]
  omega
theorem jns_nil:∀ B:List AV,jns B []=[]
 | []=>rfl
 | y :: B=>by
  have ih:=jns_nil B
  unfold jns at *
  rw [List.flatMap_cons,ih]
  rfl
theorem jns_sym (B:List AV):∀ A:List AV,(jns A B).length=(jns B A).length
 | []=>by rw [jns_nil];rfl
 | x :: A=>by
  have ih:=jns_sym B A
  rw [jns_cons,← ih]
  show ((x :: A).flatMap _).length=_
  rw [List.flatMap_cons,List.length_append]
  rfl
end Go.Proofs.YtbmfgibbjchijaaGreat

namespace Go.Proofs.YtbmfgibbjchijaaGreat
open Go Go.Proofs.VE
set_option linter.unusedVariables false
set_option linter.unusedSimpArgs false
theorem g93 {b0_0:List AV} {b0_1:Int} {b0_2:Int} {b1:List AV} {x0:Int} {x1:List AV} {x2:Int} {x3:Int} {x4:List AV} (h:W93 b0_0 b0_1 b0_2 b1=some (x0,x1,x2,x3,x4)):q93 b0_0 b0_1 b0_2 b1=true∧v93_0 b0_0 b0_1 b0_2 b1=x0∧v93_1 b0_0 b0_1 b0_2 b1=x1∧v93_2 b0_0 b0_1 b0_2 b1=x2∧v93_3 b0_0 b0_1 b0_2 b1=x3∧v93_4 b0_0 b0_1 b0_2 b1=x4:=by
 unfold q93 v93_0 v93_1 v93_2 v93_3 v93_4
 rw [h]
 exact ⟨rfl,rfl,rfl,rfl,rfl,rfl⟩
theorem g123 {a1:Int} {b0_0:List AV} {b0_1:Int} {b0_2:Int} {x0:List AV} {x1:List AV} {x2:Int} {x3:Int} (h:W123 a1 b0_0 b0_1 b0_2=some (x0,x1,x2,x3)):q123 a1 b0_0 b0_1 b0_2=true∧v123_0 a1 b0_0 b0_1 b0_2=x0∧v123_1 a1 b0_0 b0_1 b0_2=x1∧v123_2 a1 b0_0 b0_1 b0_2=x2∧v123_3 a1 b0_0 b0_1 b0_2=x3:=by
 unfold q123 v123_0 v123_1 v123_2 v123_3
 rw [h]
 exact ⟨rfl,rfl,rfl,rfl,rfl⟩
theorem g97 {a1:Int} {b0_0:List AV} {b0_1:Int} {b0_2:Int} {x0:Bool} {x1:List AV} {x2:Int} {x3:Int} (h:W97 a1 b0_0 b0_1 b0_2=some (x0,x1,x2,x3)):q97 a1 b0_0 b0_1 b0_2=true∧v97_0 a1 b0_0 b0_1 b0_2=x0∧v97_1 a1 b0_0 b0_1 b0_2=x1∧v97_2 a1 b0_0 b0_1 b0_2=x2∧v97_3 a1 b0_0 b0_1 b0_2=x3:=by
 unfold q97 v97_0 v97_1 v97_2 v97_3
 rw [h]
 exact ⟨rfl,rfl,rfl,rfl,rfl⟩
theorem g96 {b0_0:List AV} {b0_1:Int} {b0_2:Int} {b1:List AV} {b2:List AV} {b3:List AV} {x0:Int} {x1:List AV} {x2:Int} {x3:Int} {x4:List AV} {x5:List AV} {x6:List AV} (h:W96 b0_0 b0_1 b0_2 b1 b2 b3=some (x0,x1,x2,x3,x4,x5,x6)):q96 b0_0 b0_1 b0_2 b1 b2 b3=true∧v96_0 b0_0 b0_1 b0_2 b1 b2 b3=x0∧v96_1 b0_0 b0_1 b0_2 b1 b2 b3=x1∧v96_2 b0_0 b0_1 b0_2 b1 b2 b3=x2∧v96_3 b0_0 b0_1 b0_2 b1 b2 b3=x3∧v96_4 b0_0 b0_1 b0_2 b1 b2 b3=x4∧v96_5 b0_0 b0_1 b0_2 b1 b2 b3=x5∧v96_6 b0_0 b0_1 b0_2 b1 b2 b3=x6:=by
 unfold q96 v96_0 v96_1 v96_2 v96_3 v96_4 v96_5 v96_6
 rw [h]
 exact ⟨rfl,rfl,rfl,rfl,rfl,rfl,rfl,rfl⟩
theorem g138 {b0_0:List AV} {b0_1:Int} {b0_2:Int} {x0:List AV} {x1:List AV} {x2:List AV} {x3:List AV} {x4:Int} {x5:Int} (h:W138 b0_0 b0_1 b0_2=some (x0,x1,x2,x3,x4,x5)):q138 b0_0 b0_1 b0_2=true∧v138_0 b0_0 b0_1 b0_2=x0∧v138_1 b0_0 b0_1 b0_2=x1∧v138_2 b0_0 b0_1 b0_2=x2∧v138_3 b0_0 b0_1 b0_2=x3∧v138_4 b0_0 b0_1 b0_2=x4∧v138_5 b0_0 b0_1 b0_2=x5:=by
 unfold q138 v138_0 v138_1 v138_2 v138_3 v138_4 v138_5
 rw [h]
 exact ⟨rfl,rfl,rfl,rfl,rfl,rfl,rfl⟩
theorem g94 {b0_0:List AV} {b0_1:Int} {b0_2:Int} {x0:List AV} {x1:List AV} {x2:List AV} {x3:List AV} {x4:Int} {x5:Int} (h:W94 b0_0 b0_1 b0_2=some (x0,x1,x2,x3,x4,x5)):q94 b0_0 b0_1 b0_2=true∧v94_0 b0_0 b0_1 b0_2=x0∧v94_1 b0_0 b0_1 b0_2=x1∧v94_2 b0_0 b0_1 b0_2=x2∧v94_3 b0_0 b0_1 b0_2=x3∧v94_4 b0_0 b0_1 b0_2=x4∧v94_5 b0_0 b0_1 b0_2=x5:=by
 unfold q94 v94_0 v94_1 v94_2 v94_3 v94_4 v94_5
 rw [h]
 exact ⟨rfl,rfl,rfl,rfl,rfl,rfl,rfl⟩
theorem g139 {b0_0:List AV} {b0_1:Int} {b0_2:Int} {x0:Int} {x1:Int} {x2:List AV} {x3:Int} {x4:Int} (h:W139 b0_0 b0_1 b0_2=some (x0,x1,x2,x3,x4)):q139 b0_0 b0_1 b0_2=true∧v139_0 b0_0 b0_1 b0_2=x0∧v139_1 b0_0 b0_1 b0_2=x1∧v139_2 b0_0 b0_1 b0_2=x2∧v139_3 b0_0 b0_1 b0_2=x3∧v139_4 b0_0 b0_1 b0_2=x4:=by
 unfold q139 v139_0 v139_1 v139_2 v139_3 v139_4
 rw [h]
 exact ⟨rfl,rfl,rfl,rfl,rfl,rfl⟩
theorem g98 {b0_0:List AV} {b0_1:Int} {b0_2:Int} {x0:Int} {x1:Int} {x2:List AV} {x3:Int} {x4:Int} (h:W98 b0_0 b0_1 b0_2=some (x0,x1,x2,x3,x4)):q98 b0_0 b0_1 b0_2=true∧v98_0 b0_0 b0_1 b0_2=x0∧v98_1 b0_0 b0_1 b0_2=x1∧v98_2 b0_0 b0_1 b0_2=x2∧v98_3 b0_0 b0_1 b0_2=x3∧v98_4 b0_0 b0_1 b0_2=x4:=by
 unfold q98 v98_0 v98_1 v98_2 v98_3 v98_4
 rw [h]
 exact ⟨rfl,rfl,rfl,rfl,rfl,rfl⟩
theorem g43 {b0_0:List AV} {b0_1:Int} {b0_2:Int} {b1:List AV} {b2:List AV} {b3:List AV} {x0:Int} {x1:Int} {x2:List AV} {x3:Int} {x4:Int} {x5:List AV} {x6:List AV} {x7:List AV} (h:W43 b0_0 b0_1 b0_2 b1 b2 b3=some (x0,x1,x2,x3,x4,x5,x6,x7)):q43 b0_0 b0_1 b0_2 b1 b2 b3=true∧v43_0 b0_0 b0_1 b0_2 b1 b2 b3=x0∧v43_1 b0_0 b0_1 b0_2 b1 b2 b3=x1∧v43_2 b0_0 b0_1 b0_2 b1 b2 b3=x2∧v43_3 b0_0 b0_1 b0_2 b1 b2 b3=x3∧v43_4 b0_0 b0_1 b0_2 b1 b2 b3=x4∧v43_5 b0_0 b0_1 b0_2 b1 b2 b3=x5∧v43_6 b0_0 b0_1 b0_2 b1 b2 b3=x6∧v43_7 b0_0 b0_1 b0_2 b1 b2 b3=x7:=by
 unfold q43 v43_0 v43_1 v43_2 v43_3 v43_4 v43_5 v43_6 v43_7
 rw [h]
 exact ⟨rfl,rfl,rfl,rfl,rfl,rfl,rfl,rfl,rfl⟩
theorem g18 {a0:List AV} {x0:List AV} {x1:List AV} {x2:List AV} {x3:List AV} {x4:List AV} {x5:List AV} {x6:Int} {x7:Int} (h:W18 a0=some (x0,x1,x2,x3,x4,x5,x6,x7)):q18 a0=true∧v18_0 a0=x0∧v18_1 a0=x1∧v18_2 a0=x2∧v18_3 a0=x3∧v18_4 a0=x4∧v18_5 a0=x5∧v18_6 a0=x6∧v18_7 a0=x7:=by
 unfold q18 v18_0 v18_1 v18_2 v18_3 v18_4 v18_5 v18_6 v18_7
 rw [h]
 exact ⟨rfl,rfl,rfl,rfl,rfl,rfl,rfl,rfl,rfl⟩
theorem P118g (vs rs ps:List AV) (v:Int) (h1:vs.length≤1048576) (h2:rs.length≤1048576) (h3:ps.length≤1048576) (hN:N2 ps) :
  q118 vs rs ps v=true∧(v118_0 vs rs ps v).length=vs.length∧(v118_1 vs rs ps v).length=rs.length∧((v118_2 vs rs ps v).length≤ps.length∨(v118_2 vs rs ps v).length≤2001)∧N2 (v118_2 vs rs ps v):=by
 obtain ⟨m1,m2⟩:=P68 vs rs ps h1 h2 h3
 obtain ⟨c0,c1,c2,c3⟩:=P69 vs rs ps h1 h2 h3
 cases hc:isC vs rs ps with
 | false =>
  unfold q118 v118_0 v118_1 v118_2
  rw [m1,m2,c0,c1,c2,c3,hc]
  exact ⟨rfl,rfl,rfl,.inl (Nat.le_refl _),hN⟩
 | true =>
  cases hb:v52_0 v (-1000) 1000 with
  | false =>
   unfold q118 v118_0 v118_1 v118_2
   rw [m1,m2,c0,c1,c2,c3,hc,hb]
   exact ⟨rfl,rfl,rfl,.inl (Nat.le_refl _),hN⟩
  | true =>
   rw [v52,Bool.and_eq_true,decide_eq_true_eq,decide_eq_true_eq] at hb
   have hcol:=(isC_iff vs rs ps h1).1 hc
   cases hf:(findP ps v).isSome with
   | true =>
    obtain ⟨e0,e1,e2,e3,_⟩:=crack_oldS hcol hb hf
    rw [e0,e1,e2,e3]
    exact ⟨rfl,rfl,rfl,.inl (Nat.le_refl _),hN⟩
   | false =>
    obtain ⟨a,b,at_,ss,hcr⟩:=crack_newS hcol hN hb hf
    obtain ⟨e0,e1,e2,e3,_⟩:=hcr.c
    rw [e0,e1,e2,e3]
    exact ⟨rfl,appS_len _ _,appS_len _ _,.inr (col_few hcr.ok),hcr.n2⟩
def Cur (b:List AV) (i:Int):Prop:=0≤i∧i≤b.length∧b.length≤1048576
theorem and255 (x:Int):0≤IntKind.i64.wrap ((BitVec.ofInt 64 x &&& BitVec.ofInt 64 255).toNat:Int)∧IntKind.i64.wrap ((BitVec.ofInt 64 x &&& BitVec.ofInt 64 255).toNat:Int)≤255:=by
 have h:(BitVec.ofInt 64 x &&& BitVec.ofInt 64 255).toNat≤255:=by
  rw [BitVec.toNat_and]
  exact Nat.and_le_right
 rw [wrap_in (by omega) (by omega)]
 omega
theorem byte {b:List AV} {i:Int} (hc:Cur b i) (h:Int):q95 b i h=true∧(0≤v95_0 b i h∧v95_0 b i h≤255)∧Cur b (v95_2 b i h):=by
 obtain ⟨h0,h1,h2⟩:=hc
 unfold q95 v95_0 v95_2
 rw [hid_eq,hid_eq]
 by_cases c:i<b.length
 ·rw [decide_eq_true c,decide_eq_true h0]
  simp only [cond_true]
  refine ⟨rfl,and255 _,?_⟩
  rw [wrap_in (by omega) (by omega)]
  exact ⟨by omega,by omega,h2⟩
 ·rw [decide_eq_false c]
  simp only [cond_false]
  exact ⟨trivial,and255 _,h0,h1,h2⟩
theorem tmod_in {x n:Int} (x0:0≤x) (n0:0<n):0≤Int.tmod x n∧Int.tmod x n<n:=⟨Int.tmod_nonneg _ x0,Int.tmod_lt_of_pos _ n0⟩
theorem four {x y z w:Int} (hx:0≤x∧x≤255) (hy:0≤y∧y≤255) (hz:0≤z∧z≤255) (hw:0≤w∧w≤255):0≤IntKind.i64.wrap (IntKind.i64.wrap (IntKind.i64.wrap (IntKind.i64.wrap (x*16777216)+IntKind.i64.wrap (y*65536))+IntKind.i64.wrap (z*256))+w):=by
 rw [wrap_in (a:=x*16777216) (by omega) (by omega),wrap_in (a:=y*65536) (by omega) (by omega),wrap_in (a:=z*256) (by omega) (by omega),wrap_in (a:=x*16777216+y*65536) (by omega) (by omega),wrap_in (a:=x*16777216+y*65536+z*256) (by omega) (by omega),wrap_in (by omega) (by omega)]
 omega
theorem below {b:List AV} {i:Int} (hc:Cur b i) (h:Int) {n:Int} (n0:0<n):∃ x i' h',q42 n b i h=true∧v42_0 n b i h=x∧v42_1 n b i h=b∧v42_2 n b i h=i'∧v42_3 n b i h=h'∧0≤x∧x<n∧Cur b i':=by
 obtain ⟨x0,x1,x2⟩:=byte hc h
 obtain ⟨y0,y1,y2⟩:=byte x2 (v95_3 b i h)
 obtain ⟨z0,z1,z2⟩:=byte y2 (v95_3 b (v95_2 b i h) (v95_3 b i h))
 obtain ⟨w0,w1,w2⟩:=byte z2 (v95_3 b (v95_2 b (v95_2 b i h) (v95_3 b i h)) (v95_3 b (v95_2 b i h) (v95_3 b i h)))
 have d1:decide (n≤0)=false:=decide_eq_false (by omega)
 have d2:decide (n=0)=false:=decide_eq_false (by omega)
 refine ⟨_,_,_,?_,rfl,?_,rfl,rfl,?_⟩
 ·unfold q42
  simp only [v95_1]
  rw [d1,d2,x0,y0,z0,w0]
  cases decide (n≤256) <;> rfl
 ·unfold v42_1
  first|rfl|(rw [hid_eq];simp only [v95_1];cases decide (n≤0) <;> cases decide (n≤256) <;> rfl)|(simp only [v95_1];cases decide (n≤0) <;> cases decide (n≤256) <;> rfl)
 ·unfold v42_0 v42_2
  rw [hid_eq,hid_eq]
  simp only [v95_1]
  rw [d1]
  simp only [cond_false]
  by_cases c:n≤256
  ·rw [decide_eq_true c]
   simp only [cond_true]
   exact ⟨(tmod_in x1.1 n0).1,(tmod_in x1.1 n0).2,x2⟩
  ·rw [decide_eq_false c]
   simp only [cond_false]
   exact ⟨(tmod_in (four x1 y1 z1 w1) n0).1,(tmod_in (four x1 y1 z1 w1) n0).2,w2⟩
theorem inL {L:List AV} {x:Int} (x0:0≤x) (x1:x<(L.length:Int)):(decide (0≤x) && decide (x<(L.length:Int)))=true:=by
 rw [decide_eq_true x0,decide_eq_true x1];rfl
theorem rm8 (L:List AV) (y:AV) (h:L.length≤2000000):(decide ((L.length+[y].length)*8≤140737488355328) && decide (L.length+[y].length≤140737488355328))=true:=by
 simp only [List.length_singleton,Bool.and_eq_true,decide_eq_true_eq]
 omega
theorem rm16 (L:List AV) (y:AV) (h:L.length≤2000000):(decide ((L.length+[y].length)*16≤140737488355328) && decide (L.length+[y].length≤140737488355328))=true:=by
 simp only [List.length_singleton,Bool.and_eq_true,decide_eq_true_eq]
 omega
theorem wrap1 {t:Int} (h:0<t) (h':t≤9223372036854775807):IntKind.i64.wrap (t - 1)=t - 1:=wrap_in (by omega) (by omega)
theorem wide_pos {x:Int} (h:∃ j:Nat,j<([AV.int .i64 3,AV.int .i64 10,AV.int .i64 30,AV.int .i64 1000]:List AV).length∧x=fI (([AV.int .i64 3,AV.int .i64 10,AV.int .i64 30,AV.int .i64 1000]:List AV).getD j .undef) 0):0<x:=by
 obtain ⟨j,hj,rfl⟩:=h
 have:j<4:=hj
 obtain rfl|rfl|rfl|rfl:j=0∨j=1∨j=2∨j=3:=by omega
 all_goals decide
theorem pick {b:List AV} {i:Int} (hc:Cur b i) (h:Int) {L:List AV} (L0:0<L.length):∃ x i' h',W93 b i h L=some (x,b,i',h',L)∧Cur b i'∧∃ j:Nat,j<L.length∧x=fI (L.getD j .undef) 0:=by
 obtain ⟨x,i1,h1,a0,a1,a2,a3,a4,x0,x1,c1⟩:=below hc h (n:=(L.length:Int)) (by omega)
 unfold W93 T93
 simp only [a0,a1,a2,a3,a4,inL x0 x1,cond_true]
 exact ⟨_,_,_,rfl,c1,x.toNat,by omega,rfl⟩
theorem once {b:List AV} {i:Int} (hc:Cur b i) (h:Int) {n:Int} (n0:0<n):∃ o i' h',W97 n b i h=some (o,b,i',h')∧Cur b i':=by
 obtain ⟨x,i1,h1,a0,a1,a2,a3,a4,x0,x1,c1⟩:=below hc h n0
 unfold W97 T97
 simp only [a0,a1,a2,a3,a4,cond_true]
 exact ⟨_,_,_,rfl,c1⟩
theorem values {b:List AV} {i:Int} (hc:Cur b i) (h:Int) {M:Int} (m0:0≤M) (m1:M≤100):∃ xs i' h',W123 M b i h=some (xs,b,i',h')∧xs.length≤100∧Cur b i':=by
 obtain ⟨w,i1,h1,hW,c1,hw⟩:=pick hc h (L:=[AV.int .i64 3,AV.int .i64 10,AV.int .i64 30,AV.int .i64 1000]) (by decide)
 obtain ⟨a0,a1,a2,a3,a4,_⟩:=g93 hW
 have pos:=wide_pos hw
 have wM:IntKind.i64.wrap (M+1)=M+1:=wrap_in (by omega) (by omega)
 obtain ⟨m,i2,h2,b0,b1,b2,b3,b4,n0,n1,c2⟩:=below c1 h1 (n:=M+1) (by omega)
 obtain ⟨r,r1,r2,r3,r4⟩:=runW_ends (f:=R123_0 w) (fun s:Int × List AV × List AV × Int × Int=>0≤s.1∧s.2.1.length+s.1=m∧s.2.2.1=b∧Cur b s.2.2.2.1) (fun r=>r.1.length≤100∧r.2.1=b∧Cur b r.2.2.1) (fun s=>s.1.toNat) (fun s hI=>by
   obtain ⟨t,L,b',k,g⟩:=s
   obtain ⟨t0,tl,rfl,hk⟩:=hI
   simp only at t0 tl hk
   by_cases ct:t > 0
   ·obtain ⟨y,k1,g1,e0,e1,e2,e3,e4,_,_,hk1⟩:=below hk g pos
    have d1:decide (t > 0)=true:=decide_eq_true ct
    have d3:(!decide ((3:Int)=0))=true:=rfl
    refine .inl ⟨(t - 1,L++[AV.int .i64 (IntKind.i64.wrap (y - IntKind.i64.wrap (Int.tdiv w 3)))],b',k1,g1),?_,⟨by simp only;omega,by simp only [List.length_append,List.length_singleton];omega,rfl,hk1⟩,by simp only;omega⟩
    show F123_0 w t L b' k g=_
    unfold F123_0 G123_0
    simp only [d1,d3,e0,e1,e2,e3,e4,rm8 L _ (by omega),wrap1 ct (by omega),cond_true] <;> rfl
   ·have d1:decide (t > 0)=false:=decide_eq_false ct
    refine .inr ⟨(L,b',k,g),?_,by simp only;omega,rfl,hk⟩
    show F123_0 w t L b' k g=_
    unfold F123_0 G123_0
    simp only [d1,cond_false]) ((m - 0).toNat+1) (m,[],b,i2,h2) ⟨n0,by simp,rfl,c2⟩ (by simp only;omega)
 obtain ⟨xs,b',i3,h3⟩:=r
 simp only at r2 r3 r4
 subst r3
 unfold W123 T123
 simp only [a0,a1,a2,a3,a4,wM,b0,b1,b2,b3,b4,r1,cond_true,ro]
 exact ⟨_,_,_,rfl,r2,r4⟩
theorem value {b:List AV} {i:Int} (hc:Cur b i) (h:Int) {x:List AV} (hx:x.length≤1048576) (y z:List AV):∃ v i' h',W96 b i h x y z=some (v,b,i',h',x,y,z)∧Cur b i':=by
 have six:0<[AV.int .i64 0,AV.int .i64 3,AV.int .i64 (-2),AV.int .i64 (-1000),AV.int .i64 1000,AV.int .i64 50].length:=by decide
 unfold W96 T96
 by_cases c:(x.length:Int) > 0
 ·obtain ⟨o,i1,h1,hW,c1⟩:=once hc h (n:=4) (by decide)
  obtain ⟨a0,a1,a2,a3,a4⟩:=g97 hW
  obtain ⟨u,i2,h2,hW2,c2,_⟩:=pick c1 h1 six
  obtain ⟨e0,e1,e2,e3,e4,e5⟩:=g93 hW2
  obtain ⟨p,i3,h3,b0,b1,b2,b3,b4,p0,p1,c3⟩:=below c1 h1 (n:=(x.length:Int)) (by omega)
  obtain ⟨r,i4,h4,f0,f1,f2,f3,f4,r0,r1,c4⟩:=below c3 h3 (n:=3) (by decide)
  simp only [decide_eq_true c,a0,a1,a2,a3,a4,e0,e1,e2,e3,e4,b0,b1,b2,b3,b4,f0,f1,f2,f3,f4,inL p0 p1,cond_true]
  cases o with
  | true=>exact ⟨_,_,_,rfl,c2⟩
  | false=>exact ⟨_,_,_,rfl,c4⟩
 ·obtain ⟨u,i2,h2,hW2,c2,_⟩:=pick hc h six
  obtain ⟨e0,e1,e2,e3,e4,e5⟩:=g93 hW2
  simp only [decide_eq_false c,e0,e1,e2,e3,e4,cond_true,cond_false]
  exact ⟨_,_,_,rfl,c2⟩
theorem crkr {b:List AV} {i:Int} (hc:Cur b i) (h:Int):∃ V R P i' h',W138 b i h=some (V,R,P,b,i',h')∧V.length≤100∧R.length≤100∧P.length≤2001∧N2 P∧Cur b i':=by
 obtain ⟨xs,i1,h1,hW,hl,c1⟩:=values hc h (M:=14) (by decide) (by decide)
 obtain ⟨a0,a1,a2,a3,a4⟩:=g123 hW
 obtain ⟨n1,n2,n3,n4⟩:=P125 xs (by omega)
 have l0:(v125_0 xs).length≤100:=by
  rw [n2];cases v116_0 xs
  ·simp
  ·exact hl
 have l1:(v125_1 xs).length≤100:=by
  rw [n3];cases v116_0 xs
  ·simp
  ·simp only [cond_true];rw [rows_len];exact hl
 obtain ⟨m,i2,h2,b0,b1,b2,b3,b4,m0,m1,c2⟩:=below c1 h1 (n:=5) (by decide)
 generalize hV0:v125_0 xs=V at *
 generalize hU0:v125_1 xs=U at *
 obtain ⟨r,r1,r2⟩:=runW_ends (f:=R138_0) (fun s:Int × List AV × List AV × List AV × List AV × Int × Int=>0≤s.1∧s.1≤5∧s.2.1.length≤100∧s.2.2.1.length≤100∧s.2.2.2.1.length≤2001∧N2 s.2.2.2.1∧s.2.2.2.2.1=b∧Cur b s.2.2.2.2.2.1) (fun r=>r.1.length≤100∧r.2.1.length≤100∧r.2.2.1.length≤2001∧N2 r.2.2.1∧r.2.2.2.1=b∧Cur b r.2.2.2.2.1) (fun s=>s.1.toNat) (fun s hI=>by
   obtain ⟨t,X,Y,Z,b',k,g⟩:=s
   obtain ⟨t0,t5,hX,hY,hZ,hN,rfl,hk⟩:=hI
   simp only at t0 t5 hX hY hZ hN hk
   by_cases ct:t > 0
   ·obtain ⟨v,k1,g1,hV,hk1⟩:=value hk g (x:=X) (by omega) Y Z
    obtain ⟨e0,e1,e2,e3,e4,e5,e6,e7⟩:=g96 hV
    obtain ⟨f0,f1,f2,f3,f4⟩:=P118g X Y Z v (by omega) (by omega) (by omega) hN
    refine .inl ⟨(t - 1,v118_0 X Y Z v,v118_1 X Y Z v,v118_2 X Y Z v,b',k1,g1),?_,⟨by simp only;omega,by simp only;omega,by simp only;omega,by simp only;omega,by simp only;omega,f4,rfl,hk1⟩,by simp only;omega⟩
    show F138_0 t X Y Z b' k g=_
    unfold F138_0 G138_0
    simp only [decide_eq_true ct,e0,e1,e2,e3,e4,e5,e6,e7,f0,wrap1 ct (by omega),cond_true]
   ·refine .inr ⟨(X,Y,Z,b',k,g),?_,hX,hY,hZ,hN,rfl,hk⟩
    show F138_0 t X Y Z b' k g=_
    unfold F138_0 G138_0
    simp only [decide_eq_false ct,cond_false]) ((m - 0).toNat+1) (m,V,U,[],b,i2,h2) ⟨m0,by simp only;omega,l0,l1,by simp,N2_nil,rfl,c2⟩ (by simp only;omega)
 obtain ⟨V',R',P',b',i3,h3⟩:=r
 obtain ⟨g1,g2,g3,g4,g5,g6⟩:=r2
 simp only at g1 g2 g3 g4 g5 g6
 subst g5
 unfold W138 T138
 simp only [a0,a1,a2,a3,a4,n1,n4,hV0,hU0,b0,b1,b2,b3,b4,r1,cond_true,ro]
 exact ⟨_,_,_,_,_,rfl,g1,g2,g3,g4,g6⟩
theorem N2.snoc {P:List AV} (h:N2 P) (a b:Int):N2 (P++[mk2 a b]):=fun x hx=>by
 rcases List.mem_append.1 hx with hx|hx
 ·exact h x hx
 ·rw [List.mem_singleton.1 hx];rfl
theorem anyCrk {b:List AV} {i:Int} (hc:Cur b i) (h:Int):∃ V R P i' h',W94 b i h=some (V,R,P,b,i',h')∧V.length≤1048576∧R.length≤1048576∧P.length≤1048576∧N2 P∧Cur b i':=by
 obtain ⟨V,R,P,i1,h1,hW,l0,l1,l2,n2,c1⟩:=crkr hc h
 obtain ⟨a0,a1,a2,a3,a4,a5,a6⟩:=g138 hW
 obtain ⟨x,i2,h2,b0,b1,b2,b3,b4,_,_,c2⟩:=below c1 h1 (n:=12) (by decide)
 obtain ⟨u,i3,h3,hW2,c3,_⟩:=pick c2 h2 (L:=[AV.int .i64 0,AV.int .i64 999,AV.int .i64 1000,AV.int .i64 (-5)]) (by decide)
 obtain ⟨e0,e1,e2,e3,e4,e5⟩:=g93 hW2
 obtain ⟨y,i4,h4,f0,f1,f2,f3,f4,_,_,c4⟩:=below c2 h2 (n:=9) (by decide)
 obtain ⟨z,i5,h5,d0,d1,d2,d3,d4,_,_,c5⟩:=below c4 h4 (n:=9) (by decide)
 unfold W94 T94
 simp only [a0,a1,a2,a3,a4,a5,a6,b0,b1,b2,b3,b4,e0,e1,e2,e3,e4,f0,f1,f2,f3,f4,d0,d1,d2,d3,d4,rm16 P _ (by omega),rm8 R _ (by omega),cond_true]
 cases decide (x=0) with
 | true =>
  by_cases cv:(V.length:Int) > 0
  ·have t0:(decide ((0:Int)≤0) && decide ((0:Int)<(V.length:Int)))=true:=by rw [decide_eq_true cv];rfl
   simp only [cond_true,decide_eq_true cv,t0]
   exact ⟨_,_,_,_,_,rfl,by rw [List.length_set];omega,by omega,by omega,n2,c3⟩
  ·simp only [cond_true,decide_eq_false cv,cond_false]
   exact ⟨_,_,_,_,_,rfl,by omega,by omega,by omega,n2,c2⟩
 | false =>
  cases decide (x=1) with
  | true=>exact ⟨_,_,_,_,_,rfl,by omega,by omega,by simp only [List.length_append,List.length_singleton];omega,n2.snoc _ _,c5⟩
  | false =>
   cases decide (x=2) with
   | true=>exact ⟨_,_,_,_,_,rfl,by omega,by simp only [List.length_append,List.length_singleton];omega,by omega,n2,c2⟩
   | false=>exact ⟨_,_,_,_,_,rfl,by omega,by omega,by omega,n2,c2⟩
theorem range3 {b:List AV} {i:Int} (hc:Cur b i) (h:Int):∃ x y i' h',W139 b i h=some (x,y,b,i',h')∧Cur b i':=by
 obtain ⟨w,i1,h1,hW,c1,hw⟩:=pick hc h (L:=[AV.int .i64 3,AV.int .i64 10,AV.int .i64 30,AV.int .i64 1000]) (by decide)
 obtain ⟨a0,a1,a2,a3,a4,_⟩:=g93 hW
 have pos:=wide_pos hw
 obtain ⟨y,i2,h2,b0,b1,b2,b3,b4,_,_,c2⟩:=below c1 h1 pos
 obtain ⟨z,i3,h3,d0,d1,d2,d3,d4,_,_,c3⟩:=below c2 h2 pos
 have t3:(!decide ((3:Int)=0))=true:=rfl
 unfold W139 T139
 simp only [a0,a1,a2,a3,a4,b0,b1,b2,b3,b4,d0,d1,d2,d3,d4,t3,cond_true]
 exact ⟨_,_,_,_,rfl,c3⟩
theorem rangeAny {b:List AV} {i:Int} (hc:Cur b i) (h:Int):∃ x y i' h',W98 b i h=some (x,y,b,i',h')∧Cur b i':=by
 obtain ⟨x,y,i1,h1,hW,c1⟩:=range3 hc h
 obtain ⟨a0,a1,a2,a3,a4,a5⟩:=g139 hW
 obtain ⟨m,i2,h2,b0,b1,b2,b3,b4,_,_,c2⟩:=below c1 h1 (n:=10) (by decide)
 obtain ⟨u,i3,h3,hW2,c3,_⟩:=pick c2 h2 (L:=[AV.int .i64 (-1001),AV.int .i64 (-1000),AV.int .i64 1000,AV.int .i64 1001]) (by decide)
 obtain ⟨e0,e1,e2,e3,e4,e5⟩:=g93 hW2
 unfold W98 T98
 simp only [a0,a1,a2,a3,a4,a5,b0,b1,b2,b3,b4,e0,e1,e2,e3,e4,cond_true]
 cases decide (m=0) with
 | true=>exact ⟨_,_,_,_,rfl,c3⟩
 | false =>
  cases decide (m=1) with
  | true=>exact ⟨_,_,_,_,rfl,c3⟩
  | false=>exact ⟨_,_,_,_,rfl,c2⟩
theorem range6 {b:List AV} {i:Int} (hc:Cur b i) (h:Int) {x:List AV} (hx:x.length≤1048576) (y z:List AV):∃ a c i' h',W43 b i h x y z=some (a,c,b,i',h',x,y,z)∧Cur b i':=by
 obtain ⟨v,i1,h1,hW,c1⟩:=value hc h hx y z
 obtain ⟨a0,a1,a2,a3,a4,a5,a6,a7⟩:=g96 hW
 obtain ⟨w,i2,h2,hW2,c2⟩:=value c1 h1 hx y z
 obtain ⟨b0,b1,b2,b3,b4,b5,b6,b7⟩:=g96 hW2
 obtain ⟨o,i3,h3,hW3,c3⟩:=once c2 h2 (n:=12) (by decide)
 obtain ⟨d0,d1,d2,d3,d4⟩:=g97 hW3
 obtain ⟨m,m',i4,h4,hW4,c4⟩:=rangeAny c3 h3
 obtain ⟨e0,e1,e2,e3,e4,e5⟩:=g98 hW4
 unfold W43 T43
 simp only [a0,a1,a2,a3,a4,a5,a6,a7,b0,b1,b2,b3,b4,b5,b6,b7,d0,d1,d2,d3,d4,e0,e1,e2,e3,e4,e5,cond_true]
 cases o with
 | true=>exact ⟨_,_,_,_,rfl,c4⟩
 | false=>exact ⟨_,_,_,_,rfl,c3⟩
theorem start_of {f:Int × Int→Out (Int × Int) Int} (code:List AV) (h1:∀ g k:Int,0≤k→k<code.length→(∃ g',f (g,k) = .next (g',k+1))∨f (g,k) = .stop g) (h2:∀ g k:Int,¬ k<code.length→f (g,k) = .stop g) (x:Int):∃ r,runW f (((code.length:Int) - 0).toNat+1) (x,0)=some r:=by
 obtain ⟨r,r1,_⟩:=runW_ends (f:=f) (fun s:Int × Int=>0≤s.2∧s.2≤code.length) (fun _=>True) (fun s=>((code.length:Int) - s.2).toNat) (fun s hI=>by
   obtain ⟨g,k⟩:=s
   obtain ⟨k0,k1⟩:=hI
   simp only at k0 k1
   by_cases ck:k<code.length
   ·rcases h1 g k k0 ck with ⟨g',e⟩|e
    ·exact .inl ⟨(g',k+1),e,⟨by simp only;omega,by simp only;omega⟩,by simp only;omega⟩
    ·exact .inr ⟨g,e,trivial⟩
   ·exact .inr ⟨g,h2 g k ck,trivial⟩) (((code.length:Int) - 0).toNat+1) (x,0) ⟨Int.le_refl 0,by simp only;omega⟩ (by simp only;omega)
 exact ⟨r,r1⟩
end Go.Proofs.YtbmfgibbjchijaaGreat

namespace Go.Proofs.YtbmfgibbjchijaaGreat
open Go Go.Proofs.VE
set_option linter.unusedVariables false
set_option linter.unusedSimpArgs false
theorem joinB (v r p v' r' p':List AV) (a b:Int) (h1:v.length≤1048576) (h2:r.length≤1048576) (h3:p.length≤1048576) (h4:v'.length≤1048576) (h5:r'.length≤1048576) (h6:p'.length≤1048576) (hN:N2 p) (hN':N2 p') :
  (q19 v r p v' r' p' a b=true∧q20 v r p v' r' p' a b=true) ∧
   (v19_0 v r p v' r' p' a b=v20_0 v r p v' r' p' a b∧v19_1 v r p v' r' p' a b=v20_1 v r p v' r' p' a b∧v19_2 v r p v' r' p' a b=v20_2 v r p v' r' p' a b∧v19_3 v r p v' r' p' a b=v20_3 v r p v' r' p' a b∧v19_4 v r p v' r' p' a b=v20_4 v r p v' r' p' a b∧v19_5 v r p v' r' p' a b=v20_5 v r p v' r' p' a b∧v19_6 v r p v' r' p' a b=v20_6 v r p v' r' p' a b∧v19_7 v r p v' r' p' a b=v20_7 v r p v' r' p' a b) ∧
   ((v20_0 v r p v' r' p' a b).length≤1048576∧(v20_1 v r p v' r' p' a b).length≤1048576∧(v20_2 v r p v' r' p' a b).length≤1048576∧(v20_3 v r p v' r' p' a b).length≤1048576∧(v20_4 v r p v' r' p' a b).length≤1048576∧(v20_5 v r p v' r' p' a b).length≤1048576) ∧
   (v20_7 v r p v' r' p' a b=false→v20_6 v r p v' r' p' a b=[]) ∧
   (v20_7 v r p v' r' p' a b=true→isC v r p=true∧isC v' r' p'=true∧v20_6 v r p v' r' p' a b=sortPL (scanJ v r v' r' a b)):=by
 obtain ⟨i1,i2⟩:=P61 v r p h1 h2 h3
 obtain ⟨i3,i4⟩:=P61 v' r' p' h4 h5 h6
 obtain ⟨s1,s2⟩:=P68 v r p h1 h2 h3
 obtain ⟨s3,s4⟩:=P68 v' r' p' h4 h5 h6
 obtain ⟨c0,c1,c2,c3⟩:=P64 v r p h1 h2 h3
 obtain ⟨c4,c5,c6,c7⟩:=P64 v' r' p' h4 h5 h6
 obtain ⟨d0,d1,d2,d3⟩:=P69 v r p h1 h2 h3
 obtain ⟨d4,d5,d6,d7⟩:=P69 v' r' p' h4 h5 h6
 obtain ⟨⟨x1,x2⟩,⟨x3,x4,x5,x6,x7⟩,_⟩:=same70 v r p a b h1 h2 h3 hN
 obtain ⟨⟨y1,y2⟩,⟨y3,y4,y5,y6,y7⟩,_⟩:=same70 v' r' p' a b h4 h5 h6 hN'
 obtain ⟨_,l0,l1,l2,_,sel⟩:=selR v r p a b h1 h2 h3 hN
 obtain ⟨_,m0,m1,m2,_,sel'⟩:=selR v' r' p' a b h4 h5 h6 hN'
 unfold q19 q20 v19_0 v19_1 v19_2 v19_3 v19_4 v19_5 v19_6 v19_7 v20_0 v20_1 v20_2 v20_3 v20_4 v20_5 v20_6 v20_7
 rw [i1,i2,i3,i4,s1,s2,s3,s4,c0,c1,c2,c3,c4,c5,c6,c7,d0,d1,d2,d3,d4,d5,d6,d7,x1,x2,x3,x4,x5,x6,x7,y1,y2,y3,y4,y5,y6,y7,isR_eq]
 cases hc:isC v r p with
 | false =>
  simp only [Bool.not_false,cond_true,Bool.and_self]
  exact ⟨⟨trivial,trivial⟩,⟨trivial,trivial,trivial,trivial,trivial,trivial,trivial,trivial⟩,⟨h1,h2,h3,h4,h5,h6⟩,fun _=>trivial,fun h=>by cases h⟩
 | true =>
  cases hc':isC v' r' p' with
  | false =>
   simp only [Bool.not_false,Bool.not_true,cond_true,cond_false,Bool.and_self]
   exact ⟨⟨trivial,trivial⟩,⟨trivial,trivial,trivial,trivial,trivial,trivial,trivial,trivial⟩,⟨h1,h2,h3,h4,h5,h6⟩,fun _=>trivial,fun h=>by cases h⟩
  | true =>
   cases hr:v51_0 a b with
   | false =>
    simp only [Bool.not_false,Bool.not_true,cond_true,cond_false,Bool.and_self]
    exact ⟨⟨trivial,trivial⟩,⟨trivial,trivial,trivial,trivial,trivial,trivial,trivial,trivial⟩,⟨h1,h2,h3,h4,h5,h6⟩,fun _=>trivial,fun h=>by cases h⟩
   | true =>
    have ab:=(isR_of hr).2.1
    have hri:v45_0 a b=true:=by rw [isR_eq];exact hr
    have E:=sel hc hr
    have E':=sel' hc' hr
    have C:=(isC_iff v r p h1).1 hc
    have C':=(isC_iff v' r' p' h4).1 hc'
    have pp:=part_perm C E hri ab
    have pp':=part_perm C' E' hri ab
    have pk:=part_keep E hri ab
    have pk':=part_keep E' hri ab
    obtain ⟨b0,b1,b2,_⟩:=E.box ab
    obtain ⟨e0,e1,e2,_⟩:=E'.box ab
    have K:=E.col
    have K':=E'.col
    generalize v70_0 v r p a b=V at *
    generalize v70_1 v r p a b=R at *
    generalize v70_2 v r p a b=Q at *
    generalize v70_3 v r p a b=f at *
    generalize v70_4 v r p a b=t at *
    generalize v70_0 v' r' p' a b=V' at *
    generalize v70_1 v' r' p' a b=R' at *
    generalize v70_2 v' r' p' a b=Q' at *
    generalize v70_3 v' r' p' a b=f' at *
    generalize v70_4 v' r' p' a b=t' at *
    have n1:=K.n64
    have n2:=K'.n64
    have n3:=K.len
    have n4:=K'.len
    have a1:=prt_len (xs:=V) b0 b1 b2
    have a2:=prt_len (xs:=V') e0 e1 e2
    have a3:=prt_len (xs:=R) b0 b1 (by omega)
    have a4:=prt_len (xs:=R') e0 e1 (by omega)
    obtain ⟨g1,g2⟩:=elemsG V R Q f t b0 b1 b2 (by omega) (by omega)
    obtain ⟨g3,g4⟩:=elemsG V' R' Q' f' t' e0 e1 e2 (by omega) (by omega)
    obtain ⟨k1,k2⟩:=P66 (els (prt V f t) (prt R f t)) (els (prt V' f' t') (prt R' f' t')) (by rw [els_len];omega) (by rw [els_len];omega)
    obtain ⟨k3,k4⟩:=P71 (prt V f t) (prt R f t) [] (prt V' f' t') (prt R' f' t') [] a b (by omega) (by omega) (by omega) (by omega)
    have hse:=scan_eq (col_prt K b0 b1 b2) (prt V' f' t') (prt R' f' t') a b
    have hJ:scanJ (prt V f t) (prt R f t) (prt V' f' t') (prt R' f' t') a b=jns (els (prt V f t) (prt R f t)) (els (prt V' f' t') (prt R' f' t')):=by
     unfold scanJ
     rw [pk,pk']
    rw [hJ] at hse
    have o1:∀ (X Y Z:List AV) (x y:Int),((v72_4 x y X Y Z).drop (v72_0 x y X Y Z)).take (v72_1 x y X Y Z)=prt X x y:=fun X Y Z x y=>(List.drop_take).symm
    have o2:∀ (X Y Z:List AV) (x y:Int),((v72_5 x y X Y Z).drop (v72_2 x y X Y Z)).take (v72_3 x y X Y Z)=prt Y x y:=fun X Y Z x y=>(List.drop_take).symm
    have o3:∀ (X Y Z:List AV) (x y:Int),v72_4 x y X Y Z=X∧v72_5 x y X Y Z=Y∧v72_6 x y X Y Z=Z:=fun X Y Z x y=>⟨rfl,rfl,rfl⟩
    have o7:q72 f t V R Q=true:=by
     unfold q72
     rw [decide_eq_true b0,decide_eq_true b1,decide_eq_true b2,decide_eq_true (show t≤(R.length:Int) by omega)]
     rfl
    have o8:q72 f' t' V' R' Q'=true:=by
     unfold q72
     rw [decide_eq_true e0,decide_eq_true e1,decide_eq_true e2,decide_eq_true (show t'≤(R'.length:Int) by omega)]
     rfl
    rw [g1,g2,g3,g4,k1,k2,o1,o1,o2,o2,o7,o8,k3,k4,hse]
    simp only [o3]
    simp only [Bool.not_true,cond_false,Bool.and_self]
    refine ⟨⟨trivial,trivial⟩,⟨trivial,trivial,trivial,trivial,trivial,trivial,trivial,trivial⟩,⟨l0,l1,l2,m0,m1,m2⟩,(fun h=>by cases h),fun _=>⟨trivial,trivial,?_⟩⟩
    rw [← hse]
    exact sortPL_perm (jns_perm pp pp')
theorem hasL (xs:List AV) (x:Int) (h:xs.length≤1048576):q24 xs x=true∧v24_0 xs x=hasI xs x:=by
 have hr:runW (R24_0 xs x) (((xs.length:Int) - 0).toNat+1) 0=some (ro (findF (fun i=>decide (fI (xs.getD i.toNat .undef) 0=x)) xs.length 0) (.inl ()) fun _ => .inr ()):=by
  refine runW_find (fun i=>i) xs.length _ _ _ (fun i h0 hn=>?_) ?_ xs.length _ 0 (Int.le_refl 0) (by omega) (by omega)
  ·simp only [R24_0,F24_0,G24_0,h0,hn,decide_true,Bool.and_self,cond_true]
   rw [wrap_in (a:=i+1) (by omega) (by omega)]
  ·simp only [R24_0,F24_0,G24_0,Int.lt_irrefl,decide_false,cond_false]
 unfold q24 v24_0 hasI
 rw [hr]
 cases findF (fun i=>decide (fI (xs.getD i.toNat .undef) 0=x)) xs.length 0 <;> exact ⟨rfl,rfl⟩
theorem eqC (V R P:List AV) (l0:V.length≤1048576) (l1:R.length≤1048576) (l2:P.length≤1048576):q21 V R P V R P=true∧v21_0 V R P V R P=true:=by
 unfold q21 v21_0
 rw [(P73 V V l0).1,(P73 V V l0).2,(P73 R R l1).1,(P73 R R l1).2,(P74 P P l2).1,(P74 P P l2).2,eqL_self ee1_self,eqL_self ee1_self,eqL_self ee2_self]
 exact ⟨rfl,rfl⟩
theorem drawJ (code:List AV) (h:code.length≤1048576):∃ V R P V' R' P' a c,W18 code=some (V,R,P,V',R',P',a,c)∧(V.length≤1048576∧R.length≤1048576∧P.length≤1048576)∧(V'.length≤1048576∧R'.length≤1048576∧P'.length≤1048576)∧N2 P∧N2 P':=by
 obtain ⟨p,hp⟩:=start_of (f:=R18i40_0 code 0 0) code (fun g k k0 k1=>by
  have d1:decide (k<(code.length:Int))=true:=decide_eq_true k1
  have d2:decide (0≤k)=true:=decide_eq_true k0
  have wk_:IntKind.i64.wrap (k+1)=k+1:=wrap_in (by omega) (by omega)
  show (∃ g',F18i40_0 code 0 0 g k=_)∨F18i40_0 code 0 0 g k=_
  unfold F18i40_0 G18i40_0
  rw [d1,d2,wk_]
  cases decide (k<4000)
  ·exact .inr rfl
  ·exact .inl ⟨_,rfl⟩) (fun g k k1=>by
  have d1:decide (k<(code.length:Int))=false:=decide_eq_false k1
  show F18i40_0 code 0 0 g k=_
  unfold F18i40_0 G18i40_0
  rw [d1]
  rfl) (IntKind.i64.wrap (10101+(code.length:Int)))
 obtain ⟨V,R,P,i1,h1,hW1,z1,z2,z3,zn,c1⟩:=anyCrk (b:=code) (i:=0) ⟨Int.le_refl 0,by omega,h⟩ p
 obtain ⟨a0,a1,a2,a3,a4,a5,a6⟩:=g94 hW1
 obtain ⟨V',R',P',i2,h2,hW2,w1,w2,w3,wn,c2⟩:=anyCrk c1 h1
 obtain ⟨b0,b1,b2,b3,b4,b5,b6⟩:=g94 hW2
 obtain ⟨f,f',i3,h3,hW3,c3⟩:=range6 c2 h2 (x:=V) z1 R P
 obtain ⟨e0,e1,e2,e3,e4,e5,e6,e7,e8⟩:=g43 hW3
 unfold W18 T18
 simp only [hp,ro,a0,a1,a2,a3,a4,a5,a6,b0,b1,b2,b3,b4,b5,b6,e0,e1,e2,e3,e4,e5,e6,e7,e8,cond_true]
 exact ⟨_,_,_,_,_,_,_,_,rfl,⟨z1,z2,z3⟩,⟨w1,w2,w3⟩,zn,wn⟩
theorem loop0 (is:Bool) (h0 h1 h2 h3 h4 h5 L M:List AV) (hl:L.length≤1048576) (hM:L=[]∨M=L):runW (R4_0 is h0 h1 h2 h3 h4 h5 L L M) (((L.length:Int) - 0).toNat+1) 0=some (.inl ()):=by
 obtain ⟨r,r1,rfl⟩:=runW_ends (f:=R4_0 is h0 h1 h2 h3 h4 h5 L L M) (fun k:Int=>0≤k∧k≤L.length) (fun r=>r = .inl ()) (fun k=>((L.length:Int) - k).toNat) (fun k hI=>by
   obtain ⟨k0,k1⟩:=hI
   by_cases ck:k<L.length
   ·obtain rfl:M=L:=by
     rcases hM with e|e
     ·rw [e,List.length_nil] at ck
      omega
     ·exact e
    have d1:decide (k<(M.length:Int))=true:=decide_eq_true ck
    have d2:decide (0≤k)=true:=decide_eq_true k0
    have wk_:IntKind.i64.wrap (k+1)=k+1:=wrap_in (by omega) (by omega)
    refine .inl ⟨k+1,?_,⟨by omega,by omega⟩,by omega⟩
    show F4_0 is h0 h1 h2 h3 h4 h5 M M M k=_
    unfold F4_0 G4_0
    rw [d1,d2,wk_]
    simp only [decide_true,cond_true,Bool.not_true,cond_false,Bool.and_self]
   ·have d1:decide (k<(L.length:Int))=false:=decide_eq_false ck
    refine .inr ⟨.inl (),?_,rfl⟩
    show F4_0 is h0 h1 h2 h3 h4 h5 L L M k=_
    unfold F4_0 G4_0
    rw [d1]
    rfl) (((L.length:Int) - 0).toNat+1) 0 ⟨Int.le_refl 0,by omega⟩ (by omega)
 exact r1
theorem loop2 (h0 h1 h2 h3 h4 h5 L M W:List AV) (a b:Int) (hl:L.length≤1048576) (hw:W.length≤1048576) (hM:∀ k:Int,0≤k→k<L.length→hasI W (el L k)=true):runW (R4_2 h0 h1 h2 h3 h4 h5 L M a b W) (((L.length:Int) - 0).toNat+1) 0=some (.inl ()):=by
 obtain ⟨r,r1,rfl⟩:=runW_ends (f:=R4_2 h0 h1 h2 h3 h4 h5 L M a b W) (fun k:Int=>0≤k∧k≤L.length) (fun r=>r = .inl ()) (fun k=>((L.length:Int) - k).toNat) (fun k hI=>by
   obtain ⟨k0,k1⟩:=hI
   by_cases ck:k<L.length
   ·have d1:decide (k<(L.length:Int))=true:=decide_eq_true ck
    have d2:decide (0≤k)=true:=decide_eq_true k0
    have wk_:IntKind.i64.wrap (k+1)=k+1:=wrap_in (by omega) (by omega)
    have e:fI (L.getD k.toNat AV.undef) 0=el L k:=rfl
    refine .inl ⟨k+1,?_,⟨by omega,by omega⟩,by omega⟩
    show F4_2 h0 h1 h2 h3 h4 h5 L M a b W k=_
    unfold F4_2 G4_2
    rw [d1,d2,wk_,e,(hasL W _ hw).1,(hasL W _ hw).2,hM k k0 ck]
    simp only [cond_true,Bool.not_true,cond_false,Bool.and_self]
   ·have d1:decide (k<(L.length:Int))=false:=decide_eq_false ck
    refine .inr ⟨.inl (),?_,rfl⟩
    show F4_2 h0 h1 h2 h3 h4 h5 L M a b W k=_
    unfold F4_2 G4_2
    rw [d1]
    rfl) (((L.length:Int) - 0).toNat+1) 0 ⟨Int.le_refl 0,by omega⟩ (by omega)
 exact r1
theorem scan_few {v r p v' r' p':List AV} (h1:v.length≤1048576) (h4:v'.length≤1048576) (c:isC v r p=true) (c':isC v' r' p'=true) (a b:Int):(sortPL (scanJ v r v' r' a b)).length≤1048576:=by
 obtain ⟨l1,_⟩:=isC_len h1 c
 obtain ⟨l3,_⟩:=isC_len h4 c'
 rw [sortPL_len]
 unfold scanJ
 refine Nat.le_trans (jns_len _ _) ?_
 have f1:((els v r).filter (keepR a b)).length≤64:=Nat.le_trans (List.length_filter_le ..) (by rw [els_len];exact l1)
 have f2:((els v' r').filter (keepR a b)).length≤64:=Nat.le_trans (List.length_filter_le ..) (by rw [els_len];exact l3)
 exact Nat.le_trans (Nat.mul_le_mul f2 f1) (by omega)
theorem left_in {v r v' r':List AV} {a b:Int} {k:Int} (k0:0≤k) (k1:k<(sortPL (scanJ v r v' r' a b)).length) {w:List AV} (hw:ints w=srt (smL v r v')):hasI w (el (sortPL (scanJ v r v' r' a b)) k)=true:=by
 generalize hL:sortPL (scanJ v r v' r' a b)=L at *
 have hz:el L k ∈ L.map fun y=>fI y 0:=ints_mem.2 ⟨k,k0,k1,rfl⟩
 rw [← hL] at hz
 have h2:=(sortPL_mem _ _).1 hz
 unfold scanJ at h2
 obtain ⟨x,hx,x1,y,hy,xy⟩:=jns_mem.1 h2
 have h3:=meets_mem.1 (jns_mem.2 ⟨x,(List.mem_filter.1 hx).1,x1,y,(List.mem_filter.1 hy).1,xy⟩)
 have h4:el (sortPL (scanJ v r v' r' a b)) k ∈ ints w:=by
  rw [hw]
  exact (List.mergeSort_perm _ _).mem_iff.2 h3
 rw [hL] at h4
 exact (hasI_iff _ _).2 (ints_mem.1 h4)
theorem raw4_true (code:List AV):raw4 code=some (.bool true):=by
 unfold raw4
 by_cases c:(code.length:Int) > 1048576
 ·unfold v6_0
  rw [decide_eq_true c]
  rfl
 have c6:v6_0 code=false:=decide_eq_false c
 obtain ⟨V,R,P,V',R',P',a,b,hW,⟨z0,z1,z2⟩,⟨z3,z4,z5⟩,n,n'⟩:=drawJ code (by omega)
 obtain ⟨d0,d1,d2,d3,d4,d5,d6,d7,d8⟩:=g18 hW
 simp only [c6,d0,d1,d2,d3,d4,d5,d6,d7,d8,cond_true,cond_false]
 obtain ⟨⟨x1,x2⟩,⟨y0,y1,y2,y3,y4,y5,y6,y7⟩,⟨l0,l1,l2,l3,l4,l5⟩,hf,ht⟩:=joinB V R P V' R' P' a b z0 z1 z2 z3 z4 z5 n n'
 obtain ⟨e1,e2⟩:=eqC _ _ _ l0 l1 l2
 obtain ⟨e3,e4⟩:=eqC _ _ _ l3 l4 l5
 obtain ⟨s1,s2⟩:=P22 V R P V' R' P' a b z0 z1 z2 z3 z4 z5
 rw [x1,x2,y0,y1,y2,y3,y4,y5,y6,y7,e1,e2,e3,e4,s1]
 cases hi:v20_7 V R P V' R' P' a b with
 | false =>
  rw [hf hi,loop0 _ _ _ _ _ _ _ [] _ (by simp) (.inl rfl)]
  rfl
 | true =>
  obtain ⟨hc,hc',hL⟩:=ht hi
  rw [hc,hc'] at s2
  have few:=scan_few (p:=P) (p':=P') z0 z3 hc hc' a b
  obtain ⟨s3,s4⟩:=P22 V R P V' R' P' (-1000) 1000 z0 z1 z2 z3 z4 z5
  obtain ⟨s5,s6⟩:=P22 V' R' P' V R P (-1000) 1000 z3 z4 z5 z0 z1 z2
  have k1:q25 V R P V' R' P'=true:=s3
  have k2:q25 V' R' P' V R P=true:=s5
  have k3:v25_0 V R P V' R' P'=((v22_0 V R P V' R' P' (-1000) 1000).length:Int):=rfl
  have k4:v25_0 V' R' P' V R P=((v22_0 V R P V' R' P' (-1000) 1000).length:Int):=by
   show ((v22_0 V' R' P' V R P (-1000) 1000).length:Int)=_
   rw [s4,s6,hc,hc']
   show ((sortPL _).length:Int)=(sortPL _).length
   rw [sortPL_len,sortPL_len]
   unfold scanJ
   rw [keep_all ((isC_iff V R P z0).1 hc),keep_all ((isC_iff V' R' P' z3).1 hc'),jns_sym]
  obtain ⟨m1,m2⟩:=P26 V R P V' R' P' z0 z1 z2 z3 z4 z5
  obtain ⟨m3,m4⟩:=P23 V R P V' R' P' z0 z1 z2 z3 z4 z5
  rw [hc,hc',Bool.and_self,cond_true] at m2
  have hwl:(v23_0 V R P V' R' P').length≤1048576:=by
   rw [← ints_len,m4,m2,srt_len]
   have:=smL_len V R V'
   omega
  have m5:=eqL_ints m4
  obtain ⟨m6,m7⟩:=P11 (v23_0 V R P V' R' P') (v26_0 V R P V' R' P') hwl
  have lp:=loop2 V V' R R' P P' (sortPL (scanJ V R V' R' a b)) (sortPL (scanJ V R V' R' a b)) (v23_0 V R P V' R' P') (-1000) 1000 few hwl fun k q0 q1=>left_in q0 q1 (m4.trans m2)
  have s2':v22_0 V R P V' R' P' a b=sortPL (scanJ V R V' R' a b):=s2
  rw [hL,s2',loop0 _ _ _ _ _ _ _ _ _ few (.inr rfl),m3,lp,s3,k1,k2,k3,k4,m1,m6,m7,m5]
  simp only [decide_true,beq_self_eq_true,Bool.not_true,cond_false,cond_true,ro,sumE]
theorem law4 {x0:AV} (t0:TA Tryz.prog 22 x0):m4 [x0]=some (true,.bool true):=by
 obtain ⟨code,rfl,a1,hb⟩:=tw_sl (ta_one (ct := .sl [.int .u8]) t0 (by kernel_rfl) (by kernel_rfl))
 show (raw4 code).map (fun r=>(true,r))=_
 rw [raw4_true code]
 rfl
end Go.Proofs.YtbmfgibbjchijaaGreat
