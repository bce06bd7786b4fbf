import Derived.Test.YtkdnhnkhcldonaaSTk
namespace Go.Proofs.Ytkdnhnkhcldonaa
open Go Go.Proofs.VE
set_option linter.unusedVariables false
set_option linter.unusedSimpArgs false
theorem rowK_neg {rs:List AV} {x:Int} (h:rowK rs x<0):∀ j:Int,0≤j→j<rs.length→el rs j ≠ x:=fun j j0 j1 e=>by
 unfold rowK at h
 cases hf:findF (fun i=>decide (fI (rs.getD i.toNat .undef) 0=x)) rs.length 0 with
 | none =>
  have:=(findF_isNone _ _).1 (by rw [hf];rfl) j j0 (by omega)
  exact of_decide_eq_false this e
 | some i =>
  obtain ⟨h1,_,_⟩:=findF_some _ _ hf
  rw [hf] at h
  simp only [ro,id] at h
  omega
theorem rowK_some {rs:List AV} {x:Int} (h:0≤rowK rs x):rowK rs x<rs.length∧el rs (rowK rs x)=x:=by
 unfold rowK at h ⊢
 cases hf:findF (fun i=>decide (fI (rs.getD i.toNat .undef) 0=x)) rs.length 0 with
 | none=>rw [hf] at h;simp [ro] at h
 | some i =>
  obtain ⟨h1,h2,h3⟩:=findF_some _ _ hf
  simp only [ro,id]
  exact ⟨by omega,of_decide_eq_true h3⟩
theorem rowK_at {vs rs ps:List AV} (hc:Col vs rs ps) {i:Int} (i0:0≤i) (i1:i<rs.length):rowK rs (el rs i)=i:=by
 have hn:0≤rowK rs (el rs i):=by
  rcases Int.lt_or_le (rowK rs (el rs i)) 0 with h|h
  ·exact absurd rfl (rowK_neg h i i0 i1)
  ·exact h
 obtain ⟨h1,h2⟩:=rowK_some hn
 rcases Int.lt_trichotomy (rowK rs (el rs i)) i with c|c|c
 ·exact absurd h2 (hc.dist _ _ hn c i1)
 ·exact c
 ·exact absurd h2.symm (hc.dist _ _ i0 c h1)
def g (s:List AV) (i:Int) (j:Nat):Int:=fI (s.getD i.toNat .undef) j
structure Ok1 (v r s:List AV) (n i:Int):Prop where
 row:0≤rowK r (g s i 1)
 val:el v (rowK r (g s i 1))=g s i 0
 asc:0<i→g s (i - 1) 1<g s i 1
 b0:0≤g s i 2
 b1:g s i 2≤n
 d:g s i 3 = -1∨g s i 2<g s i 3∧g s i 3≤n
theorem badS_iff (v r s:List AV) (n i:Int):badS v r s n i=false ↔ Ok1 v r s n i:=by
 unfold badS badT
 simp only [Bool.or_eq_false_iff,Bool.and_eq_false_iff,decide_eq_false_iff_not,Bool.not_eq_false',decide_eq_true_eq,Bool.and_eq_true]
 constructor
 ·rintro ⟨h1,h2,h3,h4,h5⟩
  refine ⟨by unfold g;omega,h2,fun hi=>?_,h4.1,h4.2,?_⟩
  ·rcases h3 with h3|h3
   ·omega
   ·unfold g;omega
  ·unfold g
   rcases h5 with h5|h5
   ·exact .inl h5
   ·exact .inr ⟨by omega,h5.2⟩
 ·rintro ⟨h1,h2,h3,h4,h5,h6⟩
  unfold g at *
  refine ⟨by omega,h2,?_,⟨h4,h5⟩,?_⟩
  ·by_cases hi:0<i
   ·have:=h3 hi
    exact .inr (by omega)
   ·exact .inl (by omega)
  ·rcases h6 with h6|h6
   ·exact .inl h6
   ·exact .inr ⟨by omega,h6.2⟩
theorem isS_iff (s:List AV) (n:Int) (v r p:List AV):isS s n v r p=true ↔ isC v r p=true∧(s.length:Int)=v.length∧(0≤n∧n≤1000)∧∀ i:Int,0≤i→i<s.length→Ok1 v r s n i:=by
 unfold isS
 simp only [Bool.and_eq_true,decide_eq_true_eq,noneB_iff,badS_iff]
theorem g_app {s:List AV} {y:AV} {i:Int} {j:Nat} (i0:0≤i):g (s++[y]) i j=if i<s.length then g s i j else if i=s.length then fI y j else fI .undef j:=by
 unfold g
 by_cases h:i<s.length
 ·rw [if_pos h,List.getD_eq_getElem?_getD,List.getElem?_append_left (by omega),List.getD_eq_getElem?_getD]
 ·rw [if_neg h,List.getD_eq_getElem?_getD,List.getElem?_append_right (by omega)]
  by_cases e:i=s.length
  ·rw [if_pos e,show i.toNat - s.length=0 by omega]
   rfl
  ·rw [if_neg e,List.getElem?_eq_none (by simp;omega)]
   rfl
theorem asc_rows {v r s:List AV} {n:Int} (h:∀ i:Int,0≤i→i<s.length→Ok1 v r s n i):∀ (m:Nat) (i:Int),0≤i→i+m<s.length→g s i 1+m≤g s (i+m) 1
 | 0,i,_,_=>by simp
 | m+1,i,i0,hm=>by
  have h1:=asc_rows h m i i0 (by omega)
  have h2:=(h (i+((m+1:Nat):Int)) (by omega) hm).asc (by omega)
  rw [show i+((m+1:Nat):Int) - 1=i+m by omega] at h2
  omega
theorem rows_lt {v r s:List AV} {n:Int} (h:∀ i:Int,0≤i→i<s.length→Ok1 v r s n i) {i j:Int} (i0:0≤i) (ij:i<j) (j1:j<s.length):g s i 1<g s j 1:=by
 have:=asc_rows h (j - i).toNat i i0 (by omega)
 rw [show i+((j - i).toNat:Int)=j by omega] at this
 omega
def lv (s:List AV) (i:Int):Bool:=decide (fI (s.getD i.toNat .undef) 3 = -1)
def live (s:List AV):List AV:=appF (lv s) (dA s) s.length 0 []
theorem appF_congr {p p':Int→Bool} {c c':Int→AV}:∀ (m:Nat) (i:Int) (ys:List AV),(∀ j,i≤j→j<i+m→p j=p' j∧c j=c' j)→appF p c m i ys=appF p' c' m i ys
 | 0,_,_,_=>rfl
 | m+1,i,ys,h=>by
  obtain ⟨h1,h2⟩:=h i (Int.le_refl _) (by omega)
  show appF p c m (i+1) (bif p i then ys++[c i] else ys)=appF p' c' m (i+1) (bif p' i then ys++[c' i] else ys)
  rw [h1,h2]
  exact appF_congr m (i+1) _ fun j j0 j1=>h j (by omega) (by omega)
theorem appF_back {p:Int→Bool} {c:Int→AV}:∀ (m:Nat) (i:Int) (ys:List AV),appF p c (m+1) i ys=bif p (i+m) then appF p c m i ys++[c (i+m)] else appF p c m i ys
 | 0,i,ys=>by
  show (bif p i then ys++[c i] else ys)=bif p (i+0) then ys++[c (i+0)] else ys
  rw [Int.add_zero]
 | m+1,i,ys=>by
  show appF p c (m+1) (i+1) (bif p i then ys++[c i] else ys)=_
  rw [appF_back m (i+1),show i+1+(m:Int)=i+((m+1:Nat):Int) by omega]
  rfl
def cnt (p:Int→Bool):Nat→Int→Nat
 | 0,_=>0
 | m+1,i=>cnt p m (i+1)+(bif p i then 1 else 0)
theorem appF_cnt {p:Int→Bool} {c:Int→AV}:∀ (m:Nat) (i:Int) (ys:List AV),(appF p c m i ys).length=ys.length+cnt p m i
 | 0,_,_=>rfl
 | m+1,i,ys=>by
  show (appF p c m (i+1) (bif p i then ys++[c i] else ys)).length=ys.length+(cnt p m (i+1)+(bif p i then 1 else 0))
  rw [appF_cnt m (i+1)]
  cases p i
  ·simp only [cond_false];omega
  ·simp only [cond_true,List.length_append,List.length_singleton];omega
theorem cnt_drop {p p':Int→Bool} {k:Int} (h1:p k=true) (h2:p' k=false) (h3:∀ j,0≤j→j ≠ k→p' j=p j):∀ (m:Nat) (i:Int),0≤i→cnt p m i=cnt p' m i+if i≤k∧k<i+m then 1 else 0
 | 0,i,_=>by
  rw [if_neg (by omega)]
  rfl
 | m+1,i,i0=>by
  show cnt p m (i+1)+_=cnt p' m (i+1)+_+_
  rw [cnt_drop h1 h2 h3 m (i+1) (by omega)]
  by_cases e:i=k
  ·subst e
   rw [h1,h2,if_neg (by omega),if_pos (by omega)]
   rfl
  ·rw [h3 i i0 e]
   by_cases c:i+1≤k∧k<i+1+m
   ·rw [if_pos c,if_pos (by omega)];omega
   ·rw [if_neg c,if_neg (by omega)]
    rfl
theorem mem_appF {p:Int→Bool} {c:Int→AV} {j:Int} (hp:p j=true):∀ (m:Nat) (i:Int) (ys:List AV),i≤j→j<i+m→c j ∈ appF p c m i ys
 | 0,i,_,h1,h2=>by omega
 | m+1,i,ys,h1,h2=>by
  rw [appF_back]
  by_cases e:j=i+m
  ·rw [← e,hp]
   exact List.mem_append_right _ (List.mem_singleton.2 rfl)
  ·have:=mem_appF (c:=c) hp m i ys h1 (by omega)
   cases p (i+m)
   ·exact this
   ·exact List.mem_append_left _ this
theorem hasI_mem (xs:List AV) (x:Int):hasI xs x=true ↔ ∃ y ∈ xs,fI y 0=x:=by
 rw [hasI_iff]
 constructor
 ·rintro ⟨j,j0,j1,e⟩
  exact ⟨_,mem_at j0 j1,e⟩
 ·rintro ⟨y,hy,e⟩
  obtain ⟨k,hk,rfl⟩:=List.mem_iff_getElem.1 hy
  refine ⟨k,by omega,by omega,?_⟩
  unfold el
  rw [show ((k:Int)).toNat=k by omega,List.getD_eq_getElem?_getD,List.getElem?_eq_getElem hk]
  exact e
theorem has_live (s:List AV) (x:Int):hasI (live s) x=true ↔ ∃ i:Int,0≤i∧i<s.length∧g s i 3 = -1∧g s i 1=x:=by
 rw [hasI_mem]
 constructor
 ·rintro ⟨y,hy,e⟩
  rcases appF_mem _ _ _ hy with h|⟨j,h1,h2,h3,rfl⟩
  ·simp at h
  ·exact ⟨j,h1,by omega,of_decide_eq_true h3,e⟩
 ·rintro ⟨i,i0,i1,h1,h2⟩
  exact ⟨dA s i,mem_appF (decide_eq_true h1) _ _ _ i0 (by omega),h2⟩
theorem live_len (s:List AV):(live s).length≤s.length:=by
 have:=appF_len (p:=lv s) (c:=dA s) s.length 0 []
 simpa [live] using this
theorem live_ins (s:List AV) (y:AV) (hy:fI y 3 = -1):live (s++[y])=live s++[AV.int .i64 (fI y 1)]:=by
 unfold live
 rw [List.length_append,List.length_singleton,appF_back]
 have ge:∀ j:Nat,fI ((s++[y]).getD ((0:Int)+s.length).toNat .undef) j=fI y j:=fun j=>by
  have:=g_app (s:=s) (y:=y) (i:=(0:Int)+s.length) (j:=j) (by omega)
  unfold g at this
  rw [this,if_neg (by omega),if_pos (by omega)]
 have e1:lv (s++[y]) (0+(s.length:Int))=true:=by
  unfold lv
  rw [ge 3]
  exact decide_eq_true hy
 have e2:dA (s++[y]) (0+(s.length:Int))=AV.int .i64 (fI y 1):=by
  unfold dA
  rw [ge 1]
 rw [e1,e2]
 simp only [cond_true]
 rw [appF_congr (p':=lv s) (c':=dA s) s.length 0 [] fun j j0 j1=>?_]
 have gj:∀ q:Nat,fI ((s++[y]).getD j.toNat .undef) q=fI (s.getD j.toNat .undef) q:=fun q=>by
  have:=g_app (s:=s) (y:=y) (i:=j) (j:=q) j0
  unfold g at this
  rw [this,if_pos (by omega)]
 unfold lv dA
 rw [gj 3,gj 1]
 exact ⟨rfl,rfl⟩
theorem P21h (xs:List AV) (x:Int) (h:xs.length≤1048576):q21 xs x=true∧v21_0 xs x=hasI xs x:=by
 have hr:runW (R21_0 xs x) (((xs.length:Int) - 0).toNat+1) 0=some (ro (findF (fun i=>decide (fI (xs.getD i.toNat .undef) 0=x)) xs.length 0) (.inl ()) fun _ => .inr ()):=by
  refine runW_find (fun i=>i) xs.length _ _ _ (fun i h0 hn=>?_) ?_ xs.length _ 0 (Int.le_refl 0) (by omega) (by omega)
  ·simp only [R21_0,F21_0,h0,hn,decide_true,Bool.and_self,cond_true]
   rw [wrap_in (a:=i+1) (by omega) (by omega)]
  ·simp only [R21_0,F21_0,Int.lt_irrefl,decide_false,cond_false]
 unfold q21 v21_0 hasI
 rw [hr]
 cases findF (fun i=>decide (fI (xs.getD i.toNat .undef) 0=x)) xs.length 0 <;> exact ⟨rfl,rfl⟩
theorem P20q (s:List AV) (n:Int) (v r p:List AV) (t a b:Int) (h0:s.length≤1048576) (h1:v.length≤1048576) (h2:r.length≤1048576) (h3:p.length≤1048576) (hN:N2 p) :
  q20 s n v r p t a b=true∧v20_0 s n v r p t a b=s∧v20_1 s n v r p t a b=n∧(v20_2 s n v r p t a b).length≤1048576∧(v20_3 s n v r p t a b).length≤1048576∧(v20_4 s n v r p t a b).length≤1048576∧N2 (v20_4 s n v r p t a b) ∧
   (isS s n v r p=true→t=n→a = -1000→b=1000→v20_5 s n v r p t a b=live s):=by
 obtain ⟨a1,a2,a3,a4,a5,a6⟩:=P47 s n v r p h0 h1 h2 h3
 obtain ⟨b1,b2⟩:=P19 s n v r p h0 h1 h2 h3
 obtain ⟨c1,c2,c3,c4,c5,c6,c7⟩:=P55s v r p a b h1 h2 h3 hN
 unfold q20 v20_0 v20_1 v20_2 v20_3 v20_4 v20_5
 rw [a1,a2,a3,a4,a5,a6,b1,b2,c1,run20 t s (v55_0 v r p a b) s n v r p (v55_1 v r p a b) (v55_2 v r p a b) 0 n (v55_3 v r p a b) h0 c6]
 cases hS:isS s n v r p with
 | false=>exact ⟨rfl,rfl,rfl,h1,h2,h3,hN,fun h=>by cases h⟩
 | true =>
  obtain ⟨s1,s2,s3,s4⟩:=(isS_iff s n v r p).1 hS
  cases hR:v54_0 a b with
  | false=>exact ⟨rfl,rfl,rfl,h1,h2,h3,hN,fun _ _ ha hb=>by subst ha hb;cases hR⟩
  | true =>
   cases hT:v52_0 t 0 n with
   | false=>exact ⟨rfl,rfl,rfl,h1,h2,h3,hN,fun _ ht _ _=>by rw [v52,ht,decide_eq_true s3.1,decide_eq_true (Int.le_refl n)] at hT;cases hT⟩
   | true =>
    refine ⟨rfl,rfl,rfl,c2,c3,c4,c5,fun _ ht ha hb=>?_⟩
    show appF (pA (v55_3 v r p a b) s t) (dA s) s.length 0 []=live s
    unfold live
    refine appF_congr _ _ _ fun i i0 i1=>⟨?_,rfl⟩
    have o:=s4 i i0 (by omega)
    have hr:=rowK_some o.row
    unfold pA lv v27_0
    rw [c7 s1 ha hb,ht]
    have e1:hasI r (fI (s.getD i.toNat .undef) 1)=true:=(hasI_iff _ _).2 ⟨_,o.row,hr.1,hr.2⟩
    have e2:decide (fI (s.getD i.toNat .undef) 2≤n)=true:=decide_eq_true o.b1
    rw [e1,e2]
    simp only [Bool.true_and,cond_true]
    by_cases e:fI (s.getD i.toNat .undef) 3 = -1
    ·rw [decide_eq_true e];rfl
    ·rw [decide_eq_false e]
     rcases o.d with d|d
     ·exact absurd d e
     ·have:g s i 3≤n:=d.2
      exact decide_eq_false (by unfold g at this;omega)
theorem el_snoc (xs:List AV) (y:AV) {i:Int} (i0:0≤i) (i1:i<xs.length):el (xs++[y]) i=el xs i:=by
 unfold el
 rw [List.getD_eq_getElem?_getD,List.getElem?_append_left (by omega),List.getD_eq_getElem?_getD]
theorem rip48 {vs rs ps:List AV} {x row:Int} (h1:vs.length≤1048576) (h2:rs.length≤1048576) (h3:ps.length≤1048576) (hN:N2 ps) (h:v48_4 vs rs ps x row=true) :
  Rin vs rs ps x row (v48_0 vs rs ps x row) (v48_1 vs rs ps x row) (v48_2 vs rs ps x row):=by
 obtain ⟨a1,a2,a3,a4⟩:=P75 vs rs ps h1 h2 h3
 have e53:v53_0 vs rs ps row=rowK rs row:=(P53 vs rs ps row h2).2.trans (P90 rs row h2).2
 unfold v48_4 at h
 unfold v48_0 v48_1 v48_2
 rw [(P51 vs rs ps h1 h2 h3).2,e53] at h ⊢
 cases hc:isC vs rs ps with
 | false=>rw [hc] at h;cases h
 | true =>
  rw [hc] at h
  cases hi:v86_0 x row with
  | false=>rw [hi] at h;cases h
  | true =>
   rw [hi] at h
   by_cases hf:rowK rs row ≥ 0
   ·rw [decide_eq_true hf] at h;cases h
   ·rw [decide_eq_false hf] at h ⊢
    by_cases hl:(vs.length:Int) ≥ 64
    ·rw [decide_eq_true hl] at h;cases h
    ·rw [decide_eq_false hl,a2,a3,a4]
     have hcol:=(isC_iff vs rs ps h1).1 hc
     have hlen:=hcol.len
     have w1:IntKind.i64.wrap ((ps.length:Int) - 1)=ps.length - 1:=wrap_in (by omega) (by omega)
     have hx:(-999≤x∧x≤999)∧0≤row∧row≤999:=by
      unfold v86_0 at hi
      rw [v52,v52] at hi
      cases hb:(decide (-999≤x) && decide (x≤999)) with
      | false=>rw [hb] at hi;cases hi
      | true =>
       rw [hb] at hi
       simp only [cond_true,Bool.and_eq_true,decide_eq_true_eq] at hi hb
       exact ⟨hb,hi⟩
     have I0:Rp vs rs ps x ((vs.length:Int),0,(ps.length:Int) - 1,vs++[AV.int .i64 0],rs++[AV.int .i64 0],ps) id :=
      ⟨by simp,by simp only [List.length_append,List.length_singleton];omega,rfl,by simp only;omega,by simp only;omega,Int.le_refl 0,by simp only;omega,by simp only;omega,Int.le_refl _,fun q q0 q1=>(hcol.pa q q0 (by simp only at q1;omega)).2,fun q q0 q1=>by simp only at q0;omega,
       fun q q0 q1=>⟨rfl,by simp only;rw [if_neg (by omega)]⟩,hN,fun i i0 i1=>⟨el_snoc vs _ i0 i1,el_snoc rs _ i0 (by simp only at i1;omega)⟩,fun i i0 i1=>by simp only at i0;omega,fun j j0 j1=>by simp only at j0;omega,fun i i' i0 i1=>by simp only at i0;omega⟩
     obtain ⟨s',τ',g1,g2,g3⟩:=runRp hcol x row (((ps.length:Int) - 1 - 0+1).toNat+1) _ _ I0 (by simp only;omega)
     rw [w1,g1]
     exact rin_of hcol hx.1 hx.2 (rowK_neg (by omega)) (by omega) g2 g3
theorem badT_up {v r s:List AV} {n i:Int} {V R S:List AV} {N:Int} (o:Ok1 v r s n i) (hn:n≤N) (h2:g S i 2=g s i 2) (h3:g S i 3=g s i 3):0≤g S i 2∧g S i 2≤N∧(g S i 3 = -1∨g S i 2<g S i 3∧g S i 3≤N):=by
 rw [h2,h3]
 have:=o.b0
 have:=o.b1
 refine ⟨by omega,by omega,?_⟩
 rcases o.d with d|d
 ·exact .inl d
 ·exact .inr ⟨d.1,by omega⟩
structure Insd (s:List AV) (n:Int) (v r p:List AV) (x:Int):Prop where
 was:isS s n v r p=true
 n1:n<1000
 now:v16_1 s n v r p x=n+1
 row:∀ i:Int,0≤i→i<s.length→g s i 1<v16_5 s n v r p x
 st:v16_0 s n v r p x=s++[AV.agg [AV.int .i64 x,AV.int .i64 (v16_5 s n v r p x),AV.int .i64 (n+1),AV.int .i64 (-1)]]
 rin:Rin v r p x (v16_5 s n v r p x) (v16_2 s n v r p x) (v16_3 s n v r p x) (v16_4 s n v r p x)
theorem insd {s:List AV} {n:Int} {v r p:List AV} {x:Int} (h0:s.length≤1048576) (h1:v.length≤1048576) (h2:r.length≤1048576) (h3:p.length≤1048576) (hN:N2 p) (h:v16_6 s n v r p x=true):Insd s n v r p x:=by
 obtain ⟨a1,a2,a3,a4,a5,a6⟩:=P47 s n v r p h0 h1 h2 h3
 obtain ⟨b1,b2⟩:=P19 s n v r p h0 h1 h2 h3
 unfold v16_6 at h
 rw [b2] at h
 cases hS:isS s n v r p with
 | false=>rw [hS] at h;cases h
 | true =>
  obtain ⟨s1,s2,s3,s4⟩:=(isS_iff s n v r p).1 hS
  rw [hS] at h
  by_cases hn:n ≥ 1000
  ·rw [decide_eq_true hn] at h;cases h
  ·rw [decide_eq_false hn] at h
   have wn:IntKind.i64.wrap (n+1)=n+1:=wrap_in (by omega) (by omega)
   by_cases hl:(s.length:Int) > 0
   ·have w1:IntKind.i64.wrap ((s.length:Int) - 1)=s.length - 1:=wrap_in (by omega) (by omega)
    have o:=s4 ((s.length:Int) - 1) (by omega) (by omega)
    have hcol:=(isC_iff v r p h1).1 s1
    have hr:=rowK_some o.row
    have hrow:=hcol.rows _ o.row hr.1
    rw [hr.2] at hrow
    have w2:IntKind.i64.wrap (fI (s.getD ((s.length:Int) - 1).toNat AV.undef) 1+1)=g s ((s.length:Int) - 1) 1+1:=by
     show IntKind.i64.wrap (g s ((s.length:Int) - 1) 1+1)=_
     rw [wrap_in (by omega) (by omega)]
    rw [decide_eq_true hl,w1,w2] at h
    have e5:v16_5 s n v r p x=g s ((s.length:Int) - 1) 1+1:=by
     unfold v16_5
     rw [b2,hS,decide_eq_false hn,decide_eq_true hl,w1,w2]
     cases hv:v48_4 v r p x (g s ((s.length:Int) - 1) 1+1) with
     | false=>rw [hv] at h;cases h
     | true=>rfl
    cases hv:v48_4 v r p x (g s ((s.length:Int) - 1) 1+1) with
    | false=>rw [hv] at h;cases h
    | true =>
     refine ⟨hS,by omega,?_,fun i i0 i1=>?_,?_,?_⟩
     ·unfold v16_1
      rw [b2,hS,decide_eq_false hn,decide_eq_true hl,w1,w2,hv,wn]
      rfl
     ·rw [e5]
      by_cases e:i=(s.length:Int) - 1
      ·rw [e];omega
      ·have:=rows_lt s4 i0 (show i<(s.length:Int) - 1 by omega) (by omega)
       omega
     ·rw [e5]
      unfold v16_0
      rw [b2,hS,decide_eq_false hn,decide_eq_true hl,w1,w2,hv,wn,a2]
      rfl
     ·rw [e5]
      unfold v16_2 v16_3 v16_4
      rw [b2,hS,decide_eq_false hn,decide_eq_true hl,w1,w2,hv]
      exact rip48 h1 h2 h3 hN hv
   ·rw [decide_eq_false hl] at h
    have e5:v16_5 s n v r p x=0:=by
     unfold v16_5
     rw [b2,hS,decide_eq_false hn,decide_eq_false hl]
     rfl
    cases hv:v48_4 v r p x 0 with
    | false=>rw [hv] at h;cases h
    | true =>
     refine ⟨hS,by omega,?_,fun i i0 i1=>by omega,?_,?_⟩
     ·unfold v16_1
      rw [b2,hS,decide_eq_false hn,decide_eq_false hl,hv,wn]
      rfl
     ·rw [e5]
      unfold v16_0
      rw [b2,hS,decide_eq_false hn,decide_eq_false hl,hv,wn,a2]
      rfl
     ·rw [e5]
      unfold v16_2 v16_3 v16_4
      rw [b2,hS,decide_eq_false hn,decide_eq_false hl,hv]
      exact rip48 h1 h2 h3 hN hv
theorem ins_ok {s:List AV} {n:Int} {v r p:List AV} {x:Int} (I:Insd s n v r p x):isS (v16_0 s n v r p x) (v16_1 s n v r p x) (v16_2 s n v r p x) (v16_3 s n v r p x) (v16_4 s n v r p x)=true:=by
 obtain ⟨was,n1,now,row,st,rin⟩:=I
 obtain ⟨s1,s2,s3,s4⟩:=(isS_iff s n v r p).1 was
 rw [st,now]
 generalize v16_5 s n v r p x=w at *
 generalize v16_2 s n v r p x=V at *
 generalize v16_3 s n v r p x=R at *
 generalize v16_4 s n v r p x=P at *
 have hc:=rin.col
 have hl:=hc.len
 have hlv:=rin.lv
 refine (isS_iff _ _ _ _ _).2 ⟨(isC_iff V R P (by have:=hc.n64;omega)).2 hc,by rw [List.length_append,List.length_singleton,hlv];omega,⟨by omega,by omega⟩,fun i i0 i1=>?_⟩
 rw [List.length_append,List.length_singleton] at i1
 have ga:∀ (k:Int) (j:Nat),0≤k→k<s.length→g (s++[AV.agg [AV.int .i64 x,AV.int .i64 w,AV.int .i64 (n+1),AV.int .i64 (-1)]]) k j=g s k j:=fun k j k0 k1=>by rw [g_app k0,if_pos k1]
 by_cases e:i=s.length
 ·have gb:∀ j:Nat,g (s++[AV.agg [AV.int .i64 x,AV.int .i64 w,AV.int .i64 (n+1),AV.int .i64 (-1)]]) i j=fI (AV.agg [AV.int .i64 x,AV.int .i64 w,AV.int .i64 (n+1),AV.int .i64 (-1)]) j:=fun j=>by rw [g_app i0,if_neg (by omega),if_pos e]
  obtain ⟨k,k0,k1,k2,k3⟩:=rin.new
  have hk:rowK R w=k:=by rw [← k3];exact rowK_at hc k0 (by omega)
  refine ⟨?_,?_,fun hi=>?_,?_,?_,?_⟩
  ·rw [gb 1];show 0≤rowK R w;omega
  ·rw [gb 1,gb 0];show el V (rowK R w)=x;rw [hk];exact k2
  ·rw [gb 1,ga (i - 1) 1 (by omega) (by omega)]
   exact row (i - 1) (by omega) (by omega)
  ·rw [gb 2];show 0≤n+1;omega
  ·rw [gb 2];exact Int.le_refl _
  ·rw [gb 3];exact .inl rfl
 ·have o:=s4 i i0 (by omega)
  obtain ⟨q1,q2⟩:=rowK_some o.row
  have hcol:=(isC_iff v r p (by have:=(isS_iff s n v r p).1 was;have:=rin.lv;have:=hc.n64;omega)).1 s1
  obtain ⟨k,k0,k1,k2,k3⟩:=rin.old _ o.row (by have:=hcol.len;omega)
  rw [q2] at k3
  have hk:rowK R (g s i 1)=k:=by rw [← k3];exact rowK_at hc k0 (by omega)
  obtain ⟨t1,t2,t3⟩:=badT_up (V:=V) (R:=R) (S:=s++[AV.agg [AV.int .i64 x,AV.int .i64 w,AV.int .i64 (n+1),AV.int .i64 (-1)]]) (N:=n+1) o (by omega) (ga i 2 i0 (by omega)) (ga i 3 i0 (by omega))
  refine ⟨?_,?_,fun hi=>?_,t1,t2,t3⟩
  ·rw [ga i 1 i0 (by omega),hk];exact k0
  ·rw [ga i 1 i0 (by omega),ga i 0 i0 (by omega),hk,k2];exact o.val
  ·rw [ga i 1 i0 (by omega),ga (i - 1) 1 (by omega) (by omega)]
   exact o.asc hi
structure Deld (s:List AV) (n:Int) (v r p:List AV) (k:Int):Prop where
 was:isS s n v r p=true
 n1:n<1000
 now:DN s n v r p k=n+1
 at_:∃ i:Int,0≤i∧i<s.length∧g s i 1=k∧g s i 3 = -1∧DS s n v r p k=s.set i.toNat (cD s n i)
theorem deld {s:List AV} {n:Int} {v r p:List AV} {k:Int} (h:DB s n v r p k=true):Deld s n v r p k:=by
 have h':=h
 unfold DB at h'
 simp only [Bool.and_eq_true,decide_eq_true_eq] at h'
 obtain ⟨h1,h2,h3⟩:=h'
 obtain ⟨i,hi⟩:=Option.isSome_iff_exists.1 h3
 obtain ⟨i0,i1,i2⟩:=findF_some _ _ hi
 unfold pD at i2
 simp only [Bool.and_eq_true,decide_eq_true_eq] at i2
 exact ⟨h1,h2,by unfold DN;rw [h];rfl,i,i0,by omega,i2.1,i2.2,by unfold DS;rw [h,hi];rfl⟩
theorem g_del {s:List AV} {n i:Int} (i0:0≤i) (i1:i<s.length) {k:Int} (k0:0≤k) (j:Nat):g (s.set i.toNat (cD s n i)) k j=if k=i then fI (cD s n i) j else g s k j:=by
 unfold g
 by_cases e:k=i
 ·rw [if_pos e,e,getD_set (by omega)]
 ·rw [if_neg e,getD_set_ne (by omega)]
theorem del_ok {s:List AV} {n:Int} {v r p:List AV} {k:Int} (D:Deld s n v r p k):isS (DS s n v r p k) (DN s n v r p k) v r p=true:=by
 obtain ⟨was,n1,now,i,i0,i1,i2,i3,st⟩:=D
 obtain ⟨s1,s2,s3,s4⟩:=(isS_iff s n v r p).1 was
 rw [st,now]
 refine (isS_iff _ _ _ _ _).2 ⟨s1,by rw [List.length_set];exact s2,⟨by omega,by omega⟩,fun q q0 q1=>?_⟩
 rw [List.length_set] at q1
 have o:=s4 q q0 q1
 have same:∀ (m:Int) (j:Nat),0≤m→j<3→g (s.set i.toNat (cD s n i)) m j=g s m j:=fun m j m0 j3=>by
  rw [g_del i0 i1 m0]
  by_cases e:m=i
  ·rw [if_pos e,e]
   obtain rfl|rfl|rfl:j=0∨j=1∨j=2:=by omega
   ·rfl
   ·rfl
   ·rfl
  ·rw [if_neg e]
 have b0:=o.b0
 have b1:=o.b1
 refine ⟨by rw [same q 1 q0 (by omega)];exact o.row,by rw [same q 1 q0 (by omega),same q 0 q0 (by omega)];exact o.val,fun hi=>by rw [same q 1 q0 (by omega),same (q - 1) 1 (by omega) (by omega)];exact o.asc hi,by rw [same q 2 q0 (by omega)];exact b0,by rw [same q 2 q0 (by omega)];omega,?_⟩
 rw [same q 2 q0 (by omega),g_del i0 i1 q0]
 by_cases e:q=i
 ·rw [if_pos e]
  exact .inr ⟨by show _<n+1;omega,Int.le_refl _⟩
 ·rw [if_neg e]
  rcases o.d with d|d
  ·exact .inl d
  ·exact .inr ⟨d.1,by omega⟩
theorem live_del {s:List AV} {n:Int} {v r p:List AV} {k:Int} (D:Deld s n v r p k):(live s).length=(live (DS s n v r p k)).length+1∧hasI (live (DS s n v r p k)) k=false∧hasI (live s) k=true:=by
 obtain ⟨was,n1,now,i,i0,i1,i2,i3,st⟩:=D
 obtain ⟨s1,s2,s3,s4⟩:=(isS_iff s n v r p).1 was
 rw [st]
 refine ⟨?_,?_,(has_live s k).2 ⟨i,i0,i1,i3,i2⟩⟩
 ·unfold live
  rw [appF_cnt,appF_cnt,List.length_set]
  have dead:lv (s.set i.toNat (cD s n i)) i=false:=by
   have:=g_del (n:=n) i0 i1 i0 3
   rw [if_pos rfl] at this
   unfold lv
   unfold g at this
   rw [this]
   exact decide_eq_false (by show ¬ n+1 = -1;omega)
  have oth:∀ j:Int,0≤j→j ≠ i→lv (s.set i.toNat (cD s n i)) j=lv s j:=fun j j0 hj=>by
   unfold lv
   rw [getD_set_ne (by omega)]
  have:=cnt_drop (p:=lv s) (p':=lv (s.set i.toNat (cD s n i))) (k:=i) (decide_eq_true i3) dead oth s.length 0 (Int.le_refl 0)
  rw [if_pos ⟨i0,by omega⟩] at this
  rw [this]
  simp only [List.length_nil]
  omega
 ·cases hh:hasI (live (s.set i.toNat (cD s n i))) k with
  | false=>rfl
  | true =>
   obtain ⟨j,j0,j1,j2,j3⟩:=(has_live _ _).1 hh
   rw [List.length_set] at j1
   rw [g_del i0 i1 j0] at j2 j3
   by_cases e:j=i
   ·rw [if_pos e] at j2
    have:n+1 = -1:=j2
    omega
   ·rw [if_neg e] at j3
    exfalso
    rcases Int.lt_or_gt_of_ne e with c|c
    ·have:=rows_lt s4 j0 c i1;omega
    ·have:=rows_lt s4 i0 c j1;omega
end Go.Proofs.Ytkdnhnkhcldonaa
