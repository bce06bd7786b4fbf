import Derived.Test.YtcondihilccdpaaDoorVEx
namespace Go.Proofs.VE
open Go
def foldE {T R:Type} (g:Int→T→T ⊕ R):Nat→Int→T→T ⊕ R
 | 0,_,t => .inl t
 | n+1,i,t=>match g i t with
  | .inl t=>foldE g n (i+1) t
  | .inr r => .inr r
theorem runW_foldE {S T R R':Type} {f:S→Out S R} (E:Int→T→S) (n:Int) (g:Int→T→T ⊕ R') (K:T→R) (L:R'→R) (I:Int→T→Prop)
  (h1:∀ i t,0≤i→i<n→I i t→match g i t with | .inl t'=>f (E i t) = .next (E (i+1) t')∧I (i+1) t' | .inr r=>f (E i t) = .stop (L r))
  (h2:∀ t,I n t→f (E n t) = .stop (K t)):∀ (m fuel:Nat) (i:Int) (t:T),0≤i→i+m=n→m<fuel→I i t→runW f fuel (E i t)=some (match foldE g m i t with | .inl t=>K t | .inr r=>L r)
 | m,0,i,t,_,_,h,_=>by omega
 | 0,fuel+1,i,t,_,hn,_,hi=>by
  have hn':i=n:=by omega
  subst hn'
  show (f (E i t)).el none _ some=_
  rw [h2 t hi]
  rfl
 | m+1,fuel+1,i,t,h0,hn,hf,hi=>by
  show (f (E i t)).el none _ some=_
  have h:=h1 i t h0 (by omega) hi
  simp only [foldE]
  cases hg:g i t with
  | inl t' =>
   rw [hg] at h
   simp only at h ⊢
   rw [h.1]
   exact runW_foldE E n g K L I h1 h2 m fuel (i+1) t' (by omega) (by omega) (by omega) h.2
  | inr r =>
   rw [hg] at h
   simp only at h ⊢
   rw [h]
   rfl
theorem runW_fold {S T R:Type} {f:S→Out S R} (E:Int→T→S) (n:Int) (g:Int→T→T) (K:T→R) (I:Int→T→Prop)
  (h1:∀ i t,0≤i→i<n→I i t→f (E i t) = .next (E (i+1) (g i t))∧I (i+1) (g i t))
  (h2:∀ t,I n t→f (E n t) = .stop (K t)):∀ (m fuel:Nat) (i:Int) (t:T),0≤i→i+m=n→m<fuel→I i t→runW f fuel (E i t)=some (K (foldF g m i t))
 | m,0,i,t,_,_,h,_=>by omega
 | 0,fuel+1,i,t,_,hn,_,hi=>by
  have hn':i=n:=by omega
  subst hn'
  show (f (E i t)).el none _ some=_
  rw [h2 t hi]
  rfl
 | m+1,fuel+1,i,t,h0,hn,hf,hi=>by
  show (f (E i t)).el none _ some=_
  have h:=h1 i t h0 (by omega) hi
  rw [h.1]
  exact runW_fold E n g K I h1 h2 m fuel (i+1) (g i t) (by omega) (by omega) (by omega) h.2
def findF (p:Int→Bool):Nat→Int→Option Int
 | 0,_=>none
 | n+1,i=>bif p i then some i else findF p n (i+1)
theorem runW_find {S R:Type} {f:S→Out S R} (E:Int→S) (n:Int) (p:Int→Bool) (K:R) (L:Int→R)
  (h1:∀ i,0≤i→i<n→f (E i)=bif p i then .stop (L i) else .next (E (i+1)))
  (h2:f (E n) = .stop K):∀ (m fuel:Nat) (i:Int),0≤i→i+m=n→m<fuel→runW f fuel (E i)=some (ro (findF p m i) K L)
 | m,0,i,_,_,h=>by omega
 | 0,fuel+1,i,_,hn,_=>by
  have hn':i=n:=by omega
  subst hn'
  show (f (E i)).el none _ some=_
  rw [h2]
  rfl
 | m+1,fuel+1,i,h0,hn,hf=>by
  show (f (E i)).el none _ some=_
  rw [h1 i h0 (by omega)]
  simp only [findF]
  cases p i with
  | true=>rfl
  | false=>exact runW_find E n p K L h1 h2 m fuel (i+1) (by omega) (by omega) (by omega)
theorem foldF_congr {S:Type} {f g:Int→S→S} {n:Int} (h:∀ i s,0≤i→i<n→f i s=g i s):∀ (m:Nat) (i:Int) (s:S),0≤i→i+m≤n→foldF f m i s=foldF g m i s
 | 0,_,_,_,_=>rfl
 | m+1,i,s,h0,hn=>by
  simp only [foldF]
  rw [h i s h0 (by omega)]
  exact foldF_congr h m (i+1) (g i s) (by omega) (by omega)
theorem findF_congr {p q:Int→Bool} {n:Int} (h:∀ i,0≤i→i<n→p i=q i):∀ (m:Nat) (i:Int),0≤i→i+m≤n→findF p m i=findF q m i
 | 0,_,_,_=>rfl
 | m+1,i,h0,hn=>by
  simp only [findF]
  rw [h i h0 (by omega),findF_congr h m (i+1) (by omega) (by omega)]
theorem findF_none {p:Int→Bool}:∀ (m:Nat) (i:Int),(∀ j,i≤j→j<i+m→p j=false)→findF p m i=none
 | 0,_,_=>rfl
 | m+1,i,h=>by
  simp only [findF,h i (by omega) (by omega),cond_false]
  exact findF_none m (i+1) fun j h1 h2=>h j (by omega) (by omega)
theorem findF_some {p:Int→Bool} {j:Int}:∀ (m:Nat) (i:Int),findF p m i=some j→i≤j∧j<i+m∧p j=true
 | 0,_,h=>by cases h
 | m+1,i,h=>by
  simp only [findF] at h
  cases hp:p i <;> rw [hp] at h
  ·obtain ⟨h1,h2,h3⟩:=findF_some m (i+1) h
   exact ⟨by omega,by omega,h3⟩
  ·simp only [cond_true,Option.some.injEq] at h
   subst h
   exact ⟨by omega,by omega,hp⟩
theorem foldF_set {h:Int→AV}:∀ (n:Nat) (i:Int) (ys:List AV),0≤i→(foldF (fun i ys=>ys.set i.toNat (h i)) n i ys).length=ys.length ∧
  ∀ j:Nat,(foldF (fun i ys=>ys.set i.toNat (h i)) n i ys)[j]?=if i≤j∧(j:Int)<i+n∧j<ys.length then some (h j) else ys[j]?
 | 0,i,ys,_=>⟨rfl,fun j=>by rw [if_neg (by omega)];rfl⟩
 | n+1,i,ys,h0=>by
  obtain ⟨h1,h2⟩:=foldF_set (h:=h) n (i+1) (ys.set i.toNat (h i)) (by omega)
  refine ⟨by rw [foldF,h1,List.length_set],fun j=>?_⟩
  rw [foldF,h2 j,List.length_set]
  by_cases hj:i=j
  ·subst hj
   rw [if_neg (by omega)]
   by_cases hl:j<ys.length
   ·rw [if_pos (by omega),Int.toNat_natCast,List.getElem?_set_self hl]
   ·rw [if_neg (by omega),List.getElem?_eq_none (by rw [List.length_set];omega),List.getElem?_eq_none (by omega)]
  ·have hne:i.toNat ≠ j:=by omega
   rw [List.getElem?_set_ne hne]
   by_cases hc:i+1≤j∧(j:Int)<i+1+n∧j<ys.length
   ·rw [if_pos hc,if_pos (by omega)]
   ·rw [if_neg hc,if_neg (by omega)]
theorem fold_map {f:AV→AV} {z:AV} (xs:List AV):foldF (fun i ys=>ys.set i.toNat (f (xs.getD i.toNat .undef))) xs.length 0 (List.replicate xs.length z)=xs.map f:=by
 obtain ⟨h1,h2⟩:=foldF_set (h:=fun i=>f (xs.getD i.toNat .undef)) xs.length 0 (List.replicate xs.length z) (Int.le_refl 0)
 apply List.ext_getElem?
 intro j
 rw [h2 j,List.getElem?_map,List.length_replicate]
 by_cases hj:j<xs.length
 ·rw [if_pos (by omega)]
  simp [hj]
 ·rw [if_neg (by omega),List.getElem?_eq_none (by rw [List.length_replicate];omega),List.getElem?_eq_none (by omega)]
  rfl
theorem runW_copy {f:Int × List AV→Out (Int × List AV) (List AV)} {c:AV→AV} {z:AV} (xs:List AV)
  (h1:∀ (i:Int) (ys:List AV),0≤i→i<xs.length→ys.length=xs.length→f (i,ys) = .next (i+1,ys.set i.toNat (c (xs.getD i.toNat .undef))))
  (h2:∀ ys,f ((xs.length:Int),ys) = .stop ys):runW f (((xs.length:Int) - 0).toNat+1) (0,List.replicate (Int.toNat (xs.length:Int)) z)=some (xs.map c):=by
 have:=runW_fold (f:=f) (fun i ys=>(i,ys)) xs.length (fun i ys=>ys.set i.toNat (c (xs.getD i.toNat .undef))) id (fun _ ys=>ys.length=xs.length) (fun i t h0 hn hi=>⟨h1 i t h0 hn hi,by rw [List.length_set];exact hi⟩) (fun t _=>h2 t)
  xs.length (((xs.length:Int) - 0).toNat+1) 0 (List.replicate xs.length z) (Int.le_refl 0) (by omega) (by omega) (List.length_replicate ..)
 rw [fold_map] at this
 exact this
theorem getD_set {xs:List AV} {i:Nat} {v d:AV} (h:i<xs.length):(xs.set i v).getD i d=v:=by
 simp [h]
theorem fI_agg {cs:List AV} {j:Nat} {k:IntKind} {n:Int} (h:cs[j]?=some (.int k n)):fI (.agg cs) j=n:=by
 simp [fI,AV.cells,h]
theorem fB_agg {cs:List AV} {j:Nat} {b:Bool} (h:cs[j]?=some (.bool b)):fB (.agg cs) j=b:=by
 simp [fB,AV.cells,h]
theorem runW_mark {f:Int × Int × List AV→Out (Int × Int × List AV) (Int × List AV)} (d:Int) (c:Int→AV) (xs:List AV) (k:Int) (M:Int) (hd:0≤d) (hk:0≤k) (hM:k+d*xs.length≤M)
  (h1:∀ (t i:Int) (ys:List AV),0≤i→i<xs.length→ys.length=xs.length→0≤t→t+d≤M→f (t,i,ys) = .next (t+d,i+1,ys.set i.toNat (c t)))
  (h2:∀ (t:Int) (ys:List AV),ys.length=xs.length→f (t,(xs.length:Int),ys) = .stop (t,ys)) :
  ∃ ys,runW f (((xs.length:Int) - 0).toNat+1) (k,0,xs)=some (k+d*xs.length,ys)∧ys.length=xs.length∧∀ i:Nat,i<xs.length→ys.getD i .undef=c (k+d*i):=by
 have key:=runW_fold (f:=f) (fun i (s:Int × List AV)=>(s.1,i,s.2)) xs.length (fun i s=>(s.1+d,s.2.set i.toNat (c s.1))) id
  (fun i s=>0≤i→i≤xs.length→s.1=k+d*i∧s.2.length=xs.length∧∀ j:Nat,(j:Int)<i→s.2.getD j .undef=c (k+d*j))
  (fun i s h0 hn hI=>by
   obtain ⟨e1,e2,e3⟩:=hI h0 (by omega)
   have hmul:d*(i+1)≤d*xs.length:=Int.mul_le_mul_of_nonneg_left (by omega) hd
   have hmul0:0≤d*i:=Int.mul_nonneg hd h0
   rw [Int.mul_add,Int.mul_one] at hmul
   refine ⟨h1 s.1 i s.2 h0 hn e2 (by omega) (by omega),fun _ _=>⟨by rw [e1,Int.mul_add,Int.mul_one];omega,by rw [List.length_set];exact e2,fun j hj=>?_⟩⟩
   by_cases hji:(j:Int)=i
   ·have:i.toNat=j:=by omega
    rw [this,getD_set (by omega),e1,← hji]
   ·rw [← e3 j (by omega)]
    simp only [List.getD_eq_getElem?_getD]
    rw [List.getElem?_set_ne (by omega)])
  (fun s hI=>h2 s.1 s.2 (hI (by omega) (by omega)).2.1) xs.length (((xs.length:Int) - 0).toNat+1) 0 (k,xs) (Int.le_refl 0) (by omega) (by omega) (fun _ _=>⟨by simp,rfl,fun j hj=>by omega⟩)
 have inv:∀ (m:Nat) (i:Int) (s:Int × List AV),0≤i→i+m=xs.length→(s.1=k+d*i∧s.2.length=xs.length∧∀ j:Nat,(j:Int)<i→s.2.getD j .undef=c (k+d*j)) →
   ((
    foldF (fun i (s:Int × List AV)=>(s.1+d,s.2.set i.toNat (c s.1))) m i s).1=k+d*xs.length∧(foldF (fun i (s:Int × List AV)=>(s.1+d,s.2.set i.toNat (c s.1))) m i s).2.length=xs.length ∧
    ∀ j:Nat,(j:Int)<xs.length→(foldF (fun i (s:Int × List AV)=>(s.1+d,s.2.set i.toNat (c s.1))) m i s).2.getD j .undef=c (k+d*j)):=by
  intro m
  induction m with
  | zero =>
       intro i s h0 hn hs;have:i=xs.length:=by omega
       subst this;exact hs
  | succ m ih =>
   intro i s h0 hn hs
   obtain ⟨e1,e2,e3⟩:=hs
   refine ih (i+1) _ (by omega) (by omega) ⟨by simp only [e1,Int.mul_add,Int.mul_one];omega,by simp only [List.length_set];exact e2,fun j hj=>?_⟩
   by_cases hji:(j:Int)=i
   ·have:i.toNat=j:=by omega
    simp only
    rw [this,getD_set (by omega),e1,← hji]
   ·rw [← e3 j (by omega)]
    simp only [List.getD_eq_getElem?_getD]
    rw [List.getElem?_set_ne (by omega)]
 obtain ⟨i1,i2,i3⟩:=inv xs.length 0 (k,xs) (Int.le_refl 0) (by omega) ⟨by simp,rfl,fun j hj=>by omega⟩
 refine ⟨(foldF (fun i (s:Int × List AV)=>(s.1+d,s.2.set i.toNat (c s.1))) xs.length 0 (k,xs)).2,?_,i2,fun i hi=>i3 i (by omega)⟩
 rw [key,← i1]
 rfl
theorem runW_held {f:Int × Int→Out (Int × Int) (Int ⊕ Unit)} (d:Int) (n:Nat) (k:Int) (M:Int) (hd:0≤d) (hk:0≤k) (hM:k+d*n≤M)
  (h1:∀ (i:Int),0≤i→i<n→0≤k+d*i→k+d*i+d≤M→f (k+d*i,i) = .next (k+d*i+d,i+1))
  (h2:∀ (t:Int),f (t,(n:Int)) = .stop (.inl t)) :
  runW f (((n:Int) - 0).toNat+1) (k,0)=some (.inl (k+d*n)):=by
 have key:=runW_fold (f:=f) (fun i (s:Int)=>(s,i)) n (fun _ s=>s+d) (fun s => .inl s) (fun i s=>s=k+d*i)
  (fun i s h0 hn hI=>by
   subst hI
   have hmul:d*(i+1)≤d*n:=Int.mul_le_mul_of_nonneg_left (by omega) hd
   have hmul0:0≤d*i:=Int.mul_nonneg hd h0
   rw [Int.mul_add,Int.mul_one] at hmul
   exact ⟨h1 i h0 hn (by omega) (by omega),by show k+d*i+d=k+d*(i+1);rw [Int.mul_add,Int.mul_one];omega⟩)
  (fun s _=>h2 s) n (((n:Int) - 0).toNat+1) 0 k (Int.le_refl 0) (by omega) (by omega) (by simp)
 have inv:∀ (m:Nat) (i:Int) (s:Int),0≤i→i+m=n→s=k+d*i→foldF (fun _ s=>s+d) m i s=k+d*n:=by
  intro m
  induction m with
  | zero =>
       intro i s h0 hn hs;have:i=n:=by omega
       subst this;exact hs
  | succ m ih=>intro i s h0 hn hs;exact ih (i+1) _ (by omega) (by omega) (by show s+d=k+d*(i+1);rw [hs,Int.mul_add,Int.mul_one];omega)
 rw [key,inv n 0 k (Int.le_refl 0) (by omega) (by simp)]
def appF (p:Int→Bool) (c:Int→AV) (m:Nat) (i:Int) (ys:List AV):List AV:=foldF (fun i ys=>bif p i then ys++[c i] else ys) m i ys
theorem appF_len {p:Int→Bool} {c:Int→AV}:∀ (m:Nat) (i:Int) (ys:List AV),(appF p c m i ys).length≤ys.length+m
 | 0,_,_=>Nat.le_refl _
 | m+1,i,ys=>by
  have:=appF_len (p:=p) (c:=c) m (i+1) (bif p i then ys++[c i] else ys)
  show (appF p c m (i+1) (bif p i then ys++[c i] else ys)).length≤_
  cases hp:p i <;> rw [hp] at this <;> simp at this ⊢ <;> omega
theorem appF_mem {p:Int→Bool} {c:Int→AV} {y:AV}:∀ (m:Nat) (i:Int) (ys:List AV),y ∈ appF p c m i ys→y ∈ ys∨∃ j,i≤j∧j<i+m∧p j=true∧y=c j
 | 0,_,_,h => .inl h
 | m+1,i,ys,h=>by
  rcases appF_mem m (i+1) (bif p i then ys++[c i] else ys) h with h|⟨j,h1,h2,h3,h4⟩
  ·cases hp:p i <;> rw [hp] at h
   ·exact .inl h
   ·rcases List.mem_append.1 h with h|h
    ·exact .inl h
    ·exact .inr ⟨i,by omega,by omega,hp,by simpa using h⟩
  ·exact .inr ⟨j,by omega,by omega,h3,h4⟩
theorem runW_app {S:Type} {f:S→Out S (List AV)} (E:Int→List AV→S) (n:Nat) (p:Int→Bool) (c:Int→AV)
  (h1:∀ (i:Int) (ys:List AV),0≤i→i<n→(ys.length:Int)≤i→f (E i ys)=bif p i then .next (E (i+1) (ys++[c i])) else .next (E (i+1) ys))
  (h2:∀ ys,f (E n ys) = .stop ys):runW f (((n:Int) - 0).toNat+1) (E 0 [])=some (appF p c n 0 []):=by
 refine runW_fold (f:=f) E n (fun i ys=>bif p i then ys++[c i] else ys) id (fun i ys=>(ys.length:Int)≤i) (fun i ys h0 hn hI=>?_) (fun ys _=>h2 ys) n _ 0 [] (Int.le_refl 0) (by omega) (by omega) (by simp)
 rw [h1 i ys h0 hn hI]
 cases hp:p i
 ·exact ⟨rfl,by simp only [cond_false];omega⟩
 ·exact ⟨rfl,by simp only [cond_true,List.length_append,List.length_singleton];omega⟩
def eqL (e:AV→AV→Bool) (xs ys:List AV):Bool:=decide ((xs.length:Int)=ys.length) && (findF (fun i => !e (xs.getD i.toNat .undef) (ys.getD i.toNat .undef)) xs.length 0).isNone
theorem eqL_self {e:AV→AV→Bool} (he:∀ x,e x x=true) (xs:List AV):eqL e xs xs=true:=by
 unfold eqL
 rw [findF_none _ _ fun j _ _=>by rw [he];rfl]
 simp
def ee1 (x y:AV):Bool:=decide (fI x 0=fI y 0)
def ee2 (x y:AV):Bool:=decide (fI x 0=fI y 0) && decide (fI x 1=fI y 1)
def ee3 (x y:AV):Bool:=decide (fI x 0=fI y 0) && decide (fI x 1=fI y 1) && decide (fI x 2=fI y 2)
def ee4 (x y:AV):Bool:=decide (fI x 0=fI y 0) && decide (fI x 1=fI y 1) && decide (fI x 2=fI y 2) && decide (fI x 3=fI y 3)
def ee5 (x y:AV):Bool:=decide (fI x 0=fI y 0) && decide (fI x 1=fI y 1) && decide (fI x 2=fI y 2) && decide (fI x 3=fI y 3) && decide (fI x 4=fI y 4)
theorem ee1_self (x:AV):ee1 x x=true:=by simp [ee1]
theorem ee2_self (x:AV):ee2 x x=true:=by simp [ee2]
theorem ee3_self (x:AV):ee3 x x=true:=by simp [ee3]
theorem ee4_self (x:AV):ee4 x x=true:=by simp [ee4]
theorem ee5_self (x:AV):ee5 x x=true:=by simp [ee5]
theorem runW_appK {S R:Type} {f:S→Out S R} (E:Int→List AV→S) (K:List AV→R) (n:Nat) (p:Int→Bool) (c:Int→AV)
  (h1:∀ (i:Int) (ys:List AV),0≤i→i<n→(ys.length:Int)≤i→f (E i ys)=bif p i then .next (E (i+1) (ys++[c i])) else .next (E (i+1) ys))
  (h2:∀ ys,f (E n ys) = .stop (K ys)):runW f (((n:Int) - 0).toNat+1) (E 0 [])=some (K (appF p c n 0 [])):=by
 refine runW_fold (f:=f) E n (fun i ys=>bif p i then ys++[c i] else ys) K (fun i ys=>(ys.length:Int)≤i) (fun i ys h0 hn hI=>?_) (fun ys _=>h2 ys) n _ 0 [] (Int.le_refl 0) (by omega) (by omega) (by simp)
 rw [h1 i ys h0 hn hI]
 cases hp:p i
 ·exact ⟨rfl,by simp only [cond_false];omega⟩
 ·exact ⟨rfl,by simp only [cond_true,List.length_append,List.length_singleton];omega⟩
def allT (_:Int):Bool:=true
theorem runW_pair {S S' R R':Type} {f:S→Out S R} {g:S'→Out S' R'} (I:S→S'→Prop) (J:R→R'→Prop) (μ:S→Nat)
  (h:∀ s s',I s s'→(∃ a b,f s = .next a∧g s' = .next b∧I a b∧μ a<μ s)∨∃ r r',f s = .stop r∧g s' = .stop r'∧J r r') :
  ∀ (fuel fuel':Nat) (s:S) (s':S'),I s s'→μ s<fuel→μ s<fuel'→∃ r r',runW f fuel s=some r∧runW g fuel' s'=some r'∧J r r'
 | 0,_,s,s',_,h1,_=>by omega
 | _+1,0,s,s',_,_,h2=>by omega
 | n+1,m+1,s,s',hI,h1,h2=>by
  rcases h s s' hI with ⟨a,b,e1,e2,e3,e4⟩|⟨r,r',e1,e2,e3⟩
  ·obtain ⟨r,r',k1,k2,k3⟩:=runW_pair I J μ h n m a b e3 (by omega) (by omega)
   refine ⟨r,r',?_,?_,k3⟩
   ·show (f s).el none _ some=_
    rw [e1]
    exact k1
   ·show (g s').el none _ some=_
    rw [e2]
    exact k2
  ·refine ⟨r,r',?_,?_,e3⟩
   ·show (f s).el none _ some=_
    rw [e1]
    rfl
   ·show (g s').el none _ some=_
    rw [e2]
    rfl
theorem runW_ends {S R:Type} {f:S→Out S R} (I:S→Prop) (J:R→Prop) (μ:S→Nat) (h:∀ s,I s→(∃ a,f s = .next a∧I a∧μ a<μ s)∨∃ r,f s = .stop r∧J r) :
  ∀ (fuel:Nat) (s:S),I s→μ s<fuel→∃ r,runW f fuel s=some r∧J r
 | 0,s,_,h1=>by omega
 | n+1,s,hI,h1=>by
  rcases h s hI with ⟨a,e1,e3,e4⟩|⟨r,e1,e3⟩
  ·obtain ⟨r,k1,k3⟩:=runW_ends I J μ h n a e3 (by omega)
   refine ⟨r,?_,k3⟩
   show (f s).el none _ some=_
   rw [e1]
   exact k1
  ·refine ⟨r,?_,e3⟩
   show (f s).el none _ some=_
   rw [e1]
   rfl
end Go.Proofs.VE
