import Derived.Test.YtkdnhnkhcldonaaSTh
namespace Go.Proofs.Ytkdnhnkhcldonaa
open Go Go.Proofs.VE
set_option linter.unusedVariables false
set_option linter.unusedSimpArgs false
def noneB (p:Int→Bool) (n:Nat):Bool:=(findF p n 0).isNone
theorem findF_isNone {p:Int→Bool}:∀ (m:Nat) (i:Int),(findF p m i).isNone=true ↔ ∀ j,i≤j→j<i+m→p j=false
 | 0,i=>⟨fun _ j h1 h2=>by omega,fun _=>rfl⟩
 | m+1,i=>by
  simp only [findF]
  cases hp:p i with
  | true =>
   refine ⟨fun h=>(by cases h),fun h=>?_⟩
   have:=h i (by omega) (by omega)
   rw [hp] at this
   cases this
  | false =>
   rw [cond_false,findF_isNone m (i+1)]
   refine ⟨fun h j h1 h2=>?_,fun h j h1 h2=>h j (by omega) (by omega)⟩
   by_cases e:j=i
   ·rw [e,hp]
   ·exact h j (by omega) (by omega)
theorem noneB_iff {p:Int→Bool} {n:Nat}:noneB p n=true ↔ ∀ j:Int,0≤j→j<n→p j=false:=by
 unfold noneB
 rw [findF_isNone]
 exact ⟨fun h j h1 h2=>h j h1 (by omega),fun h j h1 h2=>h j h1 (by omega)⟩
def hasI (xs:List AV) (x:Int):Bool:=(findF (fun i=>decide (fI (xs.getD i.toNat .undef) 0=x)) xs.length 0).isSome
theorem P56 (xs:List AV) (x:Int) (h:xs.length≤1048576):q56 xs x=true∧v56_0 xs x=hasI xs x:=by
 have hr:runW (R56_0 xs x) (((xs.length:Int) - 0).toNat+1) 0=some (ro (findF (fun i=>decide (fI (xs.getD i.toNat .undef) 0=x)) xs.length 0) (.inl ()) fun _ => .inr ()):=by
  refine runW_find (fun i=>i) xs.length _ _ _ (fun i h0 hn=>?_) ?_ xs.length _ 0 (Int.le_refl 0) (by omega) (by omega)
  ·simp only [R56_0,F56_0,h0,hn,decide_true,Bool.and_self,cond_true]
   rw [wrap_in (a:=i+1) (by omega) (by omega)]
  ·simp only [R56_0,F56_0,Int.lt_irrefl,decide_false,cond_false]
 unfold q56 v56_0 hasI
 rw [hr]
 cases findF (fun i=>decide (fI (xs.getD i.toNat .undef) 0=x)) xs.length 0 <;> exact ⟨rfl,rfl⟩
theorem P90 (xs:List AV) (x:Int) (h:xs.length≤1048576):q90 xs x=true∧v90_0 xs x=ro (findF (fun i=>decide (fI (xs.getD i.toNat .undef) 0=x)) xs.length 0) (-1) id:=by
 have hr:runW (R90_0 xs x xs.length) (((xs.length:Int) - 0).toNat+1) 0=some (ro (findF (fun i=>decide (fI (xs.getD i.toNat .undef) 0=x)) xs.length 0) (.inl ()) fun i => .inr i):=by
  refine runW_find (fun i=>i) xs.length _ _ _ (fun i h0 hn=>?_) ?_ xs.length _ 0 (Int.le_refl 0) (by omega) (by omega)
  ·simp only [R90_0,F90_0,h0,hn,decide_true,Bool.and_self,cond_true]
   rw [wrap_in (a:=i+1) (by omega) (by omega)]
   have e:decide (x=fI (xs.getD i.toNat .undef) 0)=decide (fI (xs.getD i.toNat .undef) 0=x):=by congr 1;simp only [eq_iff_iff];omega
   rw [e]
  ·simp only [R90_0,F90_0,Int.lt_irrefl,decide_false,cond_false]
 unfold q90 v90_0
 rw [hr]
 cases findF (fun i=>decide (fI (xs.getD i.toNat .undef) 0=x)) xs.length 0 <;> exact ⟨rfl,rfl⟩
theorem P88 (xs:List AV) (x:Int) (h:xs.length≤1048576):q88 xs x=true∧v88_0 xs x=hasI xs x:=by
 unfold q88 v88_0 hasI
 rw [(P90 xs x h).1,(P90 xs x h).2]
 refine ⟨rfl,?_⟩
 cases hf:findF (fun i=>decide (fI (xs.getD i.toNat .undef) 0=x)) xs.length 0 with
 | none=>rfl
 | some j =>
  have:=(findF_some _ _ hf).1
  simp [ro]
  omega
theorem P53 (vs rs ps:List AV) (x:Int) (h:rs.length≤1048576):q53 vs rs ps x=true∧v53_0 vs rs ps x=v90_0 rs x:=by
 have hr:runW (R53_0 x vs rs ps) (((rs.length:Int) - 0).toNat+1) 0=some (ro (findF (fun i=>decide (fI (rs.getD i.toNat .undef) 0=x)) rs.length 0) (.inl ()) fun i => .inr i):=by
  refine runW_find (fun i=>i) rs.length _ _ _ (fun i h0 hn=>?_) ?_ rs.length _ 0 (Int.le_refl 0) (by omega) (by omega)
  ·simp only [R53_0,F53_0,h0,hn,decide_true,Bool.and_self,cond_true]
   rw [wrap_in (a:=i+1) (by omega) (by omega)]
  ·simp only [R53_0,F53_0,Int.lt_irrefl,decide_false,cond_false]
 rw [(P90 rs x h).2]
 unfold q53 v53_0
 rw [hr]
 cases findF (fun i=>decide (fI (rs.getD i.toNat .undef) 0=x)) rs.length 0 <;> exact ⟨rfl,rfl⟩
theorem P50 (vs rs ps:List AV) (x:Int) (h:rs.length≤1048576):q50 vs rs ps x=true∧v50_0 vs rs ps x=v90_0 rs x:=⟨(P90 rs x h).1,rfl⟩
def badR (rs:List AV) (i:Int):Bool:=hasI ((rs.take (Int.toNat i)).drop (Int.toNat 0)) (fI (rs.getD i.toNat .undef) 0)
def badI (vs:List AV) (a b:Int):Bool := !noneB (fun k => !(decide (fI (vs.getD k.toNat .undef) 0<a) == decide (k<b))) vs.length
def badA (vs ps:List AV) (i:Int):Bool :=
 !v52_0 (fI (ps.getD i.toNat .undef) 0) (-1000) 1000 || (!v52_0 (fI (ps.getD i.toNat .undef) 1) 0 vs.length ||
  (decide (i > 0) && (decide (fI (ps.getD i.toNat .undef) 0≤fI (ps.getD (i - 1).toNat .undef) 0) || decide (fI (ps.getD i.toNat .undef) 1<fI (ps.getD (i - 1).toNat .undef) 1))))
def badP (vs ps:List AV) (i:Int):Bool:=badA vs ps i || badI vs (fI (ps.getD i.toNat .undef) 0) (fI (ps.getD i.toNat .undef) 1)
theorem run91i (vs ps:List AV) (t a b:Int) (h:vs.length≤1048576):runW (R91_2 vs ps t a b) (((vs.length:Int) - 0).toNat+1) 0=some (bif badI vs a b then .inr () else .inl ()):=by
 have hr:runW (R91_2 vs ps t a b) (((vs.length:Int) - 0).toNat+1) 0=some (ro (findF (fun k => !(decide (fI (vs.getD k.toNat .undef) 0<a) == decide (k<b))) vs.length 0) (.inl ()) fun _ => .inr ()):=by
  refine runW_find (fun i=>i) vs.length _ _ _ (fun i h0 hn=>?_) ?_ vs.length _ 0 (Int.le_refl 0) (by omega) (by omega)
  ·simp only [R91_2,F91_2,h0,hn,decide_true,Bool.and_self,cond_true]
   rw [wrap_in (a:=i+1) (by omega) (by omega)]
  ·simp only [R91_2,F91_2,Int.lt_irrefl,decide_false,cond_false]
 rw [hr]
 unfold badI noneB
 cases findF (fun k => !(decide (fI (vs.getD k.toNat .undef) 0<a) == decide (k<b))) vs.length 0 <;> rfl
def L91 (vs ps:List AV) (i:Int):Unit ⊕ (Int × Int) ⊕ (Int × Int):=bif badA vs ps i then .inr (.inl (fI (ps.getD i.toNat .undef) 0,fI (ps.getD i.toNat .undef) 1)) else .inr (.inr (fI (ps.getD i.toNat .undef) 0,fI (ps.getD i.toNat .undef) 1))
theorem step91 (vs ps:List AV) (i:Int) (h:vs.length≤1048576) (h':ps.length≤1048576) (h0:0≤i) (hn:i<ps.length):R91_0 vs ps i=bif badP vs ps i then .stop (L91 vs ps i) else .next (i+1):=by
 simp only [R91_0,F91_0,h0,hn,decide_true,Bool.and_self,cond_true,run91i vs ps _ _ _ h,ro]
 rw [wrap_in (a:=i+1) (by omega) (by omega),wrap_in (a:=i - 1) (by omega) (by omega)]
 unfold badP L91 badA
 generalize badI vs (fI (ps.getD i.toNat AV.undef) 0) (fI (ps.getD i.toNat AV.undef) 1)=bi
 generalize v52_0 (fI (ps.getD i.toNat AV.undef) 0) (-1000) 1000=b1
 generalize v52_0 (fI (ps.getD i.toNat AV.undef) 1) 0 vs.length=b2
 by_cases hi:i > 0
 ·have hm:decide (0≤i - 1)=true:=decide_eq_true (by omega)
  have hm':decide (i - 1<(ps.length:Int))=true:=decide_eq_true (by omega)
  rw [decide_eq_true hi,hm,hm']
  generalize decide (fI (ps.getD i.toNat AV.undef) 0≤fI (ps.getD (i - 1).toNat AV.undef) 0)=b3
  generalize decide (fI (ps.getD i.toNat AV.undef) 1<fI (ps.getD (i - 1).toNat AV.undef) 1)=b4
  cases b1 <;> cases b2 <;> cases b3 <;> cases b4 <;> cases bi <;> rfl
 ·rw [decide_eq_false hi]
  cases b1 <;> cases b2 <;> cases bi <;> rfl
theorem P91 (vs ps:List AV) (h:vs.length≤1048576) (h':ps.length≤1048576):q91 vs ps=true∧v91_0 vs ps=noneB (badP vs ps) ps.length:=by
 have hr:runW (R91_0 vs ps) (((ps.length:Int) - 0).toNat+1) 0=some (ro (findF (badP vs ps) ps.length 0) (.inl ()) (L91 vs ps)):=by
  refine runW_find (fun i=>i) ps.length _ _ _ (fun i h0 hn=>step91 vs ps i h h' h0 hn) ?_ ps.length _ 0 (Int.le_refl 0) (by omega) (by omega)
  simp only [R91_0,F91_0,Int.lt_irrefl,decide_false,cond_false]
 unfold q91 v91_0 noneB
 rw [hr]
 cases findF (badP vs ps) ps.length 0 with
 | none=>exact ⟨rfl,rfl⟩
 | some j =>
  simp only [ro,L91]
  cases badA vs ps j <;> exact ⟨rfl,rfl⟩
def L49 (vs ps:List AV) (i:Int):Unit ⊕ (Int × Int) ⊕ (Int × Int):=L91 vs ps i
theorem run49i (vs rs ps p1 v1:List AV) (t1 t2 a b:Int) (h:vs.length≤1048576):runW (R49_4 p1 t1 t2 vs vs.length v1 rs ps a b) (((vs.length:Int) - 0).toNat+1) 0=some (bif badI vs a b then .inr () else .inl ()):=by
 have hr:runW (R49_4 p1 t1 t2 vs vs.length v1 rs ps a b) (((vs.length:Int) - 0).toNat+1) 0=some (ro (findF (fun k => !(decide (fI (vs.getD k.toNat .undef) 0<a) == decide (k<b))) vs.length 0) (.inl ()) fun _ => .inr ()):=by
  refine runW_find (fun i=>i) vs.length _ _ _ (fun i h0 hn=>?_) ?_ vs.length _ 0 (Int.le_refl 0) (by omega) (by omega)
  ·simp only [R49_4,F49_4,h0,hn,decide_true,Bool.and_self,cond_true]
   rw [wrap_in (a:=i+1) (by omega) (by omega)]
  ·simp only [R49_4,F49_4,Int.lt_irrefl,decide_false,cond_false]
 rw [hr]
 unfold badI noneB
 cases findF (fun k => !(decide (fI (vs.getD k.toNat .undef) 0<a) == decide (k<b))) vs.length 0 <;> rfl
theorem dlt (z n:Int):decide (z<n) = !decide (n≤z):=by
 by_cases h:n≤z
 ·rw [decide_eq_true h,decide_eq_false (by omega)];rfl
 ·rw [decide_eq_false h,decide_eq_true (by omega)];rfl
theorem dgt (z n:Int):decide (z > n) = !decide (z≤n):=by
 by_cases h:z≤n
 ·rw [decide_eq_true h,decide_eq_false (by omega)];rfl
 ·rw [decide_eq_false h,decide_eq_true (by omega)];rfl
theorem bound_eq (v:Int):v89_0 v=v52_0 v (-1000) 1000:=by
 unfold v89_0
 rw [v52]
 by_cases h1 : -1000≤v <;> by_cases h2:v≤1000 <;> simp [h1,h2]
theorem step49 (vs rs ps:List AV) (i:Int) (h:vs.length≤1048576) (h':ps.length≤1048576) (h0:0≤i) (hn:i<ps.length):R49_2 ps ps.length vs rs ps i=bif badP vs ps i then .stop (L91 vs ps i) else .next (i+1):=by
 simp only [R49_2,F49_2,h0,hn,decide_true,Bool.and_self,cond_true,run49i vs rs ps ps vs _ _ _ _ h,ro,bound_eq]
 rw [wrap_in (a:=i+1) (by omega) (by omega),wrap_in (a:=i - 1) (by omega) (by omega)]
 unfold badP L91 badA
 rw [v52 (fI (ps.getD i.toNat AV.undef) 1) 0 vs.length]
 generalize badI vs (fI (ps.getD i.toNat AV.undef) 0) (fI (ps.getD i.toNat AV.undef) 1)=bi
 generalize v52_0 (fI (ps.getD i.toNat AV.undef) 0) (-1000) 1000=b1
 rw [dlt (fI (ps.getD i.toNat AV.undef) 1) 0,dgt (fI (ps.getD i.toNat AV.undef) 1)]
 generalize decide (0≤fI (ps.getD i.toNat AV.undef) 1)=b2
 generalize decide (fI (ps.getD i.toNat AV.undef) 1≤(vs.length:Int))=b5
 by_cases hi:i > 0
 ·have hm:decide (0≤i - 1)=true:=decide_eq_true (by omega)
  have hm':decide (i - 1<(ps.length:Int))=true:=decide_eq_true (by omega)
  rw [decide_eq_true hi,hm,hm']
  generalize decide (fI (ps.getD i.toNat AV.undef) 0≤fI (ps.getD (i - 1).toNat AV.undef) 0)=b3
  generalize decide (fI (ps.getD i.toNat AV.undef) 1<fI (ps.getD (i - 1).toNat AV.undef) 1)=b4
  cases b1 <;> cases b2 <;> cases b5 <;> cases b3 <;> cases b4 <;> cases bi <;> rfl
 ·rw [decide_eq_false hi]
  cases b1 <;> cases b2 <;> cases b5 <;> cases bi <;> rfl
theorem run49 (vs rs ps:List AV) (h:vs.length≤1048576) (h':ps.length≤1048576):runW (R49_2 ps ps.length vs rs ps) (((ps.length:Int) - 0).toNat+1) 0=some (ro (findF (badP vs ps) ps.length 0) (.inl ()) (L91 vs ps)):=by
 refine runW_find (fun i=>i) ps.length _ _ _ (fun i h0 hn=>step49 vs rs ps i h h' h0 hn) ?_ ps.length _ 0 (Int.le_refl 0) (by omega) (by omega)
 simp only [R49_2,F49_2,Int.lt_irrefl,decide_false,cond_false]
theorem run51 (vs rs ps:List AV) (h:rs.length≤1048576):runW (R51_0 vs rs ps) (((rs.length:Int) - 0).toNat+1) 0=some (ro (findF (fun i => !v52_0 (fI (rs.getD i.toNat .undef) 0) 0 999 || badR rs i) rs.length 0) (.inl ()) fun _ => .inr ()):=by
 refine runW_find (fun i=>i) rs.length _ _ _ (fun i h0 hn=>?_) ?_ rs.length _ 0 (Int.le_refl 0) (by omega) (by omega)
 ·have hl:((rs.take (Int.toNat i)).drop (Int.toNat 0)).length≤1048576:=by rw [List.length_drop,List.length_take];omega
  have hle:decide (i≤(rs.length:Int))=true:=decide_eq_true (by omega)
  have h00:decide ((0:Int)≤0)=true:=rfl
  have h00n:decide ((0:Nat)≤0)=true:=rfl
  simp only [R51_0,F51_0,h0,hn,hle,h00,h00n,decide_true,Bool.and_self,cond_true,(P56 _ _ hl).1,(P56 _ _ hl).2,badR]
  rw [wrap_in (a:=i+1) (by omega) (by omega)]
  cases v52_0 (fI (rs.getD i.toNat .undef) 0) 0 999 <;> cases hasI ((rs.take (Int.toNat i)).drop (Int.toNat 0)) (fI (rs.getD i.toNat .undef) 0) <;> rfl
 ·simp only [R51_0,F51_0,Int.lt_irrefl,decide_false,cond_false]
theorem run49r (vs rs ps:List AV) (h:rs.length≤1048576):runW (R49_0 rs rs.length vs rs ps) (((rs.length:Int) - 0).toNat+1) 0=some (ro (findF (badR rs) rs.length 0) (.inl ()) fun _ => .inr ()):=by
 refine runW_find (fun i=>i) rs.length _ _ _ (fun i h0 hn=>?_) ?_ rs.length _ 0 (Int.le_refl 0) (by omega) (by omega)
 ·have hl:((rs.take (Int.toNat i)).drop (Int.toNat 0)).length≤1048576:=by rw [List.length_drop,List.length_take];omega
  have hle:decide (i≤(rs.length:Int))=true:=decide_eq_true (by omega)
  have h00:decide ((0:Int)≤0)=true:=rfl
  have h00n:decide ((0:Nat)≤0)=true:=rfl
  simp only [R49_0,F49_0,h0,hn,hle,h00,h00n,decide_true,Bool.and_self,cond_true,(P88 _ _ hl).1,(P88 _ _ hl).2,badR]
  rw [wrap_in (a:=i+1) (by omega) (by omega)]
 ·simp only [R49_0,F49_0,Int.lt_irrefl,decide_false,cond_false]
def isC (vs rs ps:List AV):Bool:=v36_0 vs && (decide ((rs.length:Int)=vs.length) && (noneB (fun i => !v52_0 (fI (rs.getD i.toNat .undef) 0) 0 999) rs.length && (noneB (badR rs) rs.length && noneB (badP vs ps) ps.length)))
theorem noneB_or (p q:Int→Bool) (n:Nat):noneB (fun i=>p i || q i) n=(noneB p n && noneB q n):=by
 rw [Bool.eq_iff_iff,Bool.and_eq_true,noneB_iff,noneB_iff,noneB_iff]
 constructor
 ·intro h
  exact ⟨fun j h1 h2=>by have:=h j h1 h2;simp only [Bool.or_eq_false_iff] at this;exact this.1,fun j h1 h2=>by have:=h j h1 h2;simp only [Bool.or_eq_false_iff] at this;exact this.2⟩
 ·rintro ⟨h,h'⟩ j h1 h2
  rw [h j h1 h2,h' j h1 h2]
  rfl
theorem P51 (vs rs ps:List AV) (h:vs.length≤1048576) (h':rs.length≤1048576) (h'':ps.length≤1048576):q51 vs rs ps=true∧v51_0 vs rs ps=isC vs rs ps:=by
 unfold q51 v51_0 isC
 rw [(P36 vs h).1,run51 vs rs ps h',(P91 vs ps h h'').1,(P91 vs ps h h'').2,← Bool.and_assoc (noneB _ _) (noneB _ _),← noneB_or]
 generalize noneB (badP vs ps) ps.length=bp
 unfold noneB
 cases v36_0 vs <;> cases decide ((rs.length:Int)=vs.length) <;> cases findF (fun i => !v52_0 (fI (rs.getD i.toNat .undef) 0) 0 999 || badR rs i) rs.length 0 <;> exact ⟨rfl,rfl⟩
theorem few (vs ps:List AV) (h:noneB (badP vs ps) ps.length=true):ps.length≤2001:=by
 rw [noneB_iff] at h
 have hb:∀ j:Int,0≤j→j<ps.length→(-1000≤fI (ps.getD j.toNat .undef) 0∧fI (ps.getD j.toNat .undef) 0≤1000)∧(0<j→fI (ps.getD (j - 1).toNat .undef) 0<fI (ps.getD j.toNat .undef) 0):=fun j h0 hn=>by
  have e:=h j h0 hn
  simp only [badP,badA,v52,Bool.or_eq_false_iff,Bool.not_eq_false',Bool.and_eq_true,decide_eq_true_eq] at e
  refine ⟨e.1.1,fun hj=>?_⟩
  have e3:=e.1.2.2
  rw [decide_eq_true hj,Bool.true_and,Bool.or_eq_false_iff] at e3
  have:=e3.1
  simp only [decide_eq_false_iff_not] at this
  omega
 have grow:∀ m:Nat,(m:Int)<ps.length→(m:Int) - 1000≤fI (ps.getD m .undef) 0:=by
  intro m
  induction m with
  | zero=>intro hm;have:=(hb 0 (by omega) hm).1.1;simp at this ⊢;exact this
  | succ m ih =>
   intro hm
   have h1:=ih (by omega)
   have h2:=(hb ((m:Int)+1) (by omega) (by omega)).2 (by omega)
   rw [show ((m:Int)+1 - 1).toNat=m by omega,show ((m:Int)+1).toNat=m+1 by omega] at h2
   omega
 by_cases hl:ps.length≤2001
 ·exact hl
 ·exfalso
  have h1:=grow 2001 (by omega)
  have h2:=(hb 2001 (by omega) (by omega)).1.2
  rw [show ((2001:Int)).toNat=2001 from rfl] at h2
  omega
theorem P49 (vs rs ps:List AV) (h:vs.length≤1048576) (h':rs.length≤1048576) (h'':ps.length≤1048576):q49 vs rs ps=true∧v49_0 vs rs ps=isC vs rs ps:=by
 unfold q49 v49_0 isC
 rw [(P30 vs h).1,(P30 vs h).2,(P64 rs _ _ h').1,(P64 rs _ _ h').2,run49r vs rs ps h',run49 vs rs ps h h'']
 have hf:=few vs ps
 unfold noneB at hf ⊢
 cases v36_0 vs with
 | false=>exact ⟨rfl,rfl⟩
 | true =>
  cases decide ((rs.length:Int)=vs.length) with
  | false=>exact ⟨rfl,rfl⟩
  | true =>
   cases findF (fun i => !v52_0 (fI (rs.getD i.toNat .undef) 0) 0 999) rs.length 0 with
   | some j=>exact ⟨rfl,rfl⟩
   | none =>
    cases hp:findF (badP vs ps) ps.length 0 with
    | none =>
     rw [hp] at hf
     have c:decide ((ps.length:Int) > 2001)=false:=decide_eq_false (by have:=hf rfl;omega)
     rw [c]
     cases findF (badR rs) rs.length 0 <;> exact ⟨rfl,rfl⟩
    | some j =>
     cases decide ((ps.length:Int) > 2001) with
     | true=>cases findF (badR rs) rs.length 0 <;> exact ⟨rfl,rfl⟩
     | false =>
      cases findF (badR rs) rs.length 0 with
      | some k=>exact ⟨rfl,rfl⟩
      | none =>
       simp only [ro,sumE,L91]
       cases badA vs ps j <;> exact ⟨rfl,rfl⟩
end Go.Proofs.Ytkdnhnkhcldonaa
