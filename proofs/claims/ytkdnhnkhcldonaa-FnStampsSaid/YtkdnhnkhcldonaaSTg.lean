import Derived.Test.YtkdnhnkhcldonaaSTf
namespace Go.Proofs.Ytkdnhnkhcldonaa
open Go Go.Proofs.VE
set_option linter.unusedVariables false
set_option linter.unusedSimpArgs false
theorem getD_set_ne {xs:List AV} {i j:Nat} {v d:AV} (h:i ≠ j):(xs.set i v).getD j d=xs.getD j d:=by
 simp only [List.getD_eq_getElem?_getD]
 rw [List.getElem?_set_ne h]
abbrev S6:=Int × Int × Int × List AV × List AV × List AV
structure InsI (n m:Nat) (s s':S6):Prop where
 e1:s'.1=s.1
 e2:s'.2.1=s.2.1
 e3:s'.2.2.1=s.2.2.1
 e4:s'.2.2.2.2.2=s.2.2.2.2.2
 lv:s.2.2.2.1.length=n+1
 lv':s'.2.2.2.1.length=n+1
 lr:s.2.2.2.2.1.length=n+1
 lr':s'.2.2.2.2.1.length=n+1
 lp:s.2.2.2.2.2.length=m
 h0:0≤s.1
 h1:s.1≤n
 k0 : -1≤s.2.2.1
 k1:s.2.2.1<m
 m0:0≤s.2.1
 m1:s.2.1+s.2.2.1+1≤m
 hat:∀ j:Nat,(j:Int)≤s.2.2.1→0≤fI (s.2.2.2.2.2.getD j .undef) 1∧fI (s.2.2.2.2.2.getD j .undef) 1≤n
 av:∀ j:Nat,(j:Int) ≠ s.1→s.2.2.2.1.getD j .undef=s'.2.2.2.1.getD j .undef
 ar:∀ j:Nat,(j:Int) ≠ s.1→s.2.2.2.2.1.getD j .undef=s'.2.2.2.2.1.getD j .undef
theorem stepIns (x row:Int) (n m:Nat) (hn:n≤1048576) (hm:m≤1048576) (s s':S6) (h:InsI n m s s') :
  (∃ a b,R48_0 x row s = .next a∧R46_0 x row s' = .next b∧InsI n m a b∧(a.2.2.1+1).toNat<(s.2.2.1+1).toNat)∨∃ r r',R48_0 x row s = .stop r∧R46_0 x row s' = .stop r'∧(r.1=s.1∧r=(s.1,s.2.1,s.2.2.2.1,s.2.2.2.2.1,s.2.2.2.2.2)∧r'=(s'.1,s'.2.1,s'.2.2.2.1,s'.2.2.2.2.1,s'.2.2.2.2.2)∧InsI n m s s'):=by
 obtain ⟨hole,mv,k,V,Rr,P⟩:=s
 obtain ⟨hole',mv',k',V',Rr',P'⟩:=s'
 have h':=h
 obtain ⟨e1,e2,e3,e4,lv,lv',lr,lr',lp,h0,h1,k0,k1,m0,m1,hat,av,ar⟩:=h
 simp only at e1 e2 e3 e4 lv lv' lr lr' lp h0 h1 k0 k1 m0 m1 hat av ar
 subst e1 e2 e3 e4
 by_cases hk:k' ≥ 0
 ·have dk1:decide (k' ≥ 0)=true:=decide_eq_true hk
  have dk2:decide (0≤k')=true:=decide_eq_true hk
  have dk3:decide (k'<(P'.length:Int))=true:=decide_eq_true (by omega)
  by_cases hv:fI (P'.getD k'.toNat .undef) 0 > x
  ·have dv:decide (fI (P'.getD k'.toNat .undef) 0 > x)=true:=decide_eq_true hv
   obtain ⟨b0,b1⟩:=hat k'.toNat (by omega)
   have hat':∀ (c:AV) (j:Nat),(j:Int)≤k' - 1→0≤fI ((P'.set k'.toNat c).getD j .undef) 1∧fI ((P'.set k'.toNat c).getD j .undef) 1≤n:=fun c j hj=>by
    rw [getD_set_ne (by omega)]
    exact hat j (by omega)
   by_cases ha:fI (P'.getD k'.toNat .undef) 1=hole'
   ·have da:decide (fI (P'.getD k'.toNat .undef) 1=hole')=true:=decide_eq_true ha
    have da':decide (hole'=fI (P'.getD k'.toNat .undef) 1)=true:=decide_eq_true ha.symm
    refine .inl ⟨(fI (P'.getD k'.toNat .undef) 1,mv',k' - 1,V,Rr,P'.set k'.toNat (AV.agg [AV.int .i64 (fI (P'.getD k'.toNat .undef) 0),AV.int .i64 (fI (P'.getD k'.toNat .undef) 1+1)])),
     (fI (P'.getD k'.toNat .undef) 1,mv',k' - 1,V',Rr',P'.set k'.toNat (AV.agg [AV.int .i64 (fI (P'.getD k'.toNat .undef) 0),AV.int .i64 (fI (P'.getD k'.toNat .undef) 1+1)])),?_,?_,⟨rfl,rfl,rfl,rfl,lv,lv',lr,lr',by simp only [List.length_set];exact lp,b0,b1,by simp only;omega,by simp only;omega,m0,by simp only;omega,hat' _,by simp only;rw [ha];exact av,by simp only;rw [ha];exact ar⟩,by simp only;omega⟩
    ·simp only [R48_0,F48_0,dk1,dk2,dk3,dv,da,Bool.and_self,cond_true]
     rw [wrap_in (a:=mv'+0) (by omega) (by omega),wrap_in (a:=k' - 1) (by omega) (by omega),wrap_in (a:=fI (P'.getD k'.toNat .undef) 1+1) (by omega) (by omega),Int.add_zero]
    ·simp only [R46_0,F46_0,dk1,dk2,dk3,dv,da',Bool.and_self,cond_true]
     rw [wrap_in (a:=mv'+0) (by omega) (by omega),wrap_in (a:=k' - 1) (by omega) (by omega),wrap_in (a:=fI (P'.getD k'.toNat .undef) 1+1) (by omega) (by omega),Int.add_zero]
   ·have da:decide (fI (P'.getD k'.toNat .undef) 1=hole')=false:=decide_eq_false ha
    have da':decide (hole'=fI (P'.getD k'.toNat .undef) 1)=false:=decide_eq_false (fun e=>ha e.symm)
    have c1:decide (0≤fI (P'.getD k'.toNat .undef) 1)=true:=decide_eq_true b0
    have c2:decide (fI (P'.getD k'.toNat .undef) 1<(V.length:Int))=true:=decide_eq_true (by omega)
    have c3:decide (fI (P'.getD k'.toNat .undef) 1<(Rr.length:Int))=true:=decide_eq_true (by omega)
    have c4:decide (0≤hole')=true:=decide_eq_true h0
    have c5:decide (hole'<(V.length:Int))=true:=decide_eq_true (by omega)
    have c6:decide (hole'<(Rr.length:Int))=true:=decide_eq_true (by omega)
    have c2':decide (fI (P'.getD k'.toNat .undef) 1<(V'.length:Int))=true:=decide_eq_true (by omega)
    have c3':decide (fI (P'.getD k'.toNat .undef) 1<(Rr'.length:Int))=true:=decide_eq_true (by omega)
    have c5':decide (hole'<(V'.length:Int))=true:=decide_eq_true (by omega)
    have c6':decide (hole'<(Rr'.length:Int))=true:=decide_eq_true (by omega)
    have gv:=av (fI (P'.getD k'.toNat .undef) 1).toNat (by omega)
    have gr:=ar (fI (P'.getD k'.toNat .undef) 1).toNat (by omega)
    have keep:∀ (X Y:List AV) (c:AV),X.length=n+1→Y.length=n+1→(∀ j:Nat,(j:Int) ≠ hole'→X.getD j .undef=Y.getD j .undef)→∀ j:Nat,(j:Int) ≠ fI (P'.getD k'.toNat .undef) 1→(X.set hole'.toNat c).getD j .undef=(Y.set hole'.toNat c).getD j .undef:=fun X Y c hX hY hXY j _=>by
     by_cases hj:hole'.toNat=j
     ·rw [hj,getD_set (by omega),getD_set (by omega)]
     ·rw [getD_set_ne hj,getD_set_ne hj]
      exact hXY j (by omega)
    refine .inl ⟨(fI (P'.getD k'.toNat .undef) 1,mv'+1,k' - 1,V.set hole'.toNat (AV.agg [AV.int .i64 (fI (V.getD (fI (P'.getD k'.toNat .undef) 1).toNat .undef) 0)]),Rr.set hole'.toNat (AV.agg [AV.int .i64 (fI (Rr.getD (fI (P'.getD k'.toNat .undef) 1).toNat .undef) 0)]),P'.set k'.toNat (AV.agg [AV.int .i64 (fI (P'.getD k'.toNat .undef) 0),AV.int .i64 (fI (P'.getD k'.toNat .undef) 1+1)])),
     (fI (P'.getD k'.toNat .undef) 1,mv'+1,k' - 1,V'.set hole'.toNat (AV.agg [AV.int .i64 (fI (V'.getD (fI (P'.getD k'.toNat .undef) 1).toNat .undef) 0)]),Rr'.set hole'.toNat (AV.agg [AV.int .i64 (fI (Rr'.getD (fI (P'.getD k'.toNat .undef) 1).toNat .undef) 0)]),P'.set k'.toNat (AV.agg [AV.int .i64 (fI (P'.getD k'.toNat .undef) 0),AV.int .i64 (fI (P'.getD k'.toNat .undef) 1+1)])),?_,?_,
     ⟨rfl,rfl,rfl,rfl,by simp only [List.length_set];exact lv,by simp only [List.length_set];exact lv',by simp only [List.length_set];exact lr,by simp only [List.length_set];exact lr',by simp only [List.length_set];exact lp,b0,b1,by simp only;omega,by simp only;omega,by simp only;omega,by simp only;omega,hat' _,by simp only;rw [gv];exact keep V V' _ lv lv' av,by simp only;rw [gr];exact keep Rr Rr' _ lr lr' ar⟩,by simp only;omega⟩
    ·simp only [R48_0,F48_0,dk1,dk2,dk3,dv,da,c1,c2,c3,c4,c5,c6,Bool.and_self,cond_true,cond_false]
     rw [wrap_in (a:=mv'+1) (by omega) (by omega),wrap_in (a:=k' - 1) (by omega) (by omega),wrap_in (a:=fI (P'.getD k'.toNat .undef) 1+1) (by omega) (by omega)]
    ·simp only [R46_0,F46_0,dk1,dk2,dk3,dv,da',c1,c2',c3',c4,c5',c6',Bool.and_self,cond_true,cond_false]
     rw [wrap_in (a:=mv'+1) (by omega) (by omega),wrap_in (a:=k' - 1) (by omega) (by omega),wrap_in (a:=fI (P'.getD k'.toNat .undef) 1+1) (by omega) (by omega)]
  ·have dv:decide (fI (P'.getD k'.toNat .undef) 0 > x)=false:=decide_eq_false hv
   refine .inr ⟨(hole',mv',V,Rr,P'),(hole',mv',V',Rr',P'),?_,?_,rfl,rfl,rfl,h'⟩
   ·simp only [R48_0,F48_0,dk1,dk2,dk3,dv,Bool.and_self,cond_true,cond_false]
   ·simp only [R46_0,F46_0,dk1,dk2,dk3,dv,Bool.and_self,cond_true,cond_false]
 ·have dk1:decide (k' ≥ 0)=false:=decide_eq_false hk
  refine .inr ⟨(hole',mv',V,Rr,P'),(hole',mv',V',Rr',P'),?_,?_,rfl,rfl,rfl,h'⟩
  ·simp only [R48_0,F48_0,dk1,cond_false]
  ·simp only [R46_0,F46_0,dk1,cond_false]
def InsJ (n m:Nat) (r r':Int × Int × List AV × List AV × List AV):Prop:=∃ s s':S6,InsI n m s s'∧r=(s.1,s.2.1,s.2.2.2.1,s.2.2.2.2.1,s.2.2.2.2.2)∧r'=(s'.1,s'.2.1,s'.2.2.2.1,s'.2.2.2.2.1,s'.2.2.2.2.2)
theorem runIns (x row:Int) (n m:Nat) (hn:n≤1048576) (hm:m≤1048576) (s s':S6) (h:InsI n m s s') (fuel:Nat) (hf:(s.2.2.1+1).toNat<fuel):∃ r r',runW (R48_0 x row) fuel s=some r∧runW (R46_0 x row) fuel s'=some r'∧InsJ n m r r' :=
 runW_pair (InsI n m) (InsJ n m) (fun s=>(s.2.2.1+1).toNat) (fun s s' h=>by
  rcases stepIns x row n m hn hm s s' h with h|⟨r,r',h1,h2,_,h3,h4,h5⟩
  ·exact .inl h
  ·exact .inr ⟨r,r',h1,h2,s,s',h5,h3,h4⟩) fuel fuel s s' h hf hf
theorem isC_at {vs rs ps:List AV} (h:isC vs rs ps=true) (j:Nat) (hj:j<ps.length):0≤fI (ps.getD j .undef) 1∧fI (ps.getD j .undef) 1≤vs.length:=by
 unfold isC at h
 simp only [Bool.and_eq_true] at h
 have e:=(noneB_iff.1 h.2.2.2.2) (j:Int) (by omega) (by omega)
 simp only [badP,badA,v52,Bool.or_eq_false_iff,Bool.not_eq_false',Bool.and_eq_true,decide_eq_true_eq,Int.toNat_natCast] at e
 exact e.1.2.1
theorem item_eq (a b:Int):v84_0 a b=v86_0 a b:=by
 unfold v84_0 v86_0
 rw [v52,v52]
 have h1:decide (a ≥ -999)=decide (-999≤a):=rfl
 have h2:decide (b ≥ 0)=decide (0≤b):=rfl
 rw [h1,h2]
 cases decide (-999≤a) <;> cases decide (a≤999) <;> cases decide (0≤b) <;> cases decide (b≤999) <;> rfl
theorem set_same {V V':List AV} {n:Nat} {i:Int} {c:AV} (h1:V.length=n) (h2:V'.length=n) (h0:0≤i) (hi:i<n) (h:∀ j:Nat,(j:Int) ≠ i→V.getD j .undef=V'.getD j .undef):V.set i.toNat c=V'.set i.toNat c:=by
 apply List.ext_getElem
 ·rw [List.length_set,List.length_set,h1,h2]
 ·intro j g1 g2
  rw [List.length_set] at g1 g2
  by_cases e:i.toNat=j
  ·subst e
   rw [List.getElem_set_self,List.getElem_set_self]
  ·rw [List.getElem_set_ne e,List.getElem_set_ne e]
   have:=h j (by omega)
   rw [List.getD_eq_getElem?_getD,List.getD_eq_getElem?_getD,List.getElem?_eq_getElem g1,List.getElem?_eq_getElem g2] at this
   exact this
theorem ins_init (vs rs ps:List AV) (x row:Int) (hc:isC vs rs ps=true) (h:vs.length≤1048576) (h3:ps.length≤1048576):InsI vs.length ps.length ((vs.length:Int),0,(ps.length:Int) - 1,vs++[AV.int .i64 0],rs++[AV.int .i64 0],ps) ((vs.length:Int),0,(ps.length:Int) - 1,vs++[AV.int .i64 x],rs++[AV.int .i64 row],ps):=by
 have hl:=isC_len hc
 have app:∀ (X:List AV) (a b:AV),(X.length:Int)=vs.length→∀ j:Nat,(j:Int) ≠ vs.length→(X++[a]).getD j .undef=(X++[b]).getD j .undef:=fun X a b hX j hj=>by
  simp only [List.getD_eq_getElem?_getD]
  by_cases e:j<X.length
  ·rw [List.getElem?_append_left e,List.getElem?_append_left e]
  ·rw [List.getElem?_eq_none (by simp;omega),List.getElem?_eq_none (by simp;omega)]
 exact ⟨rfl,rfl,rfl,rfl,by simp,by simp,by simp only [List.length_append,List.length_singleton];omega,by simp only [List.length_append,List.length_singleton];omega,rfl,by simp only;omega,by simp only;omega,by simp only;omega,by simp only;omega,by simp only;omega,by simp only;omega,fun j hj=>isC_at hc j (by simp only at hj;omega),app vs _ _ rfl,app rs _ _ hl⟩
theorem same48 (vs rs ps:List AV) (x row:Int) (h1:vs.length≤1048576) (h2:rs.length≤1048576) (h3:ps.length≤1048576) :
  q48 vs rs ps x row=true∧q46 vs rs ps x row=true∧v46_0 vs rs ps x row=v48_0 vs rs ps x row∧v46_1 vs rs ps x row=v48_1 vs rs ps x row∧v46_2 vs rs ps x row=v48_2 vs rs ps x row∧v46_4 vs rs ps x row=v48_4 vs rs ps x row ∧
   (v48_4 vs rs ps x row=true→(v48_0 vs rs ps x row).length≤1048576∧(v48_1 vs rs ps x row).length≤1048576∧(v48_2 vs rs ps x row).length≤1048576∧vs.length<64):=by
 obtain ⟨a1,a2,a3,a4⟩:=P75 vs rs ps h1 h2 h3
 obtain ⟨b1,b2,b3,b4⟩:=P69 vs rs ps h1 h2 h3
 unfold q48 q46 v48_0 v48_1 v48_2 v48_4 v46_0 v46_1 v46_2 v46_4
 rw [a1,a2,a3,a4,b1,b2,b3,b4,(P51 vs rs ps h1 h2 h3).1,(P51 vs rs ps h1 h2 h3).2,(P49 vs rs ps h1 h2 h3).1,(P49 vs rs ps h1 h2 h3).2,item_eq,(P53 vs rs ps row h2).1,(P53 vs rs ps row h2).2,(P50 vs rs ps row h2).1,(P50 vs rs ps row h2).2]
 cases hc:isC vs rs ps with
 | false=>exact ⟨rfl,rfl,rfl,rfl,rfl,rfl,fun h=>by cases h⟩
 | true =>
  cases v86_0 x row with
  | false=>exact ⟨rfl,rfl,rfl,rfl,rfl,rfl,fun h=>by cases h⟩
  | true =>
   cases decide (v90_0 rs row ≥ 0) with
   | true=>exact ⟨rfl,rfl,rfl,rfl,rfl,rfl,fun h=>by cases h⟩
   | false =>
    by_cases hl:(vs.length:Int) ≥ 64
    ·rw [decide_eq_true hl]
     exact ⟨rfl,rfl,rfl,rfl,rfl,rfl,fun h=>by cases h⟩
    ·rw [decide_eq_false hl]
     have hle:=isC_len hc
     have w1:IntKind.i64.wrap ((ps.length:Int) - 1)=ps.length - 1:=wrap_in (by omega) (by omega)
     obtain ⟨r,r',g1,g2,s,s',hI,rfl,rfl⟩:=runIns x row vs.length ps.length h1 h3 _ _ (ins_init vs rs ps x row hc h1 h3) (((ps.length:Int) - 1 - 0+1).toNat+1) (by simp only;omega)
     rw [w1,g1,g2]
     obtain ⟨e1,e2,e3,e4,lv,lv',lr,lr',lp,h0,hh,k0,k1,m0,m1,hat,av,ar⟩:=hI
     have c1:decide ((vs.length+[AV.int .i64 0].length)*8≤140737488355328)=true:=decide_eq_true (by simp only [List.length_singleton];omega)
     have c2:decide (vs.length+[AV.int .i64 0].length≤140737488355328)=true:=decide_eq_true (by simp only [List.length_singleton];omega)
     have c3:decide ((rs.length+[AV.int .i64 0].length)*8≤140737488355328)=true:=decide_eq_true (by simp only [List.length_singleton];omega)
     have c4:decide (rs.length+[AV.int .i64 0].length≤140737488355328)=true:=decide_eq_true (by simp only [List.length_singleton];omega)
     have c5:decide ((vs.length+[AV.int .i64 x].length)*8≤140737488355328)=true:=c1
     have c6:decide (vs.length+[AV.int .i64 x].length≤140737488355328)=true:=c2
     have c7:decide ((rs.length+[AV.int .i64 row].length)*8≤140737488355328)=true:=c3
     have c8:decide (rs.length+[AV.int .i64 row].length≤140737488355328)=true:=c4
     have d1:decide (0≤s.1)=true:=decide_eq_true h0
     have d2:decide (s.1<(s.2.2.2.1.length:Int))=true:=decide_eq_true (by omega)
     have d3:decide (s.1<(s.2.2.2.2.1.length:Int))=true:=decide_eq_true (by omega)
     have d2':decide (s.1<(s'.2.2.2.1.length:Int))=true:=decide_eq_true (by omega)
     have d3':decide (s.1<(s'.2.2.2.2.1.length:Int))=true:=decide_eq_true (by omega)
     have sv:=set_same (c:=AV.agg [AV.int .i64 x]) lv lv' h0 (by omega) av
     have sr:=set_same (c:=AV.agg [AV.int .i64 row]) lr lr' h0 (by omega) ar
     simp only [ro,c1,c2,c3,c4,c5,c6,c7,c8,e1,e4,d1,d2,d3,d2',d3',sv,sr,Bool.not_true,cond_false,cond_true,Bool.and_self,List.length_set,lv',lr',lp,true_and]
     refine ⟨?_,fun _=>⟨by omega,by omega,h3,by omega⟩⟩
     have d4:decide (s.1<((vs.length+1:Nat):Int))=true:=decide_eq_true (by omega)
     rw [d4]
     rfl
theorem same16 (s:List AV) (n:Int) (v r p:List AV) (x:Int) (h0:s.length≤1048576) (h1:v.length≤1048576) (h2:r.length≤1048576) (h3:p.length≤1048576) :
  q16 s n v r p x=true∧q15 s n v r p x=true∧v15_0 s n v r p x=v16_0 s n v r p x∧v15_1 s n v r p x=v16_1 s n v r p x∧v15_2 s n v r p x=v16_2 s n v r p x∧v15_3 s n v r p x=v16_3 s n v r p x∧v15_4 s n v r p x=v16_4 s n v r p x∧v15_5 s n v r p x=v16_5 s n v r p x∧v15_6 s n v r p x=v16_6 s n v r p x ∧
   (v16_0 s n v r p x).length≤1048576∧(v16_2 s n v r p x).length≤1048576∧(v16_3 s n v r p x).length≤1048576∧(v16_4 s n v r p x).length≤1048576:=by
 obtain ⟨a,b,c,d,e,f⟩:=P47 s n v r p h0 h1 h2 h3
 obtain ⟨a',b',c',d',e',f'⟩:=P45 s n v r p h0 h1 h2 h3
 unfold q16 q15 v16_0 v16_1 v16_2 v16_3 v16_4 v16_5 v16_6 v15_0 v15_1 v15_2 v15_3 v15_4 v15_5 v15_6
 rw [a,b,c,d,e,f,a',b',c',d',e',f',(P19 s n v r p h0 h1 h2 h3).1,(P19 s n v r p h0 h1 h2 h3).2,(P18 s n v r p h0 h1 h2 h3).1,(P18 s n v r p h0 h1 h2 h3).2]
 have go:∀ row:Int,q48 v r p x row=true∧q46 v r p x row=true∧v46_0 v r p x row=v48_0 v r p x row∧v46_1 v r p x row=v48_1 v r p x row∧v46_2 v r p x row=v48_2 v r p x row∧v46_4 v r p x row=v48_4 v r p x row ∧
   (v48_4 v r p x row=true→(v48_0 v r p x row).length≤1048576∧(v48_1 v r p x row).length≤1048576∧(v48_2 v r p x row).length≤1048576∧v.length<64):=fun row=>same48 v r p x row h1 h2 h3
 have st:∀ y:AV,decide ((s.length+[y].length)*32≤140737488355328)=true∧decide (s.length+[y].length≤140737488355328)=true:=fun y=>⟨decide_eq_true (by simp only [List.length_singleton];omega),decide_eq_true (by simp only [List.length_singleton];omega)⟩
 have hsv:isS s n v r p=true→(s.length:Int)=v.length:=fun h=>by
  unfold isS at h
  simp only [Bool.and_eq_true,decide_eq_true_eq] at h
  exact h.2.1
 cases hS:isS s n v r p with
 | false=>exact ⟨rfl,rfl,rfl,rfl,rfl,rfl,rfl,rfl,rfl,by simp only [Bool.not_false,cond_true];omega,h1,h2,h3⟩
 | true =>
  cases decide (n ≥ 1000) with
  | true=>exact ⟨rfl,rfl,rfl,rfl,rfl,rfl,rfl,rfl,rfl,by simp only [Bool.not_true,cond_false,cond_true];omega,h1,h2,h3⟩
  | false =>
   by_cases hl:(s.length:Int) > 0
   ·have w1:IntKind.i64.wrap ((s.length:Int) - 1)=s.length - 1:=wrap_in (by omega) (by omega)
    have c1:decide (0≤(s.length:Int) - 1)=true:=decide_eq_true (by omega)
    have c2:decide ((s.length:Int) - 1<s.length)=true:=decide_eq_true (by omega)
    rw [decide_eq_true hl,w1,c1,c2]
    generalize IntKind.i64.wrap (fI (s.getD ((s.length:Int) - 1).toNat AV.undef) 1+1)=row
    obtain ⟨g1,g2,g3,g4,g5,g6,g7⟩:=go row
    rw [g1,g2,g3,g4,g5,g6]
    simp only [(st _).1,(st _).2]
    cases hv:v48_4 v r p x row with
    | false=>exact ⟨by first|trivial|rfl,by first|trivial|rfl,by first|trivial|rfl,by first|trivial|rfl,by first|trivial|rfl,by first|trivial|rfl,by first|trivial|rfl,by first|trivial|rfl,by first|trivial|rfl,by simp only [Bool.not_true,Bool.not_false,cond_false,cond_true];omega,h1,h2,h3⟩
    | true =>
     obtain ⟨k1,k2,k3,k4⟩:=g7 hv
     have hse:=hsv hS
     exact ⟨by first|trivial|rfl,by first|trivial|rfl,by first|trivial|rfl,by first|trivial|rfl,by first|trivial|rfl,by first|trivial|rfl,by first|trivial|rfl,by first|trivial|rfl,by first|trivial|rfl,by simp only [Bool.not_true,cond_false,cond_true,List.length_append,List.length_singleton];omega,k1,k2,k3⟩
   ·rw [decide_eq_false hl]
    obtain ⟨g1,g2,g3,g4,g5,g6,g7⟩:=go 0
    rw [g1,g2,g3,g4,g5,g6]
    simp only [(st _).1,(st _).2]
    cases hv:v48_4 v r p x 0 with
    | false=>exact ⟨by first|trivial|rfl,by first|trivial|rfl,by first|trivial|rfl,by first|trivial|rfl,by first|trivial|rfl,by first|trivial|rfl,by first|trivial|rfl,by first|trivial|rfl,by first|trivial|rfl,by simp only [Bool.not_true,Bool.not_false,cond_false,cond_true];omega,h1,h2,h3⟩
    | true =>
     obtain ⟨k1,k2,k3,k4⟩:=g7 hv
     have hse:=hsv hS
     exact ⟨by first|trivial|rfl,by first|trivial|rfl,by first|trivial|rfl,by first|trivial|rfl,by first|trivial|rfl,by first|trivial|rfl,by first|trivial|rfl,by first|trivial|rfl,by first|trivial|rfl,by simp only [Bool.not_true,cond_false,cond_true,List.length_append,List.length_singleton];omega,k1,k2,k3⟩
def pD (ss:List AV) (row:Int) (i:Int):Bool:=decide (fI (ss.getD i.toNat .undef) 1=row) && decide (fI (ss.getD i.toNat .undef) 3 = -1)
def cD (ss:List AV) (now:Int) (i:Int):AV:=AV.agg [AV.int .i64 (fI (ss.getD i.toNat AV.undef) 0),AV.int .i64 (fI (ss.getD i.toNat AV.undef) 1),AV.int .i64 (fI (ss.getD i.toNat AV.undef) 2),AV.int .i64 (now+1)]
theorem run24 (row:Int) (s:List AV) (n:Int) (v r p v' r' p':List AV) (z n':Int) (hs:s.length≤1048576) (hn:0≤n) (hn':n≤1000) :
  runW (R24_0 row s s n v r p v' r' z p' n') (((s.length:Int) - 0).toNat+1) 0=some (ro (findF (pD s row) s.length 0) (.inl ()) fun i => .inr (s.set i.toNat (cD s n i),n+1,n+1)):=by
 refine runW_find (fun i=>i) s.length _ _ _ (fun i h0 hl=>?_) ?_ s.length _ 0 (Int.le_refl 0) (by omega) (by omega)
 ·simp only [R24_0,F24_0,h0,hl,decide_true,Bool.and_self,cond_true,pD,cD]
  rw [wrap_in (a:=i+1) (by omega) (by omega),wrap_in (a:=n+1) (by omega) (by omega)]
  cases decide (fI (s.getD i.toNat AV.undef) 1=row) <;> cases decide (fI (s.getD i.toNat AV.undef) 3 = -1) <;> rfl
 ·simp only [R24_0,F24_0,Int.lt_irrefl,decide_false,cond_false]
theorem P58 (s:List AV) (row:Int) (hs:s.length≤1048576):q58 s (.int .i64 row)=true∧v58_0 s (.int .i64 row)=ro (findF (pD s row) s.length 0) (-1) id:=by
 have hr:runW (R58_0 s (.int .i64 row) s.length) (((s.length:Int) - 0).toNat+1) 0=some (ro (findF (pD s row) s.length 0) (.inl ()) fun i => .inr i):=by
  refine runW_find (fun i=>i) s.length _ _ _ (fun i h0 hl=>?_) ?_ s.length _ 0 (Int.le_refl 0) (by omega) (by omega)
  ·simp only [R58_0,F58_0,h0,hl,decide_true,Bool.and_self,cond_true]
   rw [wrap_in (a:=i+1) (by omega) (by omega)]
   have e:v59_0 (fI (s.getD i.toNat AV.undef) 0) (fI (s.getD i.toNat AV.undef) 1) (fI (s.getD i.toNat AV.undef) 2) (fI (s.getD i.toNat AV.undef) 3) (AV.int .i64 row)=pD s row i:=by
    unfold v59_0 pD
    rw [show fI (AV.int .i64 row) 0=row from rfl]
    cases decide (fI (s.getD i.toNat AV.undef) 1=row) <;> rfl
   rw [e]
  ·simp only [R58_0,F58_0,Int.lt_irrefl,decide_false,cond_false]
 unfold q58 v58_0
 rw [hr]
 cases findF (pD s row) s.length 0 <;> exact ⟨rfl,rfl⟩
def DB (s:List AV) (n:Int) (v r p:List AV) (row:Int):Bool:=isS s n v r p && (decide (n<1000) && (findF (pD s row) s.length 0).isSome)
def DS (s:List AV) (n:Int) (v r p:List AV) (row:Int):List AV:=bif DB s n v r p row then ro (findF (pD s row) s.length 0) s (fun i=>s.set i.toNat (cD s n i)) else s
def DN (s:List AV) (n:Int) (v r p:List AV) (row:Int):Int:=bif DB s n v r p row then n+1 else n
theorem DS_len (s:List AV) (n:Int) (v r p:List AV) (row:Int):(DS s n v r p row).length=s.length:=by
 unfold DS
 cases DB s n v r p row
 ·rfl
 ·cases findF (pD s row) s.length 0
  ·rfl
  ·simp [ro]
theorem isS_now {s:List AV} {n:Int} {v r p:List AV} (h:isS s n v r p=true):0≤n∧n≤1000:=by
 unfold isS at h
 simp only [Bool.and_eq_true,decide_eq_true_eq] at h
 exact h.2.2.1
theorem dge (z n:Int):decide (z ≥ n) = !decide (z<n):=by
 by_cases h:z<n
 ·rw [decide_eq_true h,decide_eq_false (by omega)];rfl
 ·rw [decide_eq_false h,decide_eq_true (by omega)];rfl
theorem P24 (s:List AV) (n:Int) (v r p:List AV) (row:Int) (h0:s.length≤1048576) (h1:v.length≤1048576) (h2:r.length≤1048576) (h3:p.length≤1048576) :
  q24 s n v r p row=true∧v24_0 s n v r p row=DS s n v r p row∧v24_1 s n v r p row=DN s n v r p row∧v24_2 s n v r p row=v∧v24_3 s n v r p row=r∧v24_4 s n v r p row=p∧v24_5 s n v r p row=DB s n v r p row:=by
 obtain ⟨a,b,c,d,e,f⟩:=P47 s n v r p h0 h1 h2 h3
 unfold q24 v24_0 v24_1 v24_2 v24_3 v24_4 v24_5 DS DN DB
 rw [a,b,c,d,e,f,(P19 s n v r p h0 h1 h2 h3).1,(P19 s n v r p h0 h1 h2 h3).2,dge]
 cases hS:isS s n v r p with
 | false=>exact ⟨rfl,rfl,rfl,rfl,rfl,rfl,rfl⟩
 | true =>
  cases decide (n<1000) with
  | false=>exact ⟨rfl,rfl,rfl,rfl,rfl,rfl,rfl⟩
  | true =>
   rw [run24 row s n v r p v r p 0 n h0 (isS_now hS).1 (isS_now hS).2]
   cases findF (pD s row) s.length 0 <;> exact ⟨rfl,rfl,rfl,rfl,rfl,rfl,rfl⟩
theorem P23 (s:List AV) (n:Int) (v r p:List AV) (row:Int) (h0:s.length≤1048576) (h1:v.length≤1048576) (h2:r.length≤1048576) (h3:p.length≤1048576) :
  q23 s n v r p row=true∧v23_0 s n v r p row=DS s n v r p row∧v23_1 s n v r p row=DN s n v r p row∧v23_2 s n v r p row=v∧v23_3 s n v r p row=r∧v23_4 s n v r p row=p∧v23_5 s n v r p row=DB s n v r p row:=by
 obtain ⟨a,b,c,d,e,f⟩:=P45 s n v r p h0 h1 h2 h3
 unfold q23 v23_0 v23_1 v23_2 v23_3 v23_4 v23_5 DS DN DB
 rw [a,b,c,d,e,f,(P18 s n v r p h0 h1 h2 h3).1,(P18 s n v r p h0 h1 h2 h3).2,dge,(P58 s row h0).1,(P58 s row h0).2]
 cases hS:isS s n v r p with
 | false=>exact ⟨rfl,rfl,rfl,rfl,rfl,rfl,rfl⟩
 | true =>
  cases decide (n<1000) with
  | false=>exact ⟨rfl,rfl,rfl,rfl,rfl,rfl,rfl⟩
  | true =>
   cases hf:findF (pD s row) s.length 0 with
   | none=>exact ⟨rfl,rfl,rfl,rfl,rfl,rfl,rfl⟩
   | some i =>
    obtain ⟨f1,f2,f3⟩:=findF_some _ _ hf
    have e1:decide (ro (some i) (-1) id<0)=false:=decide_eq_false (by simp [ro];omega)
    have e2:decide (0≤ro (some i) (-1) id)=true:=decide_eq_true (by simp [ro];omega)
    have e3:decide (ro (some i) (-1) id<(s.length:Int))=true:=decide_eq_true (by simp [ro];omega)
    obtain ⟨g1,g2⟩:=isS_now hS
    rw [e1,e2,e3,wrap_in (a:=n+1) (by omega) (by omega)]
    exact ⟨rfl,rfl,rfl,rfl,rfl,rfl,rfl⟩
end Go.Proofs.Ytkdnhnkhcldonaa
