import Derived.Test.YtkdnhnkhcldonaaSTo
namespace Go.Proofs.Ytkdnhnkhcldonaa
open Go Go.Proofs.VE
set_option linter.unusedVariables false
set_option linter.unusedSimpArgs false
def dI (i:Int):AV := .int .i64 i
def E35 (xs vs:List AV) (i:Int):List AV→Int ⊕ (Int × List AV)
 | [] => .inl i
 | y :: ys => .inr (i,y :: ys)
def K35 (xs vs:List AV):List AV→Unit ⊕ List AV
 | [] => .inl ()
 | y :: ys => .inr (y :: ys)
theorem run35 (xs vs:List AV) (h:xs.length≤1048576):runW (R35_0 xs vs) (((xs.length:Int) - 0).toNat+1) (E35 xs vs 0 [])=some (K35 xs vs (appF allT dI xs.length 0 [])):=by
 refine runW_appK (E35 xs vs) (K35 xs vs) xs.length allT dI (fun i ys h0 hn hl=>?_) (fun ys=>?_)
 ·have d1:decide (i<(xs.length:Int))=true:=decide_eq_true hn
  have d2:decide (0≤i)=true:=decide_eq_true h0
  cases ys with
  | nil =>
   have c1:decide ((([dI i]:List AV).length)*8≤140737488355328)=true:=by simp
   have c2:decide ((([dI i]:List AV).length)≤140737488355328)=true:=by simp
   simp only [dI] at c1 c2
   simp only [E35,R35_0,sumE,F35_0_s0,d1,d2,c1,c2,Bool.and_self,cond_true,allT,List.nil_append]
   rw [wrap_in (a:=i+1) (by omega) (by omega)]
   try rfl
  | cons y ys =>
   have hl':(y :: ys).length≤1048576:=by omega
   have c1:decide (((y :: ys).length+[dI i].length)*8≤140737488355328)=true:=decide_eq_true (by simp only [List.length_singleton];omega)
   have c2:decide ((y :: ys).length+[dI i].length≤140737488355328)=true:=decide_eq_true (by simp only [List.length_singleton];omega)
   simp only [dI] at c1 c2
   simp only [E35,R35_0,sumE,F35_0_s1,d1,d2,c1,c2,Bool.and_self,cond_true,allT,List.cons_append]
   rw [wrap_in (a:=i+1) (by omega) (by omega)]
   try rfl
 ·cases ys <;> simp only [E35,K35,R35_0,sumE,F35_0_s0,F35_0_s1,Int.lt_irrefl,decide_false,cond_false]
def E32 (xs vs:List AV) (i:Int):List AV→Int ⊕ (Int × List AV)
 | [] => .inl i
 | y :: ys => .inr (i,y :: ys)
def K32 (xs vs:List AV):List AV→Unit ⊕ List AV
 | [] => .inl ()
 | y :: ys => .inr (y :: ys)
theorem appF_all (c:Int→AV):∀ (m:Nat) (i:Int) (ys:List AV),appF allT c m i ys=ys++(List.range m).map fun j:Nat=>c (i+j)
 | 0,i,ys=>by simp [appF,foldF]
 | m+1,i,ys=>by
  have e:appF allT c (m+1) i ys=appF allT c m (i+1) (ys++[c i]):=rfl
  rw [e,appF_all c m,List.range_succ_eq_map,List.map_cons,List.map_map,List.append_assoc]
  congr 1
  simp only [Int.natCast_zero,Int.add_zero,List.singleton_append,List.cons.injEq,true_and]
  refine List.map_congr_left fun j _=>?_
  simp only [Function.comp]
  congr 1
  omega
def rows (xs:List AV):List AV:=appF allT dI xs.length 0 []
theorem rows_len (xs:List AV):(rows xs).length=xs.length:=by
 unfold rows
 rw [appF_all]
 simp
theorem rows_el (xs:List AV) (k:Int) (h0:0≤k) (h1:k<xs.length):el (rows xs) k=k:=by
 unfold el rows
 rw [appF_all,List.nil_append,List.getD_eq_getElem?_getD,List.getElem?_map,List.getElem?_range (by omega)]
 simp only [Option.map_some,Option.getD_some]
 show (0:Int)+(k.toNat:Nat)=k
 omega
theorem P35 (xs:List AV) (h:xs.length≤1048576):q35 xs=true∧v35_0 xs=(bif v36_0 xs then xs else [])∧v35_1 xs=(bif v36_0 xs then rows xs else [])∧v35_2 xs=[]:=by
 unfold q35 v35_0 v35_1 v35_2
 have hr:=run35 xs ([]++xs) h
 have c1:decide ((([]:List AV).length+xs.length)*8≤140737488355328)=true:=decide_eq_true (by simp;omega)
 have c2:decide (([]:List AV).length+xs.length≤140737488355328)=true:=decide_eq_true (by simp;omega)
 rw [(P36 xs h).1,show (.inl 0:Int ⊕ (Int × List AV))=E35 xs ([]++xs) 0 [] from rfl,hr,c1,c2]
 change _∧_∧_=(bif v36_0 xs then (appF allT dI xs.length 0 []) else [])∧_
 generalize appF allT dI xs.length 0 []=ys
 cases v36_0 xs
 ·exact ⟨rfl,rfl,rfl,rfl⟩
 ·cases ys <;> exact ⟨rfl,rfl,rfl,rfl⟩
theorem Col_new (xs:List AV) (hl:xs.length≤1048576) (h:v36_0 xs=true):Col xs (rows xs) []:=by
 rw [(P36 xs hl).2,Bool.and_eq_true,findF_isNone,decide_eq_true_eq] at h
 obtain ⟨h1,h2⟩:=h
 have hr:=rows_len xs
 refine ⟨h2,fun k k0 k1=>?_,by omega,fun k k0 k1=>?_,fun j k j0 jk k1=>?_,fun i i0 i1=>?_,fun i i0 i1=>?_,fun i i0 i1=>?_,fun i i0 i1=>?_⟩
 ·have:=h1 k k0 (by omega)
  simp only [v52,Bool.not_eq_false',Bool.and_eq_true,decide_eq_true_eq] at this
  exact this
 ·rw [rows_el xs k k0 (by omega)]
  omega
 ·rw [rows_el xs k (by omega) (by omega),rows_el xs j j0 (by omega)]
  omega
 all_goals (exfalso;simp only [List.length_nil] at i1;omega)
theorem N2_nil:N2 []:=fun x hx=>by simp at hx
def rowK (rs:List AV) (x:Int):Int:=ro (findF (fun i=>decide (fI (rs.getD i.toNat .undef) 0=x)) rs.length 0) (-1) id
theorem rowK_lt (rs:List AV) (x:Int):rowK rs x<rs.length∧(-1≤rowK rs x):=by
 unfold rowK
 cases hf:findF (fun i=>decide (fI (rs.getD i.toNat .undef) 0=x)) rs.length 0 with
 | none=>simp [ro];omega
 | some j =>
  have:=findF_some _ _ hf
  simp [ro]
  omega
def badT (now:Int) (ss:List AV) (i:Int):Bool :=
 !(
  decide (0≤fI (ss.getD i.toNat .undef) 2) && decide (fI (ss.getD i.toNat .undef) 2≤now)) ||
  (!decide (fI (ss.getD i.toNat .undef) 3 = -1) && (decide (fI (ss.getD i.toNat .undef) 3≤fI (ss.getD i.toNat .undef) 2) || !decide (fI (ss.getD i.toNat .undef) 3≤now)))
def badS (vs rs ss:List AV) (now:Int) (i:Int):Bool :=
 decide (rowK rs (fI (ss.getD i.toNat .undef) 1)<0) || (!decide (fI (vs.getD (rowK rs (fI (ss.getD i.toNat .undef) 1)).toNat .undef) 0=fI (ss.getD i.toNat .undef) 0) ||
  ((decide (i > 0) && decide (fI (ss.getD i.toNat .undef) 1≤fI (ss.getD (i - 1).toNat .undef) 1)) || badT now ss i))
def L19 (ss:List AV) (i:Int):Unit ⊕ (Int × Int × Int × Int) := .inr (fI (ss.getD i.toNat .undef) 0,fI (ss.getD i.toNat .undef) 1,fI (ss.getD i.toNat .undef) 2,fI (ss.getD i.toNat .undef) 3)
theorem step19 (ss:List AV) (now:Int) (vs rs ps:List AV) (i:Int) (hr:rs.length≤1048576) (hs:ss.length≤1048576) (he:(rs.length:Int)=vs.length) (hnow:now≤1000) (h0:0≤i) (hn:i<ss.length) :
  R19_0 ss now vs rs ps i=bif badS vs rs ss now i then .stop (L19 ss i) else .next (i+1):=by
 have hk:=rowK_lt rs (fI (ss.getD i.toNat .undef) 1)
 have ek:v53_0 vs rs ps (fI (ss.getD i.toNat .undef) 1)=rowK rs (fI (ss.getD i.toNat .undef) 1):=(P53 vs rs ps _ hr).2.trans (P90 rs _ hr).2
 simp only [R19_0,F19_0,h0,hn,decide_true,Bool.and_self,cond_true,(P53 vs rs ps _ hr).1,ek]
 rw [wrap_in (a:=i+1) (by omega) (by omega),wrap_in (a:=i - 1) (by omega) (by omega)]
 unfold badS L19 badT
 simp only [v52]
 generalize rowK rs (fI (ss.getD i.toNat AV.undef) 1)=k at *
 by_cases hk0:k<0
 ·rw [decide_eq_true hk0];rfl
 have k1:decide (0≤k)=true:=decide_eq_true (by omega)
 have k2:decide (k<(vs.length:Int))=true:=decide_eq_true (by omega)
 rw [decide_eq_false hk0,k1,k2]
 generalize decide (fI (vs.getD k.toNat AV.undef) 0=fI (ss.getD i.toNat AV.undef) 0)=b1
 generalize fI (ss.getD i.toNat AV.undef) 2=bo
 have eb:(decide (0≤bo) && decide (bo≤now))=true→IntKind.i64.wrap (bo+1)=bo+1:=fun h=>by
  simp only [Bool.and_eq_true,decide_eq_true_eq] at h
  exact wrap_in (by omega) (by omega)
 have ed:decide (bo+1≤fI (ss.getD i.toNat AV.undef) 3) = !decide (fI (ss.getD i.toNat AV.undef) 3≤bo):=by
  by_cases h:fI (ss.getD i.toNat AV.undef) 3≤bo
  ·rw [decide_eq_true h,decide_eq_false (by omega)];rfl
  ·rw [decide_eq_false h,decide_eq_true (by omega)];rfl
 generalize (decide (0≤bo) && decide (bo≤now))=b2 at *
 generalize decide (fI (ss.getD i.toNat AV.undef) 3 = -1)=b3
 have hd:b2=true→(decide (IntKind.i64.wrap (bo+1)≤fI (ss.getD i.toNat AV.undef) 3))=(decide (bo+1≤fI (ss.getD i.toNat AV.undef) 3)):=fun h=>by rw [eb h]
 cases b2 with
 | false =>
  by_cases hi:i > 0
  ·have hm:decide (0≤i - 1)=true:=decide_eq_true (by omega)
   have hm':decide (i - 1<(ss.length:Int))=true:=decide_eq_true (by omega)
   rw [decide_eq_true hi,hm,hm']
   generalize decide (fI (ss.getD i.toNat AV.undef) 1≤fI (ss.getD (i - 1).toNat AV.undef) 1)=b4
   cases b1 <;> cases b4 <;> rfl
  ·rw [decide_eq_false hi]
   cases b1 <;> rfl
 | true =>
  rw [hd rfl,ed]
  generalize decide (fI (ss.getD i.toNat AV.undef) 3≤bo)=b5
  generalize decide (fI (ss.getD i.toNat AV.undef) 3≤now)=b6
  by_cases hi:i > 0
  ·have hm:decide (0≤i - 1)=true:=decide_eq_true (by omega)
   have hm':decide (i - 1<(ss.length:Int))=true:=decide_eq_true (by omega)
   rw [decide_eq_true hi,hm,hm']
   generalize decide (fI (ss.getD i.toNat AV.undef) 1≤fI (ss.getD (i - 1).toNat AV.undef) 1)=b4
   cases b1 <;> cases b3 <;> cases b4 <;> cases b5 <;> cases b6 <;> rfl
  ·rw [decide_eq_false hi]
   cases b1 <;> cases b3 <;> cases b5 <;> cases b6 <;> rfl
theorem step18 (ss:List AV) (now:Int) (vs rs ps:List AV) (i:Int) (hr:rs.length≤1048576) (hs:ss.length≤1048576) (he:(rs.length:Int)=vs.length) (hnow:now≤1000) (h0:0≤i) (hn:i<ss.length) :
  R18_0 ss ss.length ss now vs rs ps i=bif badS vs rs ss now i then .stop (L19 ss i) else .next (i+1):=by
 have hk:=rowK_lt rs (fI (ss.getD i.toNat .undef) 1)
 have ek:v50_0 vs rs ps (fI (ss.getD i.toNat .undef) 1)=rowK rs (fI (ss.getD i.toNat .undef) 1):=(P90 rs _ hr).2
 simp only [R18_0,F18_0,h0,hn,decide_true,Bool.and_self,cond_true,(P50 vs rs ps _ hr).1,ek]
 rw [wrap_in (a:=i+1) (by omega) (by omega),wrap_in (a:=i - 1) (by omega) (by omega)]
 unfold badS L19 badT
 generalize rowK rs (fI (ss.getD i.toNat AV.undef) 1)=k at *
 by_cases hk0:k<0
 ·rw [decide_eq_true hk0];rfl
 have k1:decide (0≤k)=true:=decide_eq_true (by omega)
 have k2:decide (k<(vs.length:Int))=true:=decide_eq_true (by omega)
 rw [decide_eq_false hk0,k1,k2]
 generalize decide (fI (vs.getD k.toNat AV.undef) 0=fI (ss.getD i.toNat AV.undef) 0)=b1
 generalize fI (ss.getD i.toNat AV.undef) 2=bo
 generalize fI (ss.getD i.toNat AV.undef) 3=di
 rw [dlt bo 0,dgt bo now,dgt di now]
 generalize decide (0≤bo)=b2
 generalize decide (bo≤now)=b7
 generalize decide (di = -1)=b3
 generalize decide (di≤bo)=b5
 generalize decide (di≤now)=b6
 by_cases hi:i > 0
 ·have hm:decide (0≤i - 1)=true:=decide_eq_true (by omega)
  have hm':decide (i - 1<(ss.length:Int))=true:=decide_eq_true (by omega)
  rw [decide_eq_true hi,hm,hm',show decide (fI (ss.getD (i - 1).toNat AV.undef) 1 ≥ fI (ss.getD i.toNat AV.undef) 1)=decide (fI (ss.getD i.toNat AV.undef) 1≤fI (ss.getD (i - 1).toNat AV.undef) 1) from rfl]
  generalize decide (fI (ss.getD i.toNat AV.undef) 1≤fI (ss.getD (i - 1).toNat AV.undef) 1)=b4
  cases b1 <;> cases b2 <;> cases b3 <;> cases b4 <;> cases b5 <;> cases b6 <;> cases b7 <;> rfl
 ·rw [decide_eq_false hi]
  cases b1 <;> cases b2 <;> cases b3 <;> cases b5 <;> cases b6 <;> cases b7 <;> rfl
def isS (ss:List AV) (now:Int) (vs rs ps:List AV):Bool:=isC vs rs ps && (decide ((ss.length:Int)=vs.length) && ((decide (0≤now) && decide (now≤1000)) && noneB (badS vs rs ss now) ss.length))
theorem isC_len {vs rs ps:List AV} (h:isC vs rs ps=true):(rs.length:Int)=vs.length:=by
 unfold isC at h
 simp only [Bool.and_eq_true,decide_eq_true_eq] at h
 exact h.2.1
theorem P19 (ss:List AV) (now:Int) (vs rs ps:List AV) (hs:ss.length≤1048576) (h:vs.length≤1048576) (h':rs.length≤1048576) (h'':ps.length≤1048576):q19 ss now vs rs ps=true∧v19_0 ss now vs rs ps=isS ss now vs rs ps:=by
 unfold q19 v19_0 isS
 rw [(P51 vs rs ps h h' h'').1,(P51 vs rs ps h h' h'').2,v52]
 cases hc:isC vs rs ps with
 | false=>exact ⟨rfl,rfl⟩
 | true =>
  cases decide ((ss.length:Int)=vs.length) with
  | false=>exact ⟨rfl,rfl⟩
  | true =>
   cases hnow:(decide (0≤now) && decide (now≤1000)) with
   | false=>exact ⟨rfl,rfl⟩
   | true =>
    simp only [Bool.and_eq_true,decide_eq_true_eq] at hnow
    have hr:runW (R19_0 ss now vs rs ps) (((ss.length:Int) - 0).toNat+1) 0=some (ro (findF (badS vs rs ss now) ss.length 0) (.inl ()) (L19 ss)):=by
     refine runW_find (fun i=>i) ss.length _ _ _ (fun i h0 hn=>step19 ss now vs rs ps i h' hs (isC_len hc) hnow.2 h0 hn) ?_ ss.length _ 0 (Int.le_refl 0) (by omega) (by omega)
     simp only [R19_0,F19_0,Int.lt_irrefl,decide_false,cond_false]
    rw [hr]
    unfold noneB
    cases findF (badS vs rs ss now) ss.length 0 <;> exact ⟨rfl,rfl⟩
theorem P18 (ss:List AV) (now:Int) (vs rs ps:List AV) (hs:ss.length≤1048576) (h:vs.length≤1048576) (h':rs.length≤1048576) (h'':ps.length≤1048576):q18 ss now vs rs ps=true∧v18_0 ss now vs rs ps=isS ss now vs rs ps:=by
 unfold q18 v18_0 isS
 rw [(P49 vs rs ps h h' h'').1,(P49 vs rs ps h h' h'').2,dlt now 0,dgt now 1000]
 cases hc:isC vs rs ps with
 | false=>exact ⟨rfl,rfl⟩
 | true =>
  cases decide ((ss.length:Int)=vs.length) with
  | false=>exact ⟨rfl,rfl⟩
  | true =>
   cases hn1:decide (0≤now) with
   | false=>exact ⟨rfl,rfl⟩
   | true =>
    cases hn2:decide (now≤1000) with
    | false=>exact ⟨rfl,rfl⟩
    | true =>
     simp only [decide_eq_true_eq] at hn1 hn2
     have hr:runW (R18_0 ss ss.length ss now vs rs ps) (((ss.length:Int) - 0).toNat+1) 0=some (ro (findF (badS vs rs ss now) ss.length 0) (.inl ()) (L19 ss)):=by
      refine runW_find (fun i=>i) ss.length _ _ _ (fun i h0 hn=>step18 ss now vs rs ps i h' hs (isC_len hc) hn2 h0 hn) ?_ ss.length _ 0 (Int.le_refl 0) (by omega) (by omega)
      simp only [R18_0,F18_0,Int.lt_irrefl,decide_false,cond_false]
     rw [hr]
     unfold noneB
     cases findF (badS vs rs ss now) ss.length 0 <;> exact ⟨rfl,rfl⟩
theorem P47 (s:List AV) (n:Int) (v r p:List AV) (h0:s.length≤1048576) (h1:v.length≤1048576) (h2:r.length≤1048576) (h3:p.length≤1048576):q47 s n v r p=true∧v47_0 s n v r p=s∧v47_1 s n v r p=n∧v47_2 s n v r p=v∧v47_3 s n v r p=r∧v47_4 s n v r p=p:=by
 obtain ⟨a,b,c,d⟩:=P75 v r p h1 h2 h3
 unfold q47 v47_0 v47_1 v47_2 v47_3 v47_4
 simp only [List.length_nil,Nat.zero_add,List.nil_append,a,b,c,d]
 rw [decide_eq_true (by omega:s.length*32≤140737488355328),decide_eq_true (by omega:s.length≤140737488355328)]
 simp
theorem P83 (xs:List AV) (h:xs.length≤1048576):q83 xs=true∧v83_0 xs=xs:=by
 unfold q83 v83_0
 rw [decide_eq_true (by omega:xs.length*32≤140737488355328),decide_eq_true (by omega:xs.length≤140737488355328)]
 exact ⟨rfl,rfl⟩
theorem P45 (s:List AV) (n:Int) (v r p:List AV) (h0:s.length≤1048576) (h1:v.length≤1048576) (h2:r.length≤1048576) (h3:p.length≤1048576):q45 s n v r p=true∧v45_0 s n v r p=s∧v45_1 s n v r p=n∧v45_2 s n v r p=v∧v45_3 s n v r p=r∧v45_4 s n v r p=p:=by
 obtain ⟨a,b,c,d⟩:=P69 v r p h1 h2 h3
 unfold q45 v45_0 v45_1 v45_2 v45_3 v45_4
 rw [(P83 s h0).1,a]
 exact ⟨rfl,rfl,rfl,b,c,d⟩
end Go.Proofs.Ytkdnhnkhcldonaa
