import Derived.Test.YtmcnplggcedihaaGreatAT4
import Derived.Test.YtmcnplggcedihaaGreatVEz
namespace Go.Proofs.YtmcnplggcedihaaGreat
open Go Go.Proofs.VE
set_option linter.unusedVariables false
set_option linter.unusedSimpArgs false
theorem P7 {a0:List AV} {a1:Int} (h:a0.length≤9223372036854775807) (h0:0≤a1) (h1:a1≤1048576):v7_0 a0 a1=if a1<a0.length then -1 else a1 - a0.length:=by
 unfold v7_0
 rw [wrap_in (a:=a1 - a0.length) (by omega) (by omega)]
 by_cases hl:a1<a0.length
 ·have e:decide (a1 - (a0.length:Int)<0)=true:=decide_eq_true (by omega)
  rw [e,if_pos hl]
  rfl
 ·have e:decide (a1 - (a0.length:Int)<0)=false:=decide_eq_false (by omega)
  rw [e,if_neg hl]
  rfl
def cp9 (x:AV):AV:=(AV.agg [AV.int .i64 (fI x 0)])
theorem P9 (xs:List AV) (h:xs.length≤1048576):q9 xs=true∧v9_0 xs=xs.map cp9:=by
 have hr:runW (R9_0 xs) (((xs.length:Int) - 0).toNat+1) (0,List.replicate (Int.toNat (xs.length:Int)) (AV.int .i64 0))=some (xs.map cp9):=by
  refine runW_copy (c:=cp9) xs (fun i ys h0 hn hl=>?_) (fun ys=>?_)
  ·simp only [R9_0,F9_0]
   have hl':i<ys.length:=by omega
   simp only [h0,hn,hl',decide_true,Bool.and_self,cond_true]
   rw [wrap_in (a:=i+1) (by omega) (by omega)]
   rfl
  ·simp only [R9_0,F9_0,Int.lt_irrefl,decide_false,cond_false]
 unfold q9 v9_0
 rw [hr]
 refine ⟨?_,rfl⟩
 simp only [ro,Bool.and_true,Bool.and_eq_true,decide_eq_true_eq]
 omega
def cp10 (x:AV):AV:=(AV.agg [AV.int .i64 (v31_0 (fI x 0) (fI x 1)),AV.int .i64 (v31_1 (fI x 0) (fI x 1))])
theorem P10 (xs:List AV) (h:xs.length≤1048576):q10 xs=true∧v10_0 xs=xs.map cp10:=by
 have hr:runW (R10_0 xs) (((xs.length:Int) - 0).toNat+1) (0,List.replicate (Int.toNat (xs.length:Int)) (AV.agg [AV.int .i64 0,AV.int .i64 0]))=some (xs.map cp10):=by
  refine runW_copy (c:=cp10) xs (fun i ys h0 hn hl=>?_) (fun ys=>?_)
  ·simp only [R10_0,F10_0]
   have hl':i<ys.length:=by omega
   simp only [h0,hn,hl',decide_true,Bool.and_self,cond_true]
   rw [wrap_in (a:=i+1) (by omega) (by omega)]
   rfl
  ·simp only [R10_0,F10_0,Int.lt_irrefl,decide_false,cond_false]
 unfold q10 v10_0
 rw [hr]
 refine ⟨?_,rfl⟩
 simp only [ro,Bool.and_true,Bool.and_eq_true,decide_eq_true_eq]
 omega
theorem P12 (xs ys:List AV) (h:xs.length≤1048576):q12 xs ys=true∧v12_0 xs ys=eqL ee1 xs ys:=by
 have hr:(xs.length:Int)=ys.length→runW (R12_0 xs ys) (((xs.length:Int) - 0).toNat+1) 0=some (ro (findF (fun i => !ee1 (xs.getD i.toNat .undef) (ys.getD i.toNat .undef)) xs.length 0) (.inl ()) fun _ => .inr ()):=fun hl=>by
  refine runW_find (fun i=>i) xs.length _ _ _ (fun i h0 hn=>?_) ?_ xs.length _ 0 (Int.le_refl 0) (by omega) (by omega)
  ·have hn':i<ys.length:=by omega
   simp only [R12_0,F12_0,h0,hn,hn',decide_true,Bool.and_self,cond_true]
   rw [wrap_in (a:=i+1) (by omega) (by omega)]
   generalize xs.getD i.toNat .undef=x
   generalize ys.getD i.toNat .undef=y
   congr 1
   all_goals first|rfl|(simp only [ee1];done)|(simp only [ee1];cases decide (fI x 0=fI y 0) <;> rfl)
  ·simp only [R12_0,F12_0,Int.lt_irrefl,decide_false,cond_false]
 unfold q12 v12_0 eqL
 by_cases hl:(xs.length:Int)=ys.length
 ·rw [decide_eq_true hl,hr hl]
  cases findF (fun i => !ee1 (xs.getD i.toNat .undef) (ys.getD i.toNat .undef)) xs.length 0 <;> exact ⟨rfl,rfl⟩
 ·rw [decide_eq_false hl]
  exact ⟨rfl,rfl⟩
theorem P13 (xs ys:List AV) (h:xs.length≤1048576):q13 xs ys=true∧v13_0 xs ys=eqL ee2 xs ys:=by
 have hr:(xs.length:Int)=ys.length→runW (R13_0 xs ys) (((xs.length:Int) - 0).toNat+1) 0=some (ro (findF (fun i => !ee2 (xs.getD i.toNat .undef) (ys.getD i.toNat .undef)) xs.length 0) (.inl ()) fun _ => .inr ()):=fun hl=>by
  refine runW_find (fun i=>i) xs.length _ _ _ (fun i h0 hn=>?_) ?_ xs.length _ 0 (Int.le_refl 0) (by omega) (by omega)
  ·have hn':i<ys.length:=by omega
   simp only [R13_0,F13_0,h0,hn,hn',decide_true,Bool.and_self,cond_true]
   rw [wrap_in (a:=i+1) (by omega) (by omega)]
   generalize xs.getD i.toNat .undef=x
   generalize ys.getD i.toNat .undef=y
   congr 1
   all_goals first|rfl|(simp only [ee2,v35_0];done)|(simp only [ee2,v35_0];cases decide (fI x 0=fI y 0) <;> cases decide (fI x 1=fI y 1) <;> rfl)
  ·simp only [R13_0,F13_0,Int.lt_irrefl,decide_false,cond_false]
 unfold q13 v13_0 eqL
 by_cases hl:(xs.length:Int)=ys.length
 ·rw [decide_eq_true hl,hr hl]
  cases findF (fun i => !ee2 (xs.getD i.toNat .undef) (ys.getD i.toNat .undef)) xs.length 0 <;> exact ⟨rfl,rfl⟩
 ·rw [decide_eq_false hl]
  exact ⟨rfl,rfl⟩
theorem v28 (a b c:Int):v28_0 a b c=(decide (b≤a) && decide (a≤c)):=by
 unfold v28_0;cases h:decide (a ≥ b) <;> simp_all
theorem run36 (xs:List AV) (h:xs.length≤1048576):runW (R36_0 xs) (((xs.length:Int) - 0).toNat+1) 0=some (ro (findF (fun i => !v28_0 (fI (xs.getD i.toNat .undef) 0) (-999) 999) xs.length 0) (.inl ()) fun _ => .inr ()):=by
 refine runW_find (fun i=>i) xs.length _ _ _ (fun i h0 hn=>?_) ?_ xs.length _ 0 (Int.le_refl 0) (by omega) (by omega)
 ·simp only [R36_0,F36_0,h0,hn,decide_true,Bool.and_self,cond_true]
  rw [wrap_in (a:=i+1) (by omega) (by omega)]
 ·simp only [R36_0,F36_0,Int.lt_irrefl,decide_false,cond_false]
theorem run87 (xs:List AV) (lo hi:AV) (h:xs.length≤1048576):runW (R87_0 xs lo hi xs.length) (((xs.length:Int) - 0).toNat+1) 0=some (ro (findF (fun i=>v76_0 (fI (xs.getD i.toNat .undef) 0) lo hi) xs.length 0) (.inl ()) fun i => .inr i):=by
 refine runW_find (fun i=>i) xs.length _ _ _ (fun i h0 hn=>?_) ?_ xs.length _ 0 (Int.le_refl 0) (by omega) (by omega)
 ·simp only [R87_0,F87_0,h0,hn,decide_true,Bool.and_self,cond_true]
  rw [wrap_in (a:=i+1) (by omega) (by omega)]
 ·simp only [R87_0,F87_0,Int.lt_irrefl,decide_false,cond_false]
theorem P36 (xs:List AV) (h:xs.length≤1048576):q36 xs=true∧v36_0 xs=((findF (fun i => !v28_0 (fI (xs.getD i.toNat .undef) 0) (-999) 999) xs.length 0).isNone && decide (xs.length≤64)):=by
 unfold q36 v36_0
 rw [run36 xs h]
 cases findF (fun i => !v28_0 (fI (xs.getD i.toNat .undef) 0) (-999) 999) xs.length 0 with
 | none=>refine ⟨rfl,?_⟩;simp only [ro,sumE,Option.isNone_none,Bool.true_and];congr 1;simp only [eq_iff_iff];omega
 | some j=>exact ⟨rfl,rfl⟩
theorem P60 (xs:List AV) (lo hi:Int) (h:xs.length≤1048576):q60 xs lo hi=true∧v60_0 xs lo hi=(findF (fun i => !v28_0 (fI (xs.getD i.toNat .undef) 0) lo hi) xs.length 0).isNone:=by
 unfold q60 v60_0 v75_0 q75 q87 v87_0
 rw [run87 xs _ _ h]
 have e:(fun i:Int=>v76_0 (fI (xs.getD i.toNat .undef) 0) (AV.int .i64 lo) (AV.int .i64 hi))=fun i => !v28_0 (fI (xs.getD i.toNat .undef) 0) lo hi:=by
  funext i
  unfold v76_0
  rw [v28,show fI (AV.int .i64 lo) 0=lo from rfl,show fI (AV.int .i64 hi) 0=hi from rfl]
  generalize fI (xs.getD i.toNat .undef) 0=z
  by_cases h1:z<lo <;> by_cases h2:z > hi <;> simp [h1,h2] <;> omega
 rw [e]
 cases hf:findF (fun i => !v28_0 (fI (xs.getD i.toNat .undef) 0) lo hi) xs.length 0 with
 | none=>exact ⟨rfl,rfl⟩
 | some j =>
  have:=(findF_some _ _ hf).1
  refine ⟨rfl,?_⟩
  simp [ro,sumE]
  omega
theorem P46 (xs:List AV) (h:xs.length≤1048576):q46 xs=true∧v46_0 xs=v36_0 xs:=by
 rw [(P36 xs h).2]
 unfold q46 v46_0
 rw [(P60 xs _ _ h).1,(P60 xs _ _ h).2]
 have e64:decide ((xs.length:Int)≤64)=decide (xs.length≤64):=by congr 1;simp only [eq_iff_iff];omega
 rw [e64]
 cases decide (xs.length≤64) <;> simp
end Go.Proofs.YtmcnplggcedihaaGreat
