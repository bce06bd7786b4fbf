import Derived.Test.YtkdnhnkhcldonaaST5
import Derived.Test.YtkdnhnkhcldonaaVEz
namespace Go.Proofs.Ytkdnhnkhcldonaa
open Go Go.Proofs.VE
set_option linter.unusedVariables false
set_option linter.unusedSimpArgs false
theorem P40 (xs ys:List AV) (h:xs.length≤1048576):q40 xs ys=true∧v40_0 xs ys=eqL ee1 xs ys:=by
 have hr:(xs.length:Int)=ys.length→runW (R40_0 xs ys) (((xs.length:Int) - 0).toNat+1) 0=some (ro (findF (fun i => !ee1 (xs.getD i.toNat .undef) (ys.getD i.toNat .undef)) xs.length 0) (.inl ()) fun _ => .inr ()):=fun hl=>by
  refine runW_find (fun i=>i) xs.length _ _ _ (fun i h0 hn=>?_) ?_ xs.length _ 0 (Int.le_refl 0) (by omega) (by omega)
  ·have hn':i<ys.length:=by omega
   simp only [R40_0,F40_0,h0,hn,hn',decide_true,Bool.and_self,cond_true]
   rw [wrap_in (a:=i+1) (by omega) (by omega)]
   generalize xs.getD i.toNat .undef=x
   generalize ys.getD i.toNat .undef=y
   congr 1
   all_goals first|rfl|(simp only [ee1];done)|(simp only [ee1];cases decide (fI x 0=fI y 0) <;> rfl)
  ·simp only [R40_0,F40_0,Int.lt_irrefl,decide_false,cond_false]
 unfold q40 v40_0 eqL
 by_cases hl:(xs.length:Int)=ys.length
 ·rw [decide_eq_true hl,hr hl]
  cases findF (fun i => !ee1 (xs.getD i.toNat .undef) (ys.getD i.toNat .undef)) xs.length 0 <;> exact ⟨rfl,rfl⟩
 ·rw [decide_eq_false hl]
  exact ⟨rfl,rfl⟩
theorem P41 (xs ys:List AV) (h:xs.length≤1048576):q41 xs ys=true∧v41_0 xs ys=eqL ee2 xs ys:=by
 have hr:(xs.length:Int)=ys.length→runW (R41_0 xs ys) (((xs.length:Int) - 0).toNat+1) 0=some (ro (findF (fun i => !ee2 (xs.getD i.toNat .undef) (ys.getD i.toNat .undef)) xs.length 0) (.inl ()) fun _ => .inr ()):=fun hl=>by
  refine runW_find (fun i=>i) xs.length _ _ _ (fun i h0 hn=>?_) ?_ xs.length _ 0 (Int.le_refl 0) (by omega) (by omega)
  ·have hn':i<ys.length:=by omega
   simp only [R41_0,F41_0,h0,hn,hn',decide_true,Bool.and_self,cond_true]
   rw [wrap_in (a:=i+1) (by omega) (by omega)]
   generalize xs.getD i.toNat .undef=x
   generalize ys.getD i.toNat .undef=y
   congr 1
   all_goals first|rfl|(simp only [ee2];done)|(simp only [ee2];cases decide (fI x 0=fI y 0) <;> cases decide (fI x 1=fI y 1) <;> rfl)
  ·simp only [R41_0,F41_0,Int.lt_irrefl,decide_false,cond_false]
 unfold q41 v41_0 eqL
 by_cases hl:(xs.length:Int)=ys.length
 ·rw [decide_eq_true hl,hr hl]
  cases findF (fun i => !ee2 (xs.getD i.toNat .undef) (ys.getD i.toNat .undef)) xs.length 0 <;> exact ⟨rfl,rfl⟩
 ·rw [decide_eq_false hl]
  exact ⟨rfl,rfl⟩
theorem v52 (a b c:Int):v52_0 a b c=(decide (b≤a) && decide (a≤c)):=by
 unfold v52_0;cases h:decide (a ≥ b) <;> simp_all
theorem run36 (xs:List AV) (h:xs.length≤1048576):runW (R36_0 xs) (((xs.length:Int) - 0).toNat+1) 0=some (ro (findF (fun i => !v52_0 (fI (xs.getD i.toNat .undef) 0) (-999) 999) xs.length 0) (.inl ()) fun _ => .inr ()):=by
 refine runW_find (fun i=>i) xs.length _ _ _ (fun i h0 hn=>?_) ?_ xs.length _ 0 (Int.le_refl 0) (by omega) (by omega)
 ·simp only [R36_0,F36_0,h0,hn,decide_true,Bool.and_self,cond_true]
  rw [wrap_in (a:=i+1) (by omega) (by omega)]
 ·simp only [R36_0,F36_0,Int.lt_irrefl,decide_false,cond_false]
theorem run111 (xs:List AV) (lo hi:AV) (h:xs.length≤1048576):runW (R111_0 xs lo hi xs.length) (((xs.length:Int) - 0).toNat+1) 0=some (ro (findF (fun i=>v96_0 (fI (xs.getD i.toNat .undef) 0) lo hi) xs.length 0) (.inl ()) fun i => .inr i):=by
 refine runW_find (fun i=>i) xs.length _ _ _ (fun i h0 hn=>?_) ?_ xs.length _ 0 (Int.le_refl 0) (by omega) (by omega)
 ·simp only [R111_0,F111_0,h0,hn,decide_true,Bool.and_self,cond_true]
  rw [wrap_in (a:=i+1) (by omega) (by omega)]
 ·simp only [R111_0,F111_0,Int.lt_irrefl,decide_false,cond_false]
theorem P36 (xs:List AV) (h:xs.length≤1048576):q36 xs=true∧v36_0 xs=((findF (fun i => !v52_0 (fI (xs.getD i.toNat .undef) 0) (-999) 999) xs.length 0).isNone && decide (xs.length≤64)):=by
 unfold q36 v36_0
 rw [run36 xs h]
 cases findF (fun i => !v52_0 (fI (xs.getD i.toNat .undef) 0) (-999) 999) xs.length 0 with
 | none=>refine ⟨rfl,?_⟩;simp only [ro,sumE,Option.isNone_none,Bool.true_and];congr 1;simp only [eq_iff_iff];omega
 | some j=>exact ⟨rfl,rfl⟩
theorem P64 (xs:List AV) (lo hi:Int) (h:xs.length≤1048576):q64 xs lo hi=true∧v64_0 xs lo hi=(findF (fun i => !v52_0 (fI (xs.getD i.toNat .undef) 0) lo hi) xs.length 0).isNone:=by
 unfold q64 v64_0 v95_0 q95 q111 v111_0
 rw [run111 xs _ _ h]
 have e:(fun i:Int=>v96_0 (fI (xs.getD i.toNat .undef) 0) (AV.int .i64 lo) (AV.int .i64 hi))=fun i => !v52_0 (fI (xs.getD i.toNat .undef) 0) lo hi:=by
  funext i
  unfold v96_0
  rw [v52,show fI (AV.int .i64 lo) 0=lo from rfl,show fI (AV.int .i64 hi) 0=hi from rfl]
  generalize fI (xs.getD i.toNat .undef) 0=z
  by_cases h1:z<lo <;> by_cases h2:z > hi <;> simp [h1,h2] <;> omega
 rw [e]
 cases hf:findF (fun i => !v52_0 (fI (xs.getD i.toNat .undef) 0) lo hi) xs.length 0 with
 | none=>exact ⟨rfl,rfl⟩
 | some j =>
  have:=(findF_some _ _ hf).1
  refine ⟨rfl,?_⟩
  simp [ro,sumE]
  omega
theorem P30 (xs:List AV) (h:xs.length≤1048576):q30 xs=true∧v30_0 xs=v36_0 xs:=by
 rw [(P36 xs h).2]
 unfold q30 v30_0
 rw [(P64 xs _ _ h).1,(P64 xs _ _ h).2]
 have e64:decide ((xs.length:Int)≤64)=decide (xs.length≤64):=by congr 1;simp only [eq_iff_iff];omega
 rw [e64]
 cases decide (xs.length≤64) <;> simp
end Go.Proofs.Ytkdnhnkhcldonaa
