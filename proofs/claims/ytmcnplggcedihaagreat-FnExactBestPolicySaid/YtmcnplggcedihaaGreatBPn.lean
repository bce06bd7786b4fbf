import Derived.Test.YtmcnplggcedihaaGreatBPi
namespace Go.Proofs.YtmcnplggcedihaaGreat
open Go Go.Proofs.VE
set_option linter.unusedVariables false
set_option linter.unusedSimpArgs false
def dI (i:Int):AV := .int .i64 i
def E44 (xs vs:List AV) (i:Int):List AV→Int ⊕ (Int × List AV)
 | [] => .inl i
 | y :: ys => .inr (i,y :: ys)
def K44 (xs vs:List AV):List AV→Unit ⊕ List AV
 | [] => .inl ()
 | y :: ys => .inr (y :: ys)
theorem run44 (xs vs:List AV) (h:xs.length≤1048576):runW (R44_0 xs vs) (((xs.length:Int) - 0).toNat+1) (E44 xs vs 0 [])=some (K44 xs vs (appF allT dI xs.length 0 [])):=by
 refine runW_appK (E44 xs vs) (K44 xs vs) xs.length allT dI (fun i ys h0 hn hl=>?_) (fun ys=>?_)
 ·have d1:decide (i<(xs.length:Int))=true:=decide_eq_true hn
  have d2:decide (0≤i)=true:=decide_eq_true h0
  cases ys with
  | nil =>
   have c1:decide ((([dI i]:List AV).length)*8≤140737488355328)=true:=by simp
   have c2:decide ((([dI i]:List AV).length)≤140737488355328)=true:=by simp
   simp only [dI] at c1 c2
   simp only [E44,R44_0,sumE,F44_0_s0,d1,d2,c1,c2,Bool.and_self,cond_true,allT,List.nil_append]
   rw [wrap_in (a:=i+1) (by omega) (by omega)]
   try rfl
  | cons y ys =>
   have hl':(y :: ys).length≤1048576:=by omega
   have c1:decide (((y :: ys).length+[dI i].length)*8≤140737488355328)=true:=decide_eq_true (by simp only [List.length_singleton];omega)
   have c2:decide ((y :: ys).length+[dI i].length≤140737488355328)=true:=decide_eq_true (by simp only [List.length_singleton];omega)
   simp only [dI] at c1 c2
   simp only [E44,R44_0,sumE,F44_0_s1,d1,d2,c1,c2,Bool.and_self,cond_true,allT,List.cons_append]
   rw [wrap_in (a:=i+1) (by omega) (by omega)]
   try rfl
 ·cases ys <;> simp only [E44,K44,R44_0,sumE,F44_0_s0,F44_0_s1,Int.lt_irrefl,decide_false,cond_false]
def E64 (xs vs:List AV) (i:Int):List AV→Int ⊕ (Int × List AV)
 | [] => .inl i
 | y :: ys => .inr (i,y :: ys)
def K64 (xs vs:List AV):List AV→Unit ⊕ List AV
 | [] => .inl ()
 | y :: ys => .inr (y :: ys)
theorem run64 (xs vs:List AV) (h:xs.length≤1048576):runW (R64_0 xs.length vs) (((xs.length:Int) - 0).toNat+1) (E64 xs vs 0 [])=some (K64 xs vs (appF allT dI xs.length 0 [])):=by
 refine runW_appK (E64 xs vs) (K64 xs vs) xs.length allT dI (fun i ys h0 hn hl=>?_) (fun ys=>?_)
 ·have d1:decide (i<(xs.length:Int))=true:=decide_eq_true hn
  have d2:decide (0≤i)=true:=decide_eq_true h0
  cases ys with
  | nil =>
   have c1:decide ((([dI i]:List AV).length)*8≤140737488355328)=true:=by simp
   have c2:decide ((([dI i]:List AV).length)≤140737488355328)=true:=by simp
   simp only [dI] at c1 c2
   simp only [E64,R64_0,sumE,F64_0_s0,d1,d2,c1,c2,Bool.and_self,cond_true,allT,List.nil_append]
   rw [wrap_in (a:=i+1) (by omega) (by omega)]
   try rfl
  | cons y ys =>
   have hl':(y :: ys).length≤1048576:=by omega
   have c1:decide (((y :: ys).length+[dI i].length)*8≤140737488355328)=true:=decide_eq_true (by simp only [List.length_singleton];omega)
   have c2:decide ((y :: ys).length+[dI i].length≤140737488355328)=true:=decide_eq_true (by simp only [List.length_singleton];omega)
   simp only [dI] at c1 c2
   simp only [E64,R64_0,sumE,F64_0_s1,d1,d2,c1,c2,Bool.and_self,cond_true,allT,List.cons_append]
   rw [wrap_in (a:=i+1) (by omega) (by omega)]
   try rfl
 ·cases ys <;> simp only [E64,K64,R64_0,sumE,F64_0_s0,F64_0_s1,Int.lt_irrefl,decide_false,cond_false]
theorem appF_all (c:Int→AV):∀ (m:Nat) (i:Int) (ys:List AV),appF allT c m i ys=ys++(List.range m).map fun j:Nat=>c (i+j)
 | 0,i,ys=>by simp [appF,foldF]
 | m+1,i,ys=>by
  have e:appF allT c (m+1) i ys=appF allT c m (i+1) (ys++[c i]):=rfl
  rw [e,appF_all c m,List.range_succ_eq_map,List.map_cons,List.map_map,List.append_assoc]
  congr 1
  simp only [Int.natCast_zero,Int.add_zero,List.singleton_append,List.cons.injEq,true_and]
  refine List.map_congr_left fun j _=>?_
  simp only [Function.comp]
  congr 1
  omega
def rows (xs:List AV):List AV:=appF allT dI xs.length 0 []
theorem rows_len (xs:List AV):(rows xs).length=xs.length:=by
 unfold rows
 rw [appF_all]
 simp
theorem rows_el (xs:List AV) (k:Int) (h0:0≤k) (h1:k<xs.length):el (rows xs) k=k:=by
 unfold el rows
 rw [appF_all,List.nil_append,List.getD_eq_getElem?_getD,List.getElem?_map,List.getElem?_range (by omega)]
 simp only [Option.map_some,Option.getD_some]
 show (0:Int)+(k.toNat:Nat)=k
 omega
theorem P44 (xs:List AV) (h:xs.length≤1048576):q44 xs=true∧v44_0 xs=(bif v36_0 xs then xs else [])∧v44_1 xs=(bif v36_0 xs then rows xs else [])∧v44_2 xs=[]:=by
 unfold q44 v44_0 v44_1 v44_2
 have hr:=run44 xs ([]++xs) h
 have c1:decide ((([]:List AV).length+xs.length)*8≤140737488355328)=true:=decide_eq_true (by simp;omega)
 have c2:decide (([]:List AV).length+xs.length≤140737488355328)=true:=decide_eq_true (by simp;omega)
 rw [(P36 xs h).1,show (.inl 0:Int ⊕ (Int × List AV))=E44 xs ([]++xs) 0 [] from rfl,hr,c1,c2]
 change _∧_∧_=(bif v36_0 xs then (appF allT dI xs.length 0 []) else [])∧_
 generalize appF allT dI xs.length 0 []=ys
 cases v36_0 xs
 ·exact ⟨rfl,rfl,rfl,rfl⟩
 ·cases ys <;> exact ⟨rfl,rfl,rfl,rfl⟩
theorem P64 (xs:List AV) (h:xs.length≤1048576):q64 xs=true∧v64_0 xs=(bif v36_0 xs then xs else [])∧v64_1 xs=(bif v36_0 xs then rows xs else [])∧v64_2 xs=[]:=by
 unfold q64 v64_0 v64_1 v64_2
 have hr:=run64 xs xs h
 rw [(P46 xs h).1,(P46 xs h).2,(P78 xs h).1,(P78 xs h).2,show (.inl 0:Int ⊕ (Int × List AV))=E64 xs xs 0 [] from rfl,hr]
 change _∧_∧_=(bif v36_0 xs then (appF allT dI xs.length 0 []) else [])∧_
 generalize appF allT dI xs.length 0 []=ys
 cases v36_0 xs
 ·exact ⟨rfl,rfl,rfl,rfl⟩
 ·cases ys <;> exact ⟨rfl,rfl,rfl,rfl⟩
theorem Col_new (xs:List AV) (hl:xs.length≤1048576) (h:v36_0 xs=true):Col xs (rows xs) []:=by
 rw [(P36 xs hl).2,Bool.and_eq_true,findF_isNone,decide_eq_true_eq] at h
 obtain ⟨h1,h2⟩:=h
 have hr:=rows_len xs
 refine ⟨h2,fun k k0 k1=>?_,by omega,fun k k0 k1=>?_,fun j k j0 jk k1=>?_,fun i i0 i1=>?_,fun i i0 i1=>?_,fun i i0 i1=>?_,fun i i0 i1=>?_⟩
 ·have:=h1 k k0 (by omega)
  simp only [v28,Bool.not_eq_false',Bool.and_eq_true,decide_eq_true_eq] at this
  exact this
 ·rw [rows_el xs k k0 (by omega)]
  omega
 ·rw [rows_el xs k (by omega) (by omega),rows_el xs j j0 (by omega)]
  omega
 all_goals (exfalso;simp only [List.length_nil] at i1;omega)
theorem N2_nil:N2 []:=fun x hx=>by simp at hx
end Go.Proofs.YtmcnplggcedihaaGreat
