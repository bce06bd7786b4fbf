import Derived.Test.YtcondihilccdpaaDoorPWc
namespace Go.Proofs.YtcondihilccdpaaDoor
open Go Go.Proofs.VE
set_option linter.unusedVariables false
set_option linter.unusedSimpArgs false
theorem P10 (xs ys:List AV) (h:xs.length≤1048576):q10 xs ys=true∧v10_0 xs ys=eqL ee2 xs ys:=by
 have hr:(xs.length:Int)=ys.length→runW (R10_0 xs ys) (((xs.length:Int) - 0).toNat+1) 0=some (ro (findF (fun i => !ee2 (xs.getD i.toNat .undef) (ys.getD i.toNat .undef)) xs.length 0) (.inl ()) fun _ => .inr ()):=fun hl=>by
  refine runW_find (fun i=>i) xs.length _ _ _ (fun i h0 hn=>?_) ?_ xs.length _ 0 (Int.le_refl 0) (by omega) (by omega)
  ·have hn':i<ys.length:=by omega
   simp only [R10_0,F10_0,h0,hn,hn',decide_true,Bool.and_self,cond_true]
   rw [wrap_in (a:=i+1) (by omega) (by omega)]
   generalize xs.getD i.toNat .undef=x
   generalize ys.getD i.toNat .undef=y
   congr 1
   all_goals first|rfl|(simp only [ee2,v22_0];done)|(simp only [ee2,v22_0];cases decide (fI x 0=fI y 0) <;> cases decide (fI x 1=fI y 1) <;> rfl)
  ·simp only [R10_0,F10_0,Int.lt_irrefl,decide_false,cond_false]
 unfold q10 v10_0 eqL
 by_cases hl:(xs.length:Int)=ys.length
 ·rw [decide_eq_true hl,hr hl]
  cases findF (fun i => !ee2 (xs.getD i.toNat .undef) (ys.getD i.toNat .undef)) xs.length 0 <;> exact ⟨rfl,rfl⟩
 ·rw [decide_eq_false hl]
  exact ⟨rfl,rfl⟩
def mk11 (t:Int):AV:=AV.agg [AV.int .i64 (t),AV.int .i64 (t+1)]
theorem P11 (xs:List AV) (k:Int) (h:xs.length≤1048576) (hk:0≤k) (hk':k≤1099511627776):∃ ys,q11 k xs=true∧v11_0 k xs=k+2*xs.length∧v11_1 k xs=ys∧ys.length=xs.length∧∀ i:Nat,i<xs.length→ys.getD i .undef=mk11 (k+2*i):=by
 have step:∀ (t i:Int) (ys:List AV),0≤i→i<xs.length→ys.length=xs.length→0≤t→t+2≤4398046511104→R11_0 (t,i,ys) = .next (t+2,i+1,ys.set i.toNat (mk11 t)):=fun t i ys h0 hn hl ht hM=>by
  have hl':i<ys.length:=by omega
  have hlN:i.toNat<ys.length:=by omega
  simp only [R11_0,F11_0,List.length_set,h0,hl',decide_true,Bool.and_self,cond_true,List.set_set]
  have gs:∀ v:AV,(ys.set i.toNat v).getD i.toNat AV.undef=v:=fun v=>getD_set hlN
  try simp only [gs]
  rw [wrap_in (a:=t+1) (by omega) (by omega)]
  rw [wrap_in (a:=t+1+1) (by omega) (by omega)]
  rw [wrap_in (a:=i+1) (by omega) (by omega)]
  simp [mk11,fI,AV.cells,Int.add_assoc]
 obtain ⟨ys,e1,e2,e3⟩:=runW_mark (f:=R11_0) 2 mk11 xs k 4398046511104 (by omega) hk (by omega) step (fun t ys hl=>by simp only [R11_0,F11_0,hl,Int.lt_irrefl,decide_false,cond_false])
 refine ⟨ys,?_,?_,?_,e2,e3⟩
 ·unfold q11;rw [e1];rfl
 ·unfold v11_0;rw [e1];rfl
 ·unfold v11_1;rw [e1];rfl
theorem P12 (ys:List AV) (k:Int) (h:ys.length≤1048576) (hk:0≤k) (hk':k≤1099511627776) (hy:∀ i:Nat,i<ys.length→ys.getD i .undef=mk11 (k+2*i)):q12 ys k=true∧v12_0 ys k=k+2*ys.length:=by
 have hr:=runW_held (f:=R12_0 ys) 2 ys.length k 4398046511104 (by omega) hk (by omega) (fun i h0 hn ht hM=>by
  have e:=hy i.toNat (by omega)
  rw [show ((i.toNat:Nat):Int)=i by omega] at e
  simp only [R12_0,F12_0,h0,hn,decide_true,Bool.and_self,cond_true]
  rw [e]
  generalize k+2*i=t at *
  rw [wrap_in (a:=t+1) (by omega) (by omega)]
  rw [wrap_in (a:=t+1+1) (by omega) (by omega)]
  rw [wrap_in (a:=i+1) (by omega) (by omega)]
  simp [mk11,fI,AV.cells,Int.add_assoc]) (fun t=>by simp only [R12_0,F12_0,Int.lt_irrefl,decide_false,cond_false])
 unfold q12 v12_0
 rw [hr]
 exact ⟨rfl,rfl⟩
end Go.Proofs.YtcondihilccdpaaDoor
