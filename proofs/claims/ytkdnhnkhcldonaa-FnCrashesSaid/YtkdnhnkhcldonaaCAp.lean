import Derived.Test.YtkdnhnkhcldonaaCAn
namespace Go.Proofs.Ytkdnhnkhcldonaa
open Go Go.Proofs.VE
set_option linter.unusedVariables false
set_option linter.unusedSimpArgs false
theorem at10 {code:List AV} (h:code.length≤1048576) (hb:∀ y ∈ code,0≤fI y 0∧fI y 0≤255) (n:Nat) (hn:n≤4000):q10 code n=true∧0≤v10_0 code n:=by
 unfold q10 v10_0
 by_cases c:(n:Int)<code.length
 ·have d2:decide (0≤(n:Int))=true:=decide_eq_true (by omega)
  rw [decide_eq_true c,d2]
  refine ⟨rfl,?_⟩
  simp only [cond_true]
  have:=hb _ (mem_at (k:=(n:Int)) (by omega) c)
  rw [wrap_in (by omega) (by omega)]
  exact this.1
 ·rw [decide_eq_false c]
  refine ⟨rfl,?_⟩
  simp only [cond_false]
  rw [wrap_in (a:=(n:Int)*37) (by omega) (by omega),wrap_in (a:=(code.length:Int)*11) (by omega) (by omega),wrap_in (by omega) (by omega)]
  exact Int.tmod_nonneg _ (by omega)
theorem raw3_true (code:List AV) (hb:∀ y ∈ code,0≤fI y 0∧fI y 0≤255):raw3 code=some (.bool true):=by
 unfold raw3
 by_cases c:(code.length:Int) > 1048576
 ·unfold v5_0
  rw [decide_eq_true c]
  rfl
 have c5:v5_0 code=false:=decide_eq_false c
 obtain ⟨d1,d2,d3⟩:=draw6 code (by omega)
 rw [c5,d1]
 generalize v6_0 code=xs at *
 generalize v6_1 code=ts at *
 obtain ⟨s1,s2,s3,s4,s5,s6,s7,l0,l1,l2,l3⟩:=same8 xs ts (by omega) (by omega)
 rw [s1,s2,s3,s4,s5,s6,s7]
 have e9:q9 (v8_0 xs ts) (v8_1 xs ts) (v8_2 xs ts) (v8_0 xs ts) (v8_1 xs ts) (v8_2 xs ts)=true∧v9_0 (v8_0 xs ts) (v8_1 xs ts) (v8_2 xs ts) (v8_0 xs ts) (v8_1 xs ts) (v8_2 xs ts)=true:=by
  unfold q9 v9_0
  rw [(P40 (v8_0 xs ts) _ l0).1,(P40 (v8_0 xs ts) _ l0).2,(P40 (v8_1 xs ts) _ l1).1,(P40 (v8_1 xs ts) _ l1).2,(P41 (v8_2 xs ts) _ l2).1,(P41 (v8_2 xs ts) _ l2).2,eqL_self ee1_self,eqL_self ee1_self,eqL_self ee2_self]
  exact ⟨rfl,rfl⟩
 rw [e9.1,e9.2,crashes (code:=code) (by omega) (by omega) (fun n hn=>at10 (by omega) hb n hn)]
 have o:decide (((v8_3 xs ts).length:Int)=((v8_3 xs ts).length:Int))=true:=decide_eq_true rfl
 rw [o]
 cases v8_4 xs ts <;> rfl
theorem law3 {x0:AV} (t0:TA Try.prog 22 x0):m3 [x0]=some (true,.bool true):=by
 obtain ⟨code,rfl,a1,hb⟩:=tw_sl (ta_one (ct := .sl [.int .u8]) t0 (by kernel_rfl) (by kernel_rfl))
 show (raw3 code).map (fun r=>(true,r))=_
 rw [raw3_true code fun y hy=>by
  obtain ⟨z,zs,e,hz,_⟩:=tws_cons (hb y hy)
  obtain ⟨n,rfl,hw⟩:=tw_int hz
  have e1:fI y 0=n:=by unfold fI;rw [e];rfl
  rw [e1]
  have hw':(decide (IntKind.u8.min≤n) && decide (n≤IntKind.u8.max))=true:=hw
  rw [Bool.and_eq_true,decide_eq_true_eq,decide_eq_true_eq] at hw'
  exact ⟨hw'.1,hw'.2⟩]
 rfl
end Go.Proofs.Ytkdnhnkhcldonaa
