import Derived.Test.YtealoedecngaoaaGreatDoorP3
import Derived.Test.YtealoedecngaoaaGreatDoorRows
import Derived.Lib.LaidTab
import Derived.Lib.ItoaNum
import Derived.MakeChecks
import Derived.KernelRfl
namespace Go.Proofs.YtealoedecngaoaaGreatDoor
open Go Go.Proofs.VE
def laid3:List (String × DataW Unit):=[("math/bits.deBruijn32tab",Rows.laid_math_bits_deBruijn32tab),("math/bits.deBruijn64tab",Rows.laid_math_bits_deBruijn64tab),("internal/strconv.uint64pow10",Rows.laid_internal_strconv_uint64pow10)]
theorem gPow:Tryz.prog.globalNamed "internal/strconv.uint64pow10" = some 3:=by kernel_rfl
theorem tPow:(Tryz.prog.globals[3]?).map (·.type)=some 260:=by kernel_rfl
theorem pow_stable (w w':World) (h:∀ k,k<4→w'.heap[k]?=w.heap[k]?) (ok:Lib.TabIs Tryz.prog w "internal/strconv.uint64pow10" .u64 Lib.pow10Tab):Lib.TabIs Tryz.prog w' "internal/strconv.uint64pow10" .u64 Lib.pow10Tab:=by
 unfold Lib.TabIs World.var? at ok ⊢
 simp only [gPow,Option.bind_some] at ok ⊢
 rw [h 3 (by decide)]
 exact ok
instance glob0:Glob:=⟨fun w=>Lib.TabIs Tryz.prog w "internal/strconv.uint64pow10" .u64 Lib.pow10Tab,4,pow_stable⟩
theorem pow_size (w:World) (ok:Lib.TabIs Tryz.prog w "internal/strconv.uint64pow10" .u64 Lib.pow10Tab):4≤w.heap.size:=by
 unfold Lib.TabIs World.var? at ok
 simp only [gPow,Option.bind_some] at ok
 rcases Nat.lt_or_ge 3 w.heap.size with h|h
 ·exact h
 ·rw [Array.getElem?_eq_none h] at ok
  cases ok
theorem glob_of (w:World) (h:laidMetH Tryz.prog laid3 w):Glob.ok w∧Glob.n≤w.heap.size:=by
 rw [MakeChecks.laidMetH_plain _ _ _ (by kernel_rfl)] at h
 obtain ⟨ps,⟨g0,t0,cs0,f0,p0,q0,hg0,ht0,hv0,hd0,⟨g1,t1,cs1,f1,p1,q1,hg1,ht1,hv1,hd1,⟨g2,t2,cs2,f2,p2,q2,hg2,ht2,hv2,hd2,_,_⟩,_⟩,_⟩,_,_⟩:=h
 obtain rfl:=Option.some.inj (gPow.symm.trans hg2)
 obtain rfl:=Option.some.inj (tPow.symm.trans ht2)
 have ok:Lib.TabIs Tryz.prog w "internal/strconv.uint64pow10" .u64 Lib.pow10Tab:=by
  have e:cs2.toList=Lib.pow10Tab.map fun z=>Value.int .u64 z:=Lib.cells_of_tab (zs:=Lib.pow10Tab) (k := .u64) Tryz.underlying260 (by kernel_rfl) (by kernel_rfl) (by kernel_rfl) hd2
  unfold Lib.TabIs
  rw [hv2,← e]
 exact ⟨ok,pow_size w ok⟩
end Go.Proofs.YtealoedecngaoaaGreatDoor
