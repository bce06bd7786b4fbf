/- The walk of what this claim reaches: printed by a program, each equation checked by the kernel. -/
import Derived.Test.YtmlhhemflhiinaaGreatQV2
import Derived.Test.YtmlhhemflhiinaaGreatProg
import Derived.KernelRfl
namespace Go.Proofs.YtmlhhemflhiinaaGreat
open Go Go.Proofs.VE
set_option linter.unusedVariables false
set_option linter.unusedSimpArgs false
set_option maxRecDepth 100000
set_option maxHeartbeats 4000000
/-! ### 75 loop.example/g01984/impl.SelectRange -/
noncomputable def c75 : Cfg := cfg Tryz.prog [(75, 999, [4, 5, 6, 7])] [(42, m42), (72, m72), (73, m73), (97, m97), (98, m98)] [] [] []
def q75 (a0_0 : List AV) (a0_1 : List AV) (a0_2 : List AV) (a1_0 : Int) (a1_1 : Int) : Bool := (q73 a0_0 a0_1 a0_2 && (bif !(v73_0 a0_0 a0_1 a0_2) then q72 a0_0 a0_1 a0_2 else (bif !(v42_0 a1_0 a1_1) then q72 a0_0 a0_1 a0_2 else (q97 a0_0 a0_1 a0_2 a1_0 && (q97 (v97_0 a0_0 a0_1 a0_2 a1_0) (v97_1 a0_0 a0_1 a0_2 a1_0) (v97_2 a0_0 a0_1 a0_2 a1_0) a1_1 && (q98 (v97_0 (v97_0 a0_0 a0_1 a0_2 a1_0) (v97_1 a0_0 a0_1 a0_2 a1_0) (v97_2 a0_0 a0_1 a0_2 a1_0) a1_1) (v97_1 (v97_0 a0_0 a0_1 a0_2 a1_0) (v97_1 a0_0 a0_1 a0_2 a1_0) (v97_2 a0_0 a0_1 a0_2 a1_0) a1_1) (v97_2 (v97_0 a0_0 a0_1 a0_2 a1_0) (v97_1 a0_0 a0_1 a0_2 a1_0) (v97_2 a0_0 a0_1 a0_2 a1_0) a1_1) a1_0 && q98 (v97_0 (v97_0 a0_0 a0_1 a0_2 a1_0) (v97_1 a0_0 a0_1 a0_2 a1_0) (v97_2 a0_0 a0_1 a0_2 a1_0) a1_1) (v97_1 (v97_0 a0_0 a0_1 a0_2 a1_0) (v97_1 a0_0 a0_1 a0_2 a1_0) (v97_2 a0_0 a0_1 a0_2 a1_0) a1_1) (v97_2 (v97_0 a0_0 a0_1 a0_2 a1_0) (v97_1 a0_0 a0_1 a0_2 a1_0) (v97_2 a0_0 a0_1 a0_2 a1_0) a1_1) a1_1))))))
def v75_0 (a0_0 : List AV) (a0_1 : List AV) (a0_2 : List AV) (a1_0 : Int) (a1_1 : Int) : List AV := (bif !(v73_0 a0_0 a0_1 a0_2) then (v72_0 a0_0 a0_1 a0_2) else (bif !(v42_0 a1_0 a1_1) then (v72_0 a0_0 a0_1 a0_2) else (v97_0 (v97_0 a0_0 a0_1 a0_2 a1_0) (v97_1 a0_0 a0_1 a0_2 a1_0) (v97_2 a0_0 a0_1 a0_2 a1_0) a1_1)))
def v75_1 (a0_0 : List AV) (a0_1 : List AV) (a0_2 : List AV) (a1_0 : Int) (a1_1 : Int) : List AV := (bif !(v73_0 a0_0 a0_1 a0_2) then (v72_1 a0_0 a0_1 a0_2) else (bif !(v42_0 a1_0 a1_1) then (v72_1 a0_0 a0_1 a0_2) else (v97_1 (v97_0 a0_0 a0_1 a0_2 a1_0) (v97_1 a0_0 a0_1 a0_2 a1_0) (v97_2 a0_0 a0_1 a0_2 a1_0) a1_1)))
def v75_2 (a0_0 : List AV) (a0_1 : List AV) (a0_2 : List AV) (a1_0 : Int) (a1_1 : Int) : List AV := (bif !(v73_0 a0_0 a0_1 a0_2) then (v72_2 a0_0 a0_1 a0_2) else (bif !(v42_0 a1_0 a1_1) then (v72_2 a0_0 a0_1 a0_2) else (v97_2 (v97_0 a0_0 a0_1 a0_2 a1_0) (v97_1 a0_0 a0_1 a0_2 a1_0) (v97_2 a0_0 a0_1 a0_2 a1_0) a1_1)))
def v75_3 (a0_0 : List AV) (a0_1 : List AV) (a0_2 : List AV) (a1_0 : Int) (a1_1 : Int) : Int := (bif !(v73_0 a0_0 a0_1 a0_2) then 0 else (bif !(v42_0 a1_0 a1_1) then 0 else (v98_0 (v97_0 (v97_0 a0_0 a0_1 a0_2 a1_0) (v97_1 a0_0 a0_1 a0_2 a1_0) (v97_2 a0_0 a0_1 a0_2 a1_0) a1_1) (v97_1 (v97_0 a0_0 a0_1 a0_2 a1_0) (v97_1 a0_0 a0_1 a0_2 a1_0) (v97_2 a0_0 a0_1 a0_2 a1_0) a1_1) (v97_2 (v97_0 a0_0 a0_1 a0_2 a1_0) (v97_1 a0_0 a0_1 a0_2 a1_0) (v97_2 a0_0 a0_1 a0_2 a1_0) a1_1) a1_0)))
def v75_4 (a0_0 : List AV) (a0_1 : List AV) (a0_2 : List AV) (a1_0 : Int) (a1_1 : Int) : Int := (bif !(v73_0 a0_0 a0_1 a0_2) then 0 else (bif !(v42_0 a1_0 a1_1) then 0 else (v98_0 (v97_0 (v97_0 a0_0 a0_1 a0_2 a1_0) (v97_1 a0_0 a0_1 a0_2 a1_0) (v97_2 a0_0 a0_1 a0_2 a1_0) a1_1) (v97_1 (v97_0 a0_0 a0_1 a0_2 a1_0) (v97_1 a0_0 a0_1 a0_2 a1_0) (v97_2 a0_0 a0_1 a0_2 a1_0) a1_1) (v97_2 (v97_0 a0_0 a0_1 a0_2 a1_0) (v97_1 a0_0 a0_1 a0_2 a1_0) (v97_2 a0_0 a0_1 a0_2 a1_0) a1_1) a1_1)))
def v75_5 (a0_0 : List AV) (a0_1 : List AV) (a0_2 : List AV) (a1_0 : Int) (a1_1 : Int) : Int := (bif !(v73_0 a0_0 a0_1 a0_2) then 0 else (bif !(v42_0 a1_0 a1_1) then 0 else IntKind.i64.wrap (((v97_3 a0_0 a0_1 a0_2 a1_0).length : Int) + ((v97_3 (v97_0 a0_0 a0_1 a0_2 a1_0) (v97_1 a0_0 a0_1 a0_2 a1_0) (v97_2 a0_0 a0_1 a0_2 a1_0) a1_1).length : Int))))
theorem e75 (a0_0 : List AV) (a0_1 : List AV) (a0_2 : List AV) (a1_0 : Int) (a1_1 : Int) : funA c75 0 75 [AV.agg [AV.sl [.int .i64] a0_0, AV.sl [.int .i64] a0_1, AV.sl [.int .i64, .int .i64] a0_2], AV.agg [AV.int .i64 a1_0, AV.int .i64 a1_1]] = (bif q73 a0_0 a0_1 a0_2 then (bif !(v73_0 a0_0 a0_1 a0_2) then (bif q72 a0_0 a0_1 a0_2 then some (AV.tup [AV.agg [AV.fl [.int .i64] (v72_0 a0_0 a0_1 a0_2), AV.fl [.int .i64] (v72_1 a0_0 a0_1 a0_2), AV.fl [.int .i64, .int .i64] (v72_2 a0_0 a0_1 a0_2)], AV.int .i64 0, AV.int .i64 0, AV.int .i64 0])
  else none)
  else (bif !(v42_0 a1_0 a1_1) then (bif q72 a0_0 a0_1 a0_2 then some (AV.tup [AV.agg [AV.fl [.int .i64] (v72_0 a0_0 a0_1 a0_2), AV.fl [.int .i64] (v72_1 a0_0 a0_1 a0_2), AV.fl [.int .i64, .int .i64] (v72_2 a0_0 a0_1 a0_2)], AV.int .i64 0, AV.int .i64 0, AV.int .i64 0])
  else none)
  else (bif q97 a0_0 a0_1 a0_2 a1_0 then (bif q97 (v97_0 a0_0 a0_1 a0_2 a1_0) (v97_1 a0_0 a0_1 a0_2 a1_0) (v97_2 a0_0 a0_1 a0_2 a1_0) a1_1 then (bif q98 (v97_0 (v97_0 a0_0 a0_1 a0_2 a1_0) (v97_1 a0_0 a0_1 a0_2 a1_0) (v97_2 a0_0 a0_1 a0_2 a1_0) a1_1) (v97_1 (v97_0 a0_0 a0_1 a0_2 a1_0) (v97_1 a0_0 a0_1 a0_2 a1_0) (v97_2 a0_0 a0_1 a0_2 a1_0) a1_1) (v97_2 (v97_0 a0_0 a0_1 a0_2 a1_0) (v97_1 a0_0 a0_1 a0_2 a1_0) (v97_2 a0_0 a0_1 a0_2 a1_0) a1_1) a1_0 then (bif q98 (v97_0 (v97_0 a0_0 a0_1 a0_2 a1_0) (v97_1 a0_0 a0_1 a0_2 a1_0) (v97_2 a0_0 a0_1 a0_2 a1_0) a1_1) (v97_1 (v97_0 a0_0 a0_1 a0_2 a1_0) (v97_1 a0_0 a0_1 a0_2 a1_0) (v97_2 a0_0 a0_1 a0_2 a1_0) a1_1) (v97_2 (v97_0 a0_0 a0_1 a0_2 a1_0) (v97_1 a0_0 a0_1 a0_2 a1_0) (v97_2 a0_0 a0_1 a0_2 a1_0) a1_1) a1_1 then some (AV.tup [AV.agg [AV.fl [.int .i64] (v97_0 (v97_0 a0_0 a0_1 a0_2 a1_0) (v97_1 a0_0 a0_1 a0_2 a1_0) (v97_2 a0_0 a0_1 a0_2 a1_0) a1_1), AV.fl [.int .i64] (v97_1 (v97_0 a0_0 a0_1 a0_2 a1_0) (v97_1 a0_0 a0_1 a0_2 a1_0) (v97_2 a0_0 a0_1 a0_2 a1_0) a1_1), AV.fl [.int .i64, .int .i64] (v97_2 (v97_0 a0_0 a0_1 a0_2 a1_0) (v97_1 a0_0 a0_1 a0_2 a1_0) (v97_2 a0_0 a0_1 a0_2 a1_0) a1_1)], AV.int .i64 (v98_0 (v97_0 (v97_0 a0_0 a0_1 a0_2 a1_0) (v97_1 a0_0 a0_1 a0_2 a1_0) (v97_2 a0_0 a0_1 a0_2 a1_0) a1_1) (v97_1 (v97_0 a0_0 a0_1 a0_2 a1_0) (v97_1 a0_0 a0_1 a0_2 a1_0) (v97_2 a0_0 a0_1 a0_2 a1_0) a1_1) (v97_2 (v97_0 a0_0 a0_1 a0_2 a1_0) (v97_1 a0_0 a0_1 a0_2 a1_0) (v97_2 a0_0 a0_1 a0_2 a1_0) a1_1) a1_0), AV.int .i64 (v98_0 (v97_0 (v97_0 a0_0 a0_1 a0_2 a1_0) (v97_1 a0_0 a0_1 a0_2 a1_0) (v97_2 a0_0 a0_1 a0_2 a1_0) a1_1) (v97_1 (v97_0 a0_0 a0_1 a0_2 a1_0) (v97_1 a0_0 a0_1 a0_2 a1_0) (v97_2 a0_0 a0_1 a0_2 a1_0) a1_1) (v97_2 (v97_0 a0_0 a0_1 a0_2 a1_0) (v97_1 a0_0 a0_1 a0_2 a1_0) (v97_2 a0_0 a0_1 a0_2 a1_0) a1_1) a1_1), AV.int .i64 (IntKind.i64.wrap (((v97_3 a0_0 a0_1 a0_2 a1_0).length : Int) + ((v97_3 (v97_0 a0_0 a0_1 a0_2 a1_0) (v97_1 a0_0 a0_1 a0_2 a1_0) (v97_2 a0_0 a0_1 a0_2 a1_0) a1_1).length : Int)))])
  else none)
  else none)
  else none)
  else none)))
  else none) := by kernel_rfl
theorem r75 (a0_0 : List AV) (a0_1 : List AV) (a0_2 : List AV) (a1_0 : Int) (a1_1 : Int) (h : q75 a0_0 a0_1 a0_2 a1_0 a1_1 = true) : funA c75 0 75 [AV.agg [AV.sl [.int .i64] a0_0, AV.sl [.int .i64] a0_1, AV.sl [.int .i64, .int .i64] a0_2], AV.agg [AV.int .i64 a1_0, AV.int .i64 a1_1]] = some (AV.tup [AV.agg [AV.fl [.int .i64] (v75_0 a0_0 a0_1 a0_2 a1_0 a1_1), AV.fl [.int .i64] (v75_1 a0_0 a0_1 a0_2 a1_0 a1_1), AV.fl [.int .i64, .int .i64] (v75_2 a0_0 a0_1 a0_2 a1_0 a1_1)], AV.int .i64 (v75_3 a0_0 a0_1 a0_2 a1_0 a1_1), AV.int .i64 (v75_4 a0_0 a0_1 a0_2 a1_0 a1_1), AV.int .i64 (v75_5 a0_0 a0_1 a0_2 a1_0 a1_1)]) := (e75 a0_0 a0_1 a0_2 a1_0 a1_1).trans ((brL (br (fun b => some (AV.tup [AV.agg [AV.fl [.int .i64] (bif b then (v72_0 a0_0 a0_1 a0_2) else (bif !(v42_0 a1_0 a1_1) then (v72_0 a0_0 a0_1 a0_2) else (v97_0 (v97_0 a0_0 a0_1 a0_2 a1_0) (v97_1 a0_0 a0_1 a0_2 a1_0) (v97_2 a0_0 a0_1 a0_2 a1_0) a1_1))), AV.fl [.int .i64] (bif b then (v72_1 a0_0 a0_1 a0_2) else (bif !(v42_0 a1_0 a1_1) then (v72_1 a0_0 a0_1 a0_2) else (v97_1 (v97_0 a0_0 a0_1 a0_2 a1_0) (v97_1 a0_0 a0_1 a0_2 a1_0) (v97_2 a0_0 a0_1 a0_2 a1_0) a1_1))), AV.fl [.int .i64, .int .i64] (bif b then (v72_2 a0_0 a0_1 a0_2) else (bif !(v42_0 a1_0 a1_1) then (v72_2 a0_0 a0_1 a0_2) else (v97_2 (v97_0 a0_0 a0_1 a0_2 a1_0) (v97_1 a0_0 a0_1 a0_2 a1_0) (v97_2 a0_0 a0_1 a0_2 a1_0) a1_1)))], AV.int .i64 (bif b then 0 else (bif !(v42_0 a1_0 a1_1) then 0 else (v98_0 (v97_0 (v97_0 a0_0 a0_1 a0_2 a1_0) (v97_1 a0_0 a0_1 a0_2 a1_0) (v97_2 a0_0 a0_1 a0_2 a1_0) a1_1) (v97_1 (v97_0 a0_0 a0_1 a0_2 a1_0) (v97_1 a0_0 a0_1 a0_2 a1_0) (v97_2 a0_0 a0_1 a0_2 a1_0) a1_1) (v97_2 (v97_0 a0_0 a0_1 a0_2 a1_0) (v97_1 a0_0 a0_1 a0_2 a1_0) (v97_2 a0_0 a0_1 a0_2 a1_0) a1_1) a1_0))), AV.int .i64 (bif b then 0 else (bif !(v42_0 a1_0 a1_1) then 0 else (v98_0 (v97_0 (v97_0 a0_0 a0_1 a0_2 a1_0) (v97_1 a0_0 a0_1 a0_2 a1_0) (v97_2 a0_0 a0_1 a0_2 a1_0) a1_1) (v97_1 (v97_0 a0_0 a0_1 a0_2 a1_0) (v97_1 a0_0 a0_1 a0_2 a1_0) (v97_2 a0_0 a0_1 a0_2 a1_0) a1_1) (v97_2 (v97_0 a0_0 a0_1 a0_2 a1_0) (v97_1 a0_0 a0_1 a0_2 a1_0) (v97_2 a0_0 a0_1 a0_2 a1_0) a1_1) a1_1))), AV.int .i64 (bif b then 0 else (bif !(v42_0 a1_0 a1_1) then 0 else IntKind.i64.wrap (((v97_3 a0_0 a0_1 a0_2 a1_0).length : Int) + ((v97_3 (v97_0 a0_0 a0_1 a0_2 a1_0) (v97_1 a0_0 a0_1 a0_2 a1_0) (v97_2 a0_0 a0_1 a0_2 a1_0) a1_1).length : Int))))])) (brL1 (fun _ => rfl)) (br (fun b => some (AV.tup [AV.agg [AV.fl [.int .i64] (bif b then (v72_0 a0_0 a0_1 a0_2) else (v97_0 (v97_0 a0_0 a0_1 a0_2 a1_0) (v97_1 a0_0 a0_1 a0_2 a1_0) (v97_2 a0_0 a0_1 a0_2 a1_0) a1_1)), AV.fl [.int .i64] (bif b then (v72_1 a0_0 a0_1 a0_2) else (v97_1 (v97_0 a0_0 a0_1 a0_2 a1_0) (v97_1 a0_0 a0_1 a0_2 a1_0) (v97_2 a0_0 a0_1 a0_2 a1_0) a1_1)), AV.fl [.int .i64, .int .i64] (bif b then (v72_2 a0_0 a0_1 a0_2) else (v97_2 (v97_0 a0_0 a0_1 a0_2 a1_0) (v97_1 a0_0 a0_1 a0_2 a1_0) (v97_2 a0_0 a0_1 a0_2 a1_0) a1_1))], AV.int .i64 (bif b then 0 else (v98_0 (v97_0 (v97_0 a0_0 a0_1 a0_2 a1_0) (v97_1 a0_0 a0_1 a0_2 a1_0) (v97_2 a0_0 a0_1 a0_2 a1_0) a1_1) (v97_1 (v97_0 a0_0 a0_1 a0_2 a1_0) (v97_1 a0_0 a0_1 a0_2 a1_0) (v97_2 a0_0 a0_1 a0_2 a1_0) a1_1) (v97_2 (v97_0 a0_0 a0_1 a0_2 a1_0) (v97_1 a0_0 a0_1 a0_2 a1_0) (v97_2 a0_0 a0_1 a0_2 a1_0) a1_1) a1_0)), AV.int .i64 (bif b then 0 else (v98_0 (v97_0 (v97_0 a0_0 a0_1 a0_2 a1_0) (v97_1 a0_0 a0_1 a0_2 a1_0) (v97_2 a0_0 a0_1 a0_2 a1_0) a1_1) (v97_1 (v97_0 a0_0 a0_1 a0_2 a1_0) (v97_1 a0_0 a0_1 a0_2 a1_0) (v97_2 a0_0 a0_1 a0_2 a1_0) a1_1) (v97_2 (v97_0 a0_0 a0_1 a0_2 a1_0) (v97_1 a0_0 a0_1 a0_2 a1_0) (v97_2 a0_0 a0_1 a0_2 a1_0) a1_1) a1_1)), AV.int .i64 (bif b then 0 else IntKind.i64.wrap (((v97_3 a0_0 a0_1 a0_2 a1_0).length : Int) + ((v97_3 (v97_0 a0_0 a0_1 a0_2 a1_0) (v97_1 a0_0 a0_1 a0_2 a1_0) (v97_2 a0_0 a0_1 a0_2 a1_0) a1_1).length : Int)))])) (brL1 (fun _ => rfl)) (brL (brL (brL (brL1 (fun _ => rfl)))))))) h)
def m75 : TModel
  | [.agg [.sl g0 a0_0, .sl g1 a0_1, .sl g2 a0_2], .agg [.int .i64 a1_0, .int .i64 a1_1]] => bif ctsEq g0 ([.int .i64]) && ctsEq g1 ([.int .i64]) && ctsEq g2 ([.int .i64, .int .i64]) then some (q75 a0_0 a0_1 a0_2 a1_0 a1_1, AV.tup [AV.agg [AV.fl [.int .i64] (v75_0 a0_0 a0_1 a0_2 a1_0 a1_1), AV.fl [.int .i64] (v75_1 a0_0 a0_1 a0_2 a1_0 a1_1), AV.fl [.int .i64, .int .i64] (v75_2 a0_0 a0_1 a0_2 a1_0 a1_1)], AV.int .i64 (v75_3 a0_0 a0_1 a0_2 a1_0 a1_1), AV.int .i64 (v75_4 a0_0 a0_1 a0_2 a1_0 a1_1), AV.int .i64 (v75_5 a0_0 a0_1 a0_2 a1_0 a1_1)]) else none
  | _ => none
theorem k75 : Known Tryz.prog 75 := ⟨Tryz.f75, Tryz.func75, by kernel_rfl, by kernel_rfl⟩
theorem meets75 : Meets Tryz.prog 75 m75 := by
  refine meet (f := Tryz.f75) (l := []) (hs := [(75, 999, [4, 5, 6, 7])]) (ts := [(42, m42), (72, m72), (73, m73), (97, m97), (98, m98)]) (ws := []) (is := []) (ls := []) (lvl := 0) mixed k75 Tryz.func75 (by kernel_rfl) noLoop (allT_cons meets42 (allT_cons meets72 (allT_cons meets73 (allT_cons meets97 (allT_cons meets98 allT_nil))))) allM_nil noI fun w xs us r hl hv h => ?_
  unfold m75 at h
  split at h
  · rename_i g0 a0_0 g1 a0_1 g2 a0_2 a1_0 a1_1
    obtain ⟨hg, h⟩ := bif_pair h
    simp only [Bool.and_eq_true] at hg
    obtain ⟨⟨q0, q1⟩, q2⟩ := hg
    obtain rfl := ctsEq_eq _ _ q0
    obtain rfl := ctsEq_eq _ _ q1
    obtain rfl := ctsEq_eq _ _ q2
    obtain ⟨h1, rfl⟩ := pair_inj h
    exact r75 a0_0 a0_1 a0_2 a1_0 a1_1 h1
  · cases h

/-! ### 117 slices.Sort[[]int,int] -/
def q117 (b0 : List AV) : Bool := decide (b0.length * 8 ≤ 140737488355328)
def v117_0 (b0 : List AV) : List AV := sortL b0
def m117 : WModel := sortM
theorem k117 : Known Tryz.prog 117 := ⟨Tryz.f117, Tryz.func117, by kernel_rfl, by kernel_rfl⟩
theorem meets117 : MeetsM Tryz.prog 117 m117 := sort_meets ⟨k117, fun blk off cap zs w h1 h2 h3 => Any.slices_Sort_int lays189 blk off cap zs w h1 h2 h3, fun p cap w => Any.slices_Sort_int_none lays189 p cap w⟩

/-! ### 99 loop.example/g01984/impl.SortInts -/
noncomputable def c99 : Cfg := cfg Tryz.prog [(99, 999, [2])] [(94, m94)] [(117, m117)] [] []
def q99 (a0 : List AV) : Bool := (q94 a0 && q117 (v94_0 a0))
def v99_0 (a0 : List AV) : List AV := (v117_0 (v94_0 a0))
theorem e99 (a0 : List AV) : funA c99 0 99 [AV.sl [.int .i64] a0] = (bif q94 a0 then (bif q117 (v94_0 a0) then some (AV.fl [.int .i64] (v117_0 (v94_0 a0)))
  else none)
  else none) := by kernel_rfl
theorem r99 (a0 : List AV) (h : q99 a0 = true) : funA c99 0 99 [AV.sl [.int .i64] a0] = some (AV.fl [.int .i64] (v99_0 a0)) := (e99 a0).trans ((brL (brL1 (fun _ => rfl))) h)
def m99 : TModel
  | [.sl g0 a0] => bif ctsEq g0 ([.int .i64]) then some (q99 a0, AV.fl [.int .i64] (v99_0 a0)) else none
  | _ => none
theorem k99 : Known Tryz.prog 99 := ⟨Tryz.f99, Tryz.func99, by kernel_rfl, by kernel_rfl⟩
theorem meets99 : Meets Tryz.prog 99 m99 := by
  refine meet (f := Tryz.f99) (l := []) (hs := [(99, 999, [2])]) (ts := [(94, m94)]) (ws := [(117, m117)]) (is := []) (ls := []) (lvl := 0) mixed k99 Tryz.func99 (by kernel_rfl) noLoop (allT_cons meets94 allT_nil) (allM_cons meets117 allM_nil) noI fun w xs us r hl hv h => ?_
  unfold m99 at h
  split at h
  · rename_i g0 a0
    obtain ⟨hg, h⟩ := bif_pair h
    have q0 := hg
    obtain rfl := ctsEq_eq _ _ q0
    obtain ⟨h1, rfl⟩ := pair_inj h
    exact r99 a0 h1
  · cases h

/-! ### 76 loop.example/g01984/impl.RowsBetween -/
noncomputable def c76 : Cfg := cfg Tryz.prog [(76, 999, [6])] [(73, m73), (99, m99)] [] [] []
def q76 (a0_0 : List AV) (a0_1 : List AV) (a0_2 : List AV) (a1 : Int) (a2 : Int) : Bool := (q73 a0_0 a0_1 a0_2 && (bif !(v73_0 a0_0 a0_1 a0_2) then true else (bif decide (a1 < 0) then true else (bif decide (a1 > a2) then true else (bif decide (a2 > (a0_1.length : Int)) then true else ((decide (0 ≤ a1) && decide (a1 ≤ a2) && decide (a2 ≤ (a0_1.length : Int))) && q99 ((a0_1.take (Int.toNat a2)).drop (Int.toNat a1))))))))
def v76_0 (a0_0 : List AV) (a0_1 : List AV) (a0_2 : List AV) (a1 : Int) (a2 : Int) : List AV := (bif !(v73_0 a0_0 a0_1 a0_2) then ([] : List AV) else (bif decide (a1 < 0) then ([] : List AV) else (bif decide (a1 > a2) then ([] : List AV) else (bif decide (a2 > (a0_1.length : Int)) then ([] : List AV) else (v99_0 ((a0_1.take (Int.toNat a2)).drop (Int.toNat a1)))))))
theorem e76 (a0_0 : List AV) (a0_1 : List AV) (a0_2 : List AV) (a1 : Int) (a2 : Int) : funA c76 0 76 [AV.agg [AV.sl [.int .i64] a0_0, AV.sl [.int .i64] a0_1, AV.sl [.int .i64, .int .i64] a0_2], AV.int .i64 a1, AV.int .i64 a2] = (bif q73 a0_0 a0_1 a0_2 then (bif !(v73_0 a0_0 a0_1 a0_2) then some (AV.fl [.int .i64] ([] : List AV))
  else (bif decide (a1 < 0) then some (AV.fl [.int .i64] ([] : List AV))
  else (bif decide (a1 > a2) then some (AV.fl [.int .i64] ([] : List AV))
  else (bif decide (a2 > (a0_1.length : Int)) then some (AV.fl [.int .i64] ([] : List AV))
  else (bif (decide (0 ≤ a1) && decide (a1 ≤ a2) && decide (a2 ≤ (a0_1.length : Int))) then (bif q99 ((a0_1.take (Int.toNat a2)).drop (Int.toNat a1)) then some (AV.fl [.int .i64] (v99_0 ((a0_1.take (Int.toNat a2)).drop (Int.toNat a1))))
  else none)
  else none)))))
  else none) := by kernel_rfl
theorem r76 (a0_0 : List AV) (a0_1 : List AV) (a0_2 : List AV) (a1 : Int) (a2 : Int) (h : q76 a0_0 a0_1 a0_2 a1 a2 = true) : funA c76 0 76 [AV.agg [AV.sl [.int .i64] a0_0, AV.sl [.int .i64] a0_1, AV.sl [.int .i64, .int .i64] a0_2], AV.int .i64 a1, AV.int .i64 a2] = some (AV.fl [.int .i64] (v76_0 a0_0 a0_1 a0_2 a1 a2)) := (e76 a0_0 a0_1 a0_2 a1 a2).trans ((brL (br (fun b => some (AV.fl [.int .i64] (bif b then ([] : List AV) else (bif decide (a1 < 0) then ([] : List AV) else (bif decide (a1 > a2) then ([] : List AV) else (bif decide (a2 > (a0_1.length : Int)) then ([] : List AV) else (v99_0 ((a0_1.take (Int.toNat a2)).drop (Int.toNat a1))))))))) (fun _ => rfl) (br (fun b => some (AV.fl [.int .i64] (bif b then ([] : List AV) else (bif decide (a1 > a2) then ([] : List AV) else (bif decide (a2 > (a0_1.length : Int)) then ([] : List AV) else (v99_0 ((a0_1.take (Int.toNat a2)).drop (Int.toNat a1)))))))) (fun _ => rfl) (br (fun b => some (AV.fl [.int .i64] (bif b then ([] : List AV) else (bif decide (a2 > (a0_1.length : Int)) then ([] : List AV) else (v99_0 ((a0_1.take (Int.toNat a2)).drop (Int.toNat a1))))))) (fun _ => rfl) (br (fun b => some (AV.fl [.int .i64] (bif b then ([] : List AV) else (v99_0 ((a0_1.take (Int.toNat a2)).drop (Int.toNat a1)))))) (fun _ => rfl) (brL (brL1 (fun _ => rfl)))))))) h)
def m76 : TModel
  | [.agg [.sl g0 a0_0, .sl g1 a0_1, .sl g2 a0_2], .int .i64 a1, .int .i64 a2] => bif ctsEq g0 ([.int .i64]) && ctsEq g1 ([.int .i64]) && ctsEq g2 ([.int .i64, .int .i64]) then some (q76 a0_0 a0_1 a0_2 a1 a2, AV.fl [.int .i64] (v76_0 a0_0 a0_1 a0_2 a1 a2)) else none
  | _ => none
theorem k76 : Known Tryz.prog 76 := ⟨Tryz.f76, Tryz.func76, by kernel_rfl, by kernel_rfl⟩
theorem meets76 : Meets Tryz.prog 76 m76 := by
  refine meet (f := Tryz.f76) (l := []) (hs := [(76, 999, [6])]) (ts := [(73, m73), (99, m99)]) (ws := []) (is := []) (ls := []) (lvl := 0) mixed k76 Tryz.func76 (by kernel_rfl) noLoop (allT_cons meets73 (allT_cons meets99 allT_nil)) allM_nil noI fun w xs us r hl hv h => ?_
  unfold m76 at h
  split at h
  · rename_i g0 a0_0 g1 a0_1 g2 a0_2 a1 a2
    obtain ⟨hg, h⟩ := bif_pair h
    simp only [Bool.and_eq_true] at hg
    obtain ⟨⟨q0, q1⟩, q2⟩ := hg
    obtain rfl := ctsEq_eq _ _ q0
    obtain rfl := ctsEq_eq _ _ q1
    obtain rfl := ctsEq_eq _ _ q2
    obtain ⟨h1, rfl⟩ := pair_inj h
    exact r76 a0_0 a0_1 a0_2 a1 a2 h1
  · cases h

/-! ### 43 loop.example/g01984/impl.AnswerRange -/
noncomputable def c43 : Cfg := cfg Tryz.prog [(43, 999, [4, 5])] [(75, m75), (76, m76)] [] [] []
def q43 (a0_0 : List AV) (a0_1 : List AV) (a0_2 : List AV) (a1_0 : Int) (a1_1 : Int) : Bool := (q75 a0_0 a0_1 a0_2 a1_0 a1_1 && q76 (v75_0 a0_0 a0_1 a0_2 a1_0 a1_1) (v75_1 a0_0 a0_1 a0_2 a1_0 a1_1) (v75_2 a0_0 a0_1 a0_2 a1_0 a1_1) (v75_3 a0_0 a0_1 a0_2 a1_0 a1_1) (v75_4 a0_0 a0_1 a0_2 a1_0 a1_1))
def v43_0 (a0_0 : List AV) (a0_1 : List AV) (a0_2 : List AV) (a1_0 : Int) (a1_1 : Int) : List AV := (v75_0 a0_0 a0_1 a0_2 a1_0 a1_1)
def v43_1 (a0_0 : List AV) (a0_1 : List AV) (a0_2 : List AV) (a1_0 : Int) (a1_1 : Int) : List AV := (v75_1 a0_0 a0_1 a0_2 a1_0 a1_1)
def v43_2 (a0_0 : List AV) (a0_1 : List AV) (a0_2 : List AV) (a1_0 : Int) (a1_1 : Int) : List AV := (v75_2 a0_0 a0_1 a0_2 a1_0 a1_1)
def v43_3 (a0_0 : List AV) (a0_1 : List AV) (a0_2 : List AV) (a1_0 : Int) (a1_1 : Int) : List AV := (v76_0 (v75_0 a0_0 a0_1 a0_2 a1_0 a1_1) (v75_1 a0_0 a0_1 a0_2 a1_0 a1_1) (v75_2 a0_0 a0_1 a0_2 a1_0 a1_1) (v75_3 a0_0 a0_1 a0_2 a1_0 a1_1) (v75_4 a0_0 a0_1 a0_2 a1_0 a1_1))
theorem e43 (a0_0 : List AV) (a0_1 : List AV) (a0_2 : List AV) (a1_0 : Int) (a1_1 : Int) : funA c43 0 43 [AV.agg [AV.sl [.int .i64] a0_0, AV.sl [.int .i64] a0_1, AV.sl [.int .i64, .int .i64] a0_2], AV.agg [AV.int .i64 a1_0, AV.int .i64 a1_1]] = (bif q75 a0_0 a0_1 a0_2 a1_0 a1_1 then (bif q76 (v75_0 a0_0 a0_1 a0_2 a1_0 a1_1) (v75_1 a0_0 a0_1 a0_2 a1_0 a1_1) (v75_2 a0_0 a0_1 a0_2 a1_0 a1_1) (v75_3 a0_0 a0_1 a0_2 a1_0 a1_1) (v75_4 a0_0 a0_1 a0_2 a1_0 a1_1) then some (AV.tup [AV.agg [AV.fl [.int .i64] (v75_0 a0_0 a0_1 a0_2 a1_0 a1_1), AV.fl [.int .i64] (v75_1 a0_0 a0_1 a0_2 a1_0 a1_1), AV.fl [.int .i64, .int .i64] (v75_2 a0_0 a0_1 a0_2 a1_0 a1_1)], AV.fl [.int .i64] (v76_0 (v75_0 a0_0 a0_1 a0_2 a1_0 a1_1) (v75_1 a0_0 a0_1 a0_2 a1_0 a1_1) (v75_2 a0_0 a0_1 a0_2 a1_0 a1_1) (v75_3 a0_0 a0_1 a0_2 a1_0 a1_1) (v75_4 a0_0 a0_1 a0_2 a1_0 a1_1))])
  else none)
  else none) := by kernel_rfl
theorem r43 (a0_0 : List AV) (a0_1 : List AV) (a0_2 : List AV) (a1_0 : Int) (a1_1 : Int) (h : q43 a0_0 a0_1 a0_2 a1_0 a1_1 = true) : funA c43 0 43 [AV.agg [AV.sl [.int .i64] a0_0, AV.sl [.int .i64] a0_1, AV.sl [.int .i64, .int .i64] a0_2], AV.agg [AV.int .i64 a1_0, AV.int .i64 a1_1]] = some (AV.tup [AV.agg [AV.fl [.int .i64] (v43_0 a0_0 a0_1 a0_2 a1_0 a1_1), AV.fl [.int .i64] (v43_1 a0_0 a0_1 a0_2 a1_0 a1_1), AV.fl [.int .i64, .int .i64] (v43_2 a0_0 a0_1 a0_2 a1_0 a1_1)], AV.fl [.int .i64] (v43_3 a0_0 a0_1 a0_2 a1_0 a1_1)]) := (e43 a0_0 a0_1 a0_2 a1_0 a1_1).trans ((brL (brL1 (fun _ => rfl))) h)
def m43 : TModel
  | [.agg [.sl g0 a0_0, .sl g1 a0_1, .sl g2 a0_2], .agg [.int .i64 a1_0, .int .i64 a1_1]] => bif ctsEq g0 ([.int .i64]) && ctsEq g1 ([.int .i64]) && ctsEq g2 ([.int .i64, .int .i64]) then some (q43 a0_0 a0_1 a0_2 a1_0 a1_1, AV.tup [AV.agg [AV.fl [.int .i64] (v43_0 a0_0 a0_1 a0_2 a1_0 a1_1), AV.fl [.int .i64] (v43_1 a0_0 a0_1 a0_2 a1_0 a1_1), AV.fl [.int .i64, .int .i64] (v43_2 a0_0 a0_1 a0_2 a1_0 a1_1)], AV.fl [.int .i64] (v43_3 a0_0 a0_1 a0_2 a1_0 a1_1)]) else none
  | _ => none
theorem k43 : Known Tryz.prog 43 := ⟨Tryz.f43, Tryz.func43, by kernel_rfl, by kernel_rfl⟩
theorem meets43 : Meets Tryz.prog 43 m43 := by
  refine meet (f := Tryz.f43) (l := []) (hs := [(43, 999, [4, 5])]) (ts := [(75, m75), (76, m76)]) (ws := []) (is := []) (ls := []) (lvl := 0) mixed k43 Tryz.func43 (by kernel_rfl) noLoop (allT_cons meets75 (allT_cons meets76 allT_nil)) allM_nil noI fun w xs us r hl hv h => ?_
  unfold m43 at h
  split at h
  · rename_i g0 a0_0 g1 a0_1 g2 a0_2 a1_0 a1_1
    obtain ⟨hg, h⟩ := bif_pair h
    simp only [Bool.and_eq_true] at hg
    obtain ⟨⟨q0, q1⟩, q2⟩ := hg
    obtain rfl := ctsEq_eq _ _ q0
    obtain rfl := ctsEq_eq _ _ q1
    obtain rfl := ctsEq_eq _ _ q2
    obtain ⟨h1, rfl⟩ := pair_inj h
    exact r43 a0_0 a0_1 a0_2 a1_0 a1_1 h1
  · cases h

/-! ### 44 loop.example/g01984/impl.LivesAt -/
noncomputable def c44 : Cfg := cfg Tryz.prog [(44, 999, [4])] [] [] [] []
def q44 (a0_0 : Int) (a0_1 : Int) (a0_2 : Int) (a0_3 : Int) (a1 : Int) : Bool := true
def v44_0 (a0_0 : Int) (a0_1 : Int) (a0_2 : Int) (a0_3 : Int) (a1 : Int) : Bool := (bif decide (a0_2 ≤ a1) then (bif decide (a0_3 = (-1)) then true else decide (a0_3 > a1)) else false)
theorem e44 (a0_0 : Int) (a0_1 : Int) (a0_2 : Int) (a0_3 : Int) (a1 : Int) : funA c44 0 44 [AV.agg [AV.int .i64 a0_0, AV.int .i64 a0_1, AV.int .i64 a0_2, AV.int .i64 a0_3], AV.int .i64 a1] = (bif decide (a0_2 ≤ a1) then (bif decide (a0_3 = (-1)) then some (AV.bool true)
  else some (AV.bool (decide (a0_3 > a1))))
  else some (AV.bool false)) := by kernel_rfl
theorem r44 (a0_0 : Int) (a0_1 : Int) (a0_2 : Int) (a0_3 : Int) (a1 : Int) : funA c44 0 44 [AV.agg [AV.int .i64 a0_0, AV.int .i64 a0_1, AV.int .i64 a0_2, AV.int .i64 a0_3], AV.int .i64 a1] = some (AV.bool (v44_0 a0_0 a0_1 a0_2 a0_3 a1)) := (e44 a0_0 a0_1 a0_2 a0_3 a1).trans (of_tt (brT (fun b => some (AV.bool (bif b then (bif decide (a0_3 = (-1)) then true else decide (a0_3 > a1)) else false))) (brT (fun b => some (AV.bool (bif b then true else decide (a0_3 > a1)))) (fun _ => rfl) (fun _ => rfl)) (fun _ => rfl)))
def m44 : TModel
  | [.agg [.int .i64 a0_0, .int .i64 a0_1, .int .i64 a0_2, .int .i64 a0_3], .int .i64 a1] => some (true, AV.bool (v44_0 a0_0 a0_1 a0_2 a0_3 a1))
  | _ => none
theorem k44 : Known Tryz.prog 44 := ⟨Tryz.f44, Tryz.func44, by kernel_rfl, by kernel_rfl⟩
theorem meets44 : Meets Tryz.prog 44 m44 := by
  refine meet (f := Tryz.f44) (l := []) (hs := [(44, 999, [4])]) (ts := []) (ws := []) (is := []) (ls := []) (lvl := 0) mixed k44 Tryz.func44 (by kernel_rfl) noLoop allT_nil allM_nil noI fun w xs us r hl hv h => ?_
  unfold m44 at h
  split at h
  · rename_i a0_0 a0_1 a0_2 a0_3 a1
    obtain ⟨h1, rfl⟩ := pair_inj h
    exact r44 a0_0 a0_1 a0_2 a0_3 a1
  · cases h

/-! ### 16 loop.example/g01984/impl.QueryVersion -/
def F16_0 (t1 : Int) (t47 : List AV) (t48 : Int) (h0 : List AV) (h1 : List AV) (h2 : List AV) (h3 : List AV) (h4 : Int) (h5 : Int) (h6 : List AV) (t49 : Int) (h7 : List AV) : Out ((Int × (List AV))) (((List AV))) := (bif decide (t49 < t48) then (bif (decide (0 ≤ t49) && decide (t49 < (t47.length : Int))) then (bif (v44_0 (fI (t47.getD t49.toNat AV.undef) 0) (fI (t47.getD t49.toNat AV.undef) 1) (fI (t47.getD t49.toNat AV.undef) 2) (fI (t47.getD t49.toNat AV.undef) 3) t1) then (bif q45 h6 (fI (t47.getD t49.toNat AV.undef) 1) then (bif (v45_0 h6 (fI (t47.getD t49.toNat AV.undef) 1)) then (bif (decide ((h7.length + ([AV.int .i64 (fI (t47.getD t49.toNat AV.undef) 1)]).length) * 8 ≤ 140737488355328) && decide ((h7.length + ([AV.int .i64 (fI (t47.getD t49.toNat AV.undef) 1)]).length) ≤ 140737488355328)) then .next (IntKind.i64.wrap (t49 + 1), h7 ++ ([AV.int .i64 (fI (t47.getD t49.toNat AV.undef) 1)]))
  else .fail)
  else .next (IntKind.i64.wrap (t49 + 1), h7))
  else .fail)
  else .next (IntKind.i64.wrap (t49 + 1), h7))
  else .fail)
  else .stop h7)
def R16_0 (t1 : Int) (t47 : List AV) (t48 : Int) (h0 : List AV) (h1 : List AV) (h2 : List AV) (h3 : List AV) (h4 : Int) (h5 : Int) (h6 : List AV) : ((Int × (List AV))) → Out ((Int × (List AV))) (((List AV))) := fun s : Int × (List AV) => F16_0 t1 t47 t48 h0 h1 h2 h3 h4 h5 h6 s.1 s.2
def l16_0 : LModel := fun _ _ st k => match st with
  | ⟨[(1, .int .i64 t1), (6, .ptr g0 g1 g2), (9, .ptr g3 g4 g5), (11, .own g6), (12, .own g7), (47, .sl g8 t47), (48, .int .i64 t48), (49, .int .i64 t49)], [(g9, ⟨false, g10, h0⟩), (g11, ⟨false, g12, h1⟩), (g13, ⟨false, g14, h2⟩), (g15, ⟨false, g16, h3⟩), (g17, ⟨true, [], [.agg [.snil, .int .i64 h4, .snil, .snil, .snil]]⟩), (g18, ⟨true, [], [.agg [.own g19, .int .i64 h5, .own g20, .own g21, .own g22]]⟩), (g23, ⟨false, g24, h6⟩), (g25, ⟨false, g26, h7⟩)]⟩ => bif nmEq g0 ([0, 6]) && Nat.beq g1 0 && Nat.beq g2 0 && nmEq g3 ([0, 9]) && Nat.beq g4 0 && Nat.beq g5 0 && nmEq g6 ([0, 11]) && nmEq g7 ([0, 12]) && ctsEq g8 ([.int .i64, .int .i64, .int .i64, .int .i64]) && nmEq g9 ([0, 0, 9]) && ctsEq g10 ([.int .i64, .int .i64, .int .i64, .int .i64]) && nmEq g11 ([0, 2, 9]) && ctsEq g12 ([.int .i64]) && nmEq g13 ([0, 3, 9]) && ctsEq g14 ([.int .i64]) && nmEq g15 ([0, 4, 9]) && ctsEq g16 ([.int .i64, .int .i64]) && nmEq g17 ([0, 6]) && nmEq g18 ([0, 9]) && nmEq g19 ([0, 0, 9]) && nmEq g20 ([0, 2, 9]) && nmEq g21 ([0, 3, 9]) && nmEq g22 ([0, 4, 9]) && nmEq g23 ([0, 11]) && ctsEq g24 ([.int .i64]) && nmEq g25 ([0, 12]) && ctsEq g26 ([.int .i64]) then ro (runW (R16_0 t1 t47 t48 h0 h1 h2 h3 h4 h5 h6) ((t48 - t49).toNat + 1) (t49, h7)) none (fun p : (List AV) => k (.exit 0) ⟨[(6, AV.ptr [0, 6] 0 0), (9, AV.ptr [0, 9] 0 0), (12, AV.own [0, 12])], [([0, 0, 9], ⟨false, [.int .i64, .int .i64, .int .i64, .int .i64], h0⟩), ([0, 2, 9], ⟨false, [.int .i64], h1⟩), ([0, 3, 9], ⟨false, [.int .i64], h2⟩), ([0, 4, 9], ⟨false, [.int .i64, .int .i64], h3⟩), ([0, 6], ⟨true, [], [AV.agg [AV.snil, AV.int .i64 h4, AV.snil, AV.snil, AV.snil]]⟩), ([0, 9], ⟨true, [], [AV.agg [AV.own [0, 0, 9], AV.int .i64 h5, AV.own [0, 2, 9], AV.own [0, 3, 9], AV.own [0, 4, 9]]]⟩), ([0, 11], ⟨false, [.int .i64], h6⟩), ([0, 12], ⟨false, [.int .i64], p⟩)]⟩) else none
  | _ => none
noncomputable def c16 : Cfg := cfg Tryz.prog [(16, 0, [1, 6, 9, 11, 12, 47, 48, 49]), (16, 999, [6, 7, 8]), (16, 1000, [6, 9, 12]), (16, 1001, [1, 6, 9, 11, 12, 47, 48, 49])] [(40, m40), (41, m41), (42, m42), (43, m43), (44, m44), (45, m45)] [] [] [(16, 0, l16_0)]
theorem s16_0 (ce : CallE) (t1 : Int) (t47 : List AV) (t48 : Int) (t49 : Int) (h0 : List AV) (h1 : List AV) (h2 : List AV) (h3 : List AV) (h4 : Int) (h5 : Int) (h6 : List AV) (h7 : List AV) (next : St → Option AV) (k : Kont) : stepA (codeA c16 ce [] 16 0 (sub [1, 1, 1, 1, 1, 1, 0, 1, 0, 0] (body Tryz.f16))) (normA [] [1, 6, 9, 11, 12, 47, 48, 49]) next ⟨[(1, AV.int .i64 t1), (6, AV.ptr [0, 6] 0 0), (9, AV.ptr [0, 9] 0 0), (11, AV.own [0, 11]), (12, AV.own [0, 12]), (47, AV.sl [.int .i64, .int .i64, .int .i64, .int .i64] t47), (48, AV.int .i64 t48), (49, AV.int .i64 t49)], [([0, 0, 9], ⟨false, [.int .i64, .int .i64, .int .i64, .int .i64], h0⟩), ([0, 2, 9], ⟨false, [.int .i64], h1⟩), ([0, 3, 9], ⟨false, [.int .i64], h2⟩), ([0, 4, 9], ⟨false, [.int .i64, .int .i64], h3⟩), ([0, 6], ⟨true, [], [AV.agg [AV.snil, AV.int .i64 h4, AV.snil, AV.snil, AV.snil]]⟩), ([0, 9], ⟨true, [], [AV.agg [AV.own [0, 0, 9], AV.int .i64 h5, AV.own [0, 2, 9], AV.own [0, 3, 9], AV.own [0, 4, 9]]]⟩), ([0, 11], ⟨false, [.int .i64], h6⟩), ([0, 12], ⟨false, [.int .i64], h7⟩)]⟩ k = (bif decide (t49 < t48) then (bif (decide (0 ≤ t49) && decide (t49 < (t47.length : Int))) then (bif (v44_0 (fI (t47.getD t49.toNat AV.undef) 0) (fI (t47.getD t49.toNat AV.undef) 1) (fI (t47.getD t49.toNat AV.undef) 2) (fI (t47.getD t49.toNat AV.undef) 3) t1) then (bif q45 h6 (fI (t47.getD t49.toNat AV.undef) 1) then (bif (v45_0 h6 (fI (t47.getD t49.toNat AV.undef) 1)) then (bif (decide ((h7.length + ([AV.int .i64 (fI (t47.getD t49.toNat AV.undef) 1)]).length) * 8 ≤ 140737488355328) && decide ((h7.length + ([AV.int .i64 (fI (t47.getD t49.toNat AV.undef) 1)]).length) ≤ 140737488355328)) then next ⟨[(1, AV.int .i64 t1), (6, AV.ptr [0, 6] 0 0), (9, AV.ptr [0, 9] 0 0), (11, AV.own [0, 11]), (12, AV.own [0, 12]), (47, AV.sl [.int .i64, .int .i64, .int .i64, .int .i64] t47), (48, AV.int .i64 t48), (49, AV.int .i64 (IntKind.i64.wrap (t49 + 1)))], [([0, 0, 9], ⟨false, [.int .i64, .int .i64, .int .i64, .int .i64], h0⟩), ([0, 2, 9], ⟨false, [.int .i64], h1⟩), ([0, 3, 9], ⟨false, [.int .i64], h2⟩), ([0, 4, 9], ⟨false, [.int .i64, .int .i64], h3⟩), ([0, 6], ⟨true, [], [AV.agg [AV.snil, AV.int .i64 h4, AV.snil, AV.snil, AV.snil]]⟩), ([0, 9], ⟨true, [], [AV.agg [AV.own [0, 0, 9], AV.int .i64 h5, AV.own [0, 2, 9], AV.own [0, 3, 9], AV.own [0, 4, 9]]]⟩), ([0, 11], ⟨false, [.int .i64], h6⟩), ([0, 12], ⟨false, [.int .i64], h7 ++ ([AV.int .i64 (fI (t47.getD t49.toNat AV.undef) 1)])⟩)]⟩
  else none)
  else next ⟨[(1, AV.int .i64 t1), (6, AV.ptr [0, 6] 0 0), (9, AV.ptr [0, 9] 0 0), (11, AV.own [0, 11]), (12, AV.own [0, 12]), (47, AV.sl [.int .i64, .int .i64, .int .i64, .int .i64] t47), (48, AV.int .i64 t48), (49, AV.int .i64 (IntKind.i64.wrap (t49 + 1)))], [([0, 0, 9], ⟨false, [.int .i64, .int .i64, .int .i64, .int .i64], h0⟩), ([0, 2, 9], ⟨false, [.int .i64], h1⟩), ([0, 3, 9], ⟨false, [.int .i64], h2⟩), ([0, 4, 9], ⟨false, [.int .i64, .int .i64], h3⟩), ([0, 6], ⟨true, [], [AV.agg [AV.snil, AV.int .i64 h4, AV.snil, AV.snil, AV.snil]]⟩), ([0, 9], ⟨true, [], [AV.agg [AV.own [0, 0, 9], AV.int .i64 h5, AV.own [0, 2, 9], AV.own [0, 3, 9], AV.own [0, 4, 9]]]⟩), ([0, 11], ⟨false, [.int .i64], h6⟩), ([0, 12], ⟨false, [.int .i64], h7⟩)]⟩)
  else none)
  else next ⟨[(1, AV.int .i64 t1), (6, AV.ptr [0, 6] 0 0), (9, AV.ptr [0, 9] 0 0), (11, AV.own [0, 11]), (12, AV.own [0, 12]), (47, AV.sl [.int .i64, .int .i64, .int .i64, .int .i64] t47), (48, AV.int .i64 t48), (49, AV.int .i64 (IntKind.i64.wrap (t49 + 1)))], [([0, 0, 9], ⟨false, [.int .i64, .int .i64, .int .i64, .int .i64], h0⟩), ([0, 2, 9], ⟨false, [.int .i64], h1⟩), ([0, 3, 9], ⟨false, [.int .i64], h2⟩), ([0, 4, 9], ⟨false, [.int .i64, .int .i64], h3⟩), ([0, 6], ⟨true, [], [AV.agg [AV.snil, AV.int .i64 h4, AV.snil, AV.snil, AV.snil]]⟩), ([0, 9], ⟨true, [], [AV.agg [AV.own [0, 0, 9], AV.int .i64 h5, AV.own [0, 2, 9], AV.own [0, 3, 9], AV.own [0, 4, 9]]]⟩), ([0, 11], ⟨false, [.int .i64], h6⟩), ([0, 12], ⟨false, [.int .i64], h7⟩)]⟩)
  else none)
  else k (.exit 0) ⟨[(6, AV.ptr [0, 6] 0 0), (9, AV.ptr [0, 9] 0 0), (12, AV.own [0, 12])], [([0, 0, 9], ⟨false, [.int .i64, .int .i64, .int .i64, .int .i64], h0⟩), ([0, 2, 9], ⟨false, [.int .i64], h1⟩), ([0, 3, 9], ⟨false, [.int .i64], h2⟩), ([0, 4, 9], ⟨false, [.int .i64, .int .i64], h3⟩), ([0, 6], ⟨true, [], [AV.agg [AV.snil, AV.int .i64 h4, AV.snil, AV.snil, AV.snil]]⟩), ([0, 9], ⟨true, [], [AV.agg [AV.own [0, 0, 9], AV.int .i64 h5, AV.own [0, 2, 9], AV.own [0, 3, 9], AV.own [0, 4, 9]]]⟩), ([0, 11], ⟨false, [.int .i64], h6⟩), ([0, 12], ⟨false, [.int .i64], h7⟩)]⟩) := by kernel_rfl
theorem st16_0 (t1 : Int) (t47 : List AV) (t48 : Int) (h0 : List AV) (h1 : List AV) (h2 : List AV) (h3 : List AV) (h4 : Int) (h5 : Int) (h6 : List AV) (ce : CallE) (k : Kont) (s : (Int × (List AV))) (next : St → Option AV) : stepA (codeA c16 ce [] 16 0 (sub [1, 1, 1, 1, 1, 1, 0, 1, 0, 0] (body Tryz.f16))) (normA [] [1, 6, 9, 11, 12, 47, 48, 49]) next ((fun s : Int × (List AV) => ⟨[(1, AV.int .i64 t1), (6, AV.ptr [0, 6] 0 0), (9, AV.ptr [0, 9] 0 0), (11, AV.own [0, 11]), (12, AV.own [0, 12]), (47, AV.sl [.int .i64, .int .i64, .int .i64, .int .i64] t47), (48, AV.int .i64 t48), (49, AV.int .i64 s.1)], [([0, 0, 9], ⟨false, [.int .i64, .int .i64, .int .i64, .int .i64], h0⟩), ([0, 2, 9], ⟨false, [.int .i64], h1⟩), ([0, 3, 9], ⟨false, [.int .i64], h2⟩), ([0, 4, 9], ⟨false, [.int .i64, .int .i64], h3⟩), ([0, 6], ⟨true, [], [AV.agg [AV.snil, AV.int .i64 h4, AV.snil, AV.snil, AV.snil]]⟩), ([0, 9], ⟨true, [], [AV.agg [AV.own [0, 0, 9], AV.int .i64 h5, AV.own [0, 2, 9], AV.own [0, 3, 9], AV.own [0, 4, 9]]]⟩), ([0, 11], ⟨false, [.int .i64], h6⟩), ([0, 12], ⟨false, [.int .i64], s.2⟩)]⟩) s) k = (R16_0 t1 t47 t48 h0 h1 h2 h3 h4 h5 h6 s).el none (fun s => next ((fun s : Int × (List AV) => ⟨[(1, AV.int .i64 t1), (6, AV.ptr [0, 6] 0 0), (9, AV.ptr [0, 9] 0 0), (11, AV.own [0, 11]), (12, AV.own [0, 12]), (47, AV.sl [.int .i64, .int .i64, .int .i64, .int .i64] t47), (48, AV.int .i64 t48), (49, AV.int .i64 s.1)], [([0, 0, 9], ⟨false, [.int .i64, .int .i64, .int .i64, .int .i64], h0⟩), ([0, 2, 9], ⟨false, [.int .i64], h1⟩), ([0, 3, 9], ⟨false, [.int .i64], h2⟩), ([0, 4, 9], ⟨false, [.int .i64, .int .i64], h3⟩), ([0, 6], ⟨true, [], [AV.agg [AV.snil, AV.int .i64 h4, AV.snil, AV.snil, AV.snil]]⟩), ([0, 9], ⟨true, [], [AV.agg [AV.own [0, 0, 9], AV.int .i64 h5, AV.own [0, 2, 9], AV.own [0, 3, 9], AV.own [0, 4, 9]]]⟩), ([0, 11], ⟨false, [.int .i64], h6⟩), ([0, 12], ⟨false, [.int .i64], s.2⟩)]⟩) s)) (fun p : (List AV) => k (.exit 0) ⟨[(6, AV.ptr [0, 6] 0 0), (9, AV.ptr [0, 9] 0 0), (12, AV.own [0, 12])], [([0, 0, 9], ⟨false, [.int .i64, .int .i64, .int .i64, .int .i64], h0⟩), ([0, 2, 9], ⟨false, [.int .i64], h1⟩), ([0, 3, 9], ⟨false, [.int .i64], h2⟩), ([0, 4, 9], ⟨false, [.int .i64, .int .i64], h3⟩), ([0, 6], ⟨true, [], [AV.agg [AV.snil, AV.int .i64 h4, AV.snil, AV.snil, AV.snil]]⟩), ([0, 9], ⟨true, [], [AV.agg [AV.own [0, 0, 9], AV.int .i64 h5, AV.own [0, 2, 9], AV.own [0, 3, 9], AV.own [0, 4, 9]]]⟩), ([0, 11], ⟨false, [.int .i64], h6⟩), ([0, 12], ⟨false, [.int .i64], p⟩)]⟩) := (s16_0 ce t1 t47 t48 s.1 h0 h1 h2 h3 h4 h5 h6 s.2 next k).trans (by unfold R16_0; unfold F16_0; simp only [el_cond, el_ro, el_sum, el_fail, el_next, el_stop] <;> rfl)
theorem ok16_0 {ce : CallE} : LoopOK c16 ce [] 16 0 (sub [1, 1, 1, 1, 1, 1, 0, 1, 0, 0] (body Tryz.f16)) := by
  intro m hm st k r h
  obtain rfl : l16_0 = m := Option.some.inj hm
  unfold l16_0 at h
  split at h
  · rename_i t1 g0 g1 g2 g3 g4 g5 g6 g7 g8 t47 t48 t49 g9 g10 h0 g11 g12 h1 g13 g14 h2 g15 g16 h3 g17 h4 g18 g19 h5 g20 g21 g22 g23 g24 h6 g25 g26 h7
    obtain ⟨hg, h⟩ := bif_some h
    simp only [Bool.and_eq_true] at hg
    obtain ⟨⟨⟨⟨⟨⟨⟨⟨⟨⟨⟨⟨⟨⟨⟨⟨⟨⟨⟨⟨⟨⟨⟨⟨⟨⟨q0, q1⟩, q2⟩, q3⟩, q4⟩, q5⟩, q6⟩, q7⟩, q8⟩, q9⟩, q10⟩, q11⟩, q12⟩, q13⟩, q14⟩, q15⟩, q16⟩, q17⟩, q18⟩, q19⟩, q20⟩, q21⟩, q22⟩, q23⟩, q24⟩, q25⟩, q26⟩ := hg
    obtain rfl := (nmEq_iff _ _).1 q0
    obtain rfl := Nat.eq_of_beq_eq_true q1
    obtain rfl := Nat.eq_of_beq_eq_true q2
    obtain rfl := (nmEq_iff _ _).1 q3
    obtain rfl := Nat.eq_of_beq_eq_true q4
    obtain rfl := Nat.eq_of_beq_eq_true q5
    obtain rfl := (nmEq_iff _ _).1 q6
    obtain rfl := (nmEq_iff _ _).1 q7
    obtain rfl := ctsEq_eq _ _ q8
    obtain rfl := (nmEq_iff _ _).1 q9
    obtain rfl := ctsEq_eq _ _ q10
    obtain rfl := (nmEq_iff _ _).1 q11
    obtain rfl := ctsEq_eq _ _ q12
    obtain rfl := (nmEq_iff _ _).1 q13
    obtain rfl := ctsEq_eq _ _ q14
    obtain rfl := (nmEq_iff _ _).1 q15
    obtain rfl := ctsEq_eq _ _ q16
    obtain rfl := (nmEq_iff _ _).1 q17
    obtain rfl := (nmEq_iff _ _).1 q18
    obtain rfl := (nmEq_iff _ _).1 q19
    obtain rfl := (nmEq_iff _ _).1 q20
    obtain rfl := (nmEq_iff _ _).1 q21
    obtain rfl := (nmEq_iff _ _).1 q22
    obtain rfl := (nmEq_iff _ _).1 q23
    obtain rfl := ctsEq_eq _ _ q24
    obtain rfl := (nmEq_iff _ _).1 q25
    obtain rfl := ctsEq_eq _ _ q26
    refine ⟨((t48 - t49).toNat + 1), ?_⟩
    rw [← h]
    exact loop_run (fun s : Int × (List AV) => ⟨[(1, AV.int .i64 t1), (6, AV.ptr [0, 6] 0 0), (9, AV.ptr [0, 9] 0 0), (11, AV.own [0, 11]), (12, AV.own [0, 12]), (47, AV.sl [.int .i64, .int .i64, .int .i64, .int .i64] t47), (48, AV.int .i64 t48), (49, AV.int .i64 s.1)], [([0, 0, 9], ⟨false, [.int .i64, .int .i64, .int .i64, .int .i64], h0⟩), ([0, 2, 9], ⟨false, [.int .i64], h1⟩), ([0, 3, 9], ⟨false, [.int .i64], h2⟩), ([0, 4, 9], ⟨false, [.int .i64, .int .i64], h3⟩), ([0, 6], ⟨true, [], [AV.agg [AV.snil, AV.int .i64 h4, AV.snil, AV.snil, AV.snil]]⟩), ([0, 9], ⟨true, [], [AV.agg [AV.own [0, 0, 9], AV.int .i64 h5, AV.own [0, 2, 9], AV.own [0, 3, 9], AV.own [0, 4, 9]]]⟩), ([0, 11], ⟨false, [.int .i64], h6⟩), ([0, 12], ⟨false, [.int .i64], s.2⟩)]⟩) (fun p : (List AV) => k (.exit 0) ⟨[(6, AV.ptr [0, 6] 0 0), (9, AV.ptr [0, 9] 0 0), (12, AV.own [0, 12])], [([0, 0, 9], ⟨false, [.int .i64, .int .i64, .int .i64, .int .i64], h0⟩), ([0, 2, 9], ⟨false, [.int .i64], h1⟩), ([0, 3, 9], ⟨false, [.int .i64], h2⟩), ([0, 4, 9], ⟨false, [.int .i64, .int .i64], h3⟩), ([0, 6], ⟨true, [], [AV.agg [AV.snil, AV.int .i64 h4, AV.snil, AV.snil, AV.snil]]⟩), ([0, 9], ⟨true, [], [AV.agg [AV.own [0, 0, 9], AV.int .i64 h5, AV.own [0, 2, 9], AV.own [0, 3, 9], AV.own [0, 4, 9]]]⟩), ([0, 11], ⟨false, [.int .i64], h6⟩), ([0, 12], ⟨false, [.int .i64], p⟩)]⟩) (st16_0 t1 t47 t48 h0 h1 h2 h3 h4 h5 h6 ce k) _ (t49, h7)
  · cases h
def q16 (a0_0 : List AV) (a0_1 : Int) (a0_2 : List AV) (a0_3 : List AV) (a0_4 : List AV) (a1 : Int) (a2_0 : Int) (a2_1 : Int) : Bool := (q40 a0_0 a0_1 a0_2 a0_3 a0_4 && (q41 a0_0 a0_1 a0_2 a0_3 a0_4 && (bif !(v41_0 a0_0 a0_1 a0_2 a0_3 a0_4) then true else (bif !(v42_0 a2_0 a2_1) then true else (bif decide (a1 < 0) then true else (bif decide (a1 > a0_1) then true else (q43 a0_2 a0_3 a0_4 a2_0 a2_1 && (ro (runW (R16_0 a1 a0_0 (a0_0.length : Int) (v40_0 a0_0 a0_1 a0_2 a0_3 a0_4) (v43_0 a0_2 a0_3 a0_4 a2_0 a2_1) (v43_1 a0_2 a0_3 a0_4 a2_0 a2_1) (v43_2 a0_2 a0_3 a0_4 a2_0 a2_1) 0 (v40_1 a0_0 a0_1 a0_2 a0_3 a0_4) (v43_3 a0_2 a0_3 a0_4 a2_0 a2_1)) (((a0_0.length : Int) - 0).toNat + 1) (0, ([] : List AV))) false (fun p56 => true)))))))))
def v16_0 (a0_0 : List AV) (a0_1 : Int) (a0_2 : List AV) (a0_3 : List AV) (a0_4 : List AV) (a1 : Int) (a2_0 : Int) (a2_1 : Int) : List AV := (v40_0 a0_0 a0_1 a0_2 a0_3 a0_4)
def v16_1 (a0_0 : List AV) (a0_1 : Int) (a0_2 : List AV) (a0_3 : List AV) (a0_4 : List AV) (a1 : Int) (a2_0 : Int) (a2_1 : Int) : Int := (v40_1 a0_0 a0_1 a0_2 a0_3 a0_4)
def v16_2 (a0_0 : List AV) (a0_1 : Int) (a0_2 : List AV) (a0_3 : List AV) (a0_4 : List AV) (a1 : Int) (a2_0 : Int) (a2_1 : Int) : List AV := (bif !(v41_0 a0_0 a0_1 a0_2 a0_3 a0_4) then (v40_2 a0_0 a0_1 a0_2 a0_3 a0_4) else (bif !(v42_0 a2_0 a2_1) then (v40_2 a0_0 a0_1 a0_2 a0_3 a0_4) else (bif decide (a1 < 0) then (v40_2 a0_0 a0_1 a0_2 a0_3 a0_4) else (bif decide (a1 > a0_1) then (v40_2 a0_0 a0_1 a0_2 a0_3 a0_4) else (v43_0 a0_2 a0_3 a0_4 a2_0 a2_1)))))
def v16_3 (a0_0 : List AV) (a0_1 : Int) (a0_2 : List AV) (a0_3 : List AV) (a0_4 : List AV) (a1 : Int) (a2_0 : Int) (a2_1 : Int) : List AV := (bif !(v41_0 a0_0 a0_1 a0_2 a0_3 a0_4) then (v40_3 a0_0 a0_1 a0_2 a0_3 a0_4) else (bif !(v42_0 a2_0 a2_1) then (v40_3 a0_0 a0_1 a0_2 a0_3 a0_4) else (bif decide (a1 < 0) then (v40_3 a0_0 a0_1 a0_2 a0_3 a0_4) else (bif decide (a1 > a0_1) then (v40_3 a0_0 a0_1 a0_2 a0_3 a0_4) else (v43_1 a0_2 a0_3 a0_4 a2_0 a2_1)))))
def v16_4 (a0_0 : List AV) (a0_1 : Int) (a0_2 : List AV) (a0_3 : List AV) (a0_4 : List AV) (a1 : Int) (a2_0 : Int) (a2_1 : Int) : List AV := (bif !(v41_0 a0_0 a0_1 a0_2 a0_3 a0_4) then (v40_4 a0_0 a0_1 a0_2 a0_3 a0_4) else (bif !(v42_0 a2_0 a2_1) then (v40_4 a0_0 a0_1 a0_2 a0_3 a0_4) else (bif decide (a1 < 0) then (v40_4 a0_0 a0_1 a0_2 a0_3 a0_4) else (bif decide (a1 > a0_1) then (v40_4 a0_0 a0_1 a0_2 a0_3 a0_4) else (v43_2 a0_2 a0_3 a0_4 a2_0 a2_1)))))
def v16_5 (a0_0 : List AV) (a0_1 : Int) (a0_2 : List AV) (a0_3 : List AV) (a0_4 : List AV) (a1 : Int) (a2_0 : Int) (a2_1 : Int) : List AV := (bif !(v41_0 a0_0 a0_1 a0_2 a0_3 a0_4) then ([] : List AV) else (bif !(v42_0 a2_0 a2_1) then ([] : List AV) else (bif decide (a1 < 0) then ([] : List AV) else (bif decide (a1 > a0_1) then ([] : List AV) else (ro (runW (R16_0 a1 a0_0 (a0_0.length : Int) (v40_0 a0_0 a0_1 a0_2 a0_3 a0_4) (v43_0 a0_2 a0_3 a0_4 a2_0 a2_1) (v43_1 a0_2 a0_3 a0_4 a2_0 a2_1) (v43_2 a0_2 a0_3 a0_4 a2_0 a2_1) 0 (v40_1 a0_0 a0_1 a0_2 a0_3 a0_4) (v43_3 a0_2 a0_3 a0_4 a2_0 a2_1)) (((a0_0.length : Int) - 0).toNat + 1) (0, ([] : List AV))) [] (fun p56 => p56))))))
def v16_6 (a0_0 : List AV) (a0_1 : Int) (a0_2 : List AV) (a0_3 : List AV) (a0_4 : List AV) (a1 : Int) (a2_0 : Int) (a2_1 : Int) : Bool := (bif !(v41_0 a0_0 a0_1 a0_2 a0_3 a0_4) then false else (bif !(v42_0 a2_0 a2_1) then false else (bif decide (a1 < 0) then false else (bif decide (a1 > a0_1) then false else true))))
theorem e16 (a0_0 : List AV) (a0_1 : Int) (a0_2 : List AV) (a0_3 : List AV) (a0_4 : List AV) (a1 : Int) (a2_0 : Int) (a2_1 : Int) : funA c16 0 16 [AV.agg [AV.sl [.int .i64, .int .i64, .int .i64, .int .i64] a0_0, AV.int .i64 a0_1, AV.sl [.int .i64] a0_2, AV.sl [.int .i64] a0_3, AV.sl [.int .i64, .int .i64] a0_4], AV.int .i64 a1, AV.agg [AV.int .i64 a2_0, AV.int .i64 a2_1]] = (bif q40 a0_0 a0_1 a0_2 a0_3 a0_4 then (bif q41 a0_0 a0_1 a0_2 a0_3 a0_4 then (bif !(v41_0 a0_0 a0_1 a0_2 a0_3 a0_4) then some (AV.tup [AV.agg [AV.fl [.int .i64, .int .i64, .int .i64, .int .i64] (v40_0 a0_0 a0_1 a0_2 a0_3 a0_4), AV.int .i64 (v40_1 a0_0 a0_1 a0_2 a0_3 a0_4), AV.fl [.int .i64] (v40_2 a0_0 a0_1 a0_2 a0_3 a0_4), AV.fl [.int .i64] (v40_3 a0_0 a0_1 a0_2 a0_3 a0_4), AV.fl [.int .i64, .int .i64] (v40_4 a0_0 a0_1 a0_2 a0_3 a0_4)], AV.fl [.int .i64] ([] : List AV), AV.bool false])
  else (bif !(v42_0 a2_0 a2_1) then some (AV.tup [AV.agg [AV.fl [.int .i64, .int .i64, .int .i64, .int .i64] (v40_0 a0_0 a0_1 a0_2 a0_3 a0_4), AV.int .i64 (v40_1 a0_0 a0_1 a0_2 a0_3 a0_4), AV.fl [.int .i64] (v40_2 a0_0 a0_1 a0_2 a0_3 a0_4), AV.fl [.int .i64] (v40_3 a0_0 a0_1 a0_2 a0_3 a0_4), AV.fl [.int .i64, .int .i64] (v40_4 a0_0 a0_1 a0_2 a0_3 a0_4)], AV.fl [.int .i64] ([] : List AV), AV.bool false])
  else (bif decide (a1 < 0) then some (AV.tup [AV.agg [AV.fl [.int .i64, .int .i64, .int .i64, .int .i64] (v40_0 a0_0 a0_1 a0_2 a0_3 a0_4), AV.int .i64 (v40_1 a0_0 a0_1 a0_2 a0_3 a0_4), AV.fl [.int .i64] (v40_2 a0_0 a0_1 a0_2 a0_3 a0_4), AV.fl [.int .i64] (v40_3 a0_0 a0_1 a0_2 a0_3 a0_4), AV.fl [.int .i64, .int .i64] (v40_4 a0_0 a0_1 a0_2 a0_3 a0_4)], AV.fl [.int .i64] ([] : List AV), AV.bool false])
  else (bif decide (a1 > a0_1) then some (AV.tup [AV.agg [AV.fl [.int .i64, .int .i64, .int .i64, .int .i64] (v40_0 a0_0 a0_1 a0_2 a0_3 a0_4), AV.int .i64 (v40_1 a0_0 a0_1 a0_2 a0_3 a0_4), AV.fl [.int .i64] (v40_2 a0_0 a0_1 a0_2 a0_3 a0_4), AV.fl [.int .i64] (v40_3 a0_0 a0_1 a0_2 a0_3 a0_4), AV.fl [.int .i64, .int .i64] (v40_4 a0_0 a0_1 a0_2 a0_3 a0_4)], AV.fl [.int .i64] ([] : List AV), AV.bool false])
  else (bif q43 a0_2 a0_3 a0_4 a2_0 a2_1 then (ro (runW (R16_0 a1 a0_0 (a0_0.length : Int) (v40_0 a0_0 a0_1 a0_2 a0_3 a0_4) (v43_0 a0_2 a0_3 a0_4 a2_0 a2_1) (v43_1 a0_2 a0_3 a0_4 a2_0 a2_1) (v43_2 a0_2 a0_3 a0_4 a2_0 a2_1) 0 (v40_1 a0_0 a0_1 a0_2 a0_3 a0_4) (v43_3 a0_2 a0_3 a0_4 a2_0 a2_1)) (((a0_0.length : Int) - 0).toNat + 1) (0, ([] : List AV))) none (fun p56 => some (AV.tup [AV.agg [AV.fl [.int .i64, .int .i64, .int .i64, .int .i64] (v40_0 a0_0 a0_1 a0_2 a0_3 a0_4), AV.int .i64 (v40_1 a0_0 a0_1 a0_2 a0_3 a0_4), AV.fl [.int .i64] (v43_0 a0_2 a0_3 a0_4 a2_0 a2_1), AV.fl [.int .i64] (v43_1 a0_2 a0_3 a0_4 a2_0 a2_1), AV.fl [.int .i64, .int .i64] (v43_2 a0_2 a0_3 a0_4 a2_0 a2_1)], AV.fl [.int .i64] p56, AV.bool true])))
  else none)))))
  else none)
  else none) := by kernel_rfl
theorem r16 (a0_0 : List AV) (a0_1 : Int) (a0_2 : List AV) (a0_3 : List AV) (a0_4 : List AV) (a1 : Int) (a2_0 : Int) (a2_1 : Int) (h : q16 a0_0 a0_1 a0_2 a0_3 a0_4 a1 a2_0 a2_1 = true) : funA c16 0 16 [AV.agg [AV.sl [.int .i64, .int .i64, .int .i64, .int .i64] a0_0, AV.int .i64 a0_1, AV.sl [.int .i64] a0_2, AV.sl [.int .i64] a0_3, AV.sl [.int .i64, .int .i64] a0_4], AV.int .i64 a1, AV.agg [AV.int .i64 a2_0, AV.int .i64 a2_1]] = some (AV.tup [AV.agg [AV.fl [.int .i64, .int .i64, .int .i64, .int .i64] (v16_0 a0_0 a0_1 a0_2 a0_3 a0_4 a1 a2_0 a2_1), AV.int .i64 (v16_1 a0_0 a0_1 a0_2 a0_3 a0_4 a1 a2_0 a2_1), AV.fl [.int .i64] (v16_2 a0_0 a0_1 a0_2 a0_3 a0_4 a1 a2_0 a2_1), AV.fl [.int .i64] (v16_3 a0_0 a0_1 a0_2 a0_3 a0_4 a1 a2_0 a2_1), AV.fl [.int .i64, .int .i64] (v16_4 a0_0 a0_1 a0_2 a0_3 a0_4 a1 a2_0 a2_1)], AV.fl [.int .i64] (v16_5 a0_0 a0_1 a0_2 a0_3 a0_4 a1 a2_0 a2_1), AV.bool (v16_6 a0_0 a0_1 a0_2 a0_3 a0_4 a1 a2_0 a2_1)]) := (e16 a0_0 a0_1 a0_2 a0_3 a0_4 a1 a2_0 a2_1).trans ((brL (brL (br (fun b => some (AV.tup [AV.agg [AV.fl [.int .i64, .int .i64, .int .i64, .int .i64] (v40_0 a0_0 a0_1 a0_2 a0_3 a0_4), AV.int .i64 (v40_1 a0_0 a0_1 a0_2 a0_3 a0_4), AV.fl [.int .i64] (bif b then (v40_2 a0_0 a0_1 a0_2 a0_3 a0_4) else (bif !(v42_0 a2_0 a2_1) then (v40_2 a0_0 a0_1 a0_2 a0_3 a0_4) else (bif decide (a1 < 0) then (v40_2 a0_0 a0_1 a0_2 a0_3 a0_4) else (bif decide (a1 > a0_1) then (v40_2 a0_0 a0_1 a0_2 a0_3 a0_4) else (v43_0 a0_2 a0_3 a0_4 a2_0 a2_1))))), AV.fl [.int .i64] (bif b then (v40_3 a0_0 a0_1 a0_2 a0_3 a0_4) else (bif !(v42_0 a2_0 a2_1) then (v40_3 a0_0 a0_1 a0_2 a0_3 a0_4) else (bif decide (a1 < 0) then (v40_3 a0_0 a0_1 a0_2 a0_3 a0_4) else (bif decide (a1 > a0_1) then (v40_3 a0_0 a0_1 a0_2 a0_3 a0_4) else (v43_1 a0_2 a0_3 a0_4 a2_0 a2_1))))), AV.fl [.int .i64, .int .i64] (bif b then (v40_4 a0_0 a0_1 a0_2 a0_3 a0_4) else (bif !(v42_0 a2_0 a2_1) then (v40_4 a0_0 a0_1 a0_2 a0_3 a0_4) else (bif decide (a1 < 0) then (v40_4 a0_0 a0_1 a0_2 a0_3 a0_4) else (bif decide (a1 > a0_1) then (v40_4 a0_0 a0_1 a0_2 a0_3 a0_4) else (v43_2 a0_2 a0_3 a0_4 a2_0 a2_1)))))], AV.fl [.int .i64] (bif b then ([] : List AV) else (bif !(v42_0 a2_0 a2_1) then ([] : List AV) else (bif decide (a1 < 0) then ([] : List AV) else (bif decide (a1 > a0_1) then ([] : List AV) else (ro (runW (R16_0 a1 a0_0 (a0_0.length : Int) (v40_0 a0_0 a0_1 a0_2 a0_3 a0_4) (v43_0 a0_2 a0_3 a0_4 a2_0 a2_1) (v43_1 a0_2 a0_3 a0_4 a2_0 a2_1) (v43_2 a0_2 a0_3 a0_4 a2_0 a2_1) 0 (v40_1 a0_0 a0_1 a0_2 a0_3 a0_4) (v43_3 a0_2 a0_3 a0_4 a2_0 a2_1)) (((a0_0.length : Int) - 0).toNat + 1) (0, ([] : List AV))) [] (fun p56 => p56)))))), AV.bool (bif b then false else (bif !(v42_0 a2_0 a2_1) then false else (bif decide (a1 < 0) then false else (bif decide (a1 > a0_1) then false else true))))])) (fun _ => rfl) (br (fun b => some (AV.tup [AV.agg [AV.fl [.int .i64, .int .i64, .int .i64, .int .i64] (v40_0 a0_0 a0_1 a0_2 a0_3 a0_4), AV.int .i64 (v40_1 a0_0 a0_1 a0_2 a0_3 a0_4), AV.fl [.int .i64] (bif b then (v40_2 a0_0 a0_1 a0_2 a0_3 a0_4) else (bif decide (a1 < 0) then (v40_2 a0_0 a0_1 a0_2 a0_3 a0_4) else (bif decide (a1 > a0_1) then (v40_2 a0_0 a0_1 a0_2 a0_3 a0_4) else (v43_0 a0_2 a0_3 a0_4 a2_0 a2_1)))), AV.fl [.int .i64] (bif b then (v40_3 a0_0 a0_1 a0_2 a0_3 a0_4) else (bif decide (a1 < 0) then (v40_3 a0_0 a0_1 a0_2 a0_3 a0_4) else (bif decide (a1 > a0_1) then (v40_3 a0_0 a0_1 a0_2 a0_3 a0_4) else (v43_1 a0_2 a0_3 a0_4 a2_0 a2_1)))), AV.fl [.int .i64, .int .i64] (bif b then (v40_4 a0_0 a0_1 a0_2 a0_3 a0_4) else (bif decide (a1 < 0) then (v40_4 a0_0 a0_1 a0_2 a0_3 a0_4) else (bif decide (a1 > a0_1) then (v40_4 a0_0 a0_1 a0_2 a0_3 a0_4) else (v43_2 a0_2 a0_3 a0_4 a2_0 a2_1))))], AV.fl [.int .i64] (bif b then ([] : List AV) else (bif decide (a1 < 0) then ([] : List AV) else (bif decide (a1 > a0_1) then ([] : List AV) else (ro (runW (R16_0 a1 a0_0 (a0_0.length : Int) (v40_0 a0_0 a0_1 a0_2 a0_3 a0_4) (v43_0 a0_2 a0_3 a0_4 a2_0 a2_1) (v43_1 a0_2 a0_3 a0_4 a2_0 a2_1) (v43_2 a0_2 a0_3 a0_4 a2_0 a2_1) 0 (v40_1 a0_0 a0_1 a0_2 a0_3 a0_4) (v43_3 a0_2 a0_3 a0_4 a2_0 a2_1)) (((a0_0.length : Int) - 0).toNat + 1) (0, ([] : List AV))) [] (fun p56 => p56))))), AV.bool (bif b then false else (bif decide (a1 < 0) then false else (bif decide (a1 > a0_1) then false else true)))])) (fun _ => rfl) (br (fun b => some (AV.tup [AV.agg [AV.fl [.int .i64, .int .i64, .int .i64, .int .i64] (v40_0 a0_0 a0_1 a0_2 a0_3 a0_4), AV.int .i64 (v40_1 a0_0 a0_1 a0_2 a0_3 a0_4), AV.fl [.int .i64] (bif b then (v40_2 a0_0 a0_1 a0_2 a0_3 a0_4) else (bif decide (a1 > a0_1) then (v40_2 a0_0 a0_1 a0_2 a0_3 a0_4) else (v43_0 a0_2 a0_3 a0_4 a2_0 a2_1))), AV.fl [.int .i64] (bif b then (v40_3 a0_0 a0_1 a0_2 a0_3 a0_4) else (bif decide (a1 > a0_1) then (v40_3 a0_0 a0_1 a0_2 a0_3 a0_4) else (v43_1 a0_2 a0_3 a0_4 a2_0 a2_1))), AV.fl [.int .i64, .int .i64] (bif b then (v40_4 a0_0 a0_1 a0_2 a0_3 a0_4) else (bif decide (a1 > a0_1) then (v40_4 a0_0 a0_1 a0_2 a0_3 a0_4) else (v43_2 a0_2 a0_3 a0_4 a2_0 a2_1)))], AV.fl [.int .i64] (bif b then ([] : List AV) else (bif decide (a1 > a0_1) then ([] : List AV) else (ro (runW (R16_0 a1 a0_0 (a0_0.length : Int) (v40_0 a0_0 a0_1 a0_2 a0_3 a0_4) (v43_0 a0_2 a0_3 a0_4 a2_0 a2_1) (v43_1 a0_2 a0_3 a0_4 a2_0 a2_1) (v43_2 a0_2 a0_3 a0_4 a2_0 a2_1) 0 (v40_1 a0_0 a0_1 a0_2 a0_3 a0_4) (v43_3 a0_2 a0_3 a0_4 a2_0 a2_1)) (((a0_0.length : Int) - 0).toNat + 1) (0, ([] : List AV))) [] (fun p56 => p56)))), AV.bool (bif b then false else (bif decide (a1 > a0_1) then false else true))])) (fun _ => rfl) (br (fun b => some (AV.tup [AV.agg [AV.fl [.int .i64, .int .i64, .int .i64, .int .i64] (v40_0 a0_0 a0_1 a0_2 a0_3 a0_4), AV.int .i64 (v40_1 a0_0 a0_1 a0_2 a0_3 a0_4), AV.fl [.int .i64] (bif b then (v40_2 a0_0 a0_1 a0_2 a0_3 a0_4) else (v43_0 a0_2 a0_3 a0_4 a2_0 a2_1)), AV.fl [.int .i64] (bif b then (v40_3 a0_0 a0_1 a0_2 a0_3 a0_4) else (v43_1 a0_2 a0_3 a0_4 a2_0 a2_1)), AV.fl [.int .i64, .int .i64] (bif b then (v40_4 a0_0 a0_1 a0_2 a0_3 a0_4) else (v43_2 a0_2 a0_3 a0_4 a2_0 a2_1))], AV.fl [.int .i64] (bif b then ([] : List AV) else (ro (runW (R16_0 a1 a0_0 (a0_0.length : Int) (v40_0 a0_0 a0_1 a0_2 a0_3 a0_4) (v43_0 a0_2 a0_3 a0_4 a2_0 a2_1) (v43_1 a0_2 a0_3 a0_4 a2_0 a2_1) (v43_2 a0_2 a0_3 a0_4 a2_0 a2_1) 0 (v40_1 a0_0 a0_1 a0_2 a0_3 a0_4) (v43_3 a0_2 a0_3 a0_4 a2_0 a2_1)) (((a0_0.length : Int) - 0).toNat + 1) (0, ([] : List AV))) [] (fun p56 => p56))), AV.bool (bif b then false else true)])) (fun _ => rfl) (brL (brO (fun o : Option (((List AV))) => some (AV.tup [AV.agg [AV.fl [.int .i64, .int .i64, .int .i64, .int .i64] (v40_0 a0_0 a0_1 a0_2 a0_3 a0_4), AV.int .i64 (v40_1 a0_0 a0_1 a0_2 a0_3 a0_4), AV.fl [.int .i64] (v43_0 a0_2 a0_3 a0_4 a2_0 a2_1), AV.fl [.int .i64] (v43_1 a0_2 a0_3 a0_4 a2_0 a2_1), AV.fl [.int .i64, .int .i64] (v43_2 a0_2 a0_3 a0_4 a2_0 a2_1)], AV.fl [.int .i64] (ro o [] (fun p56 => p56)), AV.bool true])) (fun p56 => (fun _ => rfl)))))))))) h)
def m16 : TModel
  | [.agg [.sl g0 a0_0, .int .i64 a0_1, .sl g1 a0_2, .sl g2 a0_3, .sl g3 a0_4], .int .i64 a1, .agg [.int .i64 a2_0, .int .i64 a2_1]] => bif ctsEq g0 ([.int .i64, .int .i64, .int .i64, .int .i64]) && ctsEq g1 ([.int .i64]) && ctsEq g2 ([.int .i64]) && ctsEq g3 ([.int .i64, .int .i64]) then some (q16 a0_0 a0_1 a0_2 a0_3 a0_4 a1 a2_0 a2_1, AV.tup [AV.agg [AV.fl [.int .i64, .int .i64, .int .i64, .int .i64] (v16_0 a0_0 a0_1 a0_2 a0_3 a0_4 a1 a2_0 a2_1), AV.int .i64 (v16_1 a0_0 a0_1 a0_2 a0_3 a0_4 a1 a2_0 a2_1), AV.fl [.int .i64] (v16_2 a0_0 a0_1 a0_2 a0_3 a0_4 a1 a2_0 a2_1), AV.fl [.int .i64] (v16_3 a0_0 a0_1 a0_2 a0_3 a0_4 a1 a2_0 a2_1), AV.fl [.int .i64, .int .i64] (v16_4 a0_0 a0_1 a0_2 a0_3 a0_4 a1 a2_0 a2_1)], AV.fl [.int .i64] (v16_5 a0_0 a0_1 a0_2 a0_3 a0_4 a1 a2_0 a2_1), AV.bool (v16_6 a0_0 a0_1 a0_2 a0_3 a0_4 a1 a2_0 a2_1)]) else none
  | _ => none
theorem k16 : Known Tryz.prog 16 := ⟨Tryz.f16, Tryz.func16, by kernel_rfl, by kernel_rfl⟩
theorem meets16 : Meets Tryz.prog 16 m16 := by
  refine meet (f := Tryz.f16) (l := [(0, sub [1, 1, 1, 1, 1, 1, 0, 1, 0, 0] (body Tryz.f16))]) (hs := [(16, 0, [1, 6, 9, 11, 12, 47, 48, 49]), (16, 999, [6, 7, 8]), (16, 1000, [6, 9, 12]), (16, 1001, [1, 6, 9, 11, 12, 47, 48, 49])]) (ts := [(40, m40), (41, m41), (42, m42), (43, m43), (44, m44), (45, m45)]) (ws := []) (is := []) (ls := [(16, 0, l16_0)]) (lvl := 0) mixed k16 Tryz.func16 (by kernel_rfl) (loops_cons ok16_0 noLoop) (allT_cons meets40 (allT_cons meets41 (allT_cons meets42 (allT_cons meets43 (allT_cons meets44 (allT_cons meets45 allT_nil)))))) allM_nil noI fun w xs us r hl hv h => ?_
  unfold m16 at h
  split at h
  · rename_i g0 a0_0 a0_1 g1 a0_2 g2 a0_3 g3 a0_4 a1 a2_0 a2_1
    obtain ⟨hg, h⟩ := bif_pair h
    simp only [Bool.and_eq_true] at hg
    obtain ⟨⟨⟨q0, q1⟩, q2⟩, q3⟩ := hg
    obtain rfl := ctsEq_eq _ _ q0
    obtain rfl := ctsEq_eq _ _ q1
    obtain rfl := ctsEq_eq _ _ q2
    obtain rfl := ctsEq_eq _ _ q3
    obtain ⟨h1, rfl⟩ := pair_inj h
    exact r16 a0_0 a0_1 a0_2 a0_3 a0_4 a1 a2_0 a2_1 h1
  · cases h

/-! ### 78 loop.example/g01984/laws.eqStamp -/
noncomputable def c78 : Cfg := cfg Tryz.prog [(78, 999, [4])] [] [] [] []
def q78 (a0_0 : Int) (a0_1 : Int) (a0_2 : Int) (a0_3 : Int) (a1_0 : Int) (a1_1 : Int) (a1_2 : Int) (a1_3 : Int) : Bool := true
def v78_0 (a0_0 : Int) (a0_1 : Int) (a0_2 : Int) (a0_3 : Int) (a1_0 : Int) (a1_1 : Int) (a1_2 : Int) (a1_3 : Int) : Bool := (bif !decide (a0_0 = a1_0) then false else (bif !decide (a0_1 = a1_1) then false else (bif !decide (a0_2 = a1_2) then false else (bif !decide (a0_3 = a1_3) then false else true))))
theorem e78 (a0_0 : Int) (a0_1 : Int) (a0_2 : Int) (a0_3 : Int) (a1_0 : Int) (a1_1 : Int) (a1_2 : Int) (a1_3 : Int) : funA c78 0 78 [AV.agg [AV.int .i64 a0_0, AV.int .i64 a0_1, AV.int .i64 a0_2, AV.int .i64 a0_3], AV.agg [AV.int .i64 a1_0, AV.int .i64 a1_1, AV.int .i64 a1_2, AV.int .i64 a1_3]] = (bif !decide (a0_0 = a1_0) then some (AV.bool false)
  else (bif !decide (a0_1 = a1_1) then some (AV.bool false)
  else (bif !decide (a0_2 = a1_2) then some (AV.bool false)
  else (bif !decide (a0_3 = a1_3) then some (AV.bool false)
  else some (AV.bool true))))) := by kernel_rfl
theorem r78 (a0_0 : Int) (a0_1 : Int) (a0_2 : Int) (a0_3 : Int) (a1_0 : Int) (a1_1 : Int) (a1_2 : Int) (a1_3 : Int) : funA c78 0 78 [AV.agg [AV.int .i64 a0_0, AV.int .i64 a0_1, AV.int .i64 a0_2, AV.int .i64 a0_3], AV.agg [AV.int .i64 a1_0, AV.int .i64 a1_1, AV.int .i64 a1_2, AV.int .i64 a1_3]] = some (AV.bool (v78_0 a0_0 a0_1 a0_2 a0_3 a1_0 a1_1 a1_2 a1_3)) := (e78 a0_0 a0_1 a0_2 a0_3 a1_0 a1_1 a1_2 a1_3).trans (of_tt (brT (fun b => some (AV.bool (bif b then false else (bif !decide (a0_1 = a1_1) then false else (bif !decide (a0_2 = a1_2) then false else (bif !decide (a0_3 = a1_3) then false else true)))))) (fun _ => rfl) (brT (fun b => some (AV.bool (bif b then false else (bif !decide (a0_2 = a1_2) then false else (bif !decide (a0_3 = a1_3) then false else true))))) (fun _ => rfl) (brT (fun b => some (AV.bool (bif b then false else (bif !decide (a0_3 = a1_3) then false else true)))) (fun _ => rfl) (brT (fun b => some (AV.bool (bif b then false else true))) (fun _ => rfl) (fun _ => rfl))))))
def m78 : TModel
  | [.agg [.int .i64 a0_0, .int .i64 a0_1, .int .i64 a0_2, .int .i64 a0_3], .agg [.int .i64 a1_0, .int .i64 a1_1, .int .i64 a1_2, .int .i64 a1_3]] => some (true, AV.bool (v78_0 a0_0 a0_1 a0_2 a0_3 a1_0 a1_1 a1_2 a1_3))
  | _ => none
theorem k78 : Known Tryz.prog 78 := ⟨Tryz.f78, Tryz.func78, by kernel_rfl, by kernel_rfl⟩
theorem meets78 : Meets Tryz.prog 78 m78 := by
  refine meet (f := Tryz.f78) (l := []) (hs := [(78, 999, [4])]) (ts := []) (ws := []) (is := []) (ls := []) (lvl := 0) mixed k78 Tryz.func78 (by kernel_rfl) noLoop allT_nil allM_nil noI fun w xs us r hl hv h => ?_
  unfold m78 at h
  split at h
  · rename_i a0_0 a0_1 a0_2 a0_3 a1_0 a1_1 a1_2 a1_3
    obtain ⟨h1, rfl⟩ := pair_inj h
    exact r78 a0_0 a0_1 a0_2 a0_3 a1_0 a1_1 a1_2 a1_3
  · cases h

/-! ### 46 loop.example/g01984/laws.eqStampS -/
def F46_0 (t0 : List AV) (t1 : List AV) (t5 : Int) : Out (Int) (Unit ⊕ Unit) := (bif decide (t5 < (t0.length : Int)) then (bif (decide (0 ≤ t5) && decide (t5 < (t0.length : Int))) then (bif (decide (0 ≤ t5) && decide (t5 < (t1.length : Int))) then (bif !(v78_0 (fI (t0.getD t5.toNat AV.undef) 0) (fI (t0.getD t5.toNat AV.undef) 1) (fI (t0.getD t5.toNat AV.undef) 2) (fI (t0.getD t5.toNat AV.undef) 3) (fI (t1.getD t5.toNat AV.undef) 0) (fI (t1.getD t5.toNat AV.undef) 1) (fI (t1.getD t5.toNat AV.undef) 2) (fI (t1.getD t5.toNat AV.undef) 3)) then .stop (.inr ())
  else .next (IntKind.i64.wrap (t5 + 1)))
  else .fail)
  else .fail)
  else .stop (.inl ()))
def R46_0 (t0 : List AV) (t1 : List AV) : (Int) → Out (Int) (Unit ⊕ Unit) := fun s : Int => F46_0 t0 t1 s
def l46_0 : LModel := fun _ _ st k => match st with
  | ⟨[(0, .sl g0 t0), (1, .sl g1 t1), (5, .int .i64 t5)], []⟩ => bif ctsEq g0 ([.int .i64, .int .i64, .int .i64, .int .i64]) && ctsEq g1 ([.int .i64, .int .i64, .int .i64, .int .i64]) then ro (runW (R46_0 t0 t1) (((t0.length : Int) - t5).toNat + 1) t5) none (sumE (fun _ : Unit => k (.exit 0) ⟨[], []⟩) (fun _ : Unit => k .ret ⟨[(4, AV.bool false)], []⟩)) else none
  | _ => none
noncomputable def c46 : Cfg := cfg Tryz.prog [(46, 0, [0, 1, 5]), (46, 999, [4]), (46, 1000, []), (46, 1001, [0, 1, 5])] [(78, m78)] [] [] [(46, 0, l46_0)]
theorem s46_0 (ce : CallE) (t0 : List AV) (t1 : List AV) (t5 : Int) (next : St → Option AV) (k : Kont) : stepA (codeA c46 ce [] 46 0 (sub [1, 1, 0, 1, 0, 0] (body Tryz.f46))) (normA [] [0, 1, 5]) next ⟨[(0, AV.sl [.int .i64, .int .i64, .int .i64, .int .i64] t0), (1, AV.sl [.int .i64, .int .i64, .int .i64, .int .i64] t1), (5, AV.int .i64 t5)], []⟩ k = (bif decide (t5 < (t0.length : Int)) then (bif (decide (0 ≤ t5) && decide (t5 < (t0.length : Int))) then (bif (decide (0 ≤ t5) && decide (t5 < (t1.length : Int))) then (bif !(v78_0 (fI (t0.getD t5.toNat AV.undef) 0) (fI (t0.getD t5.toNat AV.undef) 1) (fI (t0.getD t5.toNat AV.undef) 2) (fI (t0.getD t5.toNat AV.undef) 3) (fI (t1.getD t5.toNat AV.undef) 0) (fI (t1.getD t5.toNat AV.undef) 1) (fI (t1.getD t5.toNat AV.undef) 2) (fI (t1.getD t5.toNat AV.undef) 3)) then k .ret ⟨[(4, AV.bool false)], []⟩
  else next ⟨[(0, AV.sl [.int .i64, .int .i64, .int .i64, .int .i64] t0), (1, AV.sl [.int .i64, .int .i64, .int .i64, .int .i64] t1), (5, AV.int .i64 (IntKind.i64.wrap (t5 + 1)))], []⟩)
  else none)
  else none)
  else k (.exit 0) ⟨[], []⟩) := by kernel_rfl
theorem st46_0 (t0 : List AV) (t1 : List AV) (ce : CallE) (k : Kont) (s : Int) (next : St → Option AV) : stepA (codeA c46 ce [] 46 0 (sub [1, 1, 0, 1, 0, 0] (body Tryz.f46))) (normA [] [0, 1, 5]) next ((fun s : Int => ⟨[(0, AV.sl [.int .i64, .int .i64, .int .i64, .int .i64] t0), (1, AV.sl [.int .i64, .int .i64, .int .i64, .int .i64] t1), (5, AV.int .i64 s)], []⟩) s) k = (R46_0 t0 t1 s).el none (fun s => next ((fun s : Int => ⟨[(0, AV.sl [.int .i64, .int .i64, .int .i64, .int .i64] t0), (1, AV.sl [.int .i64, .int .i64, .int .i64, .int .i64] t1), (5, AV.int .i64 s)], []⟩) s)) (sumE (fun _ : Unit => k (.exit 0) ⟨[], []⟩) (fun _ : Unit => k .ret ⟨[(4, AV.bool false)], []⟩)) := (s46_0 ce t0 t1 s next k).trans (by unfold R46_0; unfold F46_0; simp only [el_cond, el_ro, el_sum, el_fail, el_next, el_stop] <;> rfl)
theorem ok46_0 {ce : CallE} : LoopOK c46 ce [] 46 0 (sub [1, 1, 0, 1, 0, 0] (body Tryz.f46)) := by
  intro m hm st k r h
  obtain rfl : l46_0 = m := Option.some.inj hm
  unfold l46_0 at h
  split at h
  · rename_i g0 t0 g1 t1 t5
    obtain ⟨hg, h⟩ := bif_some h
    simp only [Bool.and_eq_true] at hg
    obtain ⟨q0, q1⟩ := hg
    obtain rfl := ctsEq_eq _ _ q0
    obtain rfl := ctsEq_eq _ _ q1
    refine ⟨(((t0.length : Int) - t5).toNat + 1), ?_⟩
    rw [← h]
    exact loop_run (fun s : Int => ⟨[(0, AV.sl [.int .i64, .int .i64, .int .i64, .int .i64] t0), (1, AV.sl [.int .i64, .int .i64, .int .i64, .int .i64] t1), (5, AV.int .i64 s)], []⟩) (sumE (fun _ : Unit => k (.exit 0) ⟨[], []⟩) (fun _ : Unit => k .ret ⟨[(4, AV.bool false)], []⟩)) (st46_0 t0 t1 ce k) _ t5
  · cases h
def q46 (a0 : List AV) (a1 : List AV) : Bool := (bif !decide ((a0.length : Int) = (a1.length : Int)) then true else (ro (runW (R46_0 a0 a1) (((a0.length : Int) - 0).toNat + 1) 0) false (sumE (fun _ => true) (fun _ => true))))
def v46_0 (a0 : List AV) (a1 : List AV) : Bool := (bif !decide ((a0.length : Int) = (a1.length : Int)) then false else (ro (runW (R46_0 a0 a1) (((a0.length : Int) - 0).toNat + 1) 0) false (sumE (fun _ => true) (fun _ => false))))
theorem e46 (a0 : List AV) (a1 : List AV) : funA c46 0 46 [AV.sl [.int .i64, .int .i64, .int .i64, .int .i64] a0, AV.sl [.int .i64, .int .i64, .int .i64, .int .i64] a1] = (bif !decide ((a0.length : Int) = (a1.length : Int)) then some (AV.bool false)
  else (ro (runW (R46_0 a0 a1) (((a0.length : Int) - 0).toNat + 1) 0) none (sumE (fun _ => some (AV.bool true)) (fun _ => some (AV.bool false))))) := by kernel_rfl
theorem r46 (a0 : List AV) (a1 : List AV) (h : q46 a0 a1 = true) : funA c46 0 46 [AV.sl [.int .i64, .int .i64, .int .i64, .int .i64] a0, AV.sl [.int .i64, .int .i64, .int .i64, .int .i64] a1] = some (AV.bool (v46_0 a0 a1)) := (e46 a0 a1).trans ((br (fun b => some (AV.bool (bif b then false else (ro (runW (R46_0 a0 a1) (((a0.length : Int) - 0).toNat + 1) 0) false (sumE (fun _ => true) (fun _ => false)))))) (fun _ => rfl) (brO (fun o : Option (Unit ⊕ Unit) => some (AV.bool (ro o false (sumE (fun _ => true) (fun _ => false))))) (brS (fun o : Unit ⊕ Unit => some (AV.bool ((sumE (fun _ => true) (fun _ => false)) o))) (fun _ => (fun _ => rfl)) (fun _ => (fun _ => rfl))))) h)
def m46 : TModel
  | [.sl g0 a0, .sl g1 a1] => bif ctsEq g0 ([.int .i64, .int .i64, .int .i64, .int .i64]) && ctsEq g1 ([.int .i64, .int .i64, .int .i64, .int .i64]) then some (q46 a0 a1, AV.bool (v46_0 a0 a1)) else none
  | _ => none
theorem k46 : Known Tryz.prog 46 := ⟨Tryz.f46, Tryz.func46, by kernel_rfl, by kernel_rfl⟩
theorem meets46 : Meets Tryz.prog 46 m46 := by
  refine meet (f := Tryz.f46) (l := [(0, sub [1, 1, 0, 1, 0, 0] (body Tryz.f46))]) (hs := [(46, 0, [0, 1, 5]), (46, 999, [4]), (46, 1000, []), (46, 1001, [0, 1, 5])]) (ts := [(78, m78)]) (ws := []) (is := []) (ls := [(46, 0, l46_0)]) (lvl := 0) mixed k46 Tryz.func46 (by kernel_rfl) (loops_cons ok46_0 noLoop) (allT_cons meets78 allT_nil) allM_nil noI fun w xs us r hl hv h => ?_
  unfold m46 at h
  split at h
  · rename_i g0 a0 g1 a1
    obtain ⟨hg, h⟩ := bif_pair h
    simp only [Bool.and_eq_true] at hg
    obtain ⟨q0, q1⟩ := hg
    obtain rfl := ctsEq_eq _ _ q0
    obtain rfl := ctsEq_eq _ _ q1
    obtain ⟨h1, rfl⟩ := pair_inj h
    exact r46 a0 a1 h1
  · cases h

/-! ### 10 loop.example/g01984/laws.eqIntS -/
def F10_0 (t0 : List AV) (t1 : List AV) (t5 : Int) : Out (Int) (Unit ⊕ Unit) := (bif decide (t5 < (t0.length : Int)) then (bif (decide (0 ≤ t5) && decide (t5 < (t0.length : Int))) then (bif (decide (0 ≤ t5) && decide (t5 < (t1.length : Int))) then (bif !decide (fI (t0.getD t5.toNat AV.undef) 0 = fI (t1.getD t5.toNat AV.undef) 0) then .stop (.inr ())
  else .next (IntKind.i64.wrap (t5 + 1)))
  else .fail)
  else .fail)
  else .stop (.inl ()))
def R10_0 (t0 : List AV) (t1 : List AV) : (Int) → Out (Int) (Unit ⊕ Unit) := fun s : Int => F10_0 t0 t1 s
def l10_0 : LModel := fun _ _ st k => match st with
  | ⟨[(0, .sl g0 t0), (1, .sl g1 t1), (5, .int .i64 t5)], []⟩ => bif ctsEq g0 ([.int .i64]) && ctsEq g1 ([.int .i64]) then ro (runW (R10_0 t0 t1) (((t0.length : Int) - t5).toNat + 1) t5) none (sumE (fun _ : Unit => k (.exit 0) ⟨[], []⟩) (fun _ : Unit => k .ret ⟨[(4, AV.bool false)], []⟩)) else none
  | _ => none
noncomputable def c10 : Cfg := cfg Tryz.prog [(10, 0, [0, 1, 5]), (10, 999, [4]), (10, 1000, []), (10, 1001, [0, 1, 5])] [] [] [] [(10, 0, l10_0)]
theorem s10_0 (ce : CallE) (t0 : List AV) (t1 : List AV) (t5 : Int) (next : St → Option AV) (k : Kont) : stepA (codeA c10 ce [] 10 0 (sub [1, 1, 0, 1, 0, 0] (body Tryz.f10))) (normA [] [0, 1, 5]) next ⟨[(0, AV.sl [.int .i64] t0), (1, AV.sl [.int .i64] t1), (5, AV.int .i64 t5)], []⟩ k = (bif decide (t5 < (t0.length : Int)) then (bif (decide (0 ≤ t5) && decide (t5 < (t0.length : Int))) then (bif (decide (0 ≤ t5) && decide (t5 < (t1.length : Int))) then (bif !decide (fI (t0.getD t5.toNat AV.undef) 0 = fI (t1.getD t5.toNat AV.undef) 0) then k .ret ⟨[(4, AV.bool false)], []⟩
  else next ⟨[(0, AV.sl [.int .i64] t0), (1, AV.sl [.int .i64] t1), (5, AV.int .i64 (IntKind.i64.wrap (t5 + 1)))], []⟩)
  else none)
  else none)
  else k (.exit 0) ⟨[], []⟩) := by kernel_rfl
theorem st10_0 (t0 : List AV) (t1 : List AV) (ce : CallE) (k : Kont) (s : Int) (next : St → Option AV) : stepA (codeA c10 ce [] 10 0 (sub [1, 1, 0, 1, 0, 0] (body Tryz.f10))) (normA [] [0, 1, 5]) next ((fun s : Int => ⟨[(0, AV.sl [.int .i64] t0), (1, AV.sl [.int .i64] t1), (5, AV.int .i64 s)], []⟩) s) k = (R10_0 t0 t1 s).el none (fun s => next ((fun s : Int => ⟨[(0, AV.sl [.int .i64] t0), (1, AV.sl [.int .i64] t1), (5, AV.int .i64 s)], []⟩) s)) (sumE (fun _ : Unit => k (.exit 0) ⟨[], []⟩) (fun _ : Unit => k .ret ⟨[(4, AV.bool false)], []⟩)) := (s10_0 ce t0 t1 s next k).trans (by unfold R10_0; unfold F10_0; simp only [el_cond, el_ro, el_sum, el_fail, el_next, el_stop] <;> rfl)
theorem ok10_0 {ce : CallE} : LoopOK c10 ce [] 10 0 (sub [1, 1, 0, 1, 0, 0] (body Tryz.f10)) := by
  intro m hm st k r h
  obtain rfl : l10_0 = m := Option.some.inj hm
  unfold l10_0 at h
  split at h
  · rename_i g0 t0 g1 t1 t5
    obtain ⟨hg, h⟩ := bif_some h
    simp only [Bool.and_eq_true] at hg
    obtain ⟨q0, q1⟩ := hg
    obtain rfl := ctsEq_eq _ _ q0
    obtain rfl := ctsEq_eq _ _ q1
    refine ⟨(((t0.length : Int) - t5).toNat + 1), ?_⟩
    rw [← h]
    exact loop_run (fun s : Int => ⟨[(0, AV.sl [.int .i64] t0), (1, AV.sl [.int .i64] t1), (5, AV.int .i64 s)], []⟩) (sumE (fun _ : Unit => k (.exit 0) ⟨[], []⟩) (fun _ : Unit => k .ret ⟨[(4, AV.bool false)], []⟩)) (st10_0 t0 t1 ce k) _ t5
  · cases h
def q10 (a0 : List AV) (a1 : List AV) : Bool := (bif !decide ((a0.length : Int) = (a1.length : Int)) then true else (ro (runW (R10_0 a0 a1) (((a0.length : Int) - 0).toNat + 1) 0) false (sumE (fun _ => true) (fun _ => true))))
def v10_0 (a0 : List AV) (a1 : List AV) : Bool := (bif !decide ((a0.length : Int) = (a1.length : Int)) then false else (ro (runW (R10_0 a0 a1) (((a0.length : Int) - 0).toNat + 1) 0) false (sumE (fun _ => true) (fun _ => false))))
theorem e10 (a0 : List AV) (a1 : List AV) : funA c10 0 10 [AV.sl [.int .i64] a0, AV.sl [.int .i64] a1] = (bif !decide ((a0.length : Int) = (a1.length : Int)) then some (AV.bool false)
  else (ro (runW (R10_0 a0 a1) (((a0.length : Int) - 0).toNat + 1) 0) none (sumE (fun _ => some (AV.bool true)) (fun _ => some (AV.bool false))))) := by kernel_rfl
theorem r10 (a0 : List AV) (a1 : List AV) (h : q10 a0 a1 = true) : funA c10 0 10 [AV.sl [.int .i64] a0, AV.sl [.int .i64] a1] = some (AV.bool (v10_0 a0 a1)) := (e10 a0 a1).trans ((br (fun b => some (AV.bool (bif b then false else (ro (runW (R10_0 a0 a1) (((a0.length : Int) - 0).toNat + 1) 0) false (sumE (fun _ => true) (fun _ => false)))))) (fun _ => rfl) (brO (fun o : Option (Unit ⊕ Unit) => some (AV.bool (ro o false (sumE (fun _ => true) (fun _ => false))))) (brS (fun o : Unit ⊕ Unit => some (AV.bool ((sumE (fun _ => true) (fun _ => false)) o))) (fun _ => (fun _ => rfl)) (fun _ => (fun _ => rfl))))) h)
def m10 : TModel
  | [.sl g0 a0, .sl g1 a1] => bif ctsEq g0 ([.int .i64]) && ctsEq g1 ([.int .i64]) then some (q10 a0 a1, AV.bool (v10_0 a0 a1)) else none
  | _ => none
theorem k10 : Known Tryz.prog 10 := ⟨Tryz.f10, Tryz.func10, by kernel_rfl, by kernel_rfl⟩
theorem meets10 : Meets Tryz.prog 10 m10 := by
  refine meet (f := Tryz.f10) (l := [(0, sub [1, 1, 0, 1, 0, 0] (body Tryz.f10))]) (hs := [(10, 0, [0, 1, 5]), (10, 999, [4]), (10, 1000, []), (10, 1001, [0, 1, 5])]) (ts := []) (ws := []) (is := []) (ls := [(10, 0, l10_0)]) (lvl := 0) mixed k10 Tryz.func10 (by kernel_rfl) (loops_cons ok10_0 noLoop) allT_nil allM_nil noI fun w xs us r hl hv h => ?_
  unfold m10 at h
  split at h
  · rename_i g0 a0 g1 a1
    obtain ⟨hg, h⟩ := bif_pair h
    simp only [Bool.and_eq_true] at hg
    obtain ⟨q0, q1⟩ := hg
    obtain rfl := ctsEq_eq _ _ q0
    obtain rfl := ctsEq_eq _ _ q1
    obtain ⟨h1, rfl⟩ := pair_inj h
    exact r10 a0 a1 h1
  · cases h

/-! ### 100 loop.example/g01984/laws.eqPivot -/
noncomputable def c100 : Cfg := cfg Tryz.prog [(100, 999, [4])] [] [] [] []
def q100 (a0_0 : Int) (a0_1 : Int) (a1_0 : Int) (a1_1 : Int) : Bool := true
def v100_0 (a0_0 : Int) (a0_1 : Int) (a1_0 : Int) (a1_1 : Int) : Bool := (bif !decide (a0_0 = a1_0) then false else (bif !decide (a0_1 = a1_1) then false else true))
theorem e100 (a0_0 : Int) (a0_1 : Int) (a1_0 : Int) (a1_1 : Int) : funA c100 0 100 [AV.agg [AV.int .i64 a0_0, AV.int .i64 a0_1], AV.agg [AV.int .i64 a1_0, AV.int .i64 a1_1]] = (bif !decide (a0_0 = a1_0) then some (AV.bool false)
  else (bif !decide (a0_1 = a1_1) then some (AV.bool false)
  else some (AV.bool true))) := by kernel_rfl
theorem r100 (a0_0 : Int) (a0_1 : Int) (a1_0 : Int) (a1_1 : Int) : funA c100 0 100 [AV.agg [AV.int .i64 a0_0, AV.int .i64 a0_1], AV.agg [AV.int .i64 a1_0, AV.int .i64 a1_1]] = some (AV.bool (v100_0 a0_0 a0_1 a1_0 a1_1)) := (e100 a0_0 a0_1 a1_0 a1_1).trans (of_tt (brT (fun b => some (AV.bool (bif b then false else (bif !decide (a0_1 = a1_1) then false else true)))) (fun _ => rfl) (brT (fun b => some (AV.bool (bif b then false else true))) (fun _ => rfl) (fun _ => rfl))))
def m100 : TModel
  | [.agg [.int .i64 a0_0, .int .i64 a0_1], .agg [.int .i64 a1_0, .int .i64 a1_1]] => some (true, AV.bool (v100_0 a0_0 a0_1 a1_0 a1_1))
  | _ => none
theorem k100 : Known Tryz.prog 100 := ⟨Tryz.f100, Tryz.func100, by kernel_rfl, by kernel_rfl⟩
theorem meets100 : Meets Tryz.prog 100 m100 := by
  refine meet (f := Tryz.f100) (l := []) (hs := [(100, 999, [4])]) (ts := []) (ws := []) (is := []) (ls := []) (lvl := 0) mixed k100 Tryz.func100 (by kernel_rfl) noLoop allT_nil allM_nil noI fun w xs us r hl hv h => ?_
  unfold m100 at h
  split at h
  · rename_i a0_0 a0_1 a1_0 a1_1
    obtain ⟨h1, rfl⟩ := pair_inj h
    exact r100 a0_0 a0_1 a1_0 a1_1
  · cases h

/-! ### 79 loop.example/g01984/laws.eqPivotS -/
def F79_0 (t0 : List AV) (t1 : List AV) (t5 : Int) : Out (Int) (Unit ⊕ Unit) := (bif decide (t5 < (t0.length : Int)) then (bif (decide (0 ≤ t5) && decide (t5 < (t0.length : Int))) then (bif (decide (0 ≤ t5) && decide (t5 < (t1.length : Int))) then (bif !(v100_0 (fI (t0.getD t5.toNat AV.undef) 0) (fI (t0.getD t5.toNat AV.undef) 1) (fI (t1.getD t5.toNat AV.undef) 0) (fI (t1.getD t5.toNat AV.undef) 1)) then .stop (.inr ())
  else .next (IntKind.i64.wrap (t5 + 1)))
  else .fail)
  else .fail)
  else .stop (.inl ()))
def R79_0 (t0 : List AV) (t1 : List AV) : (Int) → Out (Int) (Unit ⊕ Unit) := fun s : Int => F79_0 t0 t1 s
def l79_0 : LModel := fun _ _ st k => match st with
  | ⟨[(0, .sl g0 t0), (1, .sl g1 t1), (5, .int .i64 t5)], []⟩ => bif ctsEq g0 ([.int .i64, .int .i64]) && ctsEq g1 ([.int .i64, .int .i64]) then ro (runW (R79_0 t0 t1) (((t0.length : Int) - t5).toNat + 1) t5) none (sumE (fun _ : Unit => k (.exit 0) ⟨[], []⟩) (fun _ : Unit => k .ret ⟨[(4, AV.bool false)], []⟩)) else none
  | _ => none
noncomputable def c79 : Cfg := cfg Tryz.prog [(79, 0, [0, 1, 5]), (79, 999, [4]), (79, 1000, []), (79, 1001, [0, 1, 5])] [(100, m100)] [] [] [(79, 0, l79_0)]
theorem s79_0 (ce : CallE) (t0 : List AV) (t1 : List AV) (t5 : Int) (next : St → Option AV) (k : Kont) : stepA (codeA c79 ce [] 79 0 (sub [1, 1, 0, 1, 0, 0] (body Tryz.f79))) (normA [] [0, 1, 5]) next ⟨[(0, AV.sl [.int .i64, .int .i64] t0), (1, AV.sl [.int .i64, .int .i64] t1), (5, AV.int .i64 t5)], []⟩ k = (bif decide (t5 < (t0.length : Int)) then (bif (decide (0 ≤ t5) && decide (t5 < (t0.length : Int))) then (bif (decide (0 ≤ t5) && decide (t5 < (t1.length : Int))) then (bif !(v100_0 (fI (t0.getD t5.toNat AV.undef) 0) (fI (t0.getD t5.toNat AV.undef) 1) (fI (t1.getD t5.toNat AV.undef) 0) (fI (t1.getD t5.toNat AV.undef) 1)) then k .ret ⟨[(4, AV.bool false)], []⟩
  else next ⟨[(0, AV.sl [.int .i64, .int .i64] t0), (1, AV.sl [.int .i64, .int .i64] t1), (5, AV.int .i64 (IntKind.i64.wrap (t5 + 1)))], []⟩)
  else none)
  else none)
  else k (.exit 0) ⟨[], []⟩) := by kernel_rfl
theorem st79_0 (t0 : List AV) (t1 : List AV) (ce : CallE) (k : Kont) (s : Int) (next : St → Option AV) : stepA (codeA c79 ce [] 79 0 (sub [1, 1, 0, 1, 0, 0] (body Tryz.f79))) (normA [] [0, 1, 5]) next ((fun s : Int => ⟨[(0, AV.sl [.int .i64, .int .i64] t0), (1, AV.sl [.int .i64, .int .i64] t1), (5, AV.int .i64 s)], []⟩) s) k = (R79_0 t0 t1 s).el none (fun s => next ((fun s : Int => ⟨[(0, AV.sl [.int .i64, .int .i64] t0), (1, AV.sl [.int .i64, .int .i64] t1), (5, AV.int .i64 s)], []⟩) s)) (sumE (fun _ : Unit => k (.exit 0) ⟨[], []⟩) (fun _ : Unit => k .ret ⟨[(4, AV.bool false)], []⟩)) := (s79_0 ce t0 t1 s next k).trans (by unfold R79_0; unfold F79_0; simp only [el_cond, el_ro, el_sum, el_fail, el_next, el_stop] <;> rfl)
theorem ok79_0 {ce : CallE} : LoopOK c79 ce [] 79 0 (sub [1, 1, 0, 1, 0, 0] (body Tryz.f79)) := by
  intro m hm st k r h
  obtain rfl : l79_0 = m := Option.some.inj hm
  unfold l79_0 at h
  split at h
  · rename_i g0 t0 g1 t1 t5
    obtain ⟨hg, h⟩ := bif_some h
    simp only [Bool.and_eq_true] at hg
    obtain ⟨q0, q1⟩ := hg
    obtain rfl := ctsEq_eq _ _ q0
    obtain rfl := ctsEq_eq _ _ q1
    refine ⟨(((t0.length : Int) - t5).toNat + 1), ?_⟩
    rw [← h]
    exact loop_run (fun s : Int => ⟨[(0, AV.sl [.int .i64, .int .i64] t0), (1, AV.sl [.int .i64, .int .i64] t1), (5, AV.int .i64 s)], []⟩) (sumE (fun _ : Unit => k (.exit 0) ⟨[], []⟩) (fun _ : Unit => k .ret ⟨[(4, AV.bool false)], []⟩)) (st79_0 t0 t1 ce k) _ t5
  · cases h
def q79 (a0 : List AV) (a1 : List AV) : Bool := (bif !decide ((a0.length : Int) = (a1.length : Int)) then true else (ro (runW (R79_0 a0 a1) (((a0.length : Int) - 0).toNat + 1) 0) false (sumE (fun _ => true) (fun _ => true))))
def v79_0 (a0 : List AV) (a1 : List AV) : Bool := (bif !decide ((a0.length : Int) = (a1.length : Int)) then false else (ro (runW (R79_0 a0 a1) (((a0.length : Int) - 0).toNat + 1) 0) false (sumE (fun _ => true) (fun _ => false))))
theorem e79 (a0 : List AV) (a1 : List AV) : funA c79 0 79 [AV.sl [.int .i64, .int .i64] a0, AV.sl [.int .i64, .int .i64] a1] = (bif !decide ((a0.length : Int) = (a1.length : Int)) then some (AV.bool false)
  else (ro (runW (R79_0 a0 a1) (((a0.length : Int) - 0).toNat + 1) 0) none (sumE (fun _ => some (AV.bool true)) (fun _ => some (AV.bool false))))) := by kernel_rfl
theorem r79 (a0 : List AV) (a1 : List AV) (h : q79 a0 a1 = true) : funA c79 0 79 [AV.sl [.int .i64, .int .i64] a0, AV.sl [.int .i64, .int .i64] a1] = some (AV.bool (v79_0 a0 a1)) := (e79 a0 a1).trans ((br (fun b => some (AV.bool (bif b then false else (ro (runW (R79_0 a0 a1) (((a0.length : Int) - 0).toNat + 1) 0) false (sumE (fun _ => true) (fun _ => false)))))) (fun _ => rfl) (brO (fun o : Option (Unit ⊕ Unit) => some (AV.bool (ro o false (sumE (fun _ => true) (fun _ => false))))) (brS (fun o : Unit ⊕ Unit => some (AV.bool ((sumE (fun _ => true) (fun _ => false)) o))) (fun _ => (fun _ => rfl)) (fun _ => (fun _ => rfl))))) h)
def m79 : TModel
  | [.sl g0 a0, .sl g1 a1] => bif ctsEq g0 ([.int .i64, .int .i64]) && ctsEq g1 ([.int .i64, .int .i64]) then some (q79 a0 a1, AV.bool (v79_0 a0 a1)) else none
  | _ => none
theorem k79 : Known Tryz.prog 79 := ⟨Tryz.f79, Tryz.func79, by kernel_rfl, by kernel_rfl⟩
theorem meets79 : Meets Tryz.prog 79 m79 := by
  refine meet (f := Tryz.f79) (l := [(0, sub [1, 1, 0, 1, 0, 0] (body Tryz.f79))]) (hs := [(79, 0, [0, 1, 5]), (79, 999, [4]), (79, 1000, []), (79, 1001, [0, 1, 5])]) (ts := [(100, m100)]) (ws := []) (is := []) (ls := [(79, 0, l79_0)]) (lvl := 0) mixed k79 Tryz.func79 (by kernel_rfl) (loops_cons ok79_0 noLoop) (allT_cons meets100 allT_nil) allM_nil noI fun w xs us r hl hv h => ?_
  unfold m79 at h
  split at h
  · rename_i g0 a0 g1 a1
    obtain ⟨hg, h⟩ := bif_pair h
    simp only [Bool.and_eq_true] at hg
    obtain ⟨q0, q1⟩ := hg
    obtain rfl := ctsEq_eq _ _ q0
    obtain rfl := ctsEq_eq _ _ q1
    obtain ⟨h1, rfl⟩ := pair_inj h
    exact r79 a0 a1 h1
  · cases h

/-! ### 47 loop.example/g01984/laws.eqCracker -/
noncomputable def c47 : Cfg := cfg Tryz.prog [(47, 999, [4])] [(10, m10), (79, m79)] [] [] []
def q47 (a0_0 : List AV) (a0_1 : List AV) (a0_2 : List AV) (a1_0 : List AV) (a1_1 : List AV) (a1_2 : List AV) : Bool := (q10 a0_0 a1_0 && (bif !(v10_0 a0_0 a1_0) then true else (q10 a0_1 a1_1 && (bif !(v10_0 a0_1 a1_1) then true else q79 a0_2 a1_2))))
def v47_0 (a0_0 : List AV) (a0_1 : List AV) (a0_2 : List AV) (a1_0 : List AV) (a1_1 : List AV) (a1_2 : List AV) : Bool := (bif !(v10_0 a0_0 a1_0) then false else (bif !(v10_0 a0_1 a1_1) then false else (bif !(v79_0 a0_2 a1_2) then false else true)))
theorem e47 (a0_0 : List AV) (a0_1 : List AV) (a0_2 : List AV) (a1_0 : List AV) (a1_1 : List AV) (a1_2 : List AV) : funA c47 0 47 [AV.agg [AV.sl [.int .i64] a0_0, AV.sl [.int .i64] a0_1, AV.sl [.int .i64, .int .i64] a0_2], AV.agg [AV.sl [.int .i64] a1_0, AV.sl [.int .i64] a1_1, AV.sl [.int .i64, .int .i64] a1_2]] = (bif q10 a0_0 a1_0 then (bif !(v10_0 a0_0 a1_0) then some (AV.bool false)
  else (bif q10 a0_1 a1_1 then (bif !(v10_0 a0_1 a1_1) then some (AV.bool false)
  else (bif q79 a0_2 a1_2 then (bif !(v79_0 a0_2 a1_2) then some (AV.bool false)
  else some (AV.bool true))
  else none))
  else none))
  else none) := by kernel_rfl
theorem r47 (a0_0 : List AV) (a0_1 : List AV) (a0_2 : List AV) (a1_0 : List AV) (a1_1 : List AV) (a1_2 : List AV) (h : q47 a0_0 a0_1 a0_2 a1_0 a1_1 a1_2 = true) : funA c47 0 47 [AV.agg [AV.sl [.int .i64] a0_0, AV.sl [.int .i64] a0_1, AV.sl [.int .i64, .int .i64] a0_2], AV.agg [AV.sl [.int .i64] a1_0, AV.sl [.int .i64] a1_1, AV.sl [.int .i64, .int .i64] a1_2]] = some (AV.bool (v47_0 a0_0 a0_1 a0_2 a1_0 a1_1 a1_2)) := (e47 a0_0 a0_1 a0_2 a1_0 a1_1 a1_2).trans ((brL (br (fun b => some (AV.bool (bif b then false else (bif !(v10_0 a0_1 a1_1) then false else (bif !(v79_0 a0_2 a1_2) then false else true))))) (fun _ => rfl) (brL (br (fun b => some (AV.bool (bif b then false else (bif !(v79_0 a0_2 a1_2) then false else true)))) (fun _ => rfl) (brL1 (brT (fun b => some (AV.bool (bif b then false else true))) (fun _ => rfl) (fun _ => rfl))))))) h)
def m47 : TModel
  | [.agg [.sl g0 a0_0, .sl g1 a0_1, .sl g2 a0_2], .agg [.sl g3 a1_0, .sl g4 a1_1, .sl g5 a1_2]] => bif ctsEq g0 ([.int .i64]) && ctsEq g1 ([.int .i64]) && ctsEq g2 ([.int .i64, .int .i64]) && ctsEq g3 ([.int .i64]) && ctsEq g4 ([.int .i64]) && ctsEq g5 ([.int .i64, .int .i64]) then some (q47 a0_0 a0_1 a0_2 a1_0 a1_1 a1_2, AV.bool (v47_0 a0_0 a0_1 a0_2 a1_0 a1_1 a1_2)) else none
  | _ => none
theorem k47 : Known Tryz.prog 47 := ⟨Tryz.f47, Tryz.func47, by kernel_rfl, by kernel_rfl⟩
theorem meets47 : Meets Tryz.prog 47 m47 := by
  refine meet (f := Tryz.f47) (l := []) (hs := [(47, 999, [4])]) (ts := [(10, m10), (79, m79)]) (ws := []) (is := []) (ls := []) (lvl := 0) mixed k47 Tryz.func47 (by kernel_rfl) noLoop (allT_cons meets10 (allT_cons meets79 allT_nil)) allM_nil noI fun w xs us r hl hv h => ?_
  unfold m47 at h
  split at h
  · rename_i g0 a0_0 g1 a0_1 g2 a0_2 g3 a1_0 g4 a1_1 g5 a1_2
    obtain ⟨hg, h⟩ := bif_pair h
    simp only [Bool.and_eq_true] at hg
    obtain ⟨⟨⟨⟨⟨q0, q1⟩, q2⟩, q3⟩, q4⟩, q5⟩ := hg
    obtain rfl := ctsEq_eq _ _ q0
    obtain rfl := ctsEq_eq _ _ q1
    obtain rfl := ctsEq_eq _ _ q2
    obtain rfl := ctsEq_eq _ _ q3
    obtain rfl := ctsEq_eq _ _ q4
    obtain rfl := ctsEq_eq _ _ q5
    obtain ⟨h1, rfl⟩ := pair_inj h
    exact r47 a0_0 a0_1 a0_2 a1_0 a1_1 a1_2 h1
  · cases h

/-! ### 17 loop.example/g01984/laws.eqStore -/
noncomputable def c17 : Cfg := cfg Tryz.prog [(17, 999, [4])] [(46, m46), (47, m47)] [] [] []
def q17 (a0_0 : List AV) (a0_1 : Int) (a0_2 : List AV) (a0_3 : List AV) (a0_4 : List AV) (a1_0 : List AV) (a1_1 : Int) (a1_2 : List AV) (a1_3 : List AV) (a1_4 : List AV) : Bool := (q46 a0_0 a1_0 && (bif !(v46_0 a0_0 a1_0) then true else (bif !decide (a0_1 = a1_1) then true else q47 a0_2 a0_3 a0_4 a1_2 a1_3 a1_4)))
def v17_0 (a0_0 : List AV) (a0_1 : Int) (a0_2 : List AV) (a0_3 : List AV) (a0_4 : List AV) (a1_0 : List AV) (a1_1 : Int) (a1_2 : List AV) (a1_3 : List AV) (a1_4 : List AV) : Bool := (bif !(v46_0 a0_0 a1_0) then false else (bif !decide (a0_1 = a1_1) then false else (bif !(v47_0 a0_2 a0_3 a0_4 a1_2 a1_3 a1_4) then false else true)))
theorem e17 (a0_0 : List AV) (a0_1 : Int) (a0_2 : List AV) (a0_3 : List AV) (a0_4 : List AV) (a1_0 : List AV) (a1_1 : Int) (a1_2 : List AV) (a1_3 : List AV) (a1_4 : List AV) : funA c17 0 17 [AV.agg [AV.sl [.int .i64, .int .i64, .int .i64, .int .i64] a0_0, AV.int .i64 a0_1, AV.sl [.int .i64] a0_2, AV.sl [.int .i64] a0_3, AV.sl [.int .i64, .int .i64] a0_4], AV.agg [AV.sl [.int .i64, .int .i64, .int .i64, .int .i64] a1_0, AV.int .i64 a1_1, AV.sl [.int .i64] a1_2, AV.sl [.int .i64] a1_3, AV.sl [.int .i64, .int .i64] a1_4]] = (bif q46 a0_0 a1_0 then (bif !(v46_0 a0_0 a1_0) then some (AV.bool false)
  else (bif !decide (a0_1 = a1_1) then some (AV.bool false)
  else (bif q47 a0_2 a0_3 a0_4 a1_2 a1_3 a1_4 then (bif !(v47_0 a0_2 a0_3 a0_4 a1_2 a1_3 a1_4) then some (AV.bool false)
  else some (AV.bool true))
  else none)))
  else none) := by kernel_rfl
theorem r17 (a0_0 : List AV) (a0_1 : Int) (a0_2 : List AV) (a0_3 : List AV) (a0_4 : List AV) (a1_0 : List AV) (a1_1 : Int) (a1_2 : List AV) (a1_3 : List AV) (a1_4 : List AV) (h : q17 a0_0 a0_1 a0_2 a0_3 a0_4 a1_0 a1_1 a1_2 a1_3 a1_4 = true) : funA c17 0 17 [AV.agg [AV.sl [.int .i64, .int .i64, .int .i64, .int .i64] a0_0, AV.int .i64 a0_1, AV.sl [.int .i64] a0_2, AV.sl [.int .i64] a0_3, AV.sl [.int .i64, .int .i64] a0_4], AV.agg [AV.sl [.int .i64, .int .i64, .int .i64, .int .i64] a1_0, AV.int .i64 a1_1, AV.sl [.int .i64] a1_2, AV.sl [.int .i64] a1_3, AV.sl [.int .i64, .int .i64] a1_4]] = some (AV.bool (v17_0 a0_0 a0_1 a0_2 a0_3 a0_4 a1_0 a1_1 a1_2 a1_3 a1_4)) := (e17 a0_0 a0_1 a0_2 a0_3 a0_4 a1_0 a1_1 a1_2 a1_3 a1_4).trans ((brL (br (fun b => some (AV.bool (bif b then false else (bif !decide (a0_1 = a1_1) then false else (bif !(v47_0 a0_2 a0_3 a0_4 a1_2 a1_3 a1_4) then false else true))))) (fun _ => rfl) (br (fun b => some (AV.bool (bif b then false else (bif !(v47_0 a0_2 a0_3 a0_4 a1_2 a1_3 a1_4) then false else true)))) (fun _ => rfl) (brL1 (brT (fun b => some (AV.bool (bif b then false else true))) (fun _ => rfl) (fun _ => rfl)))))) h)
def m17 : TModel
  | [.agg [.sl g0 a0_0, .int .i64 a0_1, .sl g1 a0_2, .sl g2 a0_3, .sl g3 a0_4], .agg [.sl g4 a1_0, .int .i64 a1_1, .sl g5 a1_2, .sl g6 a1_3, .sl g7 a1_4]] => bif ctsEq g0 ([.int .i64, .int .i64, .int .i64, .int .i64]) && ctsEq g1 ([.int .i64]) && ctsEq g2 ([.int .i64]) && ctsEq g3 ([.int .i64, .int .i64]) && ctsEq g4 ([.int .i64, .int .i64, .int .i64, .int .i64]) && ctsEq g5 ([.int .i64]) && ctsEq g6 ([.int .i64]) && ctsEq g7 ([.int .i64, .int .i64]) then some (q17 a0_0 a0_1 a0_2 a0_3 a0_4 a1_0 a1_1 a1_2 a1_3 a1_4, AV.bool (v17_0 a0_0 a0_1 a0_2 a0_3 a0_4 a1_0 a1_1 a1_2 a1_3 a1_4)) else none
  | _ => none
theorem k17 : Known Tryz.prog 17 := ⟨Tryz.f17, Tryz.func17, by kernel_rfl, by kernel_rfl⟩
theorem meets17 : Meets Tryz.prog 17 m17 := by
  refine meet (f := Tryz.f17) (l := []) (hs := [(17, 999, [4])]) (ts := [(46, m46), (47, m47)]) (ws := []) (is := []) (ls := []) (lvl := 0) mixed k17 Tryz.func17 (by kernel_rfl) noLoop (allT_cons meets46 (allT_cons meets47 allT_nil)) allM_nil noI fun w xs us r hl hv h => ?_
  unfold m17 at h
  split at h
  · rename_i g0 a0_0 a0_1 g1 a0_2 g2 a0_3 g3 a0_4 g4 a1_0 a1_1 g5 a1_2 g6 a1_3 g7 a1_4
    obtain ⟨hg, h⟩ := bif_pair h
    simp only [Bool.and_eq_true] at hg
    obtain ⟨⟨⟨⟨⟨⟨⟨q0, q1⟩, q2⟩, q3⟩, q4⟩, q5⟩, q6⟩, q7⟩ := hg
    obtain rfl := ctsEq_eq _ _ q0
    obtain rfl := ctsEq_eq _ _ q1
    obtain rfl := ctsEq_eq _ _ q2
    obtain rfl := ctsEq_eq _ _ q3
    obtain rfl := ctsEq_eq _ _ q4
    obtain rfl := ctsEq_eq _ _ q5
    obtain rfl := ctsEq_eq _ _ q6
    obtain rfl := ctsEq_eq _ _ q7
    obtain ⟨h1, rfl⟩ := pair_inj h
    exact r17 a0_0 a0_1 a0_2 a0_3 a0_4 a1_0 a1_1 a1_2 a1_3 a1_4 h1
  · cases h

/-! ### 48 loop.example/g01984/laws.markStampS -/
def F48_0 (t1 : Int) (t5 : Int) (h0 : List AV) : Out ((Int × Int × (List AV))) ((Int × (List AV))) := (bif decide (t5 < (h0.length : Int)) then (bif (decide (0 ≤ t5) && decide (t5 < (h0.length : Int))) then (bif (decide (0 ≤ t5) && decide (t5 < ((h0.set t5.toNat (AV.agg [AV.int .i64 t1, AV.int .i64 (fI (h0.getD t5.toNat AV.undef) 1), AV.int .i64 (fI (h0.getD t5.toNat AV.undef) 2), AV.int .i64 (fI (h0.getD t5.toNat AV.undef) 3)])).length : Int))) then (bif (decide (0 ≤ t5) && decide (t5 < (((h0.set t5.toNat (AV.agg [AV.int .i64 t1, AV.int .i64 (fI (h0.getD t5.toNat AV.undef) 1), AV.int .i64 (fI (h0.getD t5.toNat AV.undef) 2), AV.int .i64 (fI (h0.getD t5.toNat AV.undef) 3)])).set t5.toNat (AV.agg [AV.int .i64 (fI ((h0.set t5.toNat (AV.agg [AV.int .i64 t1, AV.int .i64 (fI (h0.getD t5.toNat AV.undef) 1), AV.int .i64 (fI (h0.getD t5.toNat AV.undef) 2), AV.int .i64 (fI (h0.getD t5.toNat AV.undef) 3)])).getD t5.toNat AV.undef) 0), AV.int .i64 (IntKind.i64.wrap (t1 + 1)), AV.int .i64 (fI ((h0.set t5.toNat (AV.agg [AV.int .i64 t1, AV.int .i64 (fI (h0.getD t5.toNat AV.undef) 1), AV.int .i64 (fI (h0.getD t5.toNat AV.undef) 2), AV.int .i64 (fI (h0.getD t5.toNat AV.undef) 3)])).getD t5.toNat AV.undef) 2), AV.int .i64 (fI ((h0.set t5.toNat (AV.agg [AV.int .i64 t1, AV.int .i64 (fI (h0.getD t5.toNat AV.undef) 1), AV.int .i64 (fI (h0.getD t5.toNat AV.undef) 2), AV.int .i64 (fI (h0.getD t5.toNat AV.undef) 3)])).getD t5.toNat AV.undef) 3)])).length : Int))) then (bif (decide (0 ≤ t5) && decide (t5 < ((((h0.set t5.toNat (AV.agg [AV.int .i64 t1, AV.int .i64 (fI (h0.getD t5.toNat AV.undef) 1), AV.int .i64 (fI (h0.getD t5.toNat AV.undef) 2), AV.int .i64 (fI (h0.getD t5.toNat AV.undef) 3)])).set t5.toNat (AV.agg [AV.int .i64 (fI ((h0.set t5.toNat (AV.agg [AV.int .i64 t1, AV.int .i64 (fI (h0.getD t5.toNat AV.undef) 1), AV.int .i64 (fI (h0.getD t5.toNat AV.undef) 2), AV.int .i64 (fI (h0.getD t5.toNat AV.undef) 3)])).getD t5.toNat AV.undef) 0), AV.int .i64 (IntKind.i64.wrap (t1 + 1)), AV.int .i64 (fI ((h0.set t5.toNat (AV.agg [AV.int .i64 t1, AV.int .i64 (fI (h0.getD t5.toNat AV.undef) 1), AV.int .i64 (fI (h0.getD t5.toNat AV.undef) 2), AV.int .i64 (fI (h0.getD t5.toNat AV.undef) 3)])).getD t5.toNat AV.undef) 2), AV.int .i64 (fI ((h0.set t5.toNat (AV.agg [AV.int .i64 t1, AV.int .i64 (fI (h0.getD t5.toNat AV.undef) 1), AV.int .i64 (fI (h0.getD t5.toNat AV.undef) 2), AV.int .i64 (fI (h0.getD t5.toNat AV.undef) 3)])).getD t5.toNat AV.undef) 3)])).set t5.toNat (AV.agg [AV.int .i64 (fI (((h0.set t5.toNat (AV.agg [AV.int .i64 t1, AV.int .i64 (fI (h0.getD t5.toNat AV.undef) 1), AV.int .i64 (fI (h0.getD t5.toNat AV.undef) 2), AV.int .i64 (fI (h0.getD t5.toNat AV.undef) 3)])).set t5.toNat (AV.agg [AV.int .i64 (fI ((h0.set t5.toNat (AV.agg [AV.int .i64 t1, AV.int .i64 (fI (h0.getD t5.toNat AV.undef) 1), AV.int .i64 (fI (h0.getD t5.toNat AV.undef) 2), AV.int .i64 (fI (h0.getD t5.toNat AV.undef) 3)])).getD t5.toNat AV.undef) 0), AV.int .i64 (IntKind.i64.wrap (t1 + 1)), AV.int .i64 (fI ((h0.set t5.toNat (AV.agg [AV.int .i64 t1, AV.int .i64 (fI (h0.getD t5.toNat AV.undef) 1), AV.int .i64 (fI (h0.getD t5.toNat AV.undef) 2), AV.int .i64 (fI (h0.getD t5.toNat AV.undef) 3)])).getD t5.toNat AV.undef) 2), AV.int .i64 (fI ((h0.set t5.toNat (AV.agg [AV.int .i64 t1, AV.int .i64 (fI (h0.getD t5.toNat AV.undef) 1), AV.int .i64 (fI (h0.getD t5.toNat AV.undef) 2), AV.int .i64 (fI (h0.getD t5.toNat AV.undef) 3)])).getD t5.toNat AV.undef) 3)])).getD t5.toNat AV.undef) 0), AV.int .i64 (fI (((h0.set t5.toNat (AV.agg [AV.int .i64 t1, AV.int .i64 (fI (h0.getD t5.toNat AV.undef) 1), AV.int .i64 (fI (h0.getD t5.toNat AV.undef) 2), AV.int .i64 (fI (h0.getD t5.toNat AV.undef) 3)])).set t5.toNat (AV.agg [AV.int .i64 (fI ((h0.set t5.toNat (AV.agg [AV.int .i64 t1, AV.int .i64 (fI (h0.getD t5.toNat AV.undef) 1), AV.int .i64 (fI (h0.getD t5.toNat AV.undef) 2), AV.int .i64 (fI (h0.getD t5.toNat AV.undef) 3)])).getD t5.toNat AV.undef) 0), AV.int .i64 (IntKind.i64.wrap (t1 + 1)), AV.int .i64 (fI ((h0.set t5.toNat (AV.agg [AV.int .i64 t1, AV.int .i64 (fI (h0.getD t5.toNat AV.undef) 1), AV.int .i64 (fI (h0.getD t5.toNat AV.undef) 2), AV.int .i64 (fI (h0.getD t5.toNat AV.undef) 3)])).getD t5.toNat AV.undef) 2), AV.int .i64 (fI ((h0.set t5.toNat (AV.agg [AV.int .i64 t1, AV.int .i64 (fI (h0.getD t5.toNat AV.undef) 1), AV.int .i64 (fI (h0.getD t5.toNat AV.undef) 2), AV.int .i64 (fI (h0.getD t5.toNat AV.undef) 3)])).getD t5.toNat AV.undef) 3)])).getD t5.toNat AV.undef) 1), AV.int .i64 (IntKind.i64.wrap (IntKind.i64.wrap (t1 + 1) + 1)), AV.int .i64 (fI (((h0.set t5.toNat (AV.agg [AV.int .i64 t1, AV.int .i64 (fI (h0.getD t5.toNat AV.undef) 1), AV.int .i64 (fI (h0.getD t5.toNat AV.undef) 2), AV.int .i64 (fI (h0.getD t5.toNat AV.undef) 3)])).set t5.toNat (AV.agg [AV.int .i64 (fI ((h0.set t5.toNat (AV.agg [AV.int .i64 t1, AV.int .i64 (fI (h0.getD t5.toNat AV.undef) 1), AV.int .i64 (fI (h0.getD t5.toNat AV.undef) 2), AV.int .i64 (fI (h0.getD t5.toNat AV.undef) 3)])).getD t5.toNat AV.undef) 0), AV.int .i64 (IntKind.i64.wrap (t1 + 1)), AV.int .i64 (fI ((h0.set t5.toNat (AV.agg [AV.int .i64 t1, AV.int .i64 (fI (h0.getD t5.toNat AV.undef) 1), AV.int .i64 (fI (h0.getD t5.toNat AV.undef) 2), AV.int .i64 (fI (h0.getD t5.toNat AV.undef) 3)])).getD t5.toNat AV.undef) 2), AV.int .i64 (fI ((h0.set t5.toNat (AV.agg [AV.int .i64 t1, AV.int .i64 (fI (h0.getD t5.toNat AV.undef) 1), AV.int .i64 (fI (h0.getD t5.toNat AV.undef) 2), AV.int .i64 (fI (h0.getD t5.toNat AV.undef) 3)])).getD t5.toNat AV.undef) 3)])).getD t5.toNat AV.undef) 3)])).length : Int))) then .next (IntKind.i64.wrap (IntKind.i64.wrap (IntKind.i64.wrap (IntKind.i64.wrap (t1 + 1) + 1) + 1) + 1), IntKind.i64.wrap (t5 + 1), (((h0.set t5.toNat (AV.agg [AV.int .i64 t1, AV.int .i64 (fI (h0.getD t5.toNat AV.undef) 1), AV.int .i64 (fI (h0.getD t5.toNat AV.undef) 2), AV.int .i64 (fI (h0.getD t5.toNat AV.undef) 3)])).set t5.toNat (AV.agg [AV.int .i64 (fI ((h0.set t5.toNat (AV.agg [AV.int .i64 t1, AV.int .i64 (fI (h0.getD t5.toNat AV.undef) 1), AV.int .i64 (fI (h0.getD t5.toNat AV.undef) 2), AV.int .i64 (fI (h0.getD t5.toNat AV.undef) 3)])).getD t5.toNat AV.undef) 0), AV.int .i64 (IntKind.i64.wrap (t1 + 1)), AV.int .i64 (fI ((h0.set t5.toNat (AV.agg [AV.int .i64 t1, AV.int .i64 (fI (h0.getD t5.toNat AV.undef) 1), AV.int .i64 (fI (h0.getD t5.toNat AV.undef) 2), AV.int .i64 (fI (h0.getD t5.toNat AV.undef) 3)])).getD t5.toNat AV.undef) 2), AV.int .i64 (fI ((h0.set t5.toNat (AV.agg [AV.int .i64 t1, AV.int .i64 (fI (h0.getD t5.toNat AV.undef) 1), AV.int .i64 (fI (h0.getD t5.toNat AV.undef) 2), AV.int .i64 (fI (h0.getD t5.toNat AV.undef) 3)])).getD t5.toNat AV.undef) 3)])).set t5.toNat (AV.agg [AV.int .i64 (fI (((h0.set t5.toNat (AV.agg [AV.int .i64 t1, AV.int .i64 (fI (h0.getD t5.toNat AV.undef) 1), AV.int .i64 (fI (h0.getD t5.toNat AV.undef) 2), AV.int .i64 (fI (h0.getD t5.toNat AV.undef) 3)])).set t5.toNat (AV.agg [AV.int .i64 (fI ((h0.set t5.toNat (AV.agg [AV.int .i64 t1, AV.int .i64 (fI (h0.getD t5.toNat AV.undef) 1), AV.int .i64 (fI (h0.getD t5.toNat AV.undef) 2), AV.int .i64 (fI (h0.getD t5.toNat AV.undef) 3)])).getD t5.toNat AV.undef) 0), AV.int .i64 (IntKind.i64.wrap (t1 + 1)), AV.int .i64 (fI ((h0.set t5.toNat (AV.agg [AV.int .i64 t1, AV.int .i64 (fI (h0.getD t5.toNat AV.undef) 1), AV.int .i64 (fI (h0.getD t5.toNat AV.undef) 2), AV.int .i64 (fI (h0.getD t5.toNat AV.undef) 3)])).getD t5.toNat AV.undef) 2), AV.int .i64 (fI ((h0.set t5.toNat (AV.agg [AV.int .i64 t1, AV.int .i64 (fI (h0.getD t5.toNat AV.undef) 1), AV.int .i64 (fI (h0.getD t5.toNat AV.undef) 2), AV.int .i64 (fI (h0.getD t5.toNat AV.undef) 3)])).getD t5.toNat AV.undef) 3)])).getD t5.toNat AV.undef) 0), AV.int .i64 (fI (((h0.set t5.toNat (AV.agg [AV.int .i64 t1, AV.int .i64 (fI (h0.getD t5.toNat AV.undef) 1), AV.int .i64 (fI (h0.getD t5.toNat AV.undef) 2), AV.int .i64 (fI (h0.getD t5.toNat AV.undef) 3)])).set t5.toNat (AV.agg [AV.int .i64 (fI ((h0.set t5.toNat (AV.agg [AV.int .i64 t1, AV.int .i64 (fI (h0.getD t5.toNat AV.undef) 1), AV.int .i64 (fI (h0.getD t5.toNat AV.undef) 2), AV.int .i64 (fI (h0.getD t5.toNat AV.undef) 3)])).getD t5.toNat AV.undef) 0), AV.int .i64 (IntKind.i64.wrap (t1 + 1)), AV.int .i64 (fI ((h0.set t5.toNat (AV.agg [AV.int .i64 t1, AV.int .i64 (fI (h0.getD t5.toNat AV.undef) 1), AV.int .i64 (fI (h0.getD t5.toNat AV.undef) 2), AV.int .i64 (fI (h0.getD t5.toNat AV.undef) 3)])).getD t5.toNat AV.undef) 2), AV.int .i64 (fI ((h0.set t5.toNat (AV.agg [AV.int .i64 t1, AV.int .i64 (fI (h0.getD t5.toNat AV.undef) 1), AV.int .i64 (fI (h0.getD t5.toNat AV.undef) 2), AV.int .i64 (fI (h0.getD t5.toNat AV.undef) 3)])).getD t5.toNat AV.undef) 3)])).getD t5.toNat AV.undef) 1), AV.int .i64 (IntKind.i64.wrap (IntKind.i64.wrap (t1 + 1) + 1)), AV.int .i64 (fI (((h0.set t5.toNat (AV.agg [AV.int .i64 t1, AV.int .i64 (fI (h0.getD t5.toNat AV.undef) 1), AV.int .i64 (fI (h0.getD t5.toNat AV.undef) 2), AV.int .i64 (fI (h0.getD t5.toNat AV.undef) 3)])).set t5.toNat (AV.agg [AV.int .i64 (fI ((h0.set t5.toNat (AV.agg [AV.int .i64 t1, AV.int .i64 (fI (h0.getD t5.toNat AV.undef) 1), AV.int .i64 (fI (h0.getD t5.toNat AV.undef) 2), AV.int .i64 (fI (h0.getD t5.toNat AV.undef) 3)])).getD t5.toNat AV.undef) 0), AV.int .i64 (IntKind.i64.wrap (t1 + 1)), AV.int .i64 (fI ((h0.set t5.toNat (AV.agg [AV.int .i64 t1, AV.int .i64 (fI (h0.getD t5.toNat AV.undef) 1), AV.int .i64 (fI (h0.getD t5.toNat AV.undef) 2), AV.int .i64 (fI (h0.getD t5.toNat AV.undef) 3)])).getD t5.toNat AV.undef) 2), AV.int .i64 (fI ((h0.set t5.toNat (AV.agg [AV.int .i64 t1, AV.int .i64 (fI (h0.getD t5.toNat AV.undef) 1), AV.int .i64 (fI (h0.getD t5.toNat AV.undef) 2), AV.int .i64 (fI (h0.getD t5.toNat AV.undef) 3)])).getD t5.toNat AV.undef) 3)])).getD t5.toNat AV.undef) 3)])).set t5.toNat (AV.agg [AV.int .i64 (fI ((((h0.set t5.toNat (AV.agg [AV.int .i64 t1, AV.int .i64 (fI (h0.getD t5.toNat AV.undef) 1), AV.int .i64 (fI (h0.getD t5.toNat AV.undef) 2), AV.int .i64 (fI (h0.getD t5.toNat AV.undef) 3)])).set t5.toNat (AV.agg [AV.int .i64 (fI ((h0.set t5.toNat (AV.agg [AV.int .i64 t1, AV.int .i64 (fI (h0.getD t5.toNat AV.undef) 1), AV.int .i64 (fI (h0.getD t5.toNat AV.undef) 2), AV.int .i64 (fI (h0.getD t5.toNat AV.undef) 3)])).getD t5.toNat AV.undef) 0), AV.int .i64 (IntKind.i64.wrap (t1 + 1)), AV.int .i64 (fI ((h0.set t5.toNat (AV.agg [AV.int .i64 t1, AV.int .i64 (fI (h0.getD t5.toNat AV.undef) 1), AV.int .i64 (fI (h0.getD t5.toNat AV.undef) 2), AV.int .i64 (fI (h0.getD t5.toNat AV.undef) 3)])).getD t5.toNat AV.undef) 2), AV.int .i64 (fI ((h0.set t5.toNat (AV.agg [AV.int .i64 t1, AV.int .i64 (fI (h0.getD t5.toNat AV.undef) 1), AV.int .i64 (fI (h0.getD t5.toNat AV.undef) 2), AV.int .i64 (fI (h0.getD t5.toNat AV.undef) 3)])).getD t5.toNat AV.undef) 3)])).set t5.toNat (AV.agg [AV.int .i64 (fI (((h0.set t5.toNat (AV.agg [AV.int .i64 t1, AV.int .i64 (fI (h0.getD t5.toNat AV.undef) 1), AV.int .i64 (fI (h0.getD t5.toNat AV.undef) 2), AV.int .i64 (fI (h0.getD t5.toNat AV.undef) 3)])).set t5.toNat (AV.agg [AV.int .i64 (fI ((h0.set t5.toNat (AV.agg [AV.int .i64 t1, AV.int .i64 (fI (h0.getD t5.toNat AV.undef) 1), AV.int .i64 (fI (h0.getD t5.toNat AV.undef) 2), AV.int .i64 (fI (h0.getD t5.toNat AV.undef) 3)])).getD t5.toNat AV.undef) 0), AV.int .i64 (IntKind.i64.wrap (t1 + 1)), AV.int .i64 (fI ((h0.set t5.toNat (AV.agg [AV.int .i64 t1, AV.int .i64 (fI (h0.getD t5.toNat AV.undef) 1), AV.int .i64 (fI (h0.getD t5.toNat AV.undef) 2), AV.int .i64 (fI (h0.getD t5.toNat AV.undef) 3)])).getD t5.toNat AV.undef) 2), AV.int .i64 (fI ((h0.set t5.toNat (AV.agg [AV.int .i64 t1, AV.int .i64 (fI (h0.getD t5.toNat AV.undef) 1), AV.int .i64 (fI (h0.getD t5.toNat AV.undef) 2), AV.int .i64 (fI (h0.getD t5.toNat AV.undef) 3)])).getD t5.toNat AV.undef) 3)])).getD t5.toNat AV.undef) 0), AV.int .i64 (fI (((h0.set t5.toNat (AV.agg [AV.int .i64 t1, AV.int .i64 (fI (h0.getD t5.toNat AV.undef) 1), AV.int .i64 (fI (h0.getD t5.toNat AV.undef) 2), AV.int .i64 (fI (h0.getD t5.toNat AV.undef) 3)])).set t5.toNat (AV.agg [AV.int .i64 (fI ((h0.set t5.toNat (AV.agg [AV.int .i64 t1, AV.int .i64 (fI (h0.getD t5.toNat AV.undef) 1), AV.int .i64 (fI (h0.getD t5.toNat AV.undef) 2), AV.int .i64 (fI (h0.getD t5.toNat AV.undef) 3)])).getD t5.toNat AV.undef) 0), AV.int .i64 (IntKind.i64.wrap (t1 + 1)), AV.int .i64 (fI ((h0.set t5.toNat (AV.agg [AV.int .i64 t1, AV.int .i64 (fI (h0.getD t5.toNat AV.undef) 1), AV.int .i64 (fI (h0.getD t5.toNat AV.undef) 2), AV.int .i64 (fI (h0.getD t5.toNat AV.undef) 3)])).getD t5.toNat AV.undef) 2), AV.int .i64 (fI ((h0.set t5.toNat (AV.agg [AV.int .i64 t1, AV.int .i64 (fI (h0.getD t5.toNat AV.undef) 1), AV.int .i64 (fI (h0.getD t5.toNat AV.undef) 2), AV.int .i64 (fI (h0.getD t5.toNat AV.undef) 3)])).getD t5.toNat AV.undef) 3)])).getD t5.toNat AV.undef) 1), AV.int .i64 (IntKind.i64.wrap (IntKind.i64.wrap (t1 + 1) + 1)), AV.int .i64 (fI (((h0.set t5.toNat (AV.agg [AV.int .i64 t1, AV.int .i64 (fI (h0.getD t5.toNat AV.undef) 1), AV.int .i64 (fI (h0.getD t5.toNat AV.undef) 2), AV.int .i64 (fI (h0.getD t5.toNat AV.undef) 3)])).set t5.toNat (AV.agg [AV.int .i64 (fI ((h0.set t5.toNat (AV.agg [AV.int .i64 t1, AV.int .i64 (fI (h0.getD t5.toNat AV.undef) 1), AV.int .i64 (fI (h0.getD t5.toNat AV.undef) 2), AV.int .i64 (fI (h0.getD t5.toNat AV.undef) 3)])).getD t5.toNat AV.undef) 0), AV.int .i64 (IntKind.i64.wrap (t1 + 1)), AV.int .i64 (fI ((h0.set t5.toNat (AV.agg [AV.int .i64 t1, AV.int .i64 (fI (h0.getD t5.toNat AV.undef) 1), AV.int .i64 (fI (h0.getD t5.toNat AV.undef) 2), AV.int .i64 (fI (h0.getD t5.toNat AV.undef) 3)])).getD t5.toNat AV.undef) 2), AV.int .i64 (fI ((h0.set t5.toNat (AV.agg [AV.int .i64 t1, AV.int .i64 (fI (h0.getD t5.toNat AV.undef) 1), AV.int .i64 (fI (h0.getD t5.toNat AV.undef) 2), AV.int .i64 (fI (h0.getD t5.toNat AV.undef) 3)])).getD t5.toNat AV.undef) 3)])).getD t5.toNat AV.undef) 3)])).getD t5.toNat AV.undef) 0), AV.int .i64 (fI ((((h0.set t5.toNat (AV.agg [AV.int .i64 t1, AV.int .i64 (fI (h0.getD t5.toNat AV.undef) 1), AV.int .i64 (fI (h0.getD t5.toNat AV.undef) 2), AV.int .i64 (fI (h0.getD t5.toNat AV.undef) 3)])).set t5.toNat (AV.agg [AV.int .i64 (fI ((h0.set t5.toNat (AV.agg [AV.int .i64 t1, AV.int .i64 (fI (h0.getD t5.toNat AV.undef) 1), AV.int .i64 (fI (h0.getD t5.toNat AV.undef) 2), AV.int .i64 (fI (h0.getD t5.toNat AV.undef) 3)])).getD t5.toNat AV.undef) 0), AV.int .i64 (IntKind.i64.wrap (t1 + 1)), AV.int .i64 (fI ((h0.set t5.toNat (AV.agg [AV.int .i64 t1, AV.int .i64 (fI (h0.getD t5.toNat AV.undef) 1), AV.int .i64 (fI (h0.getD t5.toNat AV.undef) 2), AV.int .i64 (fI (h0.getD t5.toNat AV.undef) 3)])).getD t5.toNat AV.undef) 2), AV.int .i64 (fI ((h0.set t5.toNat (AV.agg [AV.int .i64 t1, AV.int .i64 (fI (h0.getD t5.toNat AV.undef) 1), AV.int .i64 (fI (h0.getD t5.toNat AV.undef) 2), AV.int .i64 (fI (h0.getD t5.toNat AV.undef) 3)])).getD t5.toNat AV.undef) 3)])).set t5.toNat (AV.agg [AV.int .i64 (fI (((h0.set t5.toNat (AV.agg [AV.int .i64 t1, AV.int .i64 (fI (h0.getD t5.toNat AV.undef) 1), AV.int .i64 (fI (h0.getD t5.toNat AV.undef) 2), AV.int .i64 (fI (h0.getD t5.toNat AV.undef) 3)])).set t5.toNat (AV.agg [AV.int .i64 (fI ((h0.set t5.toNat (AV.agg [AV.int .i64 t1, AV.int .i64 (fI (h0.getD t5.toNat AV.undef) 1), AV.int .i64 (fI (h0.getD t5.toNat AV.undef) 2), AV.int .i64 (fI (h0.getD t5.toNat AV.undef) 3)])).getD t5.toNat AV.undef) 0), AV.int .i64 (IntKind.i64.wrap (t1 + 1)), AV.int .i64 (fI ((h0.set t5.toNat (AV.agg [AV.int .i64 t1, AV.int .i64 (fI (h0.getD t5.toNat AV.undef) 1), AV.int .i64 (fI (h0.getD t5.toNat AV.undef) 2), AV.int .i64 (fI (h0.getD t5.toNat AV.undef) 3)])).getD t5.toNat AV.undef) 2), AV.int .i64 (fI ((h0.set t5.toNat (AV.agg [AV.int .i64 t1, AV.int .i64 (fI (h0.getD t5.toNat AV.undef) 1), AV.int .i64 (fI (h0.getD t5.toNat AV.undef) 2), AV.int .i64 (fI (h0.getD t5.toNat AV.undef) 3)])).getD t5.toNat AV.undef) 3)])).getD t5.toNat AV.undef) 0), AV.int .i64 (fI (((h0.set t5.toNat (AV.agg [AV.int .i64 t1, AV.int .i64 (fI (h0.getD t5.toNat AV.undef) 1), AV.int .i64 (fI (h0.getD t5.toNat AV.undef) 2), AV.int .i64 (fI (h0.getD t5.toNat AV.undef) 3)])).set t5.toNat (AV.agg [AV.int .i64 (fI ((h0.set t5.toNat (AV.agg [AV.int .i64 t1, AV.int .i64 (fI (h0.getD t5.toNat AV.undef) 1), AV.int .i64 (fI (h0.getD t5.toNat AV.undef) 2), AV.int .i64 (fI (h0.getD t5.toNat AV.undef) 3)])).getD t5.toNat AV.undef) 0), AV.int .i64 (IntKind.i64.wrap (t1 + 1)), AV.int .i64 (fI ((h0.set t5.toNat (AV.agg [AV.int .i64 t1, AV.int .i64 (fI (h0.getD t5.toNat AV.undef) 1), AV.int .i64 (fI (h0.getD t5.toNat AV.undef) 2), AV.int .i64 (fI (h0.getD t5.toNat AV.undef) 3)])).getD t5.toNat AV.undef) 2), AV.int .i64 (fI ((h0.set t5.toNat (AV.agg [AV.int .i64 t1, AV.int .i64 (fI (h0.getD t5.toNat AV.undef) 1), AV.int .i64 (fI (h0.getD t5.toNat AV.undef) 2), AV.int .i64 (fI (h0.getD t5.toNat AV.undef) 3)])).getD t5.toNat AV.undef) 3)])).getD t5.toNat AV.undef) 1), AV.int .i64 (IntKind.i64.wrap (IntKind.i64.wrap (t1 + 1) + 1)), AV.int .i64 (fI (((h0.set t5.toNat (AV.agg [AV.int .i64 t1, AV.int .i64 (fI (h0.getD t5.toNat AV.undef) 1), AV.int .i64 (fI (h0.getD t5.toNat AV.undef) 2), AV.int .i64 (fI (h0.getD t5.toNat AV.undef) 3)])).set t5.toNat (AV.agg [AV.int .i64 (fI ((h0.set t5.toNat (AV.agg [AV.int .i64 t1, AV.int .i64 (fI (h0.getD t5.toNat AV.undef) 1), AV.int .i64 (fI (h0.getD t5.toNat AV.undef) 2), AV.int .i64 (fI (h0.getD t5.toNat AV.undef) 3)])).getD t5.toNat AV.undef) 0), AV.int .i64 (IntKind.i64.wrap (t1 + 1)), AV.int .i64 (fI ((h0.set t5.toNat (AV.agg [AV.int .i64 t1, AV.int .i64 (fI (h0.getD t5.toNat AV.undef) 1), AV.int .i64 (fI (h0.getD t5.toNat AV.undef) 2), AV.int .i64 (fI (h0.getD t5.toNat AV.undef) 3)])).getD t5.toNat AV.undef) 2), AV.int .i64 (fI ((h0.set t5.toNat (AV.agg [AV.int .i64 t1, AV.int .i64 (fI (h0.getD t5.toNat AV.undef) 1), AV.int .i64 (fI (h0.getD t5.toNat AV.undef) 2), AV.int .i64 (fI (h0.getD t5.toNat AV.undef) 3)])).getD t5.toNat AV.undef) 3)])).getD t5.toNat AV.undef) 3)])).getD t5.toNat AV.undef) 1), AV.int .i64 (fI ((((h0.set t5.toNat (AV.agg [AV.int .i64 t1, AV.int .i64 (fI (h0.getD t5.toNat AV.undef) 1), AV.int .i64 (fI (h0.getD t5.toNat AV.undef) 2), AV.int .i64 (fI (h0.getD t5.toNat AV.undef) 3)])).set t5.toNat (AV.agg [AV.int .i64 (fI ((h0.set t5.toNat (AV.agg [AV.int .i64 t1, AV.int .i64 (fI (h0.getD t5.toNat AV.undef) 1), AV.int .i64 (fI (h0.getD t5.toNat AV.undef) 2), AV.int .i64 (fI (h0.getD t5.toNat AV.undef) 3)])).getD t5.toNat AV.undef) 0), AV.int .i64 (IntKind.i64.wrap (t1 + 1)), AV.int .i64 (fI ((h0.set t5.toNat (AV.agg [AV.int .i64 t1, AV.int .i64 (fI (h0.getD t5.toNat AV.undef) 1), AV.int .i64 (fI (h0.getD t5.toNat AV.undef) 2), AV.int .i64 (fI (h0.getD t5.toNat AV.undef) 3)])).getD t5.toNat AV.undef) 2), AV.int .i64 (fI ((h0.set t5.toNat (AV.agg [AV.int .i64 t1, AV.int .i64 (fI (h0.getD t5.toNat AV.undef) 1), AV.int .i64 (fI (h0.getD t5.toNat AV.undef) 2), AV.int .i64 (fI (h0.getD t5.toNat AV.undef) 3)])).getD t5.toNat AV.undef) 3)])).set t5.toNat (AV.agg [AV.int .i64 (fI (((h0.set t5.toNat (AV.agg [AV.int .i64 t1, AV.int .i64 (fI (h0.getD t5.toNat AV.undef) 1), AV.int .i64 (fI (h0.getD t5.toNat AV.undef) 2), AV.int .i64 (fI (h0.getD t5.toNat AV.undef) 3)])).set t5.toNat (AV.agg [AV.int .i64 (fI ((h0.set t5.toNat (AV.agg [AV.int .i64 t1, AV.int .i64 (fI (h0.getD t5.toNat AV.undef) 1), AV.int .i64 (fI (h0.getD t5.toNat AV.undef) 2), AV.int .i64 (fI (h0.getD t5.toNat AV.undef) 3)])).getD t5.toNat AV.undef) 0), AV.int .i64 (IntKind.i64.wrap (t1 + 1)), AV.int .i64 (fI ((h0.set t5.toNat (AV.agg [AV.int .i64 t1, AV.int .i64 (fI (h0.getD t5.toNat AV.undef) 1), AV.int .i64 (fI (h0.getD t5.toNat AV.undef) 2), AV.int .i64 (fI (h0.getD t5.toNat AV.undef) 3)])).getD t5.toNat AV.undef) 2), AV.int .i64 (fI ((h0.set t5.toNat (AV.agg [AV.int .i64 t1, AV.int .i64 (fI (h0.getD t5.toNat AV.undef) 1), AV.int .i64 (fI (h0.getD t5.toNat AV.undef) 2), AV.int .i64 (fI (h0.getD t5.toNat AV.undef) 3)])).getD t5.toNat AV.undef) 3)])).getD t5.toNat AV.undef) 0), AV.int .i64 (fI (((h0.set t5.toNat (AV.agg [AV.int .i64 t1, AV.int .i64 (fI (h0.getD t5.toNat AV.undef) 1), AV.int .i64 (fI (h0.getD t5.toNat AV.undef) 2), AV.int .i64 (fI (h0.getD t5.toNat AV.undef) 3)])).set t5.toNat (AV.agg [AV.int .i64 (fI ((h0.set t5.toNat (AV.agg [AV.int .i64 t1, AV.int .i64 (fI (h0.getD t5.toNat AV.undef) 1), AV.int .i64 (fI (h0.getD t5.toNat AV.undef) 2), AV.int .i64 (fI (h0.getD t5.toNat AV.undef) 3)])).getD t5.toNat AV.undef) 0), AV.int .i64 (IntKind.i64.wrap (t1 + 1)), AV.int .i64 (fI ((h0.set t5.toNat (AV.agg [AV.int .i64 t1, AV.int .i64 (fI (h0.getD t5.toNat AV.undef) 1), AV.int .i64 (fI (h0.getD t5.toNat AV.undef) 2), AV.int .i64 (fI (h0.getD t5.toNat AV.undef) 3)])).getD t5.toNat AV.undef) 2), AV.int .i64 (fI ((h0.set t5.toNat (AV.agg [AV.int .i64 t1, AV.int .i64 (fI (h0.getD t5.toNat AV.undef) 1), AV.int .i64 (fI (h0.getD t5.toNat AV.undef) 2), AV.int .i64 (fI (h0.getD t5.toNat AV.undef) 3)])).getD t5.toNat AV.undef) 3)])).getD t5.toNat AV.undef) 1), AV.int .i64 (IntKind.i64.wrap (IntKind.i64.wrap (t1 + 1) + 1)), AV.int .i64 (fI (((h0.set t5.toNat (AV.agg [AV.int .i64 t1, AV.int .i64 (fI (h0.getD t5.toNat AV.undef) 1), AV.int .i64 (fI (h0.getD t5.toNat AV.undef) 2), AV.int .i64 (fI (h0.getD t5.toNat AV.undef) 3)])).set t5.toNat (AV.agg [AV.int .i64 (fI ((h0.set t5.toNat (AV.agg [AV.int .i64 t1, AV.int .i64 (fI (h0.getD t5.toNat AV.undef) 1), AV.int .i64 (fI (h0.getD t5.toNat AV.undef) 2), AV.int .i64 (fI (h0.getD t5.toNat AV.undef) 3)])).getD t5.toNat AV.undef) 0), AV.int .i64 (IntKind.i64.wrap (t1 + 1)), AV.int .i64 (fI ((h0.set t5.toNat (AV.agg [AV.int .i64 t1, AV.int .i64 (fI (h0.getD t5.toNat AV.undef) 1), AV.int .i64 (fI (h0.getD t5.toNat AV.undef) 2), AV.int .i64 (fI (h0.getD t5.toNat AV.undef) 3)])).getD t5.toNat AV.undef) 2), AV.int .i64 (fI ((h0.set t5.toNat (AV.agg [AV.int .i64 t1, AV.int .i64 (fI (h0.getD t5.toNat AV.undef) 1), AV.int .i64 (fI (h0.getD t5.toNat AV.undef) 2), AV.int .i64 (fI (h0.getD t5.toNat AV.undef) 3)])).getD t5.toNat AV.undef) 3)])).getD t5.toNat AV.undef) 3)])).getD t5.toNat AV.undef) 2), AV.int .i64 (IntKind.i64.wrap (IntKind.i64.wrap (IntKind.i64.wrap (t1 + 1) + 1) + 1))]))
  else .fail)
  else .fail)
  else .fail)
  else .fail)
  else .stop (t1, h0))
def R48_0 : ((Int × Int × (List AV))) → Out ((Int × Int × (List AV))) ((Int × (List AV))) := fun s : Int × Int × (List AV) => F48_0 s.1 s.2.1 s.2.2
def l48_0 : LModel := fun _ _ st k => match st with
  | ⟨[(0, .own g0), (1, .int .i64 t1), (5, .int .i64 t5)], [(g1, ⟨false, g2, h0⟩)]⟩ => bif nmEq g0 ([1]) && nmEq g1 ([1]) && ctsEq g2 ([.int .i64, .int .i64, .int .i64, .int .i64]) then ro (runW (R48_0) (((h0.length : Int) - t5).toNat + 1) (t1, t5, h0)) none (fun p : Int × (List AV) => k (.exit 0) ⟨[(1, AV.int .i64 p.1)], [([1], ⟨false, [.int .i64, .int .i64, .int .i64, .int .i64], p.2⟩)]⟩) else none
  | _ => none
noncomputable def c48 : Cfg := cfg Tryz.prog [(48, 0, [0, 1, 5]), (48, 999, [4]), (48, 1000, [1]), (48, 1001, [0, 1, 5])] [] [] [] [(48, 0, l48_0)]
theorem s48_0 (ce : CallE) (t1 : Int) (t5 : Int) (h0 : List AV) (next : St → Option AV) (k : Kont) : stepA (codeA c48 ce [0] 48 0 (sub [1, 0, 1, 0, 0] (body Tryz.f48))) (normA [0] [0, 1, 5]) next ⟨[(0, AV.own [1]), (1, AV.int .i64 t1), (5, AV.int .i64 t5)], [([1], ⟨false, [.int .i64, .int .i64, .int .i64, .int .i64], h0⟩)]⟩ k = (bif decide (t5 < (h0.length : Int)) then (bif (decide (0 ≤ t5) && decide (t5 < (h0.length : Int))) then (bif (decide (0 ≤ t5) && decide (t5 < ((h0.set t5.toNat (AV.agg [AV.int .i64 t1, AV.int .i64 (fI (h0.getD t5.toNat AV.undef) 1), AV.int .i64 (fI (h0.getD t5.toNat AV.undef) 2), AV.int .i64 (fI (h0.getD t5.toNat AV.undef) 3)])).length : Int))) then (bif (decide (0 ≤ t5) && decide (t5 < (((h0.set t5.toNat (AV.agg [AV.int .i64 t1, AV.int .i64 (fI (h0.getD t5.toNat AV.undef) 1), AV.int .i64 (fI (h0.getD t5.toNat AV.undef) 2), AV.int .i64 (fI (h0.getD t5.toNat AV.undef) 3)])).set t5.toNat (AV.agg [AV.int .i64 (fI ((h0.set t5.toNat (AV.agg [AV.int .i64 t1, AV.int .i64 (fI (h0.getD t5.toNat AV.undef) 1), AV.int .i64 (fI (h0.getD t5.toNat AV.undef) 2), AV.int .i64 (fI (h0.getD t5.toNat AV.undef) 3)])).getD t5.toNat AV.undef) 0), AV.int .i64 (IntKind.i64.wrap (t1 + 1)), AV.int .i64 (fI ((h0.set t5.toNat (AV.agg [AV.int .i64 t1, AV.int .i64 (fI (h0.getD t5.toNat AV.undef) 1), AV.int .i64 (fI (h0.getD t5.toNat AV.undef) 2), AV.int .i64 (fI (h0.getD t5.toNat AV.undef) 3)])).getD t5.toNat AV.undef) 2), AV.int .i64 (fI ((h0.set t5.toNat (AV.agg [AV.int .i64 t1, AV.int .i64 (fI (h0.getD t5.toNat AV.undef) 1), AV.int .i64 (fI (h0.getD t5.toNat AV.undef) 2), AV.int .i64 (fI (h0.getD t5.toNat AV.undef) 3)])).getD t5.toNat AV.undef) 3)])).length : Int))) then (bif (decide (0 ≤ t5) && decide (t5 < ((((h0.set t5.toNat (AV.agg [AV.int .i64 t1, AV.int .i64 (fI (h0.getD t5.toNat AV.undef) 1), AV.int .i64 (fI (h0.getD t5.toNat AV.undef) 2), AV.int .i64 (fI (h0.getD t5.toNat AV.undef) 3)])).set t5.toNat (AV.agg [AV.int .i64 (fI ((h0.set t5.toNat (AV.agg [AV.int .i64 t1, AV.int .i64 (fI (h0.getD t5.toNat AV.undef) 1), AV.int .i64 (fI (h0.getD t5.toNat AV.undef) 2), AV.int .i64 (fI (h0.getD t5.toNat AV.undef) 3)])).getD t5.toNat AV.undef) 0), AV.int .i64 (IntKind.i64.wrap (t1 + 1)), AV.int .i64 (fI ((h0.set t5.toNat (AV.agg [AV.int .i64 t1, AV.int .i64 (fI (h0.getD t5.toNat AV.undef) 1), AV.int .i64 (fI (h0.getD t5.toNat AV.undef) 2), AV.int .i64 (fI (h0.getD t5.toNat AV.undef) 3)])).getD t5.toNat AV.undef) 2), AV.int .i64 (fI ((h0.set t5.toNat (AV.agg [AV.int .i64 t1, AV.int .i64 (fI (h0.getD t5.toNat AV.undef) 1), AV.int .i64 (fI (h0.getD t5.toNat AV.undef) 2), AV.int .i64 (fI (h0.getD t5.toNat AV.undef) 3)])).getD t5.toNat AV.undef) 3)])).set t5.toNat (AV.agg [AV.int .i64 (fI (((h0.set t5.toNat (AV.agg [AV.int .i64 t1, AV.int .i64 (fI (h0.getD t5.toNat AV.undef) 1), AV.int .i64 (fI (h0.getD t5.toNat AV.undef) 2), AV.int .i64 (fI (h0.getD t5.toNat AV.undef) 3)])).set t5.toNat (AV.agg [AV.int .i64 (fI ((h0.set t5.toNat (AV.agg [AV.int .i64 t1, AV.int .i64 (fI (h0.getD t5.toNat AV.undef) 1), AV.int .i64 (fI (h0.getD t5.toNat AV.undef) 2), AV.int .i64 (fI (h0.getD t5.toNat AV.undef) 3)])).getD t5.toNat AV.undef) 0), AV.int .i64 (IntKind.i64.wrap (t1 + 1)), AV.int .i64 (fI ((h0.set t5.toNat (AV.agg [AV.int .i64 t1, AV.int .i64 (fI (h0.getD t5.toNat AV.undef) 1), AV.int .i64 (fI (h0.getD t5.toNat AV.undef) 2), AV.int .i64 (fI (h0.getD t5.toNat AV.undef) 3)])).getD t5.toNat AV.undef) 2), AV.int .i64 (fI ((h0.set t5.toNat (AV.agg [AV.int .i64 t1, AV.int .i64 (fI (h0.getD t5.toNat AV.undef) 1), AV.int .i64 (fI (h0.getD t5.toNat AV.undef) 2), AV.int .i64 (fI (h0.getD t5.toNat AV.undef) 3)])).getD t5.toNat AV.undef) 3)])).getD t5.toNat AV.undef) 0), AV.int .i64 (fI (((h0.set t5.toNat (AV.agg [AV.int .i64 t1, AV.int .i64 (fI (h0.getD t5.toNat AV.undef) 1), AV.int .i64 (fI (h0.getD t5.toNat AV.undef) 2), AV.int .i64 (fI (h0.getD t5.toNat AV.undef) 3)])).set t5.toNat (AV.agg [AV.int .i64 (fI ((h0.set t5.toNat (AV.agg [AV.int .i64 t1, AV.int .i64 (fI (h0.getD t5.toNat AV.undef) 1), AV.int .i64 (fI (h0.getD t5.toNat AV.undef) 2), AV.int .i64 (fI (h0.getD t5.toNat AV.undef) 3)])).getD t5.toNat AV.undef) 0), AV.int .i64 (IntKind.i64.wrap (t1 + 1)), AV.int .i64 (fI ((h0.set t5.toNat (AV.agg [AV.int .i64 t1, AV.int .i64 (fI (h0.getD t5.toNat AV.undef) 1), AV.int .i64 (fI (h0.getD t5.toNat AV.undef) 2), AV.int .i64 (fI (h0.getD t5.toNat AV.undef) 3)])).getD t5.toNat AV.undef) 2), AV.int .i64 (fI ((h0.set t5.toNat (AV.agg [AV.int .i64 t1, AV.int .i64 (fI (h0.getD t5.toNat AV.undef) 1), AV.int .i64 (fI (h0.getD t5.toNat AV.undef) 2), AV.int .i64 (fI (h0.getD t5.toNat AV.undef) 3)])).getD t5.toNat AV.undef) 3)])).getD t5.toNat AV.undef) 1), AV.int .i64 (IntKind.i64.wrap (IntKind.i64.wrap (t1 + 1) + 1)), AV.int .i64 (fI (((h0.set t5.toNat (AV.agg [AV.int .i64 t1, AV.int .i64 (fI (h0.getD t5.toNat AV.undef) 1), AV.int .i64 (fI (h0.getD t5.toNat AV.undef) 2), AV.int .i64 (fI (h0.getD t5.toNat AV.undef) 3)])).set t5.toNat (AV.agg [AV.int .i64 (fI ((h0.set t5.toNat (AV.agg [AV.int .i64 t1, AV.int .i64 (fI (h0.getD t5.toNat AV.undef) 1), AV.int .i64 (fI (h0.getD t5.toNat AV.undef) 2), AV.int .i64 (fI (h0.getD t5.toNat AV.undef) 3)])).getD t5.toNat AV.undef) 0), AV.int .i64 (IntKind.i64.wrap (t1 + 1)), AV.int .i64 (fI ((h0.set t5.toNat (AV.agg [AV.int .i64 t1, AV.int .i64 (fI (h0.getD t5.toNat AV.undef) 1), AV.int .i64 (fI (h0.getD t5.toNat AV.undef) 2), AV.int .i64 (fI (h0.getD t5.toNat AV.undef) 3)])).getD t5.toNat AV.undef) 2), AV.int .i64 (fI ((h0.set t5.toNat (AV.agg [AV.int .i64 t1, AV.int .i64 (fI (h0.getD t5.toNat AV.undef) 1), AV.int .i64 (fI (h0.getD t5.toNat AV.undef) 2), AV.int .i64 (fI (h0.getD t5.toNat AV.undef) 3)])).getD t5.toNat AV.undef) 3)])).getD t5.toNat AV.undef) 3)])).length : Int))) then next ⟨[(0, AV.own [1]), (1, AV.int .i64 (IntKind.i64.wrap (IntKind.i64.wrap (IntKind.i64.wrap (IntKind.i64.wrap (t1 + 1) + 1) + 1) + 1))), (5, AV.int .i64 (IntKind.i64.wrap (t5 + 1)))], [([1], ⟨false, [.int .i64, .int .i64, .int .i64, .int .i64], (((h0.set t5.toNat (AV.agg [AV.int .i64 t1, AV.int .i64 (fI (h0.getD t5.toNat AV.undef) 1), AV.int .i64 (fI (h0.getD t5.toNat AV.undef) 2), AV.int .i64 (fI (h0.getD t5.toNat AV.undef) 3)])).set t5.toNat (AV.agg [AV.int .i64 (fI ((h0.set t5.toNat (AV.agg [AV.int .i64 t1, AV.int .i64 (fI (h0.getD t5.toNat AV.undef) 1), AV.int .i64 (fI (h0.getD t5.toNat AV.undef) 2), AV.int .i64 (fI (h0.getD t5.toNat AV.undef) 3)])).getD t5.toNat AV.undef) 0), AV.int .i64 (IntKind.i64.wrap (t1 + 1)), AV.int .i64 (fI ((h0.set t5.toNat (AV.agg [AV.int .i64 t1, AV.int .i64 (fI (h0.getD t5.toNat AV.undef) 1), AV.int .i64 (fI (h0.getD t5.toNat AV.undef) 2), AV.int .i64 (fI (h0.getD t5.toNat AV.undef) 3)])).getD t5.toNat AV.undef) 2), AV.int .i64 (fI ((h0.set t5.toNat (AV.agg [AV.int .i64 t1, AV.int .i64 (fI (h0.getD t5.toNat AV.undef) 1), AV.int .i64 (fI (h0.getD t5.toNat AV.undef) 2), AV.int .i64 (fI (h0.getD t5.toNat AV.undef) 3)])).getD t5.toNat AV.undef) 3)])).set t5.toNat (AV.agg [AV.int .i64 (fI (((h0.set t5.toNat (AV.agg [AV.int .i64 t1, AV.int .i64 (fI (h0.getD t5.toNat AV.undef) 1), AV.int .i64 (fI (h0.getD t5.toNat AV.undef) 2), AV.int .i64 (fI (h0.getD t5.toNat AV.undef) 3)])).set t5.toNat (AV.agg [AV.int .i64 (fI ((h0.set t5.toNat (AV.agg [AV.int .i64 t1, AV.int .i64 (fI (h0.getD t5.toNat AV.undef) 1), AV.int .i64 (fI (h0.getD t5.toNat AV.undef) 2), AV.int .i64 (fI (h0.getD t5.toNat AV.undef) 3)])).getD t5.toNat AV.undef) 0), AV.int .i64 (IntKind.i64.wrap (t1 + 1)), AV.int .i64 (fI ((h0.set t5.toNat (AV.agg [AV.int .i64 t1, AV.int .i64 (fI (h0.getD t5.toNat AV.undef) 1), AV.int .i64 (fI (h0.getD t5.toNat AV.undef) 2), AV.int .i64 (fI (h0.getD t5.toNat AV.undef) 3)])).getD t5.toNat AV.undef) 2), AV.int .i64 (fI ((h0.set t5.toNat (AV.agg [AV.int .i64 t1, AV.int .i64 (fI (h0.getD t5.toNat AV.undef) 1), AV.int .i64 (fI (h0.getD t5.toNat AV.undef) 2), AV.int .i64 (fI (h0.getD t5.toNat AV.undef) 3)])).getD t5.toNat AV.undef) 3)])).getD t5.toNat AV.undef) 0), AV.int .i64 (fI (((h0.set t5.toNat (AV.agg [AV.int .i64 t1, AV.int .i64 (fI (h0.getD t5.toNat AV.undef) 1), AV.int .i64 (fI (h0.getD t5.toNat AV.undef) 2), AV.int .i64 (fI (h0.getD t5.toNat AV.undef) 3)])).set t5.toNat (AV.agg [AV.int .i64 (fI ((h0.set t5.toNat (AV.agg [AV.int .i64 t1, AV.int .i64 (fI (h0.getD t5.toNat AV.undef) 1), AV.int .i64 (fI (h0.getD t5.toNat AV.undef) 2), AV.int .i64 (fI (h0.getD t5.toNat AV.undef) 3)])).getD t5.toNat AV.undef) 0), AV.int .i64 (IntKind.i64.wrap (t1 + 1)), AV.int .i64 (fI ((h0.set t5.toNat (AV.agg [AV.int .i64 t1, AV.int .i64 (fI (h0.getD t5.toNat AV.undef) 1), AV.int .i64 (fI (h0.getD t5.toNat AV.undef) 2), AV.int .i64 (fI (h0.getD t5.toNat AV.undef) 3)])).getD t5.toNat AV.undef) 2), AV.int .i64 (fI ((h0.set t5.toNat (AV.agg [AV.int .i64 t1, AV.int .i64 (fI (h0.getD t5.toNat AV.undef) 1), AV.int .i64 (fI (h0.getD t5.toNat AV.undef) 2), AV.int .i64 (fI (h0.getD t5.toNat AV.undef) 3)])).getD t5.toNat AV.undef) 3)])).getD t5.toNat AV.undef) 1), AV.int .i64 (IntKind.i64.wrap (IntKind.i64.wrap (t1 + 1) + 1)), AV.int .i64 (fI (((h0.set t5.toNat (AV.agg [AV.int .i64 t1, AV.int .i64 (fI (h0.getD t5.toNat AV.undef) 1), AV.int .i64 (fI (h0.getD t5.toNat AV.undef) 2), AV.int .i64 (fI (h0.getD t5.toNat AV.undef) 3)])).set t5.toNat (AV.agg [AV.int .i64 (fI ((h0.set t5.toNat (AV.agg [AV.int .i64 t1, AV.int .i64 (fI (h0.getD t5.toNat AV.undef) 1), AV.int .i64 (fI (h0.getD t5.toNat AV.undef) 2), AV.int .i64 (fI (h0.getD t5.toNat AV.undef) 3)])).getD t5.toNat AV.undef) 0), AV.int .i64 (IntKind.i64.wrap (t1 + 1)), AV.int .i64 (fI ((h0.set t5.toNat (AV.agg [AV.int .i64 t1, AV.int .i64 (fI (h0.getD t5.toNat AV.undef) 1), AV.int .i64 (fI (h0.getD t5.toNat AV.undef) 2), AV.int .i64 (fI (h0.getD t5.toNat AV.undef) 3)])).getD t5.toNat AV.undef) 2), AV.int .i64 (fI ((h0.set t5.toNat (AV.agg [AV.int .i64 t1, AV.int .i64 (fI (h0.getD t5.toNat AV.undef) 1), AV.int .i64 (fI (h0.getD t5.toNat AV.undef) 2), AV.int .i64 (fI (h0.getD t5.toNat AV.undef) 3)])).getD t5.toNat AV.undef) 3)])).getD t5.toNat AV.undef) 3)])).set t5.toNat (AV.agg [AV.int .i64 (fI ((((h0.set t5.toNat (AV.agg [AV.int .i64 t1, AV.int .i64 (fI (h0.getD t5.toNat AV.undef) 1), AV.int .i64 (fI (h0.getD t5.toNat AV.undef) 2), AV.int .i64 (fI (h0.getD t5.toNat AV.undef) 3)])).set t5.toNat (AV.agg [AV.int .i64 (fI ((h0.set t5.toNat (AV.agg [AV.int .i64 t1, AV.int .i64 (fI (h0.getD t5.toNat AV.undef) 1), AV.int .i64 (fI (h0.getD t5.toNat AV.undef) 2), AV.int .i64 (fI (h0.getD t5.toNat AV.undef) 3)])).getD t5.toNat AV.undef) 0), AV.int .i64 (IntKind.i64.wrap (t1 + 1)), AV.int .i64 (fI ((h0.set t5.toNat (AV.agg [AV.int .i64 t1, AV.int .i64 (fI (h0.getD t5.toNat AV.undef) 1), AV.int .i64 (fI (h0.getD t5.toNat AV.undef) 2), AV.int .i64 (fI (h0.getD t5.toNat AV.undef) 3)])).getD t5.toNat AV.undef) 2), AV.int .i64 (fI ((h0.set t5.toNat (AV.agg [AV.int .i64 t1, AV.int .i64 (fI (h0.getD t5.toNat AV.undef) 1), AV.int .i64 (fI (h0.getD t5.toNat AV.undef) 2), AV.int .i64 (fI (h0.getD t5.toNat AV.undef) 3)])).getD t5.toNat AV.undef) 3)])).set t5.toNat (AV.agg [AV.int .i64 (fI (((h0.set t5.toNat (AV.agg [AV.int .i64 t1, AV.int .i64 (fI (h0.getD t5.toNat AV.undef) 1), AV.int .i64 (fI (h0.getD t5.toNat AV.undef) 2), AV.int .i64 (fI (h0.getD t5.toNat AV.undef) 3)])).set t5.toNat (AV.agg [AV.int .i64 (fI ((h0.set t5.toNat (AV.agg [AV.int .i64 t1, AV.int .i64 (fI (h0.getD t5.toNat AV.undef) 1), AV.int .i64 (fI (h0.getD t5.toNat AV.undef) 2), AV.int .i64 (fI (h0.getD t5.toNat AV.undef) 3)])).getD t5.toNat AV.undef) 0), AV.int .i64 (IntKind.i64.wrap (t1 + 1)), AV.int .i64 (fI ((h0.set t5.toNat (AV.agg [AV.int .i64 t1, AV.int .i64 (fI (h0.getD t5.toNat AV.undef) 1), AV.int .i64 (fI (h0.getD t5.toNat AV.undef) 2), AV.int .i64 (fI (h0.getD t5.toNat AV.undef) 3)])).getD t5.toNat AV.undef) 2), AV.int .i64 (fI ((h0.set t5.toNat (AV.agg [AV.int .i64 t1, AV.int .i64 (fI (h0.getD t5.toNat AV.undef) 1), AV.int .i64 (fI (h0.getD t5.toNat AV.undef) 2), AV.int .i64 (fI (h0.getD t5.toNat AV.undef) 3)])).getD t5.toNat AV.undef) 3)])).getD t5.toNat AV.undef) 0), AV.int .i64 (fI (((h0.set t5.toNat (AV.agg [AV.int .i64 t1, AV.int .i64 (fI (h0.getD t5.toNat AV.undef) 1), AV.int .i64 (fI (h0.getD t5.toNat AV.undef) 2), AV.int .i64 (fI (h0.getD t5.toNat AV.undef) 3)])).set t5.toNat (AV.agg [AV.int .i64 (fI ((h0.set t5.toNat (AV.agg [AV.int .i64 t1, AV.int .i64 (fI (h0.getD t5.toNat AV.undef) 1), AV.int .i64 (fI (h0.getD t5.toNat AV.undef) 2), AV.int .i64 (fI (h0.getD t5.toNat AV.undef) 3)])).getD t5.toNat AV.undef) 0), AV.int .i64 (IntKind.i64.wrap (t1 + 1)), AV.int .i64 (fI ((h0.set t5.toNat (AV.agg [AV.int .i64 t1, AV.int .i64 (fI (h0.getD t5.toNat AV.undef) 1), AV.int .i64 (fI (h0.getD t5.toNat AV.undef) 2), AV.int .i64 (fI (h0.getD t5.toNat AV.undef) 3)])).getD t5.toNat AV.undef) 2), AV.int .i64 (fI ((h0.set t5.toNat (AV.agg [AV.int .i64 t1, AV.int .i64 (fI (h0.getD t5.toNat AV.undef) 1), AV.int .i64 (fI (h0.getD t5.toNat AV.undef) 2), AV.int .i64 (fI (h0.getD t5.toNat AV.undef) 3)])).getD t5.toNat AV.undef) 3)])).getD t5.toNat AV.undef) 1), AV.int .i64 (IntKind.i64.wrap (IntKind.i64.wrap (t1 + 1) + 1)), AV.int .i64 (fI (((h0.set t5.toNat (AV.agg [AV.int .i64 t1, AV.int .i64 (fI (h0.getD t5.toNat AV.undef) 1), AV.int .i64 (fI (h0.getD t5.toNat AV.undef) 2), AV.int .i64 (fI (h0.getD t5.toNat AV.undef) 3)])).set t5.toNat (AV.agg [AV.int .i64 (fI ((h0.set t5.toNat (AV.agg [AV.int .i64 t1, AV.int .i64 (fI (h0.getD t5.toNat AV.undef) 1), AV.int .i64 (fI (h0.getD t5.toNat AV.undef) 2), AV.int .i64 (fI (h0.getD t5.toNat AV.undef) 3)])).getD t5.toNat AV.undef) 0), AV.int .i64 (IntKind.i64.wrap (t1 + 1)), AV.int .i64 (fI ((h0.set t5.toNat (AV.agg [AV.int .i64 t1, AV.int .i64 (fI (h0.getD t5.toNat AV.undef) 1), AV.int .i64 (fI (h0.getD t5.toNat AV.undef) 2), AV.int .i64 (fI (h0.getD t5.toNat AV.undef) 3)])).getD t5.toNat AV.undef) 2), AV.int .i64 (fI ((h0.set t5.toNat (AV.agg [AV.int .i64 t1, AV.int .i64 (fI (h0.getD t5.toNat AV.undef) 1), AV.int .i64 (fI (h0.getD t5.toNat AV.undef) 2), AV.int .i64 (fI (h0.getD t5.toNat AV.undef) 3)])).getD t5.toNat AV.undef) 3)])).getD t5.toNat AV.undef) 3)])).getD t5.toNat AV.undef) 0), AV.int .i64 (fI ((((h0.set t5.toNat (AV.agg [AV.int .i64 t1, AV.int .i64 (fI (h0.getD t5.toNat AV.undef) 1), AV.int .i64 (fI (h0.getD t5.toNat AV.undef) 2), AV.int .i64 (fI (h0.getD t5.toNat AV.undef) 3)])).set t5.toNat (AV.agg [AV.int .i64 (fI ((h0.set t5.toNat (AV.agg [AV.int .i64 t1, AV.int .i64 (fI (h0.getD t5.toNat AV.undef) 1), AV.int .i64 (fI (h0.getD t5.toNat AV.undef) 2), AV.int .i64 (fI (h0.getD t5.toNat AV.undef) 3)])).getD t5.toNat AV.undef) 0), AV.int .i64 (IntKind.i64.wrap (t1 + 1)), AV.int .i64 (fI ((h0.set t5.toNat (AV.agg [AV.int .i64 t1, AV.int .i64 (fI (h0.getD t5.toNat AV.undef) 1), AV.int .i64 (fI (h0.getD t5.toNat AV.undef) 2), AV.int .i64 (fI (h0.getD t5.toNat AV.undef) 3)])).getD t5.toNat AV.undef) 2), AV.int .i64 (fI ((h0.set t5.toNat (AV.agg [AV.int .i64 t1, AV.int .i64 (fI (h0.getD t5.toNat AV.undef) 1), AV.int .i64 (fI (h0.getD t5.toNat AV.undef) 2), AV.int .i64 (fI (h0.getD t5.toNat AV.undef) 3)])).getD t5.toNat AV.undef) 3)])).set t5.toNat (AV.agg [AV.int .i64 (fI (((h0.set t5.toNat (AV.agg [AV.int .i64 t1, AV.int .i64 (fI (h0.getD t5.toNat AV.undef) 1), AV.int .i64 (fI (h0.getD t5.toNat AV.undef) 2), AV.int .i64 (fI (h0.getD t5.toNat AV.undef) 3)])).set t5.toNat (AV.agg [AV.int .i64 (fI ((h0.set t5.toNat (AV.agg [AV.int .i64 t1, AV.int .i64 (fI (h0.getD t5.toNat AV.undef) 1), AV.int .i64 (fI (h0.getD t5.toNat AV.undef) 2), AV.int .i64 (fI (h0.getD t5.toNat AV.undef) 3)])).getD t5.toNat AV.undef) 0), AV.int .i64 (IntKind.i64.wrap (t1 + 1)), AV.int .i64 (fI ((h0.set t5.toNat (AV.agg [AV.int .i64 t1, AV.int .i64 (fI (h0.getD t5.toNat AV.undef) 1), AV.int .i64 (fI (h0.getD t5.toNat AV.undef) 2), AV.int .i64 (fI (h0.getD t5.toNat AV.undef) 3)])).getD t5.toNat AV.undef) 2), AV.int .i64 (fI ((h0.set t5.toNat (AV.agg [AV.int .i64 t1, AV.int .i64 (fI (h0.getD t5.toNat AV.undef) 1), AV.int .i64 (fI (h0.getD t5.toNat AV.undef) 2), AV.int .i64 (fI (h0.getD t5.toNat AV.undef) 3)])).getD t5.toNat AV.undef) 3)])).getD t5.toNat AV.undef) 0), AV.int .i64 (fI (((h0.set t5.toNat (AV.agg [AV.int .i64 t1, AV.int .i64 (fI (h0.getD t5.toNat AV.undef) 1), AV.int .i64 (fI (h0.getD t5.toNat AV.undef) 2), AV.int .i64 (fI (h0.getD t5.toNat AV.undef) 3)])).set t5.toNat (AV.agg [AV.int .i64 (fI ((h0.set t5.toNat (AV.agg [AV.int .i64 t1, AV.int .i64 (fI (h0.getD t5.toNat AV.undef) 1), AV.int .i64 (fI (h0.getD t5.toNat AV.undef) 2), AV.int .i64 (fI (h0.getD t5.toNat AV.undef) 3)])).getD t5.toNat AV.undef) 0), AV.int .i64 (IntKind.i64.wrap (t1 + 1)), AV.int .i64 (fI ((h0.set t5.toNat (AV.agg [AV.int .i64 t1, AV.int .i64 (fI (h0.getD t5.toNat AV.undef) 1), AV.int .i64 (fI (h0.getD t5.toNat AV.undef) 2), AV.int .i64 (fI (h0.getD t5.toNat AV.undef) 3)])).getD t5.toNat AV.undef) 2), AV.int .i64 (fI ((h0.set t5.toNat (AV.agg [AV.int .i64 t1, AV.int .i64 (fI (h0.getD t5.toNat AV.undef) 1), AV.int .i64 (fI (h0.getD t5.toNat AV.undef) 2), AV.int .i64 (fI (h0.getD t5.toNat AV.undef) 3)])).getD t5.toNat AV.undef) 3)])).getD t5.toNat AV.undef) 1), AV.int .i64 (IntKind.i64.wrap (IntKind.i64.wrap (t1 + 1) + 1)), AV.int .i64 (fI (((h0.set t5.toNat (AV.agg [AV.int .i64 t1, AV.int .i64 (fI (h0.getD t5.toNat AV.undef) 1), AV.int .i64 (fI (h0.getD t5.toNat AV.undef) 2), AV.int .i64 (fI (h0.getD t5.toNat AV.undef) 3)])).set t5.toNat (AV.agg [AV.int .i64 (fI ((h0.set t5.toNat (AV.agg [AV.int .i64 t1, AV.int .i64 (fI (h0.getD t5.toNat AV.undef) 1), AV.int .i64 (fI (h0.getD t5.toNat AV.undef) 2), AV.int .i64 (fI (h0.getD t5.toNat AV.undef) 3)])).getD t5.toNat AV.undef) 0), AV.int .i64 (IntKind.i64.wrap (t1 + 1)), AV.int .i64 (fI ((h0.set t5.toNat (AV.agg [AV.int .i64 t1, AV.int .i64 (fI (h0.getD t5.toNat AV.undef) 1), AV.int .i64 (fI (h0.getD t5.toNat AV.undef) 2), AV.int .i64 (fI (h0.getD t5.toNat AV.undef) 3)])).getD t5.toNat AV.undef) 2), AV.int .i64 (fI ((h0.set t5.toNat (AV.agg [AV.int .i64 t1, AV.int .i64 (fI (h0.getD t5.toNat AV.undef) 1), AV.int .i64 (fI (h0.getD t5.toNat AV.undef) 2), AV.int .i64 (fI (h0.getD t5.toNat AV.undef) 3)])).getD t5.toNat AV.undef) 3)])).getD t5.toNat AV.undef) 3)])).getD t5.toNat AV.undef) 1), AV.int .i64 (fI ((((h0.set t5.toNat (AV.agg [AV.int .i64 t1, AV.int .i64 (fI (h0.getD t5.toNat AV.undef) 1), AV.int .i64 (fI (h0.getD t5.toNat AV.undef) 2), AV.int .i64 (fI (h0.getD t5.toNat AV.undef) 3)])).set t5.toNat (AV.agg [AV.int .i64 (fI ((h0.set t5.toNat (AV.agg [AV.int .i64 t1, AV.int .i64 (fI (h0.getD t5.toNat AV.undef) 1), AV.int .i64 (fI (h0.getD t5.toNat AV.undef) 2), AV.int .i64 (fI (h0.getD t5.toNat AV.undef) 3)])).getD t5.toNat AV.undef) 0), AV.int .i64 (IntKind.i64.wrap (t1 + 1)), AV.int .i64 (fI ((h0.set t5.toNat (AV.agg [AV.int .i64 t1, AV.int .i64 (fI (h0.getD t5.toNat AV.undef) 1), AV.int .i64 (fI (h0.getD t5.toNat AV.undef) 2), AV.int .i64 (fI (h0.getD t5.toNat AV.undef) 3)])).getD t5.toNat AV.undef) 2), AV.int .i64 (fI ((h0.set t5.toNat (AV.agg [AV.int .i64 t1, AV.int .i64 (fI (h0.getD t5.toNat AV.undef) 1), AV.int .i64 (fI (h0.getD t5.toNat AV.undef) 2), AV.int .i64 (fI (h0.getD t5.toNat AV.undef) 3)])).getD t5.toNat AV.undef) 3)])).set t5.toNat (AV.agg [AV.int .i64 (fI (((h0.set t5.toNat (AV.agg [AV.int .i64 t1, AV.int .i64 (fI (h0.getD t5.toNat AV.undef) 1), AV.int .i64 (fI (h0.getD t5.toNat AV.undef) 2), AV.int .i64 (fI (h0.getD t5.toNat AV.undef) 3)])).set t5.toNat (AV.agg [AV.int .i64 (fI ((h0.set t5.toNat (AV.agg [AV.int .i64 t1, AV.int .i64 (fI (h0.getD t5.toNat AV.undef) 1), AV.int .i64 (fI (h0.getD t5.toNat AV.undef) 2), AV.int .i64 (fI (h0.getD t5.toNat AV.undef) 3)])).getD t5.toNat AV.undef) 0), AV.int .i64 (IntKind.i64.wrap (t1 + 1)), AV.int .i64 (fI ((h0.set t5.toNat (AV.agg [AV.int .i64 t1, AV.int .i64 (fI (h0.getD t5.toNat AV.undef) 1), AV.int .i64 (fI (h0.getD t5.toNat AV.undef) 2), AV.int .i64 (fI (h0.getD t5.toNat AV.undef) 3)])).getD t5.toNat AV.undef) 2), AV.int .i64 (fI ((h0.set t5.toNat (AV.agg [AV.int .i64 t1, AV.int .i64 (fI (h0.getD t5.toNat AV.undef) 1), AV.int .i64 (fI (h0.getD t5.toNat AV.undef) 2), AV.int .i64 (fI (h0.getD t5.toNat AV.undef) 3)])).getD t5.toNat AV.undef) 3)])).getD t5.toNat AV.undef) 0), AV.int .i64 (fI (((h0.set t5.toNat (AV.agg [AV.int .i64 t1, AV.int .i64 (fI (h0.getD t5.toNat AV.undef) 1), AV.int .i64 (fI (h0.getD t5.toNat AV.undef) 2), AV.int .i64 (fI (h0.getD t5.toNat AV.undef) 3)])).set t5.toNat (AV.agg [AV.int .i64 (fI ((h0.set t5.toNat (AV.agg [AV.int .i64 t1, AV.int .i64 (fI (h0.getD t5.toNat AV.undef) 1), AV.int .i64 (fI (h0.getD t5.toNat AV.undef) 2), AV.int .i64 (fI (h0.getD t5.toNat AV.undef) 3)])).getD t5.toNat AV.undef) 0), AV.int .i64 (IntKind.i64.wrap (t1 + 1)), AV.int .i64 (fI ((h0.set t5.toNat (AV.agg [AV.int .i64 t1, AV.int .i64 (fI (h0.getD t5.toNat AV.undef) 1), AV.int .i64 (fI (h0.getD t5.toNat AV.undef) 2), AV.int .i64 (fI (h0.getD t5.toNat AV.undef) 3)])).getD t5.toNat AV.undef) 2), AV.int .i64 (fI ((h0.set t5.toNat (AV.agg [AV.int .i64 t1, AV.int .i64 (fI (h0.getD t5.toNat AV.undef) 1), AV.int .i64 (fI (h0.getD t5.toNat AV.undef) 2), AV.int .i64 (fI (h0.getD t5.toNat AV.undef) 3)])).getD t5.toNat AV.undef) 3)])).getD t5.toNat AV.undef) 1), AV.int .i64 (IntKind.i64.wrap (IntKind.i64.wrap (t1 + 1) + 1)), AV.int .i64 (fI (((h0.set t5.toNat (AV.agg [AV.int .i64 t1, AV.int .i64 (fI (h0.getD t5.toNat AV.undef) 1), AV.int .i64 (fI (h0.getD t5.toNat AV.undef) 2), AV.int .i64 (fI (h0.getD t5.toNat AV.undef) 3)])).set t5.toNat (AV.agg [AV.int .i64 (fI ((h0.set t5.toNat (AV.agg [AV.int .i64 t1, AV.int .i64 (fI (h0.getD t5.toNat AV.undef) 1), AV.int .i64 (fI (h0.getD t5.toNat AV.undef) 2), AV.int .i64 (fI (h0.getD t5.toNat AV.undef) 3)])).getD t5.toNat AV.undef) 0), AV.int .i64 (IntKind.i64.wrap (t1 + 1)), AV.int .i64 (fI ((h0.set t5.toNat (AV.agg [AV.int .i64 t1, AV.int .i64 (fI (h0.getD t5.toNat AV.undef) 1), AV.int .i64 (fI (h0.getD t5.toNat AV.undef) 2), AV.int .i64 (fI (h0.getD t5.toNat AV.undef) 3)])).getD t5.toNat AV.undef) 2), AV.int .i64 (fI ((h0.set t5.toNat (AV.agg [AV.int .i64 t1, AV.int .i64 (fI (h0.getD t5.toNat AV.undef) 1), AV.int .i64 (fI (h0.getD t5.toNat AV.undef) 2), AV.int .i64 (fI (h0.getD t5.toNat AV.undef) 3)])).getD t5.toNat AV.undef) 3)])).getD t5.toNat AV.undef) 3)])).getD t5.toNat AV.undef) 2), AV.int .i64 (IntKind.i64.wrap (IntKind.i64.wrap (IntKind.i64.wrap (t1 + 1) + 1) + 1))])⟩)]⟩
  else none)
  else none)
  else none)
  else none)
  else k (.exit 0) ⟨[(1, AV.int .i64 t1)], [([1], ⟨false, [.int .i64, .int .i64, .int .i64, .int .i64], h0⟩)]⟩) := by kernel_rfl
theorem st48_0 (ce : CallE) (k : Kont) (s : (Int × Int × (List AV))) (next : St → Option AV) : stepA (codeA c48 ce [0] 48 0 (sub [1, 0, 1, 0, 0] (body Tryz.f48))) (normA [0] [0, 1, 5]) next ((fun s : Int × Int × (List AV) => ⟨[(0, AV.own [1]), (1, AV.int .i64 s.1), (5, AV.int .i64 s.2.1)], [([1], ⟨false, [.int .i64, .int .i64, .int .i64, .int .i64], s.2.2⟩)]⟩) s) k = (R48_0 s).el none (fun s => next ((fun s : Int × Int × (List AV) => ⟨[(0, AV.own [1]), (1, AV.int .i64 s.1), (5, AV.int .i64 s.2.1)], [([1], ⟨false, [.int .i64, .int .i64, .int .i64, .int .i64], s.2.2⟩)]⟩) s)) (fun p : Int × (List AV) => k (.exit 0) ⟨[(1, AV.int .i64 p.1)], [([1], ⟨false, [.int .i64, .int .i64, .int .i64, .int .i64], p.2⟩)]⟩) := (s48_0 ce s.1 s.2.1 s.2.2 next k).trans (by unfold R48_0; unfold F48_0; simp only [el_cond, el_ro, el_sum, el_fail, el_next, el_stop] <;> rfl)
theorem ok48_0 {ce : CallE} : LoopOK c48 ce [0] 48 0 (sub [1, 0, 1, 0, 0] (body Tryz.f48)) := by
  intro m hm st k r h
  obtain rfl : l48_0 = m := Option.some.inj hm
  unfold l48_0 at h
  split at h
  · rename_i g0 t1 t5 g1 g2 h0
    obtain ⟨hg, h⟩ := bif_some h
    simp only [Bool.and_eq_true] at hg
    obtain ⟨⟨q0, q1⟩, q2⟩ := hg
    obtain rfl := (nmEq_iff _ _).1 q0
    obtain rfl := (nmEq_iff _ _).1 q1
    obtain rfl := ctsEq_eq _ _ q2
    refine ⟨(((h0.length : Int) - t5).toNat + 1), ?_⟩
    rw [← h]
    exact loop_run (fun s : Int × Int × (List AV) => ⟨[(0, AV.own [1]), (1, AV.int .i64 s.1), (5, AV.int .i64 s.2.1)], [([1], ⟨false, [.int .i64, .int .i64, .int .i64, .int .i64], s.2.2⟩)]⟩) (fun p : Int × (List AV) => k (.exit 0) ⟨[(1, AV.int .i64 p.1)], [([1], ⟨false, [.int .i64, .int .i64, .int .i64, .int .i64], p.2⟩)]⟩) (st48_0 ce k) _ (t1, t5, h0)
  · cases h
def q48 (a1 : Int) (b0 : List AV) : Bool := (ro (runW (R48_0) (((b0.length : Int) - 0).toNat + 1) (a1, 0, b0)) false (fun p63 => true))
def v48_0 (a1 : Int) (b0 : List AV) : Int := (ro (runW (R48_0) (((b0.length : Int) - 0).toNat + 1) (a1, 0, b0)) 0 (fun p63 => p63.1))
def v48_1 (a1 : Int) (b0 : List AV) : List AV := (ro (runW (R48_0) (((b0.length : Int) - 0).toNat + 1) (a1, 0, b0)) [] (fun p63 => p63.2))
theorem e48 (a1 : Int) (b0 : List AV) (K : AV → List Blk → Option AV) : inlA c48 1 48 [AV.own [1], AV.int .i64 a1] [0] (canH 1 [⟨false, [.int .i64, .int .i64, .int .i64, .int .i64], b0⟩]) (keepB 1 K) = (ro (runW (R48_0) (((b0.length : Int) - 0).toNat + 1) (a1, 0, b0)) none (fun p63 => K (AV.int .i64 p63.1) [⟨false, [.int .i64, .int .i64, .int .i64, .int .i64], p63.2⟩])) := by kernel_rfl
theorem r48 (a1 : Int) (b0 : List AV) (K : AV → List Blk → Option AV) (h : q48 a1 b0 = true) : inlA c48 1 48 [AV.own [1], AV.int .i64 a1] [0] (canH 1 [⟨false, [.int .i64, .int .i64, .int .i64, .int .i64], b0⟩]) (keepB 1 K) = K (AV.int .i64 (v48_0 a1 b0)) [⟨false, [.int .i64, .int .i64, .int .i64, .int .i64], (v48_1 a1 b0)⟩] := (e48 a1 b0 K).trans ((brO (fun o : Option ((Int × (List AV))) => K (AV.int .i64 (ro o 0 (fun p63 => p63.1))) [⟨false, [.int .i64, .int .i64, .int .i64, .int .i64], (ro o [] (fun p63 => p63.2))⟩]) (fun p63 => (fun _ => rfl))) h)
def m48 : WModel
  | [.own g0, .int .i64 a1], [⟨false, g1, b0⟩] => bif nmEq g0 ([1]) && ctsEq g1 ([.int .i64, .int .i64, .int .i64, .int .i64]) then some (q48 a1 b0, AV.int .i64 (v48_0 a1 b0), [⟨false, [.int .i64, .int .i64, .int .i64, .int .i64], (v48_1 a1 b0)⟩]) else none
  | _, _ => none
theorem k48 : Known Tryz.prog 48 := ⟨Tryz.f48, Tryz.func48, by kernel_rfl, by kernel_rfl⟩
theorem meets48 : MeetsM Tryz.prog 48 m48 := by
  refine meetM (f := Tryz.f48) (l := [(0, sub [1, 0, 1, 0, 0] (body Tryz.f48))]) (hs := [(48, 0, [0, 1, 5]), (48, 999, [4]), (48, 1000, [1]), (48, 1001, [0, 1, 5])]) (ts := []) (ws := []) (is := []) (ls := [(48, 0, l48_0)]) (lvl := 0) mixed k48 Tryz.func48 (by kernel_rfl) (loops_cons ok48_0 noLoop) allT_nil allM_nil noI fun C w xs us bs r bs' hl hv hh h K => ?_
  unfold m48 at h
  split at h
  · rename_i g0 a1 g1 b0
    obtain ⟨hg, h⟩ := bif_pair h
    simp only [Bool.and_eq_true] at hg
    obtain ⟨q0, q1⟩ := hg
    obtain rfl := (nmEq_iff _ _).1 q0
    obtain rfl := ctsEq_eq _ _ q1
    obtain ⟨h1, rfl, rfl⟩ := trip_inj h
    exact r48 a1 b0 K h1
  · cases h

/-! ### 19 loop.example/g01984/laws.markIntS -/
def F19_0 (t1 : Int) (t5 : Int) (h0 : List AV) : Out ((Int × Int × (List AV))) ((Int × (List AV))) := (bif decide (t5 < (h0.length : Int)) then (bif (decide (0 ≤ t5) && decide (t5 < (h0.length : Int))) then .next (IntKind.i64.wrap (t1 + 1), IntKind.i64.wrap (t5 + 1), h0.set t5.toNat (AV.agg [AV.int .i64 t1]))
  else .fail)
  else .stop (t1, h0))
def R19_0 : ((Int × Int × (List AV))) → Out ((Int × Int × (List AV))) ((Int × (List AV))) := fun s : Int × Int × (List AV) => F19_0 s.1 s.2.1 s.2.2
def l19_0 : LModel := fun _ _ st k => match st with
  | ⟨[(0, .own g0), (1, .int .i64 t1), (5, .int .i64 t5)], [(g1, ⟨false, g2, h0⟩)]⟩ => bif nmEq g0 ([1]) && nmEq g1 ([1]) && ctsEq g2 ([.int .i64]) then ro (runW (R19_0) (((h0.length : Int) - t5).toNat + 1) (t1, t5, h0)) none (fun p : Int × (List AV) => k (.exit 0) ⟨[(1, AV.int .i64 p.1)], [([1], ⟨false, [.int .i64], p.2⟩)]⟩) else none
  | _ => none
noncomputable def c19 : Cfg := cfg Tryz.prog [(19, 0, [0, 1, 5]), (19, 999, [4]), (19, 1000, [1]), (19, 1001, [0, 1, 5])] [] [] [] [(19, 0, l19_0)]
theorem s19_0 (ce : CallE) (t1 : Int) (t5 : Int) (h0 : List AV) (next : St → Option AV) (k : Kont) : stepA (codeA c19 ce [0] 19 0 (sub [1, 0, 1, 0, 0] (body Tryz.f19))) (normA [0] [0, 1, 5]) next ⟨[(0, AV.own [1]), (1, AV.int .i64 t1), (5, AV.int .i64 t5)], [([1], ⟨false, [.int .i64], h0⟩)]⟩ k = (bif decide (t5 < (h0.length : Int)) then (bif (decide (0 ≤ t5) && decide (t5 < (h0.length : Int))) then next ⟨[(0, AV.own [1]), (1, AV.int .i64 (IntKind.i64.wrap (t1 + 1))), (5, AV.int .i64 (IntKind.i64.wrap (t5 + 1)))], [([1], ⟨false, [.int .i64], h0.set t5.toNat (AV.agg [AV.int .i64 t1])⟩)]⟩
  else none)
  else k (.exit 0) ⟨[(1, AV.int .i64 t1)], [([1], ⟨false, [.int .i64], h0⟩)]⟩) := by kernel_rfl
theorem st19_0 (ce : CallE) (k : Kont) (s : (Int × Int × (List AV))) (next : St → Option AV) : stepA (codeA c19 ce [0] 19 0 (sub [1, 0, 1, 0, 0] (body Tryz.f19))) (normA [0] [0, 1, 5]) next ((fun s : Int × Int × (List AV) => ⟨[(0, AV.own [1]), (1, AV.int .i64 s.1), (5, AV.int .i64 s.2.1)], [([1], ⟨false, [.int .i64], s.2.2⟩)]⟩) s) k = (R19_0 s).el none (fun s => next ((fun s : Int × Int × (List AV) => ⟨[(0, AV.own [1]), (1, AV.int .i64 s.1), (5, AV.int .i64 s.2.1)], [([1], ⟨false, [.int .i64], s.2.2⟩)]⟩) s)) (fun p : Int × (List AV) => k (.exit 0) ⟨[(1, AV.int .i64 p.1)], [([1], ⟨false, [.int .i64], p.2⟩)]⟩) := (s19_0 ce s.1 s.2.1 s.2.2 next k).trans (by unfold R19_0; unfold F19_0; simp only [el_cond, el_ro, el_sum, el_fail, el_next, el_stop] <;> rfl)
theorem ok19_0 {ce : CallE} : LoopOK c19 ce [0] 19 0 (sub [1, 0, 1, 0, 0] (body Tryz.f19)) := by
  intro m hm st k r h
  obtain rfl : l19_0 = m := Option.some.inj hm
  unfold l19_0 at h
  split at h
  · rename_i g0 t1 t5 g1 g2 h0
    obtain ⟨hg, h⟩ := bif_some h
    simp only [Bool.and_eq_true] at hg
    obtain ⟨⟨q0, q1⟩, q2⟩ := hg
    obtain rfl := (nmEq_iff _ _).1 q0
    obtain rfl := (nmEq_iff _ _).1 q1
    obtain rfl := ctsEq_eq _ _ q2
    refine ⟨(((h0.length : Int) - t5).toNat + 1), ?_⟩
    rw [← h]
    exact loop_run (fun s : Int × Int × (List AV) => ⟨[(0, AV.own [1]), (1, AV.int .i64 s.1), (5, AV.int .i64 s.2.1)], [([1], ⟨false, [.int .i64], s.2.2⟩)]⟩) (fun p : Int × (List AV) => k (.exit 0) ⟨[(1, AV.int .i64 p.1)], [([1], ⟨false, [.int .i64], p.2⟩)]⟩) (st19_0 ce k) _ (t1, t5, h0)
  · cases h
def q19 (a1 : Int) (b0 : List AV) : Bool := (ro (runW (R19_0) (((b0.length : Int) - 0).toNat + 1) (a1, 0, b0)) false (fun p64 => true))
def v19_0 (a1 : Int) (b0 : List AV) : Int := (ro (runW (R19_0) (((b0.length : Int) - 0).toNat + 1) (a1, 0, b0)) 0 (fun p64 => p64.1))
def v19_1 (a1 : Int) (b0 : List AV) : List AV := (ro (runW (R19_0) (((b0.length : Int) - 0).toNat + 1) (a1, 0, b0)) [] (fun p64 => p64.2))
theorem e19 (a1 : Int) (b0 : List AV) (K : AV → List Blk → Option AV) : inlA c19 1 19 [AV.own [1], AV.int .i64 a1] [0] (canH 1 [⟨false, [.int .i64], b0⟩]) (keepB 1 K) = (ro (runW (R19_0) (((b0.length : Int) - 0).toNat + 1) (a1, 0, b0)) none (fun p64 => K (AV.int .i64 p64.1) [⟨false, [.int .i64], p64.2⟩])) := by kernel_rfl
theorem r19 (a1 : Int) (b0 : List AV) (K : AV → List Blk → Option AV) (h : q19 a1 b0 = true) : inlA c19 1 19 [AV.own [1], AV.int .i64 a1] [0] (canH 1 [⟨false, [.int .i64], b0⟩]) (keepB 1 K) = K (AV.int .i64 (v19_0 a1 b0)) [⟨false, [.int .i64], (v19_1 a1 b0)⟩] := (e19 a1 b0 K).trans ((brO (fun o : Option ((Int × (List AV))) => K (AV.int .i64 (ro o 0 (fun p64 => p64.1))) [⟨false, [.int .i64], (ro o [] (fun p64 => p64.2))⟩]) (fun p64 => (fun _ => rfl))) h)
def m19 : WModel
  | [.own g0, .int .i64 a1], [⟨false, g1, b0⟩] => bif nmEq g0 ([1]) && ctsEq g1 ([.int .i64]) then some (q19 a1 b0, AV.int .i64 (v19_0 a1 b0), [⟨false, [.int .i64], (v19_1 a1 b0)⟩]) else none
  | _, _ => none
theorem k19 : Known Tryz.prog 19 := ⟨Tryz.f19, Tryz.func19, by kernel_rfl, by kernel_rfl⟩
theorem meets19 : MeetsM Tryz.prog 19 m19 := by
  refine meetM (f := Tryz.f19) (l := [(0, sub [1, 0, 1, 0, 0] (body Tryz.f19))]) (hs := [(19, 0, [0, 1, 5]), (19, 999, [4]), (19, 1000, [1]), (19, 1001, [0, 1, 5])]) (ts := []) (ws := []) (is := []) (ls := [(19, 0, l19_0)]) (lvl := 0) mixed k19 Tryz.func19 (by kernel_rfl) (loops_cons ok19_0 noLoop) allT_nil allM_nil noI fun C w xs us bs r bs' hl hv hh h K => ?_
  unfold m19 at h
  split at h
  · rename_i g0 a1 g1 b0
    obtain ⟨hg, h⟩ := bif_pair h
    simp only [Bool.and_eq_true] at hg
    obtain ⟨q0, q1⟩ := hg
    obtain rfl := (nmEq_iff _ _).1 q0
    obtain rfl := ctsEq_eq _ _ q1
    obtain ⟨h1, rfl, rfl⟩ := trip_inj h
    exact r19 a1 b0 K h1
  · cases h

/-! ### 80 loop.example/g01984/laws.markPivotS -/
def F80_0 (t1 : Int) (t5 : Int) (h0 : List AV) : Out ((Int × Int × (List AV))) ((Int × (List AV))) := (bif decide (t5 < (h0.length : Int)) then (bif (decide (0 ≤ t5) && decide (t5 < (h0.length : Int))) then (bif (decide (0 ≤ t5) && decide (t5 < ((h0.set t5.toNat (AV.agg [AV.int .i64 t1, AV.int .i64 (fI (h0.getD t5.toNat AV.undef) 1)])).length : Int))) then .next (IntKind.i64.wrap (IntKind.i64.wrap (t1 + 1) + 1), IntKind.i64.wrap (t5 + 1), (h0.set t5.toNat (AV.agg [AV.int .i64 t1, AV.int .i64 (fI (h0.getD t5.toNat AV.undef) 1)])).set t5.toNat (AV.agg [AV.int .i64 (fI ((h0.set t5.toNat (AV.agg [AV.int .i64 t1, AV.int .i64 (fI (h0.getD t5.toNat AV.undef) 1)])).getD t5.toNat AV.undef) 0), AV.int .i64 (IntKind.i64.wrap (t1 + 1))]))
  else .fail)
  else .fail)
  else .stop (t1, h0))
def R80_0 : ((Int × Int × (List AV))) → Out ((Int × Int × (List AV))) ((Int × (List AV))) := fun s : Int × Int × (List AV) => F80_0 s.1 s.2.1 s.2.2
def l80_0 : LModel := fun _ _ st k => match st with
  | ⟨[(0, .own g0), (1, .int .i64 t1), (5, .int .i64 t5)], [(g1, ⟨false, g2, h0⟩)]⟩ => bif nmEq g0 ([1]) && nmEq g1 ([1]) && ctsEq g2 ([.int .i64, .int .i64]) then ro (runW (R80_0) (((h0.length : Int) - t5).toNat + 1) (t1, t5, h0)) none (fun p : Int × (List AV) => k (.exit 0) ⟨[(1, AV.int .i64 p.1)], [([1], ⟨false, [.int .i64, .int .i64], p.2⟩)]⟩) else none
  | _ => none
noncomputable def c80 : Cfg := cfg Tryz.prog [(80, 0, [0, 1, 5]), (80, 999, [4]), (80, 1000, [1]), (80, 1001, [0, 1, 5])] [] [] [] [(80, 0, l80_0)]
theorem s80_0 (ce : CallE) (t1 : Int) (t5 : Int) (h0 : List AV) (next : St → Option AV) (k : Kont) : stepA (codeA c80 ce [0] 80 0 (sub [1, 0, 1, 0, 0] (body Tryz.f80))) (normA [0] [0, 1, 5]) next ⟨[(0, AV.own [1]), (1, AV.int .i64 t1), (5, AV.int .i64 t5)], [([1], ⟨false, [.int .i64, .int .i64], h0⟩)]⟩ k = (bif decide (t5 < (h0.length : Int)) then (bif (decide (0 ≤ t5) && decide (t5 < (h0.length : Int))) then (bif (decide (0 ≤ t5) && decide (t5 < ((h0.set t5.toNat (AV.agg [AV.int .i64 t1, AV.int .i64 (fI (h0.getD t5.toNat AV.undef) 1)])).length : Int))) then next ⟨[(0, AV.own [1]), (1, AV.int .i64 (IntKind.i64.wrap (IntKind.i64.wrap (t1 + 1) + 1))), (5, AV.int .i64 (IntKind.i64.wrap (t5 + 1)))], [([1], ⟨false, [.int .i64, .int .i64], (h0.set t5.toNat (AV.agg [AV.int .i64 t1, AV.int .i64 (fI (h0.getD t5.toNat AV.undef) 1)])).set t5.toNat (AV.agg [AV.int .i64 (fI ((h0.set t5.toNat (AV.agg [AV.int .i64 t1, AV.int .i64 (fI (h0.getD t5.toNat AV.undef) 1)])).getD t5.toNat AV.undef) 0), AV.int .i64 (IntKind.i64.wrap (t1 + 1))])⟩)]⟩
  else none)
  else none)
  else k (.exit 0) ⟨[(1, AV.int .i64 t1)], [([1], ⟨false, [.int .i64, .int .i64], h0⟩)]⟩) := by kernel_rfl
theorem st80_0 (ce : CallE) (k : Kont) (s : (Int × Int × (List AV))) (next : St → Option AV) : stepA (codeA c80 ce [0] 80 0 (sub [1, 0, 1, 0, 0] (body Tryz.f80))) (normA [0] [0, 1, 5]) next ((fun s : Int × Int × (List AV) => ⟨[(0, AV.own [1]), (1, AV.int .i64 s.1), (5, AV.int .i64 s.2.1)], [([1], ⟨false, [.int .i64, .int .i64], s.2.2⟩)]⟩) s) k = (R80_0 s).el none (fun s => next ((fun s : Int × Int × (List AV) => ⟨[(0, AV.own [1]), (1, AV.int .i64 s.1), (5, AV.int .i64 s.2.1)], [([1], ⟨false, [.int .i64, .int .i64], s.2.2⟩)]⟩) s)) (fun p : Int × (List AV) => k (.exit 0) ⟨[(1, AV.int .i64 p.1)], [([1], ⟨false, [.int .i64, .int .i64], p.2⟩)]⟩) := (s80_0 ce s.1 s.2.1 s.2.2 next k).trans (by unfold R80_0; unfold F80_0; simp only [el_cond, el_ro, el_sum, el_fail, el_next, el_stop] <;> rfl)
theorem ok80_0 {ce : CallE} : LoopOK c80 ce [0] 80 0 (sub [1, 0, 1, 0, 0] (body Tryz.f80)) := by
  intro m hm st k r h
  obtain rfl : l80_0 = m := Option.some.inj hm
  unfold l80_0 at h
  split at h
  · rename_i g0 t1 t5 g1 g2 h0
    obtain ⟨hg, h⟩ := bif_some h
    simp only [Bool.and_eq_true] at hg
    obtain ⟨⟨q0, q1⟩, q2⟩ := hg
    obtain rfl := (nmEq_iff _ _).1 q0
    obtain rfl := (nmEq_iff _ _).1 q1
    obtain rfl := ctsEq_eq _ _ q2
    refine ⟨(((h0.length : Int) - t5).toNat + 1), ?_⟩
    rw [← h]
    exact loop_run (fun s : Int × Int × (List AV) => ⟨[(0, AV.own [1]), (1, AV.int .i64 s.1), (5, AV.int .i64 s.2.1)], [([1], ⟨false, [.int .i64, .int .i64], s.2.2⟩)]⟩) (fun p : Int × (List AV) => k (.exit 0) ⟨[(1, AV.int .i64 p.1)], [([1], ⟨false, [.int .i64, .int .i64], p.2⟩)]⟩) (st80_0 ce k) _ (t1, t5, h0)
  · cases h
def q80 (a1 : Int) (b0 : List AV) : Bool := (ro (runW (R80_0) (((b0.length : Int) - 0).toNat + 1) (a1, 0, b0)) false (fun p65 => true))
def v80_0 (a1 : Int) (b0 : List AV) : Int := (ro (runW (R80_0) (((b0.length : Int) - 0).toNat + 1) (a1, 0, b0)) 0 (fun p65 => p65.1))
def v80_1 (a1 : Int) (b0 : List AV) : List AV := (ro (runW (R80_0) (((b0.length : Int) - 0).toNat + 1) (a1, 0, b0)) [] (fun p65 => p65.2))
theorem e80 (a1 : Int) (b0 : List AV) (K : AV → List Blk → Option AV) : inlA c80 1 80 [AV.own [1], AV.int .i64 a1] [0] (canH 1 [⟨false, [.int .i64, .int .i64], b0⟩]) (keepB 1 K) = (ro (runW (R80_0) (((b0.length : Int) - 0).toNat + 1) (a1, 0, b0)) none (fun p65 => K (AV.int .i64 p65.1) [⟨false, [.int .i64, .int .i64], p65.2⟩])) := by kernel_rfl
theorem r80 (a1 : Int) (b0 : List AV) (K : AV → List Blk → Option AV) (h : q80 a1 b0 = true) : inlA c80 1 80 [AV.own [1], AV.int .i64 a1] [0] (canH 1 [⟨false, [.int .i64, .int .i64], b0⟩]) (keepB 1 K) = K (AV.int .i64 (v80_0 a1 b0)) [⟨false, [.int .i64, .int .i64], (v80_1 a1 b0)⟩] := (e80 a1 b0 K).trans ((brO (fun o : Option ((Int × (List AV))) => K (AV.int .i64 (ro o 0 (fun p65 => p65.1))) [⟨false, [.int .i64, .int .i64], (ro o [] (fun p65 => p65.2))⟩]) (fun p65 => (fun _ => rfl))) h)
def m80 : WModel
  | [.own g0, .int .i64 a1], [⟨false, g1, b0⟩] => bif nmEq g0 ([1]) && ctsEq g1 ([.int .i64, .int .i64]) then some (q80 a1 b0, AV.int .i64 (v80_0 a1 b0), [⟨false, [.int .i64, .int .i64], (v80_1 a1 b0)⟩]) else none
  | _, _ => none
theorem k80 : Known Tryz.prog 80 := ⟨Tryz.f80, Tryz.func80, by kernel_rfl, by kernel_rfl⟩
theorem meets80 : MeetsM Tryz.prog 80 m80 := by
  refine meetM (f := Tryz.f80) (l := [(0, sub [1, 0, 1, 0, 0] (body Tryz.f80))]) (hs := [(80, 0, [0, 1, 5]), (80, 999, [4]), (80, 1000, [1]), (80, 1001, [0, 1, 5])]) (ts := []) (ws := []) (is := []) (ls := [(80, 0, l80_0)]) (lvl := 0) mixed k80 Tryz.func80 (by kernel_rfl) (loops_cons ok80_0 noLoop) allT_nil allM_nil noI fun C w xs us bs r bs' hl hv hh h K => ?_
  unfold m80 at h
  split at h
  · rename_i g0 a1 g1 b0
    obtain ⟨hg, h⟩ := bif_pair h
    simp only [Bool.and_eq_true] at hg
    obtain ⟨q0, q1⟩ := hg
    obtain rfl := (nmEq_iff _ _).1 q0
    obtain rfl := ctsEq_eq _ _ q1
    obtain ⟨h1, rfl, rfl⟩ := trip_inj h
    exact r80 a1 b0 K h1
  · cases h

/-! ### 49 loop.example/g01984/laws.markCracker -/
noncomputable def c49 : Cfg := cfg Tryz.prog [(49, 999, [4])] [] [(19, m19), (80, m80)] [] []
def q49 (a1 : Int) (b0 : List AV) (b1 : List AV) (b2 : List AV) : Bool := (q19 a1 b0 && (q19 (v19_0 a1 b0) b1 && q80 (v19_0 (v19_0 a1 b0) b1) b2))
def v49_0 (a1 : Int) (b0 : List AV) (b1 : List AV) (b2 : List AV) : Int := (v80_0 (v19_0 (v19_0 a1 b0) b1) b2)
def v49_1 (a1 : Int) (b0 : List AV) (b1 : List AV) (b2 : List AV) : List AV := (v19_1 a1 b0)
def v49_2 (a1 : Int) (b0 : List AV) (b1 : List AV) (b2 : List AV) : List AV := (v19_1 (v19_0 a1 b0) b1)
def v49_3 (a1 : Int) (b0 : List AV) (b1 : List AV) (b2 : List AV) : List AV := (v80_1 (v19_0 (v19_0 a1 b0) b1) b2)
theorem e49 (a1 : Int) (b0 : List AV) (b1 : List AV) (b2 : List AV) (K : AV → List Blk → Option AV) : inlA c49 1 49 [AV.agg [AV.own [1], AV.own [2], AV.own [3]], AV.int .i64 a1] [0] (canH 1 [⟨false, [.int .i64], b0⟩, ⟨false, [.int .i64], b1⟩, ⟨false, [.int .i64, .int .i64], b2⟩]) (keepB 3 K) = (bif q19 a1 b0 then (bif q19 (v19_0 a1 b0) b1 then (bif q80 (v19_0 (v19_0 a1 b0) b1) b2 then K (AV.int .i64 (v80_0 (v19_0 (v19_0 a1 b0) b1) b2)) [⟨false, [.int .i64], (v19_1 a1 b0)⟩, ⟨false, [.int .i64], (v19_1 (v19_0 a1 b0) b1)⟩, ⟨false, [.int .i64, .int .i64], (v80_1 (v19_0 (v19_0 a1 b0) b1) b2)⟩]
  else none)
  else none)
  else none) := by kernel_rfl
theorem r49 (a1 : Int) (b0 : List AV) (b1 : List AV) (b2 : List AV) (K : AV → List Blk → Option AV) (h : q49 a1 b0 b1 b2 = true) : inlA c49 1 49 [AV.agg [AV.own [1], AV.own [2], AV.own [3]], AV.int .i64 a1] [0] (canH 1 [⟨false, [.int .i64], b0⟩, ⟨false, [.int .i64], b1⟩, ⟨false, [.int .i64, .int .i64], b2⟩]) (keepB 3 K) = K (AV.int .i64 (v49_0 a1 b0 b1 b2)) [⟨false, [.int .i64], (v49_1 a1 b0 b1 b2)⟩, ⟨false, [.int .i64], (v49_2 a1 b0 b1 b2)⟩, ⟨false, [.int .i64, .int .i64], (v49_3 a1 b0 b1 b2)⟩] := (e49 a1 b0 b1 b2 K).trans ((brL (brL (brL1 (fun _ => rfl)))) h)
def m49 : WModel
  | [.agg [.own g0, .own g1, .own g2], .int .i64 a1], [⟨false, g3, b0⟩, ⟨false, g4, b1⟩, ⟨false, g5, b2⟩] => bif nmEq g0 ([1]) && nmEq g1 ([2]) && nmEq g2 ([3]) && ctsEq g3 ([.int .i64]) && ctsEq g4 ([.int .i64]) && ctsEq g5 ([.int .i64, .int .i64]) then some (q49 a1 b0 b1 b2, AV.int .i64 (v49_0 a1 b0 b1 b2), [⟨false, [.int .i64], (v49_1 a1 b0 b1 b2)⟩, ⟨false, [.int .i64], (v49_2 a1 b0 b1 b2)⟩, ⟨false, [.int .i64, .int .i64], (v49_3 a1 b0 b1 b2)⟩]) else none
  | _, _ => none
theorem k49 : Known Tryz.prog 49 := ⟨Tryz.f49, Tryz.func49, by kernel_rfl, by kernel_rfl⟩
theorem meets49 : MeetsM Tryz.prog 49 m49 := by
  refine meetM (f := Tryz.f49) (l := []) (hs := [(49, 999, [4])]) (ts := []) (ws := [(19, m19), (80, m80)]) (is := []) (ls := []) (lvl := 0) mixed k49 Tryz.func49 (by kernel_rfl) noLoop allT_nil (allM_cons meets19 (allM_cons meets80 allM_nil)) noI fun C w xs us bs r bs' hl hv hh h K => ?_
  unfold m49 at h
  split at h
  · rename_i g0 g1 g2 a1 g3 b0 g4 b1 g5 b2
    obtain ⟨hg, h⟩ := bif_pair h
    simp only [Bool.and_eq_true] at hg
    obtain ⟨⟨⟨⟨⟨q0, q1⟩, q2⟩, q3⟩, q4⟩, q5⟩ := hg
    obtain rfl := (nmEq_iff _ _).1 q0
    obtain rfl := (nmEq_iff _ _).1 q1
    obtain rfl := (nmEq_iff _ _).1 q2
    obtain rfl := ctsEq_eq _ _ q3
    obtain rfl := ctsEq_eq _ _ q4
    obtain rfl := ctsEq_eq _ _ q5
    obtain ⟨h1, rfl, rfl⟩ := trip_inj h
    exact r49 a1 b0 b1 b2 K h1
  · cases h

/-! ### 18 loop.example/g01984/laws.markStore -/
noncomputable def c18 : Cfg := cfg Tryz.prog [(18, 999, [4])] [] [(48, m48), (49, m49)] [] []
def q18 (a0 : Int) (a1 : Int) (b0 : List AV) (b1 : List AV) (b2 : List AV) (b3 : List AV) : Bool := (q48 a1 b0 && q49 (v48_0 a1 b0) b1 b2 b3)
def v18_0 (a0 : Int) (a1 : Int) (b0 : List AV) (b1 : List AV) (b2 : List AV) (b3 : List AV) : Int := (v49_0 (v48_0 a1 b0) b1 b2 b3)
def v18_1 (a0 : Int) (a1 : Int) (b0 : List AV) (b1 : List AV) (b2 : List AV) (b3 : List AV) : List AV := (v48_1 a1 b0)
def v18_2 (a0 : Int) (a1 : Int) (b0 : List AV) (b1 : List AV) (b2 : List AV) (b3 : List AV) : List AV := (v49_1 (v48_0 a1 b0) b1 b2 b3)
def v18_3 (a0 : Int) (a1 : Int) (b0 : List AV) (b1 : List AV) (b2 : List AV) (b3 : List AV) : List AV := (v49_2 (v48_0 a1 b0) b1 b2 b3)
def v18_4 (a0 : Int) (a1 : Int) (b0 : List AV) (b1 : List AV) (b2 : List AV) (b3 : List AV) : List AV := (v49_3 (v48_0 a1 b0) b1 b2 b3)
theorem e18 (a0 : Int) (a1 : Int) (b0 : List AV) (b1 : List AV) (b2 : List AV) (b3 : List AV) (K : AV → List Blk → Option AV) : inlA c18 1 18 [AV.agg [AV.own [1], AV.int .i64 a0, AV.own [2], AV.own [3], AV.own [4]], AV.int .i64 a1] [0] (canH 1 [⟨false, [.int .i64, .int .i64, .int .i64, .int .i64], b0⟩, ⟨false, [.int .i64], b1⟩, ⟨false, [.int .i64], b2⟩, ⟨false, [.int .i64, .int .i64], b3⟩]) (keepB 4 K) = (bif q48 a1 b0 then (bif q49 (v48_0 a1 b0) b1 b2 b3 then K (AV.int .i64 (v49_0 (v48_0 a1 b0) b1 b2 b3)) [⟨false, [.int .i64, .int .i64, .int .i64, .int .i64], (v48_1 a1 b0)⟩, ⟨false, [.int .i64], (v49_1 (v48_0 a1 b0) b1 b2 b3)⟩, ⟨false, [.int .i64], (v49_2 (v48_0 a1 b0) b1 b2 b3)⟩, ⟨false, [.int .i64, .int .i64], (v49_3 (v48_0 a1 b0) b1 b2 b3)⟩]
  else none)
  else none) := by kernel_rfl
theorem r18 (a0 : Int) (a1 : Int) (b0 : List AV) (b1 : List AV) (b2 : List AV) (b3 : List AV) (K : AV → List Blk → Option AV) (h : q18 a0 a1 b0 b1 b2 b3 = true) : inlA c18 1 18 [AV.agg [AV.own [1], AV.int .i64 a0, AV.own [2], AV.own [3], AV.own [4]], AV.int .i64 a1] [0] (canH 1 [⟨false, [.int .i64, .int .i64, .int .i64, .int .i64], b0⟩, ⟨false, [.int .i64], b1⟩, ⟨false, [.int .i64], b2⟩, ⟨false, [.int .i64, .int .i64], b3⟩]) (keepB 4 K) = K (AV.int .i64 (v18_0 a0 a1 b0 b1 b2 b3)) [⟨false, [.int .i64, .int .i64, .int .i64, .int .i64], (v18_1 a0 a1 b0 b1 b2 b3)⟩, ⟨false, [.int .i64], (v18_2 a0 a1 b0 b1 b2 b3)⟩, ⟨false, [.int .i64], (v18_3 a0 a1 b0 b1 b2 b3)⟩, ⟨false, [.int .i64, .int .i64], (v18_4 a0 a1 b0 b1 b2 b3)⟩] := (e18 a0 a1 b0 b1 b2 b3 K).trans ((brL (brL1 (fun _ => rfl))) h)
def m18 : WModel
  | [.agg [.own g0, .int .i64 a0, .own g1, .own g2, .own g3], .int .i64 a1], [⟨false, g4, b0⟩, ⟨false, g5, b1⟩, ⟨false, g6, b2⟩, ⟨false, g7, b3⟩] => bif nmEq g0 ([1]) && nmEq g1 ([2]) && nmEq g2 ([3]) && nmEq g3 ([4]) && ctsEq g4 ([.int .i64, .int .i64, .int .i64, .int .i64]) && ctsEq g5 ([.int .i64]) && ctsEq g6 ([.int .i64]) && ctsEq g7 ([.int .i64, .int .i64]) then some (q18 a0 a1 b0 b1 b2 b3, AV.int .i64 (v18_0 a0 a1 b0 b1 b2 b3), [⟨false, [.int .i64, .int .i64, .int .i64, .int .i64], (v18_1 a0 a1 b0 b1 b2 b3)⟩, ⟨false, [.int .i64], (v18_2 a0 a1 b0 b1 b2 b3)⟩, ⟨false, [.int .i64], (v18_3 a0 a1 b0 b1 b2 b3)⟩, ⟨false, [.int .i64, .int .i64], (v18_4 a0 a1 b0 b1 b2 b3)⟩]) else none
  | _, _ => none
theorem k18 : Known Tryz.prog 18 := ⟨Tryz.f18, Tryz.func18, by kernel_rfl, by kernel_rfl⟩
theorem meets18 : MeetsM Tryz.prog 18 m18 := by
  refine meetM (f := Tryz.f18) (l := []) (hs := [(18, 999, [4])]) (ts := []) (ws := [(48, m48), (49, m49)]) (is := []) (ls := []) (lvl := 0) mixed k18 Tryz.func18 (by kernel_rfl) noLoop allT_nil (allM_cons meets48 (allM_cons meets49 allM_nil)) noI fun C w xs us bs r bs' hl hv hh h K => ?_
  unfold m18 at h
  split at h
  · rename_i g0 a0 g1 g2 g3 a1 g4 b0 g5 b1 g6 b2 g7 b3
    obtain ⟨hg, h⟩ := bif_pair h
    simp only [Bool.and_eq_true] at hg
    obtain ⟨⟨⟨⟨⟨⟨⟨q0, q1⟩, q2⟩, q3⟩, q4⟩, q5⟩, q6⟩, q7⟩ := hg
    obtain rfl := (nmEq_iff _ _).1 q0
    obtain rfl := (nmEq_iff _ _).1 q1
    obtain rfl := (nmEq_iff _ _).1 q2
    obtain rfl := (nmEq_iff _ _).1 q3
    obtain rfl := ctsEq_eq _ _ q4
    obtain rfl := ctsEq_eq _ _ q5
    obtain rfl := ctsEq_eq _ _ q6
    obtain rfl := ctsEq_eq _ _ q7
    obtain ⟨h1, rfl, rfl⟩ := trip_inj h
    exact r18 a0 a1 b0 b1 b2 b3 K h1
  · cases h

/-! ### 50 loop.example/g01984/laws.heldStampS -/
def F50_0 (t0 : List AV) (t1 : Int) (t5 : Int) : Out ((Int × Int)) (Int ⊕ Unit) := (bif decide (t5 < (t0.length : Int)) then (bif (decide (0 ≤ t5) && decide (t5 < (t0.length : Int))) then (bif !decide (fI (t0.getD t5.toNat AV.undef) 0 = t1) then .stop (.inr ())
  else (bif (decide (0 ≤ t5) && decide (t5 < (t0.length : Int))) then (bif !decide (fI (t0.getD t5.toNat AV.undef) 1 = IntKind.i64.wrap (t1 + 1)) then .stop (.inr ())
  else (bif (decide (0 ≤ t5) && decide (t5 < (t0.length : Int))) then (bif !decide (fI (t0.getD t5.toNat AV.undef) 2 = IntKind.i64.wrap (IntKind.i64.wrap (t1 + 1) + 1)) then .stop (.inr ())
  else (bif (decide (0 ≤ t5) && decide (t5 < (t0.length : Int))) then (bif !decide (fI (t0.getD t5.toNat AV.undef) 3 = IntKind.i64.wrap (IntKind.i64.wrap (IntKind.i64.wrap (t1 + 1) + 1) + 1)) then .stop (.inr ())
  else .next (IntKind.i64.wrap (IntKind.i64.wrap (IntKind.i64.wrap (IntKind.i64.wrap (t1 + 1) + 1) + 1) + 1), IntKind.i64.wrap (t5 + 1)))
  else .fail))
  else .fail))
  else .fail))
  else .fail)
  else .stop (.inl t1))
def R50_0 (t0 : List AV) : ((Int × Int)) → Out ((Int × Int)) (Int ⊕ Unit) := fun s : Int × Int => F50_0 t0 s.1 s.2
def l50_0 : LModel := fun _ _ st k => match st with
  | ⟨[(0, .sl g0 t0), (1, .int .i64 t1), (5, .int .i64 t5)], []⟩ => bif ctsEq g0 ([.int .i64, .int .i64, .int .i64, .int .i64]) then ro (runW (R50_0 t0) (((t0.length : Int) - t5).toNat + 1) (t1, t5)) none (sumE (fun p : Int => k (.exit 0) ⟨[(1, AV.int .i64 p)], []⟩) (fun _ : Unit => k .ret ⟨[(4, AV.int .i64 (-1))], []⟩)) else none
  | _ => none
noncomputable def c50 : Cfg := cfg Tryz.prog [(50, 0, [0, 1, 5]), (50, 999, [4]), (50, 1000, [1]), (50, 1001, [0, 1, 5])] [] [] [] [(50, 0, l50_0)]
theorem s50_0 (ce : CallE) (t0 : List AV) (t1 : Int) (t5 : Int) (next : St → Option AV) (k : Kont) : stepA (codeA c50 ce [] 50 0 (sub [1, 0, 1, 0, 0] (body Tryz.f50))) (normA [] [0, 1, 5]) next ⟨[(0, AV.sl [.int .i64, .int .i64, .int .i64, .int .i64] t0), (1, AV.int .i64 t1), (5, AV.int .i64 t5)], []⟩ k = (bif decide (t5 < (t0.length : Int)) then (bif (decide (0 ≤ t5) && decide (t5 < (t0.length : Int))) then (bif !decide (fI (t0.getD t5.toNat AV.undef) 0 = t1) then k .ret ⟨[(4, AV.int .i64 (-1))], []⟩
  else (bif (decide (0 ≤ t5) && decide (t5 < (t0.length : Int))) then (bif !decide (fI (t0.getD t5.toNat AV.undef) 1 = IntKind.i64.wrap (t1 + 1)) then k .ret ⟨[(4, AV.int .i64 (-1))], []⟩
  else (bif (decide (0 ≤ t5) && decide (t5 < (t0.length : Int))) then (bif !decide (fI (t0.getD t5.toNat AV.undef) 2 = IntKind.i64.wrap (IntKind.i64.wrap (t1 + 1) + 1)) then k .ret ⟨[(4, AV.int .i64 (-1))], []⟩
  else (bif (decide (0 ≤ t5) && decide (t5 < (t0.length : Int))) then (bif !decide (fI (t0.getD t5.toNat AV.undef) 3 = IntKind.i64.wrap (IntKind.i64.wrap (IntKind.i64.wrap (t1 + 1) + 1) + 1)) then k .ret ⟨[(4, AV.int .i64 (-1))], []⟩
  else next ⟨[(0, AV.sl [.int .i64, .int .i64, .int .i64, .int .i64] t0), (1, AV.int .i64 (IntKind.i64.wrap (IntKind.i64.wrap (IntKind.i64.wrap (IntKind.i64.wrap (t1 + 1) + 1) + 1) + 1))), (5, AV.int .i64 (IntKind.i64.wrap (t5 + 1)))], []⟩)
  else none))
  else none))
  else none))
  else none)
  else k (.exit 0) ⟨[(1, AV.int .i64 t1)], []⟩) := by kernel_rfl
theorem st50_0 (t0 : List AV) (ce : CallE) (k : Kont) (s : (Int × Int)) (next : St → Option AV) : stepA (codeA c50 ce [] 50 0 (sub [1, 0, 1, 0, 0] (body Tryz.f50))) (normA [] [0, 1, 5]) next ((fun s : Int × Int => ⟨[(0, AV.sl [.int .i64, .int .i64, .int .i64, .int .i64] t0), (1, AV.int .i64 s.1), (5, AV.int .i64 s.2)], []⟩) s) k = (R50_0 t0 s).el none (fun s => next ((fun s : Int × Int => ⟨[(0, AV.sl [.int .i64, .int .i64, .int .i64, .int .i64] t0), (1, AV.int .i64 s.1), (5, AV.int .i64 s.2)], []⟩) s)) (sumE (fun p : Int => k (.exit 0) ⟨[(1, AV.int .i64 p)], []⟩) (fun _ : Unit => k .ret ⟨[(4, AV.int .i64 (-1))], []⟩)) := (s50_0 ce t0 s.1 s.2 next k).trans (by unfold R50_0; unfold F50_0; simp only [el_cond, el_ro, el_sum, el_fail, el_next, el_stop] <;> rfl)
theorem ok50_0 {ce : CallE} : LoopOK c50 ce [] 50 0 (sub [1, 0, 1, 0, 0] (body Tryz.f50)) := by
  intro m hm st k r h
  obtain rfl : l50_0 = m := Option.some.inj hm
  unfold l50_0 at h
  split at h
  · rename_i g0 t0 t1 t5
    obtain ⟨hg, h⟩ := bif_some h
    have q0 := hg
    obtain rfl := ctsEq_eq _ _ q0
    refine ⟨(((t0.length : Int) - t5).toNat + 1), ?_⟩
    rw [← h]
    exact loop_run (fun s : Int × Int => ⟨[(0, AV.sl [.int .i64, .int .i64, .int .i64, .int .i64] t0), (1, AV.int .i64 s.1), (5, AV.int .i64 s.2)], []⟩) (sumE (fun p : Int => k (.exit 0) ⟨[(1, AV.int .i64 p)], []⟩) (fun _ : Unit => k .ret ⟨[(4, AV.int .i64 (-1))], []⟩)) (st50_0 t0 ce k) _ (t1, t5)
  · cases h
def q50 (a0 : List AV) (a1 : Int) : Bool := (ro (runW (R50_0 a0) (((a0.length : Int) - 0).toNat + 1) (a1, 0)) false (sumE (fun p66 => true) (fun _ => true)))
def v50_0 (a0 : List AV) (a1 : Int) : Int := (ro (runW (R50_0 a0) (((a0.length : Int) - 0).toNat + 1) (a1, 0)) 0 (sumE (fun p66 => p66) (fun _ => (-1))))
theorem e50 (a0 : List AV) (a1 : Int) : funA c50 0 50 [AV.sl [.int .i64, .int .i64, .int .i64, .int .i64] a0, AV.int .i64 a1] = (ro (runW (R50_0 a0) (((a0.length : Int) - 0).toNat + 1) (a1, 0)) none (sumE (fun p66 => some (AV.int .i64 p66)) (fun _ => some (AV.int .i64 (-1))))) := by kernel_rfl
theorem r50 (a0 : List AV) (a1 : Int) (h : q50 a0 a1 = true) : funA c50 0 50 [AV.sl [.int .i64, .int .i64, .int .i64, .int .i64] a0, AV.int .i64 a1] = some (AV.int .i64 (v50_0 a0 a1)) := (e50 a0 a1).trans ((brO (fun o : Option (Int ⊕ Unit) => some (AV.int .i64 (ro o 0 (sumE (fun p66 => p66) (fun _ => (-1)))))) (brS (fun o : Int ⊕ Unit => some (AV.int .i64 ((sumE (fun p66 => p66) (fun _ => (-1))) o))) (fun p66 => (fun _ => rfl)) (fun _ => (fun _ => rfl)))) h)
def m50 : TModel
  | [.sl g0 a0, .int .i64 a1] => bif ctsEq g0 ([.int .i64, .int .i64, .int .i64, .int .i64]) then some (q50 a0 a1, AV.int .i64 (v50_0 a0 a1)) else none
  | _ => none
theorem k50 : Known Tryz.prog 50 := ⟨Tryz.f50, Tryz.func50, by kernel_rfl, by kernel_rfl⟩
theorem meets50 : Meets Tryz.prog 50 m50 := by
  refine meet (f := Tryz.f50) (l := [(0, sub [1, 0, 1, 0, 0] (body Tryz.f50))]) (hs := [(50, 0, [0, 1, 5]), (50, 999, [4]), (50, 1000, [1]), (50, 1001, [0, 1, 5])]) (ts := []) (ws := []) (is := []) (ls := [(50, 0, l50_0)]) (lvl := 0) mixed k50 Tryz.func50 (by kernel_rfl) (loops_cons ok50_0 noLoop) allT_nil allM_nil noI fun w xs us r hl hv h => ?_
  unfold m50 at h
  split at h
  · rename_i g0 a0 a1
    obtain ⟨hg, h⟩ := bif_pair h
    have q0 := hg
    obtain rfl := ctsEq_eq _ _ q0
    obtain ⟨h1, rfl⟩ := pair_inj h
    exact r50 a0 a1 h1
  · cases h

/-! ### 21 loop.example/g01984/laws.heldIntS -/
def F21_0 (t0 : List AV) (t1 : Int) (t5 : Int) : Out ((Int × Int)) (Int ⊕ Unit) := (bif decide (t5 < (t0.length : Int)) then (bif (decide (0 ≤ t5) && decide (t5 < (t0.length : Int))) then (bif !decide (fI (t0.getD t5.toNat AV.undef) 0 = t1) then .stop (.inr ())
  else .next (IntKind.i64.wrap (t1 + 1), IntKind.i64.wrap (t5 + 1)))
  else .fail)
  else .stop (.inl t1))
def R21_0 (t0 : List AV) : ((Int × Int)) → Out ((Int × Int)) (Int ⊕ Unit) := fun s : Int × Int => F21_0 t0 s.1 s.2
def l21_0 : LModel := fun _ _ st k => match st with
  | ⟨[(0, .sl g0 t0), (1, .int .i64 t1), (5, .int .i64 t5)], []⟩ => bif ctsEq g0 ([.int .i64]) then ro (runW (R21_0 t0) (((t0.length : Int) - t5).toNat + 1) (t1, t5)) none (sumE (fun p : Int => k (.exit 0) ⟨[(1, AV.int .i64 p)], []⟩) (fun _ : Unit => k .ret ⟨[(4, AV.int .i64 (-1))], []⟩)) else none
  | _ => none
noncomputable def c21 : Cfg := cfg Tryz.prog [(21, 0, [0, 1, 5]), (21, 999, [4]), (21, 1000, [1]), (21, 1001, [0, 1, 5])] [] [] [] [(21, 0, l21_0)]
theorem s21_0 (ce : CallE) (t0 : List AV) (t1 : Int) (t5 : Int) (next : St → Option AV) (k : Kont) : stepA (codeA c21 ce [] 21 0 (sub [1, 0, 1, 0, 0] (body Tryz.f21))) (normA [] [0, 1, 5]) next ⟨[(0, AV.sl [.int .i64] t0), (1, AV.int .i64 t1), (5, AV.int .i64 t5)], []⟩ k = (bif decide (t5 < (t0.length : Int)) then (bif (decide (0 ≤ t5) && decide (t5 < (t0.length : Int))) then (bif !decide (fI (t0.getD t5.toNat AV.undef) 0 = t1) then k .ret ⟨[(4, AV.int .i64 (-1))], []⟩
  else next ⟨[(0, AV.sl [.int .i64] t0), (1, AV.int .i64 (IntKind.i64.wrap (t1 + 1))), (5, AV.int .i64 (IntKind.i64.wrap (t5 + 1)))], []⟩)
  else none)
  else k (.exit 0) ⟨[(1, AV.int .i64 t1)], []⟩) := by kernel_rfl
theorem st21_0 (t0 : List AV) (ce : CallE) (k : Kont) (s : (Int × Int)) (next : St → Option AV) : stepA (codeA c21 ce [] 21 0 (sub [1, 0, 1, 0, 0] (body Tryz.f21))) (normA [] [0, 1, 5]) next ((fun s : Int × Int => ⟨[(0, AV.sl [.int .i64] t0), (1, AV.int .i64 s.1), (5, AV.int .i64 s.2)], []⟩) s) k = (R21_0 t0 s).el none (fun s => next ((fun s : Int × Int => ⟨[(0, AV.sl [.int .i64] t0), (1, AV.int .i64 s.1), (5, AV.int .i64 s.2)], []⟩) s)) (sumE (fun p : Int => k (.exit 0) ⟨[(1, AV.int .i64 p)], []⟩) (fun _ : Unit => k .ret ⟨[(4, AV.int .i64 (-1))], []⟩)) := (s21_0 ce t0 s.1 s.2 next k).trans (by unfold R21_0; unfold F21_0; simp only [el_cond, el_ro, el_sum, el_fail, el_next, el_stop] <;> rfl)
theorem ok21_0 {ce : CallE} : LoopOK c21 ce [] 21 0 (sub [1, 0, 1, 0, 0] (body Tryz.f21)) := by
  intro m hm st k r h
  obtain rfl : l21_0 = m := Option.some.inj hm
  unfold l21_0 at h
  split at h
  · rename_i g0 t0 t1 t5
    obtain ⟨hg, h⟩ := bif_some h
    have q0 := hg
    obtain rfl := ctsEq_eq _ _ q0
    refine ⟨(((t0.length : Int) - t5).toNat + 1), ?_⟩
    rw [← h]
    exact loop_run (fun s : Int × Int => ⟨[(0, AV.sl [.int .i64] t0), (1, AV.int .i64 s.1), (5, AV.int .i64 s.2)], []⟩) (sumE (fun p : Int => k (.exit 0) ⟨[(1, AV.int .i64 p)], []⟩) (fun _ : Unit => k .ret ⟨[(4, AV.int .i64 (-1))], []⟩)) (st21_0 t0 ce k) _ (t1, t5)
  · cases h
def q21 (a0 : List AV) (a1 : Int) : Bool := (ro (runW (R21_0 a0) (((a0.length : Int) - 0).toNat + 1) (a1, 0)) false (sumE (fun p68 => true) (fun _ => true)))
def v21_0 (a0 : List AV) (a1 : Int) : Int := (ro (runW (R21_0 a0) (((a0.length : Int) - 0).toNat + 1) (a1, 0)) 0 (sumE (fun p68 => p68) (fun _ => (-1))))
theorem e21 (a0 : List AV) (a1 : Int) : funA c21 0 21 [AV.sl [.int .i64] a0, AV.int .i64 a1] = (ro (runW (R21_0 a0) (((a0.length : Int) - 0).toNat + 1) (a1, 0)) none (sumE (fun p68 => some (AV.int .i64 p68)) (fun _ => some (AV.int .i64 (-1))))) := by kernel_rfl
theorem r21 (a0 : List AV) (a1 : Int) (h : q21 a0 a1 = true) : funA c21 0 21 [AV.sl [.int .i64] a0, AV.int .i64 a1] = some (AV.int .i64 (v21_0 a0 a1)) := (e21 a0 a1).trans ((brO (fun o : Option (Int ⊕ Unit) => some (AV.int .i64 (ro o 0 (sumE (fun p68 => p68) (fun _ => (-1)))))) (brS (fun o : Int ⊕ Unit => some (AV.int .i64 ((sumE (fun p68 => p68) (fun _ => (-1))) o))) (fun p68 => (fun _ => rfl)) (fun _ => (fun _ => rfl)))) h)
def m21 : TModel
  | [.sl g0 a0, .int .i64 a1] => bif ctsEq g0 ([.int .i64]) then some (q21 a0 a1, AV.int .i64 (v21_0 a0 a1)) else none
  | _ => none
theorem k21 : Known Tryz.prog 21 := ⟨Tryz.f21, Tryz.func21, by kernel_rfl, by kernel_rfl⟩
theorem meets21 : Meets Tryz.prog 21 m21 := by
  refine meet (f := Tryz.f21) (l := [(0, sub [1, 0, 1, 0, 0] (body Tryz.f21))]) (hs := [(21, 0, [0, 1, 5]), (21, 999, [4]), (21, 1000, [1]), (21, 1001, [0, 1, 5])]) (ts := []) (ws := []) (is := []) (ls := [(21, 0, l21_0)]) (lvl := 0) mixed k21 Tryz.func21 (by kernel_rfl) (loops_cons ok21_0 noLoop) allT_nil allM_nil noI fun w xs us r hl hv h => ?_
  unfold m21 at h
  split at h
  · rename_i g0 a0 a1
    obtain ⟨hg, h⟩ := bif_pair h
    have q0 := hg
    obtain rfl := ctsEq_eq _ _ q0
    obtain ⟨h1, rfl⟩ := pair_inj h
    exact r21 a0 a1 h1
  · cases h

/-! ### 81 loop.example/g01984/laws.heldPivotS -/
def F81_0 (t0 : List AV) (t1 : Int) (t5 : Int) : Out ((Int × Int)) (Int ⊕ Unit) := (bif decide (t5 < (t0.length : Int)) then (bif (decide (0 ≤ t5) && decide (t5 < (t0.length : Int))) then (bif !decide (fI (t0.getD t5.toNat AV.undef) 0 = t1) then .stop (.inr ())
  else (bif (decide (0 ≤ t5) && decide (t5 < (t0.length : Int))) then (bif !decide (fI (t0.getD t5.toNat AV.undef) 1 = IntKind.i64.wrap (t1 + 1)) then .stop (.inr ())
  else .next (IntKind.i64.wrap (IntKind.i64.wrap (t1 + 1) + 1), IntKind.i64.wrap (t5 + 1)))
  else .fail))
  else .fail)
  else .stop (.inl t1))
def R81_0 (t0 : List AV) : ((Int × Int)) → Out ((Int × Int)) (Int ⊕ Unit) := fun s : Int × Int => F81_0 t0 s.1 s.2
def l81_0 : LModel := fun _ _ st k => match st with
  | ⟨[(0, .sl g0 t0), (1, .int .i64 t1), (5, .int .i64 t5)], []⟩ => bif ctsEq g0 ([.int .i64, .int .i64]) then ro (runW (R81_0 t0) (((t0.length : Int) - t5).toNat + 1) (t1, t5)) none (sumE (fun p : Int => k (.exit 0) ⟨[(1, AV.int .i64 p)], []⟩) (fun _ : Unit => k .ret ⟨[(4, AV.int .i64 (-1))], []⟩)) else none
  | _ => none
noncomputable def c81 : Cfg := cfg Tryz.prog [(81, 0, [0, 1, 5]), (81, 999, [4]), (81, 1000, [1]), (81, 1001, [0, 1, 5])] [] [] [] [(81, 0, l81_0)]
theorem s81_0 (ce : CallE) (t0 : List AV) (t1 : Int) (t5 : Int) (next : St → Option AV) (k : Kont) : stepA (codeA c81 ce [] 81 0 (sub [1, 0, 1, 0, 0] (body Tryz.f81))) (normA [] [0, 1, 5]) next ⟨[(0, AV.sl [.int .i64, .int .i64] t0), (1, AV.int .i64 t1), (5, AV.int .i64 t5)], []⟩ k = (bif decide (t5 < (t0.length : Int)) then (bif (decide (0 ≤ t5) && decide (t5 < (t0.length : Int))) then (bif !decide (fI (t0.getD t5.toNat AV.undef) 0 = t1) then k .ret ⟨[(4, AV.int .i64 (-1))], []⟩
  else (bif (decide (0 ≤ t5) && decide (t5 < (t0.length : Int))) then (bif !decide (fI (t0.getD t5.toNat AV.undef) 1 = IntKind.i64.wrap (t1 + 1)) then k .ret ⟨[(4, AV.int .i64 (-1))], []⟩
  else next ⟨[(0, AV.sl [.int .i64, .int .i64] t0), (1, AV.int .i64 (IntKind.i64.wrap (IntKind.i64.wrap (t1 + 1) + 1))), (5, AV.int .i64 (IntKind.i64.wrap (t5 + 1)))], []⟩)
  else none))
  else none)
  else k (.exit 0) ⟨[(1, AV.int .i64 t1)], []⟩) := by kernel_rfl
theorem st81_0 (t0 : List AV) (ce : CallE) (k : Kont) (s : (Int × Int)) (next : St → Option AV) : stepA (codeA c81 ce [] 81 0 (sub [1, 0, 1, 0, 0] (body Tryz.f81))) (normA [] [0, 1, 5]) next ((fun s : Int × Int => ⟨[(0, AV.sl [.int .i64, .int .i64] t0), (1, AV.int .i64 s.1), (5, AV.int .i64 s.2)], []⟩) s) k = (R81_0 t0 s).el none (fun s => next ((fun s : Int × Int => ⟨[(0, AV.sl [.int .i64, .int .i64] t0), (1, AV.int .i64 s.1), (5, AV.int .i64 s.2)], []⟩) s)) (sumE (fun p : Int => k (.exit 0) ⟨[(1, AV.int .i64 p)], []⟩) (fun _ : Unit => k .ret ⟨[(4, AV.int .i64 (-1))], []⟩)) := (s81_0 ce t0 s.1 s.2 next k).trans (by unfold R81_0; unfold F81_0; simp only [el_cond, el_ro, el_sum, el_fail, el_next, el_stop] <;> rfl)
theorem ok81_0 {ce : CallE} : LoopOK c81 ce [] 81 0 (sub [1, 0, 1, 0, 0] (body Tryz.f81)) := by
  intro m hm st k r h
  obtain rfl : l81_0 = m := Option.some.inj hm
  unfold l81_0 at h
  split at h
  · rename_i g0 t0 t1 t5
    obtain ⟨hg, h⟩ := bif_some h
    have q0 := hg
    obtain rfl := ctsEq_eq _ _ q0
    refine ⟨(((t0.length : Int) - t5).toNat + 1), ?_⟩
    rw [← h]
    exact loop_run (fun s : Int × Int => ⟨[(0, AV.sl [.int .i64, .int .i64] t0), (1, AV.int .i64 s.1), (5, AV.int .i64 s.2)], []⟩) (sumE (fun p : Int => k (.exit 0) ⟨[(1, AV.int .i64 p)], []⟩) (fun _ : Unit => k .ret ⟨[(4, AV.int .i64 (-1))], []⟩)) (st81_0 t0 ce k) _ (t1, t5)
  · cases h
def q81 (a0 : List AV) (a1 : Int) : Bool := (ro (runW (R81_0 a0) (((a0.length : Int) - 0).toNat + 1) (a1, 0)) false (sumE (fun p70 => true) (fun _ => true)))
def v81_0 (a0 : List AV) (a1 : Int) : Int := (ro (runW (R81_0 a0) (((a0.length : Int) - 0).toNat + 1) (a1, 0)) 0 (sumE (fun p70 => p70) (fun _ => (-1))))
theorem e81 (a0 : List AV) (a1 : Int) : funA c81 0 81 [AV.sl [.int .i64, .int .i64] a0, AV.int .i64 a1] = (ro (runW (R81_0 a0) (((a0.length : Int) - 0).toNat + 1) (a1, 0)) none (sumE (fun p70 => some (AV.int .i64 p70)) (fun _ => some (AV.int .i64 (-1))))) := by kernel_rfl
theorem r81 (a0 : List AV) (a1 : Int) (h : q81 a0 a1 = true) : funA c81 0 81 [AV.sl [.int .i64, .int .i64] a0, AV.int .i64 a1] = some (AV.int .i64 (v81_0 a0 a1)) := (e81 a0 a1).trans ((brO (fun o : Option (Int ⊕ Unit) => some (AV.int .i64 (ro o 0 (sumE (fun p70 => p70) (fun _ => (-1)))))) (brS (fun o : Int ⊕ Unit => some (AV.int .i64 ((sumE (fun p70 => p70) (fun _ => (-1))) o))) (fun p70 => (fun _ => rfl)) (fun _ => (fun _ => rfl)))) h)
def m81 : TModel
  | [.sl g0 a0, .int .i64 a1] => bif ctsEq g0 ([.int .i64, .int .i64]) then some (q81 a0 a1, AV.int .i64 (v81_0 a0 a1)) else none
  | _ => none
theorem k81 : Known Tryz.prog 81 := ⟨Tryz.f81, Tryz.func81, by kernel_rfl, by kernel_rfl⟩
theorem meets81 : Meets Tryz.prog 81 m81 := by
  refine meet (f := Tryz.f81) (l := [(0, sub [1, 0, 1, 0, 0] (body Tryz.f81))]) (hs := [(81, 0, [0, 1, 5]), (81, 999, [4]), (81, 1000, [1]), (81, 1001, [0, 1, 5])]) (ts := []) (ws := []) (is := []) (ls := [(81, 0, l81_0)]) (lvl := 0) mixed k81 Tryz.func81 (by kernel_rfl) (loops_cons ok81_0 noLoop) allT_nil allM_nil noI fun w xs us r hl hv h => ?_
  unfold m81 at h
  split at h
  · rename_i g0 a0 a1
    obtain ⟨hg, h⟩ := bif_pair h
    have q0 := hg
    obtain rfl := ctsEq_eq _ _ q0
    obtain ⟨h1, rfl⟩ := pair_inj h
    exact r81 a0 a1 h1
  · cases h

/-! ### 51 loop.example/g01984/laws.heldCracker -/
noncomputable def c51 : Cfg := cfg Tryz.prog [(51, 999, [4])] [(21, m21), (81, m81)] [] [] []
def q51 (a0_0 : List AV) (a0_1 : List AV) (a0_2 : List AV) (a1 : Int) : Bool := (q21 a0_0 a1 && (bif decide ((v21_0 a0_0 a1) < 0) then true else (q21 a0_1 (v21_0 a0_0 a1) && (bif decide ((v21_0 a0_1 (v21_0 a0_0 a1)) < 0) then true else q81 a0_2 (v21_0 a0_1 (v21_0 a0_0 a1))))))
def v51_0 (a0_0 : List AV) (a0_1 : List AV) (a0_2 : List AV) (a1 : Int) : Int := (bif decide ((v21_0 a0_0 a1) < 0) then (-1) else (bif decide ((v21_0 a0_1 (v21_0 a0_0 a1)) < 0) then (-1) else (bif decide ((v81_0 a0_2 (v21_0 a0_1 (v21_0 a0_0 a1))) < 0) then (-1) else (v81_0 a0_2 (v21_0 a0_1 (v21_0 a0_0 a1))))))
theorem e51 (a0_0 : List AV) (a0_1 : List AV) (a0_2 : List AV) (a1 : Int) : funA c51 0 51 [AV.agg [AV.sl [.int .i64] a0_0, AV.sl [.int .i64] a0_1, AV.sl [.int .i64, .int .i64] a0_2], AV.int .i64 a1] = (bif q21 a0_0 a1 then (bif decide ((v21_0 a0_0 a1) < 0) then some (AV.int .i64 (-1))
  else (bif q21 a0_1 (v21_0 a0_0 a1) then (bif decide ((v21_0 a0_1 (v21_0 a0_0 a1)) < 0) then some (AV.int .i64 (-1))
  else (bif q81 a0_2 (v21_0 a0_1 (v21_0 a0_0 a1)) then (bif decide ((v81_0 a0_2 (v21_0 a0_1 (v21_0 a0_0 a1))) < 0) then some (AV.int .i64 (-1))
  else some (AV.int .i64 (v81_0 a0_2 (v21_0 a0_1 (v21_0 a0_0 a1)))))
  else none))
  else none))
  else none) := by kernel_rfl
theorem r51 (a0_0 : List AV) (a0_1 : List AV) (a0_2 : List AV) (a1 : Int) (h : q51 a0_0 a0_1 a0_2 a1 = true) : funA c51 0 51 [AV.agg [AV.sl [.int .i64] a0_0, AV.sl [.int .i64] a0_1, AV.sl [.int .i64, .int .i64] a0_2], AV.int .i64 a1] = some (AV.int .i64 (v51_0 a0_0 a0_1 a0_2 a1)) := (e51 a0_0 a0_1 a0_2 a1).trans ((brL (br (fun b => some (AV.int .i64 (bif b then (-1) else (bif decide ((v21_0 a0_1 (v21_0 a0_0 a1)) < 0) then (-1) else (bif decide ((v81_0 a0_2 (v21_0 a0_1 (v21_0 a0_0 a1))) < 0) then (-1) else (v81_0 a0_2 (v21_0 a0_1 (v21_0 a0_0 a1)))))))) (fun _ => rfl) (brL (br (fun b => some (AV.int .i64 (bif b then (-1) else (bif decide ((v81_0 a0_2 (v21_0 a0_1 (v21_0 a0_0 a1))) < 0) then (-1) else (v81_0 a0_2 (v21_0 a0_1 (v21_0 a0_0 a1))))))) (fun _ => rfl) (brL1 (brT (fun b => some (AV.int .i64 (bif b then (-1) else (v81_0 a0_2 (v21_0 a0_1 (v21_0 a0_0 a1)))))) (fun _ => rfl) (fun _ => rfl))))))) h)
def m51 : TModel
  | [.agg [.sl g0 a0_0, .sl g1 a0_1, .sl g2 a0_2], .int .i64 a1] => bif ctsEq g0 ([.int .i64]) && ctsEq g1 ([.int .i64]) && ctsEq g2 ([.int .i64, .int .i64]) then some (q51 a0_0 a0_1 a0_2 a1, AV.int .i64 (v51_0 a0_0 a0_1 a0_2 a1)) else none
  | _ => none
theorem k51 : Known Tryz.prog 51 := ⟨Tryz.f51, Tryz.func51, by kernel_rfl, by kernel_rfl⟩
theorem meets51 : Meets Tryz.prog 51 m51 := by
  refine meet (f := Tryz.f51) (l := []) (hs := [(51, 999, [4])]) (ts := [(21, m21), (81, m81)]) (ws := []) (is := []) (ls := []) (lvl := 0) mixed k51 Tryz.func51 (by kernel_rfl) noLoop (allT_cons meets21 (allT_cons meets81 allT_nil)) allM_nil noI fun w xs us r hl hv h => ?_
  unfold m51 at h
  split at h
  · rename_i g0 a0_0 g1 a0_1 g2 a0_2 a1
    obtain ⟨hg, h⟩ := bif_pair h
    simp only [Bool.and_eq_true] at hg
    obtain ⟨⟨q0, q1⟩, q2⟩ := hg
    obtain rfl := ctsEq_eq _ _ q0
    obtain rfl := ctsEq_eq _ _ q1
    obtain rfl := ctsEq_eq _ _ q2
    obtain ⟨h1, rfl⟩ := pair_inj h
    exact r51 a0_0 a0_1 a0_2 a1 h1
  · cases h

/-! ### 20 loop.example/g01984/laws.heldStore -/
noncomputable def c20 : Cfg := cfg Tryz.prog [(20, 999, [4])] [(50, m50), (51, m51)] [] [] []
def q20 (a0_0 : List AV) (a0_1 : Int) (a0_2 : List AV) (a0_3 : List AV) (a0_4 : List AV) (a1 : Int) : Bool := (q50 a0_0 a1 && (bif decide ((v50_0 a0_0 a1) < 0) then true else q51 a0_2 a0_3 a0_4 (v50_0 a0_0 a1)))
def v20_0 (a0_0 : List AV) (a0_1 : Int) (a0_2 : List AV) (a0_3 : List AV) (a0_4 : List AV) (a1 : Int) : Int := (bif decide ((v50_0 a0_0 a1) < 0) then (-1) else (bif decide ((v51_0 a0_2 a0_3 a0_4 (v50_0 a0_0 a1)) < 0) then (-1) else (v51_0 a0_2 a0_3 a0_4 (v50_0 a0_0 a1))))
theorem e20 (a0_0 : List AV) (a0_1 : Int) (a0_2 : List AV) (a0_3 : List AV) (a0_4 : List AV) (a1 : Int) : funA c20 0 20 [AV.agg [AV.sl [.int .i64, .int .i64, .int .i64, .int .i64] a0_0, AV.int .i64 a0_1, AV.sl [.int .i64] a0_2, AV.sl [.int .i64] a0_3, AV.sl [.int .i64, .int .i64] a0_4], AV.int .i64 a1] = (bif q50 a0_0 a1 then (bif decide ((v50_0 a0_0 a1) < 0) then some (AV.int .i64 (-1))
  else (bif q51 a0_2 a0_3 a0_4 (v50_0 a0_0 a1) then (bif decide ((v51_0 a0_2 a0_3 a0_4 (v50_0 a0_0 a1)) < 0) then some (AV.int .i64 (-1))
  else some (AV.int .i64 (v51_0 a0_2 a0_3 a0_4 (v50_0 a0_0 a1))))
  else none))
  else none) := by kernel_rfl
theorem r20 (a0_0 : List AV) (a0_1 : Int) (a0_2 : List AV) (a0_3 : List AV) (a0_4 : List AV) (a1 : Int) (h : q20 a0_0 a0_1 a0_2 a0_3 a0_4 a1 = true) : funA c20 0 20 [AV.agg [AV.sl [.int .i64, .int .i64, .int .i64, .int .i64] a0_0, AV.int .i64 a0_1, AV.sl [.int .i64] a0_2, AV.sl [.int .i64] a0_3, AV.sl [.int .i64, .int .i64] a0_4], AV.int .i64 a1] = some (AV.int .i64 (v20_0 a0_0 a0_1 a0_2 a0_3 a0_4 a1)) := (e20 a0_0 a0_1 a0_2 a0_3 a0_4 a1).trans ((brL (br (fun b => some (AV.int .i64 (bif b then (-1) else (bif decide ((v51_0 a0_2 a0_3 a0_4 (v50_0 a0_0 a1)) < 0) then (-1) else (v51_0 a0_2 a0_3 a0_4 (v50_0 a0_0 a1)))))) (fun _ => rfl) (brL1 (brT (fun b => some (AV.int .i64 (bif b then (-1) else (v51_0 a0_2 a0_3 a0_4 (v50_0 a0_0 a1))))) (fun _ => rfl) (fun _ => rfl))))) h)
def m20 : TModel
  | [.agg [.sl g0 a0_0, .int .i64 a0_1, .sl g1 a0_2, .sl g2 a0_3, .sl g3 a0_4], .int .i64 a1] => bif ctsEq g0 ([.int .i64, .int .i64, .int .i64, .int .i64]) && ctsEq g1 ([.int .i64]) && ctsEq g2 ([.int .i64]) && ctsEq g3 ([.int .i64, .int .i64]) then some (q20 a0_0 a0_1 a0_2 a0_3 a0_4 a1, AV.int .i64 (v20_0 a0_0 a0_1 a0_2 a0_3 a0_4 a1)) else none
  | _ => none
theorem k20 : Known Tryz.prog 20 := ⟨Tryz.f20, Tryz.func20, by kernel_rfl, by kernel_rfl⟩
theorem meets20 : Meets Tryz.prog 20 m20 := by
  refine meet (f := Tryz.f20) (l := []) (hs := [(20, 999, [4])]) (ts := [(50, m50), (51, m51)]) (ws := []) (is := []) (ls := []) (lvl := 0) mixed k20 Tryz.func20 (by kernel_rfl) noLoop (allT_cons meets50 (allT_cons meets51 allT_nil)) allM_nil noI fun w xs us r hl hv h => ?_
  unfold m20 at h
  split at h
  · rename_i g0 a0_0 a0_1 g1 a0_2 g2 a0_3 g3 a0_4 a1
    obtain ⟨hg, h⟩ := bif_pair h
    simp only [Bool.and_eq_true] at hg
    obtain ⟨⟨⟨q0, q1⟩, q2⟩, q3⟩ := hg
    obtain rfl := ctsEq_eq _ _ q0
    obtain rfl := ctsEq_eq _ _ q1
    obtain rfl := ctsEq_eq _ _ q2
    obtain rfl := ctsEq_eq _ _ q3
    obtain ⟨h1, rfl⟩ := pair_inj h
    exact r20 a0_0 a0_1 a0_2 a0_3 a0_4 a1 h1
  · cases h
end Go.Proofs.YtmlhhemflhiinaaGreat
