/- The walk of what this claim reaches: printed by a program, each equation checked by the kernel. -/
import Derived.Test.YtepfklcdpkpepaaJC1
import Derived.Test.YtepfklcdpkpepaaProg
import Derived.KernelRfl
namespace Go.Proofs.Ytepfklcdpkpepaa
open Go Go.Proofs.VE
set_option linter.unusedVariables false
set_option linter.unusedSimpArgs false
set_option maxRecDepth 100000
set_option maxHeartbeats 4000000
/-! ### 52 loop.example/g01984/spec.ReplayJournal -/
def F52_0 (t1 : List AV) (t11 : Int) (t12 : Int) (h0 : List AV) (h1 : List AV) (h2 : List AV) (h5_0 : Int) (h5_1 : Int) (h5_2 : Int) (h5_3 : Int) (h6 : List AV) : Out ((Int × Int × (List AV) × (List AV) × (List AV) × Int × Int × Int × Int × (List AV))) ((Int × (List AV) × (List AV) × (List AV) × Int × Int × Int × Int × (List AV)) ⊕ ((List AV) × (List AV) × (List AV) × Int × Int × Int × Int × (List AV) × Int × Int × Int × Int) ⊕ ((List AV) × (List AV) × (List AV) × (List AV) × Int × Int × Int × Int × (List AV) × Int × Int × Int × Int × (List AV) × (List AV) × (List AV) × (List AV)) ⊕ ((List AV) × (List AV) × (List AV) × (List AV) × (List AV) × (List AV) × Int × Int × Int × Int × (List AV)) ⊕ ((List AV) × (List AV) × (List AV) × Int × Int × Int × Int × (List AV) × Int × Int × Int × Int)) := (bif decide (t12 < (t1.length : Int)) then (bif (decide (0 ≤ t12) && decide (t12 < (t1.length : Int))) then (bif decide (fI (t1.getD t12.toNat AV.undef) 0 = 1) then (bif q97 h0 h1 h2 (fI (t1.getD t12.toNat AV.undef) 1) then (bif q95 h0 h1 h2 (fI (t1.getD t12.toNat AV.undef) 1) then (bif decide (h5_0 = 0) then (bif (v68_0 (fI (t1.getD t12.toNat AV.undef) 1) (-1000) 1000) then (bif !(v95_1 h0 h1 h2 (fI (t1.getD t12.toNat AV.undef) 1)) then (bif decide (fI (t1.getD t12.toNat AV.undef) 2 = (v97_0 h0 h1 h2 (fI (t1.getD t12.toNat AV.undef) 1))) then (bif !(decide (fI (t1.getD t12.toNat AV.undef) 3 = (v97_1 h0 h1 h2 (fI (t1.getD t12.toNat AV.undef) 1)))) then .stop (.inr (.inl (h0, h1, h2, fI (t1.getD t12.toNat AV.undef) 0, fI (t1.getD t12.toNat AV.undef) 1, fI (t1.getD t12.toNat AV.undef) 2, fI (t1.getD t12.toNat AV.undef) 3, h6, fI (t1.getD t12.toNat AV.undef) 0, fI (t1.getD t12.toNat AV.undef) 1, fI (t1.getD t12.toNat AV.undef) 2, fI (t1.getD t12.toNat AV.undef) 3)))
           else .next (t11, IntKind.i64.wrap (t12 + 1), h0, h1, h2, fI (t1.getD t12.toNat AV.undef) 0, fI (t1.getD t12.toNat AV.undef) 1, fI (t1.getD t12.toNat AV.undef) 2, fI (t1.getD t12.toNat AV.undef) 3, ([] : List AV)))
          else .stop (.inr (.inl (h0, h1, h2, fI (t1.getD t12.toNat AV.undef) 0, fI (t1.getD t12.toNat AV.undef) 1, fI (t1.getD t12.toNat AV.undef) 2, fI (t1.getD t12.toNat AV.undef) 3, h6, fI (t1.getD t12.toNat AV.undef) 0, fI (t1.getD t12.toNat AV.undef) 1, fI (t1.getD t12.toNat AV.undef) 2, fI (t1.getD t12.toNat AV.undef) 3))))
         else .stop (.inr (.inl (h0, h1, h2, fI (t1.getD t12.toNat AV.undef) 0, fI (t1.getD t12.toNat AV.undef) 1, fI (t1.getD t12.toNat AV.undef) 2, fI (t1.getD t12.toNat AV.undef) 3, h6, fI (t1.getD t12.toNat AV.undef) 0, fI (t1.getD t12.toNat AV.undef) 1, fI (t1.getD t12.toNat AV.undef) 2, fI (t1.getD t12.toNat AV.undef) 3))))
        else .stop (.inr (.inl (h0, h1, h2, fI (t1.getD t12.toNat AV.undef) 0, fI (t1.getD t12.toNat AV.undef) 1, fI (t1.getD t12.toNat AV.undef) 2, fI (t1.getD t12.toNat AV.undef) 3, h6, fI (t1.getD t12.toNat AV.undef) 0, fI (t1.getD t12.toNat AV.undef) 1, fI (t1.getD t12.toNat AV.undef) 2, fI (t1.getD t12.toNat AV.undef) 3))))
       else .stop (.inr (.inl (h0, h1, h2, fI (t1.getD t12.toNat AV.undef) 0, fI (t1.getD t12.toNat AV.undef) 1, fI (t1.getD t12.toNat AV.undef) 2, fI (t1.getD t12.toNat AV.undef) 3, h6, fI (t1.getD t12.toNat AV.undef) 0, fI (t1.getD t12.toNat AV.undef) 1, fI (t1.getD t12.toNat AV.undef) 2, fI (t1.getD t12.toNat AV.undef) 3))))
      else .fail)
     else .fail)
    else (bif decide (fI (t1.getD t12.toNat AV.undef) 0 = 2) then (bif !decide (h5_0 = 0) then (bif (v68_0 (fI (t1.getD t12.toNat AV.undef) 1) h5_2 (IntKind.i64.wrap (fI (t1.getD t12.toNat AV.undef) 2 - 1))) then (bif (v68_0 (fI (t1.getD t12.toNat AV.undef) 2) h5_2 (IntKind.i64.wrap (h5_3 - 1))) then (bif q110 h0 h1 h2 ([AV.agg [AV.int .i64 (fI (t1.getD t12.toNat AV.undef) 1), AV.int .i64 (fI (t1.getD t12.toNat AV.undef) 2)]]) then (bif (decide ((h6.length + ([AV.agg [AV.int .i64 (fI (t1.getD t12.toNat AV.undef) 1), AV.int .i64 (fI (t1.getD t12.toNat AV.undef) 2)]]).length) * 16 ≤ 140737488355328) && decide ((h6.length + ([AV.agg [AV.int .i64 (fI (t1.getD t12.toNat AV.undef) 1), AV.int .i64 (fI (t1.getD t12.toNat AV.undef) 2)]]).length) ≤ 140737488355328)) then (bif !(decide (fI (t1.getD t12.toNat AV.undef) 3 = 0)) then .stop (.inr (.inr (.inl ((v110_0 h0 h1 h2 ([AV.agg [AV.int .i64 (fI (t1.getD t12.toNat AV.undef) 1), AV.int .i64 (fI (t1.getD t12.toNat AV.undef) 2)]])), h0, h1, h2, h5_0, h5_1, h5_2, h5_3, (v110_1 h0 h1 h2 ([AV.agg [AV.int .i64 (fI (t1.getD t12.toNat AV.undef) 1), AV.int .i64 (fI (t1.getD t12.toNat AV.undef) 2)]])), fI (t1.getD t12.toNat AV.undef) 0, fI (t1.getD t12.toNat AV.undef) 1, fI (t1.getD t12.toNat AV.undef) 2, fI (t1.getD t12.toNat AV.undef) 3, [AV.agg [AV.int .i64 (fI (t1.getD t12.toNat AV.undef) 1), AV.int .i64 (fI (t1.getD t12.toNat AV.undef) 2)]], [AV.agg [AV.int .i64 (fI (t1.getD t12.toNat AV.undef) 1), AV.int .i64 (fI (t1.getD t12.toNat AV.undef) 2)]], h6 ++ ([AV.agg [AV.int .i64 (fI (t1.getD t12.toNat AV.undef) 1), AV.int .i64 (fI (t1.getD t12.toNat AV.undef) 2)]]), (v110_2 h0 h1 h2 ([AV.agg [AV.int .i64 (fI (t1.getD t12.toNat AV.undef) 1), AV.int .i64 (fI (t1.getD t12.toNat AV.undef) 2)]]))))))
           else .next (t11, IntKind.i64.wrap (t12 + 1), (v110_0 h0 h1 h2 ([AV.agg [AV.int .i64 (fI (t1.getD t12.toNat AV.undef) 1), AV.int .i64 (fI (t1.getD t12.toNat AV.undef) 2)]])), (v110_1 h0 h1 h2 ([AV.agg [AV.int .i64 (fI (t1.getD t12.toNat AV.undef) 1), AV.int .i64 (fI (t1.getD t12.toNat AV.undef) 2)]])), (v110_2 h0 h1 h2 ([AV.agg [AV.int .i64 (fI (t1.getD t12.toNat AV.undef) 1), AV.int .i64 (fI (t1.getD t12.toNat AV.undef) 2)]])), h5_0, h5_1, h5_2, h5_3, h6 ++ ([AV.agg [AV.int .i64 (fI (t1.getD t12.toNat AV.undef) 1), AV.int .i64 (fI (t1.getD t12.toNat AV.undef) 2)]])))
          else .fail)
         else .fail)
        else (bif q110 h0 h1 h2 ([AV.agg [AV.int .i64 (fI (t1.getD t12.toNat AV.undef) 1), AV.int .i64 (fI (t1.getD t12.toNat AV.undef) 2)]]) then (bif (decide ((h6.length + ([AV.agg [AV.int .i64 (fI (t1.getD t12.toNat AV.undef) 1), AV.int .i64 (fI (t1.getD t12.toNat AV.undef) 2)]]).length) * 16 ≤ 140737488355328) && decide ((h6.length + ([AV.agg [AV.int .i64 (fI (t1.getD t12.toNat AV.undef) 1), AV.int .i64 (fI (t1.getD t12.toNat AV.undef) 2)]]).length) ≤ 140737488355328)) then .stop (.inr (.inr (.inl ((v110_0 h0 h1 h2 ([AV.agg [AV.int .i64 (fI (t1.getD t12.toNat AV.undef) 1), AV.int .i64 (fI (t1.getD t12.toNat AV.undef) 2)]])), h0, h1, h2, h5_0, h5_1, h5_2, h5_3, (v110_1 h0 h1 h2 ([AV.agg [AV.int .i64 (fI (t1.getD t12.toNat AV.undef) 1), AV.int .i64 (fI (t1.getD t12.toNat AV.undef) 2)]])), fI (t1.getD t12.toNat AV.undef) 0, fI (t1.getD t12.toNat AV.undef) 1, fI (t1.getD t12.toNat AV.undef) 2, fI (t1.getD t12.toNat AV.undef) 3, [AV.agg [AV.int .i64 (fI (t1.getD t12.toNat AV.undef) 1), AV.int .i64 (fI (t1.getD t12.toNat AV.undef) 2)]], [AV.agg [AV.int .i64 (fI (t1.getD t12.toNat AV.undef) 1), AV.int .i64 (fI (t1.getD t12.toNat AV.undef) 2)]], h6 ++ ([AV.agg [AV.int .i64 (fI (t1.getD t12.toNat AV.undef) 1), AV.int .i64 (fI (t1.getD t12.toNat AV.undef) 2)]]), (v110_2 h0 h1 h2 ([AV.agg [AV.int .i64 (fI (t1.getD t12.toNat AV.undef) 1), AV.int .i64 (fI (t1.getD t12.toNat AV.undef) 2)]]))))))
          else .fail)
         else .fail))
       else (bif q110 h0 h1 h2 ([AV.agg [AV.int .i64 (fI (t1.getD t12.toNat AV.undef) 1), AV.int .i64 (fI (t1.getD t12.toNat AV.undef) 2)]]) then (bif (decide ((h6.length + ([AV.agg [AV.int .i64 (fI (t1.getD t12.toNat AV.undef) 1), AV.int .i64 (fI (t1.getD t12.toNat AV.undef) 2)]]).length) * 16 ≤ 140737488355328) && decide ((h6.length + ([AV.agg [AV.int .i64 (fI (t1.getD t12.toNat AV.undef) 1), AV.int .i64 (fI (t1.getD t12.toNat AV.undef) 2)]]).length) ≤ 140737488355328)) then .stop (.inr (.inr (.inl ((v110_0 h0 h1 h2 ([AV.agg [AV.int .i64 (fI (t1.getD t12.toNat AV.undef) 1), AV.int .i64 (fI (t1.getD t12.toNat AV.undef) 2)]])), h0, h1, h2, h5_0, h5_1, h5_2, h5_3, (v110_1 h0 h1 h2 ([AV.agg [AV.int .i64 (fI (t1.getD t12.toNat AV.undef) 1), AV.int .i64 (fI (t1.getD t12.toNat AV.undef) 2)]])), fI (t1.getD t12.toNat AV.undef) 0, fI (t1.getD t12.toNat AV.undef) 1, fI (t1.getD t12.toNat AV.undef) 2, fI (t1.getD t12.toNat AV.undef) 3, [AV.agg [AV.int .i64 (fI (t1.getD t12.toNat AV.undef) 1), AV.int .i64 (fI (t1.getD t12.toNat AV.undef) 2)]], [AV.agg [AV.int .i64 (fI (t1.getD t12.toNat AV.undef) 1), AV.int .i64 (fI (t1.getD t12.toNat AV.undef) 2)]], h6 ++ ([AV.agg [AV.int .i64 (fI (t1.getD t12.toNat AV.undef) 1), AV.int .i64 (fI (t1.getD t12.toNat AV.undef) 2)]]), (v110_2 h0 h1 h2 ([AV.agg [AV.int .i64 (fI (t1.getD t12.toNat AV.undef) 1), AV.int .i64 (fI (t1.getD t12.toNat AV.undef) 2)]]))))))
         else .fail)
        else .fail))
      else (bif q110 h0 h1 h2 ([AV.agg [AV.int .i64 (fI (t1.getD t12.toNat AV.undef) 1), AV.int .i64 (fI (t1.getD t12.toNat AV.undef) 2)]]) then (bif (decide ((h6.length + ([AV.agg [AV.int .i64 (fI (t1.getD t12.toNat AV.undef) 1), AV.int .i64 (fI (t1.getD t12.toNat AV.undef) 2)]]).length) * 16 ≤ 140737488355328) && decide ((h6.length + ([AV.agg [AV.int .i64 (fI (t1.getD t12.toNat AV.undef) 1), AV.int .i64 (fI (t1.getD t12.toNat AV.undef) 2)]]).length) ≤ 140737488355328)) then .stop (.inr (.inr (.inl ((v110_0 h0 h1 h2 ([AV.agg [AV.int .i64 (fI (t1.getD t12.toNat AV.undef) 1), AV.int .i64 (fI (t1.getD t12.toNat AV.undef) 2)]])), h0, h1, h2, h5_0, h5_1, h5_2, h5_3, (v110_1 h0 h1 h2 ([AV.agg [AV.int .i64 (fI (t1.getD t12.toNat AV.undef) 1), AV.int .i64 (fI (t1.getD t12.toNat AV.undef) 2)]])), fI (t1.getD t12.toNat AV.undef) 0, fI (t1.getD t12.toNat AV.undef) 1, fI (t1.getD t12.toNat AV.undef) 2, fI (t1.getD t12.toNat AV.undef) 3, [AV.agg [AV.int .i64 (fI (t1.getD t12.toNat AV.undef) 1), AV.int .i64 (fI (t1.getD t12.toNat AV.undef) 2)]], [AV.agg [AV.int .i64 (fI (t1.getD t12.toNat AV.undef) 1), AV.int .i64 (fI (t1.getD t12.toNat AV.undef) 2)]], h6 ++ ([AV.agg [AV.int .i64 (fI (t1.getD t12.toNat AV.undef) 1), AV.int .i64 (fI (t1.getD t12.toNat AV.undef) 2)]]), (v110_2 h0 h1 h2 ([AV.agg [AV.int .i64 (fI (t1.getD t12.toNat AV.undef) 1), AV.int .i64 (fI (t1.getD t12.toNat AV.undef) 2)]]))))))
        else .fail)
       else .fail))
     else (bif decide (fI (t1.getD t12.toNat AV.undef) 0 = 3) then (bif q111 h0 h1 h2 (fI (t1.getD t12.toNat AV.undef) 1) (fI (t1.getD t12.toNat AV.undef) 2) then (bif !decide (h5_0 = 0) then (bif decide (h5_1 = fI (t1.getD t12.toNat AV.undef) 1) then (bif (v111_3 h0 h1 h2 (fI (t1.getD t12.toNat AV.undef) 1) (fI (t1.getD t12.toNat AV.undef) 2)) then (bif !(decide (fI (t1.getD t12.toNat AV.undef) 3 = 0)) then .stop (.inr (.inr (.inr (.inl ((v111_0 h0 h1 h2 (fI (t1.getD t12.toNat AV.undef) 1) (fI (t1.getD t12.toNat AV.undef) 2)), h0, h1, h2, h6, (v111_1 h0 h1 h2 (fI (t1.getD t12.toNat AV.undef) 1) (fI (t1.getD t12.toNat AV.undef) 2)), fI (t1.getD t12.toNat AV.undef) 0, fI (t1.getD t12.toNat AV.undef) 1, fI (t1.getD t12.toNat AV.undef) 2, fI (t1.getD t12.toNat AV.undef) 3, (v111_2 h0 h1 h2 (fI (t1.getD t12.toNat AV.undef) 1) (fI (t1.getD t12.toNat AV.undef) 2)))))))
           else .next (IntKind.i64.wrap (t11 + 1), IntKind.i64.wrap (t12 + 1), (v111_0 h0 h1 h2 (fI (t1.getD t12.toNat AV.undef) 1) (fI (t1.getD t12.toNat AV.undef) 2)), (v111_1 h0 h1 h2 (fI (t1.getD t12.toNat AV.undef) 1) (fI (t1.getD t12.toNat AV.undef) 2)), (v111_2 h0 h1 h2 (fI (t1.getD t12.toNat AV.undef) 1) (fI (t1.getD t12.toNat AV.undef) 2)), 0, 0, 0, 0, h6))
          else .stop (.inr (.inr (.inr (.inl ((v111_0 h0 h1 h2 (fI (t1.getD t12.toNat AV.undef) 1) (fI (t1.getD t12.toNat AV.undef) 2)), h0, h1, h2, h6, (v111_1 h0 h1 h2 (fI (t1.getD t12.toNat AV.undef) 1) (fI (t1.getD t12.toNat AV.undef) 2)), fI (t1.getD t12.toNat AV.undef) 0, fI (t1.getD t12.toNat AV.undef) 1, fI (t1.getD t12.toNat AV.undef) 2, fI (t1.getD t12.toNat AV.undef) 3, (v111_2 h0 h1 h2 (fI (t1.getD t12.toNat AV.undef) 1) (fI (t1.getD t12.toNat AV.undef) 2))))))))
         else .stop (.inr (.inr (.inr (.inl ((v111_0 h0 h1 h2 (fI (t1.getD t12.toNat AV.undef) 1) (fI (t1.getD t12.toNat AV.undef) 2)), h0, h1, h2, h6, (v111_1 h0 h1 h2 (fI (t1.getD t12.toNat AV.undef) 1) (fI (t1.getD t12.toNat AV.undef) 2)), fI (t1.getD t12.toNat AV.undef) 0, fI (t1.getD t12.toNat AV.undef) 1, fI (t1.getD t12.toNat AV.undef) 2, fI (t1.getD t12.toNat AV.undef) 3, (v111_2 h0 h1 h2 (fI (t1.getD t12.toNat AV.undef) 1) (fI (t1.getD t12.toNat AV.undef) 2))))))))
        else .stop (.inr (.inr (.inr (.inl ((v111_0 h0 h1 h2 (fI (t1.getD t12.toNat AV.undef) 1) (fI (t1.getD t12.toNat AV.undef) 2)), h0, h1, h2, h6, (v111_1 h0 h1 h2 (fI (t1.getD t12.toNat AV.undef) 1) (fI (t1.getD t12.toNat AV.undef) 2)), fI (t1.getD t12.toNat AV.undef) 0, fI (t1.getD t12.toNat AV.undef) 1, fI (t1.getD t12.toNat AV.undef) 2, fI (t1.getD t12.toNat AV.undef) 3, (v111_2 h0 h1 h2 (fI (t1.getD t12.toNat AV.undef) 1) (fI (t1.getD t12.toNat AV.undef) 2))))))))
       else .fail)
      else .stop (.inr (.inr (.inr (.inr (h0, h1, h2, h5_0, h5_1, h5_2, h5_3, h6, fI (t1.getD t12.toNat AV.undef) 0, fI (t1.getD t12.toNat AV.undef) 1, fI (t1.getD t12.toNat AV.undef) 2, fI (t1.getD t12.toNat AV.undef) 3))))))))
   else .fail)
  else .stop (.inl (t11, h0, h1, h2, h5_0, h5_1, h5_2, h5_3, h6)))
def R52_0 (t1 : List AV) : ((Int × Int × (List AV) × (List AV) × (List AV) × Int × Int × Int × Int × (List AV))) → Out ((Int × Int × (List AV) × (List AV) × (List AV) × Int × Int × Int × Int × (List AV))) ((Int × (List AV) × (List AV) × (List AV) × Int × Int × Int × Int × (List AV)) ⊕ ((List AV) × (List AV) × (List AV) × Int × Int × Int × Int × (List AV) × Int × Int × Int × Int) ⊕ ((List AV) × (List AV) × (List AV) × (List AV) × Int × Int × Int × Int × (List AV) × Int × Int × Int × Int × (List AV) × (List AV) × (List AV) × (List AV)) ⊕ ((List AV) × (List AV) × (List AV) × (List AV) × (List AV) × (List AV) × Int × Int × Int × Int × (List AV)) ⊕ ((List AV) × (List AV) × (List AV) × Int × Int × Int × Int × (List AV) × Int × Int × Int × Int)) := fun s : Int × Int × (List AV) × (List AV) × (List AV) × Int × Int × Int × Int × (List AV) => F52_0 t1 s.1 s.2.1 s.2.2.1 s.2.2.2.1 s.2.2.2.2.1 s.2.2.2.2.2.1 s.2.2.2.2.2.2.1 s.2.2.2.2.2.2.2.1 s.2.2.2.2.2.2.2.2.1 s.2.2.2.2.2.2.2.2.2
def l52_0 : LModel := fun _ _ st k => match st with
  | ⟨[(1, .sl g0 t1), (4, .ptr g1 g2 g3), (8, .ptr g4 g5 g6), (9, .ptr g7 g8 g9), (10, .own g10), (11, .int .i64 t11), (12, .int .i64 t12)], [(g11, ⟨false, g12, h0⟩), (g13, ⟨false, g14, h1⟩), (g15, ⟨false, g16, h2⟩), (g17, ⟨true, [], [.agg [.snil, .snil, .snil]]⟩), (g18, ⟨true, [], [.agg [.own g19, .own g20, .own g21]]⟩), (g22, ⟨true, [], [.agg [.int .i64 h5_0, .int .i64 h5_1, .int .i64 h5_2, .int .i64 h5_3]]⟩), (g23, ⟨false, g24, h6⟩)]⟩ => bif ctsEq g0 ([.int .i64, .int .i64, .int .i64, .int .i64]) && nmEq g1 ([0, 4]) && Nat.beq g2 0 && Nat.beq g3 0 && nmEq g4 ([0, 8]) && Nat.beq g5 0 && Nat.beq g6 0 && nmEq g7 ([0, 9]) && Nat.beq g8 0 && Nat.beq g9 0 && nmEq g10 ([0, 10]) && nmEq g11 ([0, 0, 8]) && ctsEq g12 ([.int .i64]) && nmEq g13 ([0, 1, 8]) && ctsEq g14 ([.int .i64]) && nmEq g15 ([0, 2, 8]) && ctsEq g16 ([.int .i64, .int .i64]) && nmEq g17 ([0, 4]) && nmEq g18 ([0, 8]) && nmEq g19 ([0, 0, 8]) && nmEq g20 ([0, 1, 8]) && nmEq g21 ([0, 2, 8]) && nmEq g22 ([0, 9]) && nmEq g23 ([0, 10]) && ctsEq g24 ([.int .i64, .int .i64]) then ro (runW (R52_0 t1) (((t1.length : Int) - t12).toNat + 1) (t11, t12, h0, h1, h2, h5_0, h5_1, h5_2, h5_3, h6)) none (sumE (fun p : Int × (List AV) × (List AV) × (List AV) × Int × Int × Int × Int × (List AV) => k (.exit 0) ⟨[(4, AV.ptr [0, 4] 0 0), (8, AV.ptr [0, 8] 0 0), (9, AV.ptr [0, 9] 0 0), (10, AV.own [0, 10]), (11, AV.int .i64 p.1)], [([0, 0, 8], ⟨false, [.int .i64], p.2.1⟩), ([0, 1, 8], ⟨false, [.int .i64], p.2.2.1⟩), ([0, 2, 8], ⟨false, [.int .i64, .int .i64], p.2.2.2.1⟩), ([0, 4], ⟨true, [], [AV.agg [AV.snil, AV.snil, AV.snil]]⟩), ([0, 8], ⟨true, [], [AV.agg [AV.own [0, 0, 8], AV.own [0, 1, 8], AV.own [0, 2, 8]]]⟩), ([0, 9], ⟨true, [], [AV.agg [AV.int .i64 p.2.2.2.2.1, AV.int .i64 p.2.2.2.2.2.1, AV.int .i64 p.2.2.2.2.2.2.1, AV.int .i64 p.2.2.2.2.2.2.2.1]]⟩), ([0, 10], ⟨false, [.int .i64, .int .i64], p.2.2.2.2.2.2.2.2⟩)]⟩) (sumE (fun p : (List AV) × (List AV) × (List AV) × Int × Int × Int × Int × (List AV) × Int × Int × Int × Int => k .ret ⟨[(4, AV.ptr [0, 4] 0 0), (5, AV.int .i64 0), (6, AV.int .i64 0), (7, AV.bool false)], [([0, 0, 8], ⟨false, [.int .i64], p.1⟩), ([0, 1, 8], ⟨false, [.int .i64], p.2.1⟩), ([0, 2, 8], ⟨false, [.int .i64, .int .i64], p.2.2.1⟩), ([0, 4], ⟨true, [], [AV.agg [AV.snil, AV.snil, AV.snil]]⟩), ([0, 8], ⟨true, [], [AV.agg [AV.own [0, 0, 8], AV.own [0, 1, 8], AV.own [0, 2, 8]]]⟩), ([0, 9], ⟨true, [], [AV.agg [AV.int .i64 p.2.2.2.1, AV.int .i64 p.2.2.2.2.1, AV.int .i64 p.2.2.2.2.2.1, AV.int .i64 p.2.2.2.2.2.2.1]]⟩), ([0, 10], ⟨false, [.int .i64, .int .i64], p.2.2.2.2.2.2.2.1⟩), ([1, 13], ⟨true, [], [AV.agg [AV.int .i64 p.2.2.2.2.2.2.2.2.1, AV.int .i64 p.2.2.2.2.2.2.2.2.2.1, AV.int .i64 p.2.2.2.2.2.2.2.2.2.2.1, AV.int .i64 p.2.2.2.2.2.2.2.2.2.2.2]]⟩), ([1, 86], ⟨false, [.int .i64, .int .i64], ([] : List AV)⟩)]⟩) (sumE (fun p : (List AV) × (List AV) × (List AV) × (List AV) × Int × Int × Int × Int × (List AV) × Int × Int × Int × Int × (List AV) × (List AV) × (List AV) × (List AV) => k .ret ⟨[(4, AV.ptr [0, 4] 0 0), (5, AV.int .i64 0), (6, AV.int .i64 0), (7, AV.bool false)], [([0, 0, 1, 125], ⟨false, [.int .i64], p.1⟩), ([0, 0, 8], ⟨false, [.int .i64], p.2.1⟩), ([0, 1, 8], ⟨false, [.int .i64], p.2.2.1⟩), ([0, 2, 8], ⟨false, [.int .i64, .int .i64], p.2.2.2.1⟩), ([0, 4], ⟨true, [], [AV.agg [AV.snil, AV.snil, AV.snil]]⟩), ([0, 8], ⟨true, [], [AV.agg [AV.own [0, 0, 1, 125], AV.own [1, 0, 1, 125], AV.own [2, 0, 1, 125]]]⟩), ([0, 9], ⟨true, [], [AV.agg [AV.int .i64 p.2.2.2.2.1, AV.int .i64 p.2.2.2.2.2.1, AV.int .i64 p.2.2.2.2.2.2.1, AV.int .i64 p.2.2.2.2.2.2.2.1]]⟩), ([1, 0, 1, 125], ⟨false, [.int .i64], p.2.2.2.2.2.2.2.2.1⟩), ([1, 13], ⟨true, [], [AV.agg [AV.int .i64 p.2.2.2.2.2.2.2.2.2.1, AV.int .i64 p.2.2.2.2.2.2.2.2.2.2.1, AV.int .i64 p.2.2.2.2.2.2.2.2.2.2.2.1, AV.int .i64 p.2.2.2.2.2.2.2.2.2.2.2.2.1]]⟩), ([1, 19], ⟨true, [], [AV.agg [AV.own [0, 0, 1, 125], AV.own [1, 0, 1, 125], AV.own [2, 0, 1, 125]]]⟩), ([1, 124], ⟨false, [.int .i64, .int .i64], p.2.2.2.2.2.2.2.2.2.2.2.2.2.1⟩), ([1, 135], ⟨false, [.int .i64, .int .i64], p.2.2.2.2.2.2.2.2.2.2.2.2.2.2.1⟩), ([1, 136], ⟨false, [.int .i64, .int .i64], p.2.2.2.2.2.2.2.2.2.2.2.2.2.2.2.1⟩), ([2, 0, 1, 125], ⟨false, [.int .i64, .int .i64], p.2.2.2.2.2.2.2.2.2.2.2.2.2.2.2.2⟩)]⟩) (sumE (fun p : (List AV) × (List AV) × (List AV) × (List AV) × (List AV) × (List AV) × Int × Int × Int × Int × (List AV) => k .ret ⟨[(4, AV.ptr [0, 4] 0 0), (5, AV.int .i64 0), (6, AV.int .i64 0), (7, AV.bool false)], [([0, 0, 1, 146], ⟨false, [.int .i64], p.1⟩), ([0, 0, 8], ⟨false, [.int .i64], p.2.1⟩), ([0, 1, 8], ⟨false, [.int .i64], p.2.2.1⟩), ([0, 2, 8], ⟨false, [.int .i64, .int .i64], p.2.2.2.1⟩), ([0, 4], ⟨true, [], [AV.agg [AV.snil, AV.snil, AV.snil]]⟩), ([0, 8], ⟨true, [], [AV.agg [AV.own [0, 0, 1, 146], AV.own [1, 0, 1, 146], AV.own [2, 0, 1, 146]]]⟩), ([0, 9], ⟨true, [], [AV.agg [AV.int .i64 0, AV.int .i64 0, AV.int .i64 0, AV.int .i64 0]]⟩), ([0, 10], ⟨false, [.int .i64, .int .i64], p.2.2.2.2.1⟩), ([1, 0, 1, 146], ⟨false, [.int .i64], p.2.2.2.2.2.1⟩), ([1, 13], ⟨true, [], [AV.agg [AV.int .i64 p.2.2.2.2.2.2.1, AV.int .i64 p.2.2.2.2.2.2.2.1, AV.int .i64 p.2.2.2.2.2.2.2.2.1, AV.int .i64 p.2.2.2.2.2.2.2.2.2.1]]⟩), ([1, 21], ⟨true, [], [AV.agg [AV.own [0, 0, 1, 146], AV.own [1, 0, 1, 146], AV.own [2, 0, 1, 146]]]⟩), ([2, 0, 1, 146], ⟨false, [.int .i64, .int .i64], p.2.2.2.2.2.2.2.2.2.2⟩)]⟩) (fun p : (List AV) × (List AV) × (List AV) × Int × Int × Int × Int × (List AV) × Int × Int × Int × Int => k .ret ⟨[(4, AV.ptr [0, 4] 0 0), (5, AV.int .i64 0), (6, AV.int .i64 0), (7, AV.bool false)], [([0, 0, 8], ⟨false, [.int .i64], p.1⟩), ([0, 1, 8], ⟨false, [.int .i64], p.2.1⟩), ([0, 2, 8], ⟨false, [.int .i64, .int .i64], p.2.2.1⟩), ([0, 4], ⟨true, [], [AV.agg [AV.snil, AV.snil, AV.snil]]⟩), ([0, 8], ⟨true, [], [AV.agg [AV.own [0, 0, 8], AV.own [0, 1, 8], AV.own [0, 2, 8]]]⟩), ([0, 9], ⟨true, [], [AV.agg [AV.int .i64 p.2.2.2.1, AV.int .i64 p.2.2.2.2.1, AV.int .i64 p.2.2.2.2.2.1, AV.int .i64 p.2.2.2.2.2.2.1]]⟩), ([0, 10], ⟨false, [.int .i64, .int .i64], p.2.2.2.2.2.2.2.1⟩), ([1, 13], ⟨true, [], [AV.agg [AV.int .i64 p.2.2.2.2.2.2.2.2.1, AV.int .i64 p.2.2.2.2.2.2.2.2.2.1, AV.int .i64 p.2.2.2.2.2.2.2.2.2.2.1, AV.int .i64 p.2.2.2.2.2.2.2.2.2.2.2]]⟩)]⟩))))) else none
  | _ => none
noncomputable def c52 : Cfg := cfg Try.prog [(52, 0, [1, 4, 8, 9, 10, 11, 12]), (52, 999, [4, 5, 6, 7]), (52, 1000, [4, 8, 9, 10, 11]), (52, 1001, [1, 4, 8, 9, 10, 11, 12]), (52, 1002, [1, 4, 8, 9, 10, 11, 12, 14])] [(68, m68), (95, m95), (97, m97), (102, m102), (103, m103), (110, m110), (111, m111), (112, m112)] [] [] [(52, 0, l52_0)]
theorem s52_0 (ce : CallE) (t1 : List AV) (t11 : Int) (t12 : Int) (h0 : List AV) (h1 : List AV) (h2 : List AV) (h5_0 : Int) (h5_1 : Int) (h5_2 : Int) (h5_3 : Int) (h6 : List AV) (next : St → Option AV) (k : Kont) : stepA (codeA c52 ce [] 52 0 (sub [1, 1, 1, 1, 1, 1, 0, 1, 0, 0] (body Try.f52))) (normA [] [1, 4, 8, 9, 10, 11, 12]) next ⟨[(1, AV.sl [.int .i64, .int .i64, .int .i64, .int .i64] t1), (4, AV.ptr [0, 4] 0 0), (8, AV.ptr [0, 8] 0 0), (9, AV.ptr [0, 9] 0 0), (10, AV.own [0, 10]), (11, AV.int .i64 t11), (12, AV.int .i64 t12)], [([0, 0, 8], ⟨false, [.int .i64], h0⟩), ([0, 1, 8], ⟨false, [.int .i64], h1⟩), ([0, 2, 8], ⟨false, [.int .i64, .int .i64], h2⟩), ([0, 4], ⟨true, [], [AV.agg [AV.snil, AV.snil, AV.snil]]⟩), ([0, 8], ⟨true, [], [AV.agg [AV.own [0, 0, 8], AV.own [0, 1, 8], AV.own [0, 2, 8]]]⟩), ([0, 9], ⟨true, [], [AV.agg [AV.int .i64 h5_0, AV.int .i64 h5_1, AV.int .i64 h5_2, AV.int .i64 h5_3]]⟩), ([0, 10], ⟨false, [.int .i64, .int .i64], h6⟩)]⟩ k = (bif decide (t12 < (t1.length : Int)) then (bif (decide (0 ≤ t12) && decide (t12 < (t1.length : Int))) then (bif decide (fI (t1.getD t12.toNat AV.undef) 0 = 1) then (bif q97 h0 h1 h2 (fI (t1.getD t12.toNat AV.undef) 1) then (bif q95 h0 h1 h2 (fI (t1.getD t12.toNat AV.undef) 1) then (bif decide (h5_0 = 0) then (bif (v68_0 (fI (t1.getD t12.toNat AV.undef) 1) (-1000) 1000) then (bif !(v95_1 h0 h1 h2 (fI (t1.getD t12.toNat AV.undef) 1)) then (bif decide (fI (t1.getD t12.toNat AV.undef) 2 = (v97_0 h0 h1 h2 (fI (t1.getD t12.toNat AV.undef) 1))) then (bif !(decide (fI (t1.getD t12.toNat AV.undef) 3 = (v97_1 h0 h1 h2 (fI (t1.getD t12.toNat AV.undef) 1)))) then k .ret ⟨[(4, AV.ptr [0, 4] 0 0), (5, AV.int .i64 0), (6, AV.int .i64 0), (7, AV.bool false)], [([0, 0, 8], ⟨false, [.int .i64], h0⟩), ([0, 1, 8], ⟨false, [.int .i64], h1⟩), ([0, 2, 8], ⟨false, [.int .i64, .int .i64], h2⟩), ([0, 4], ⟨true, [], [AV.agg [AV.snil, AV.snil, AV.snil]]⟩), ([0, 8], ⟨true, [], [AV.agg [AV.own [0, 0, 8], AV.own [0, 1, 8], AV.own [0, 2, 8]]]⟩), ([0, 9], ⟨true, [], [AV.agg [AV.int .i64 (fI (t1.getD t12.toNat AV.undef) 0), AV.int .i64 (fI (t1.getD t12.toNat AV.undef) 1), AV.int .i64 (fI (t1.getD t12.toNat AV.undef) 2), AV.int .i64 (fI (t1.getD t12.toNat AV.undef) 3)]]⟩), ([0, 10], ⟨false, [.int .i64, .int .i64], h6⟩), ([1, 13], ⟨true, [], [AV.agg [AV.int .i64 (fI (t1.getD t12.toNat AV.undef) 0), AV.int .i64 (fI (t1.getD t12.toNat AV.undef) 1), AV.int .i64 (fI (t1.getD t12.toNat AV.undef) 2), AV.int .i64 (fI (t1.getD t12.toNat AV.undef) 3)]]⟩), ([1, 86], ⟨false, [.int .i64, .int .i64], ([] : List AV)⟩)]⟩
           else next ⟨[(1, AV.sl [.int .i64, .int .i64, .int .i64, .int .i64] t1), (4, AV.ptr [0, 4] 0 0), (8, AV.ptr [0, 8] 0 0), (9, AV.ptr [0, 9] 0 0), (10, AV.own [0, 10]), (11, AV.int .i64 t11), (12, AV.int .i64 (IntKind.i64.wrap (t12 + 1)))], [([0, 0, 8], ⟨false, [.int .i64], h0⟩), ([0, 1, 8], ⟨false, [.int .i64], h1⟩), ([0, 2, 8], ⟨false, [.int .i64, .int .i64], h2⟩), ([0, 4], ⟨true, [], [AV.agg [AV.snil, AV.snil, AV.snil]]⟩), ([0, 8], ⟨true, [], [AV.agg [AV.own [0, 0, 8], AV.own [0, 1, 8], AV.own [0, 2, 8]]]⟩), ([0, 9], ⟨true, [], [AV.agg [AV.int .i64 (fI (t1.getD t12.toNat AV.undef) 0), AV.int .i64 (fI (t1.getD t12.toNat AV.undef) 1), AV.int .i64 (fI (t1.getD t12.toNat AV.undef) 2), AV.int .i64 (fI (t1.getD t12.toNat AV.undef) 3)]]⟩), ([0, 10], ⟨false, [.int .i64, .int .i64], ([] : List AV)⟩)]⟩)
          else k .ret ⟨[(4, AV.ptr [0, 4] 0 0), (5, AV.int .i64 0), (6, AV.int .i64 0), (7, AV.bool false)], [([0, 0, 8], ⟨false, [.int .i64], h0⟩), ([0, 1, 8], ⟨false, [.int .i64], h1⟩), ([0, 2, 8], ⟨false, [.int .i64, .int .i64], h2⟩), ([0, 4], ⟨true, [], [AV.agg [AV.snil, AV.snil, AV.snil]]⟩), ([0, 8], ⟨true, [], [AV.agg [AV.own [0, 0, 8], AV.own [0, 1, 8], AV.own [0, 2, 8]]]⟩), ([0, 9], ⟨true, [], [AV.agg [AV.int .i64 (fI (t1.getD t12.toNat AV.undef) 0), AV.int .i64 (fI (t1.getD t12.toNat AV.undef) 1), AV.int .i64 (fI (t1.getD t12.toNat AV.undef) 2), AV.int .i64 (fI (t1.getD t12.toNat AV.undef) 3)]]⟩), ([0, 10], ⟨false, [.int .i64, .int .i64], h6⟩), ([1, 13], ⟨true, [], [AV.agg [AV.int .i64 (fI (t1.getD t12.toNat AV.undef) 0), AV.int .i64 (fI (t1.getD t12.toNat AV.undef) 1), AV.int .i64 (fI (t1.getD t12.toNat AV.undef) 2), AV.int .i64 (fI (t1.getD t12.toNat AV.undef) 3)]]⟩), ([1, 86], ⟨false, [.int .i64, .int .i64], ([] : List AV)⟩)]⟩)
         else k .ret ⟨[(4, AV.ptr [0, 4] 0 0), (5, AV.int .i64 0), (6, AV.int .i64 0), (7, AV.bool false)], [([0, 0, 8], ⟨false, [.int .i64], h0⟩), ([0, 1, 8], ⟨false, [.int .i64], h1⟩), ([0, 2, 8], ⟨false, [.int .i64, .int .i64], h2⟩), ([0, 4], ⟨true, [], [AV.agg [AV.snil, AV.snil, AV.snil]]⟩), ([0, 8], ⟨true, [], [AV.agg [AV.own [0, 0, 8], AV.own [0, 1, 8], AV.own [0, 2, 8]]]⟩), ([0, 9], ⟨true, [], [AV.agg [AV.int .i64 (fI (t1.getD t12.toNat AV.undef) 0), AV.int .i64 (fI (t1.getD t12.toNat AV.undef) 1), AV.int .i64 (fI (t1.getD t12.toNat AV.undef) 2), AV.int .i64 (fI (t1.getD t12.toNat AV.undef) 3)]]⟩), ([0, 10], ⟨false, [.int .i64, .int .i64], h6⟩), ([1, 13], ⟨true, [], [AV.agg [AV.int .i64 (fI (t1.getD t12.toNat AV.undef) 0), AV.int .i64 (fI (t1.getD t12.toNat AV.undef) 1), AV.int .i64 (fI (t1.getD t12.toNat AV.undef) 2), AV.int .i64 (fI (t1.getD t12.toNat AV.undef) 3)]]⟩), ([1, 86], ⟨false, [.int .i64, .int .i64], ([] : List AV)⟩)]⟩)
        else k .ret ⟨[(4, AV.ptr [0, 4] 0 0), (5, AV.int .i64 0), (6, AV.int .i64 0), (7, AV.bool false)], [([0, 0, 8], ⟨false, [.int .i64], h0⟩), ([0, 1, 8], ⟨false, [.int .i64], h1⟩), ([0, 2, 8], ⟨false, [.int .i64, .int .i64], h2⟩), ([0, 4], ⟨true, [], [AV.agg [AV.snil, AV.snil, AV.snil]]⟩), ([0, 8], ⟨true, [], [AV.agg [AV.own [0, 0, 8], AV.own [0, 1, 8], AV.own [0, 2, 8]]]⟩), ([0, 9], ⟨true, [], [AV.agg [AV.int .i64 (fI (t1.getD t12.toNat AV.undef) 0), AV.int .i64 (fI (t1.getD t12.toNat AV.undef) 1), AV.int .i64 (fI (t1.getD t12.toNat AV.undef) 2), AV.int .i64 (fI (t1.getD t12.toNat AV.undef) 3)]]⟩), ([0, 10], ⟨false, [.int .i64, .int .i64], h6⟩), ([1, 13], ⟨true, [], [AV.agg [AV.int .i64 (fI (t1.getD t12.toNat AV.undef) 0), AV.int .i64 (fI (t1.getD t12.toNat AV.undef) 1), AV.int .i64 (fI (t1.getD t12.toNat AV.undef) 2), AV.int .i64 (fI (t1.getD t12.toNat AV.undef) 3)]]⟩), ([1, 86], ⟨false, [.int .i64, .int .i64], ([] : List AV)⟩)]⟩)
       else k .ret ⟨[(4, AV.ptr [0, 4] 0 0), (5, AV.int .i64 0), (6, AV.int .i64 0), (7, AV.bool false)], [([0, 0, 8], ⟨false, [.int .i64], h0⟩), ([0, 1, 8], ⟨false, [.int .i64], h1⟩), ([0, 2, 8], ⟨false, [.int .i64, .int .i64], h2⟩), ([0, 4], ⟨true, [], [AV.agg [AV.snil, AV.snil, AV.snil]]⟩), ([0, 8], ⟨true, [], [AV.agg [AV.own [0, 0, 8], AV.own [0, 1, 8], AV.own [0, 2, 8]]]⟩), ([0, 9], ⟨true, [], [AV.agg [AV.int .i64 (fI (t1.getD t12.toNat AV.undef) 0), AV.int .i64 (fI (t1.getD t12.toNat AV.undef) 1), AV.int .i64 (fI (t1.getD t12.toNat AV.undef) 2), AV.int .i64 (fI (t1.getD t12.toNat AV.undef) 3)]]⟩), ([0, 10], ⟨false, [.int .i64, .int .i64], h6⟩), ([1, 13], ⟨true, [], [AV.agg [AV.int .i64 (fI (t1.getD t12.toNat AV.undef) 0), AV.int .i64 (fI (t1.getD t12.toNat AV.undef) 1), AV.int .i64 (fI (t1.getD t12.toNat AV.undef) 2), AV.int .i64 (fI (t1.getD t12.toNat AV.undef) 3)]]⟩), ([1, 86], ⟨false, [.int .i64, .int .i64], ([] : List AV)⟩)]⟩)
      else none)
     else none)
    else (bif decide (fI (t1.getD t12.toNat AV.undef) 0 = 2) then (bif !decide (h5_0 = 0) then (bif (v68_0 (fI (t1.getD t12.toNat AV.undef) 1) h5_2 (IntKind.i64.wrap (fI (t1.getD t12.toNat AV.undef) 2 - 1))) then (bif (v68_0 (fI (t1.getD t12.toNat AV.undef) 2) h5_2 (IntKind.i64.wrap (h5_3 - 1))) then (bif q110 h0 h1 h2 ([AV.agg [AV.int .i64 (fI (t1.getD t12.toNat AV.undef) 1), AV.int .i64 (fI (t1.getD t12.toNat AV.undef) 2)]]) then (bif (decide ((h6.length + ([AV.agg [AV.int .i64 (fI (t1.getD t12.toNat AV.undef) 1), AV.int .i64 (fI (t1.getD t12.toNat AV.undef) 2)]]).length) * 16 ≤ 140737488355328) && decide ((h6.length + ([AV.agg [AV.int .i64 (fI (t1.getD t12.toNat AV.undef) 1), AV.int .i64 (fI (t1.getD t12.toNat AV.undef) 2)]]).length) ≤ 140737488355328)) then (bif !(decide (fI (t1.getD t12.toNat AV.undef) 3 = 0)) then k .ret ⟨[(4, AV.ptr [0, 4] 0 0), (5, AV.int .i64 0), (6, AV.int .i64 0), (7, AV.bool false)], [([0, 0, 1, 125], ⟨false, [.int .i64], (v110_0 h0 h1 h2 ([AV.agg [AV.int .i64 (fI (t1.getD t12.toNat AV.undef) 1), AV.int .i64 (fI (t1.getD t12.toNat AV.undef) 2)]]))⟩), ([0, 0, 8], ⟨false, [.int .i64], h0⟩), ([0, 1, 8], ⟨false, [.int .i64], h1⟩), ([0, 2, 8], ⟨false, [.int .i64, .int .i64], h2⟩), ([0, 4], ⟨true, [], [AV.agg [AV.snil, AV.snil, AV.snil]]⟩), ([0, 8], ⟨true, [], [AV.agg [AV.own [0, 0, 1, 125], AV.own [1, 0, 1, 125], AV.own [2, 0, 1, 125]]]⟩), ([0, 9], ⟨true, [], [AV.agg [AV.int .i64 h5_0, AV.int .i64 h5_1, AV.int .i64 h5_2, AV.int .i64 h5_3]]⟩), ([1, 0, 1, 125], ⟨false, [.int .i64], (v110_1 h0 h1 h2 ([AV.agg [AV.int .i64 (fI (t1.getD t12.toNat AV.undef) 1), AV.int .i64 (fI (t1.getD t12.toNat AV.undef) 2)]]))⟩), ([1, 13], ⟨true, [], [AV.agg [AV.int .i64 (fI (t1.getD t12.toNat AV.undef) 0), AV.int .i64 (fI (t1.getD t12.toNat AV.undef) 1), AV.int .i64 (fI (t1.getD t12.toNat AV.undef) 2), AV.int .i64 (fI (t1.getD t12.toNat AV.undef) 3)]]⟩), ([1, 19], ⟨true, [], [AV.agg [AV.own [0, 0, 1, 125], AV.own [1, 0, 1, 125], AV.own [2, 0, 1, 125]]]⟩), ([1, 124], ⟨false, [.int .i64, .int .i64], [AV.agg [AV.int .i64 (fI (t1.getD t12.toNat AV.undef) 1), AV.int .i64 (fI (t1.getD t12.toNat AV.undef) 2)]]⟩), ([1, 135], ⟨false, [.int .i64, .int .i64], [AV.agg [AV.int .i64 (fI (t1.getD t12.toNat AV.undef) 1), AV.int .i64 (fI (t1.getD t12.toNat AV.undef) 2)]]⟩), ([1, 136], ⟨false, [.int .i64, .int .i64], h6 ++ ([AV.agg [AV.int .i64 (fI (t1.getD t12.toNat AV.undef) 1), AV.int .i64 (fI (t1.getD t12.toNat AV.undef) 2)]])⟩), ([2, 0, 1, 125], ⟨false, [.int .i64, .int .i64], (v110_2 h0 h1 h2 ([AV.agg [AV.int .i64 (fI (t1.getD t12.toNat AV.undef) 1), AV.int .i64 (fI (t1.getD t12.toNat AV.undef) 2)]]))⟩)]⟩
           else next ⟨[(1, AV.sl [.int .i64, .int .i64, .int .i64, .int .i64] t1), (4, AV.ptr [0, 4] 0 0), (8, AV.ptr [0, 8] 0 0), (9, AV.ptr [0, 9] 0 0), (10, AV.own [0, 10]), (11, AV.int .i64 t11), (12, AV.int .i64 (IntKind.i64.wrap (t12 + 1)))], [([0, 0, 8], ⟨false, [.int .i64], (v110_0 h0 h1 h2 ([AV.agg [AV.int .i64 (fI (t1.getD t12.toNat AV.undef) 1), AV.int .i64 (fI (t1.getD t12.toNat AV.undef) 2)]]))⟩), ([0, 1, 8], ⟨false, [.int .i64], (v110_1 h0 h1 h2 ([AV.agg [AV.int .i64 (fI (t1.getD t12.toNat AV.undef) 1), AV.int .i64 (fI (t1.getD t12.toNat AV.undef) 2)]]))⟩), ([0, 2, 8], ⟨false, [.int .i64, .int .i64], (v110_2 h0 h1 h2 ([AV.agg [AV.int .i64 (fI (t1.getD t12.toNat AV.undef) 1), AV.int .i64 (fI (t1.getD t12.toNat AV.undef) 2)]]))⟩), ([0, 4], ⟨true, [], [AV.agg [AV.snil, AV.snil, AV.snil]]⟩), ([0, 8], ⟨true, [], [AV.agg [AV.own [0, 0, 8], AV.own [0, 1, 8], AV.own [0, 2, 8]]]⟩), ([0, 9], ⟨true, [], [AV.agg [AV.int .i64 h5_0, AV.int .i64 h5_1, AV.int .i64 h5_2, AV.int .i64 h5_3]]⟩), ([0, 10], ⟨false, [.int .i64, .int .i64], h6 ++ ([AV.agg [AV.int .i64 (fI (t1.getD t12.toNat AV.undef) 1), AV.int .i64 (fI (t1.getD t12.toNat AV.undef) 2)]])⟩)]⟩)
          else none)
         else none)
        else (bif q110 h0 h1 h2 ([AV.agg [AV.int .i64 (fI (t1.getD t12.toNat AV.undef) 1), AV.int .i64 (fI (t1.getD t12.toNat AV.undef) 2)]]) then (bif (decide ((h6.length + ([AV.agg [AV.int .i64 (fI (t1.getD t12.toNat AV.undef) 1), AV.int .i64 (fI (t1.getD t12.toNat AV.undef) 2)]]).length) * 16 ≤ 140737488355328) && decide ((h6.length + ([AV.agg [AV.int .i64 (fI (t1.getD t12.toNat AV.undef) 1), AV.int .i64 (fI (t1.getD t12.toNat AV.undef) 2)]]).length) ≤ 140737488355328)) then k .ret ⟨[(4, AV.ptr [0, 4] 0 0), (5, AV.int .i64 0), (6, AV.int .i64 0), (7, AV.bool false)], [([0, 0, 1, 125], ⟨false, [.int .i64], (v110_0 h0 h1 h2 ([AV.agg [AV.int .i64 (fI (t1.getD t12.toNat AV.undef) 1), AV.int .i64 (fI (t1.getD t12.toNat AV.undef) 2)]]))⟩), ([0, 0, 8], ⟨false, [.int .i64], h0⟩), ([0, 1, 8], ⟨false, [.int .i64], h1⟩), ([0, 2, 8], ⟨false, [.int .i64, .int .i64], h2⟩), ([0, 4], ⟨true, [], [AV.agg [AV.snil, AV.snil, AV.snil]]⟩), ([0, 8], ⟨true, [], [AV.agg [AV.own [0, 0, 1, 125], AV.own [1, 0, 1, 125], AV.own [2, 0, 1, 125]]]⟩), ([0, 9], ⟨true, [], [AV.agg [AV.int .i64 h5_0, AV.int .i64 h5_1, AV.int .i64 h5_2, AV.int .i64 h5_3]]⟩), ([1, 0, 1, 125], ⟨false, [.int .i64], (v110_1 h0 h1 h2 ([AV.agg [AV.int .i64 (fI (t1.getD t12.toNat AV.undef) 1), AV.int .i64 (fI (t1.getD t12.toNat AV.undef) 2)]]))⟩), ([1, 13], ⟨true, [], [AV.agg [AV.int .i64 (fI (t1.getD t12.toNat AV.undef) 0), AV.int .i64 (fI (t1.getD t12.toNat AV.undef) 1), AV.int .i64 (fI (t1.getD t12.toNat AV.undef) 2), AV.int .i64 (fI (t1.getD t12.toNat AV.undef) 3)]]⟩), ([1, 19], ⟨true, [], [AV.agg [AV.own [0, 0, 1, 125], AV.own [1, 0, 1, 125], AV.own [2, 0, 1, 125]]]⟩), ([1, 124], ⟨false, [.int .i64, .int .i64], [AV.agg [AV.int .i64 (fI (t1.getD t12.toNat AV.undef) 1), AV.int .i64 (fI (t1.getD t12.toNat AV.undef) 2)]]⟩), ([1, 135], ⟨false, [.int .i64, .int .i64], [AV.agg [AV.int .i64 (fI (t1.getD t12.toNat AV.undef) 1), AV.int .i64 (fI (t1.getD t12.toNat AV.undef) 2)]]⟩), ([1, 136], ⟨false, [.int .i64, .int .i64], h6 ++ ([AV.agg [AV.int .i64 (fI (t1.getD t12.toNat AV.undef) 1), AV.int .i64 (fI (t1.getD t12.toNat AV.undef) 2)]])⟩), ([2, 0, 1, 125], ⟨false, [.int .i64, .int .i64], (v110_2 h0 h1 h2 ([AV.agg [AV.int .i64 (fI (t1.getD t12.toNat AV.undef) 1), AV.int .i64 (fI (t1.getD t12.toNat AV.undef) 2)]]))⟩)]⟩
          else none)
         else none))
       else (bif q110 h0 h1 h2 ([AV.agg [AV.int .i64 (fI (t1.getD t12.toNat AV.undef) 1), AV.int .i64 (fI (t1.getD t12.toNat AV.undef) 2)]]) then (bif (decide ((h6.length + ([AV.agg [AV.int .i64 (fI (t1.getD t12.toNat AV.undef) 1), AV.int .i64 (fI (t1.getD t12.toNat AV.undef) 2)]]).length) * 16 ≤ 140737488355328) && decide ((h6.length + ([AV.agg [AV.int .i64 (fI (t1.getD t12.toNat AV.undef) 1), AV.int .i64 (fI (t1.getD t12.toNat AV.undef) 2)]]).length) ≤ 140737488355328)) then k .ret ⟨[(4, AV.ptr [0, 4] 0 0), (5, AV.int .i64 0), (6, AV.int .i64 0), (7, AV.bool false)], [([0, 0, 1, 125], ⟨false, [.int .i64], (v110_0 h0 h1 h2 ([AV.agg [AV.int .i64 (fI (t1.getD t12.toNat AV.undef) 1), AV.int .i64 (fI (t1.getD t12.toNat AV.undef) 2)]]))⟩), ([0, 0, 8], ⟨false, [.int .i64], h0⟩), ([0, 1, 8], ⟨false, [.int .i64], h1⟩), ([0, 2, 8], ⟨false, [.int .i64, .int .i64], h2⟩), ([0, 4], ⟨true, [], [AV.agg [AV.snil, AV.snil, AV.snil]]⟩), ([0, 8], ⟨true, [], [AV.agg [AV.own [0, 0, 1, 125], AV.own [1, 0, 1, 125], AV.own [2, 0, 1, 125]]]⟩), ([0, 9], ⟨true, [], [AV.agg [AV.int .i64 h5_0, AV.int .i64 h5_1, AV.int .i64 h5_2, AV.int .i64 h5_3]]⟩), ([1, 0, 1, 125], ⟨false, [.int .i64], (v110_1 h0 h1 h2 ([AV.agg [AV.int .i64 (fI (t1.getD t12.toNat AV.undef) 1), AV.int .i64 (fI (t1.getD t12.toNat AV.undef) 2)]]))⟩), ([1, 13], ⟨true, [], [AV.agg [AV.int .i64 (fI (t1.getD t12.toNat AV.undef) 0), AV.int .i64 (fI (t1.getD t12.toNat AV.undef) 1), AV.int .i64 (fI (t1.getD t12.toNat AV.undef) 2), AV.int .i64 (fI (t1.getD t12.toNat AV.undef) 3)]]⟩), ([1, 19], ⟨true, [], [AV.agg [AV.own [0, 0, 1, 125], AV.own [1, 0, 1, 125], AV.own [2, 0, 1, 125]]]⟩), ([1, 124], ⟨false, [.int .i64, .int .i64], [AV.agg [AV.int .i64 (fI (t1.getD t12.toNat AV.undef) 1), AV.int .i64 (fI (t1.getD t12.toNat AV.undef) 2)]]⟩), ([1, 135], ⟨false, [.int .i64, .int .i64], [AV.agg [AV.int .i64 (fI (t1.getD t12.toNat AV.undef) 1), AV.int .i64 (fI (t1.getD t12.toNat AV.undef) 2)]]⟩), ([1, 136], ⟨false, [.int .i64, .int .i64], h6 ++ ([AV.agg [AV.int .i64 (fI (t1.getD t12.toNat AV.undef) 1), AV.int .i64 (fI (t1.getD t12.toNat AV.undef) 2)]])⟩), ([2, 0, 1, 125], ⟨false, [.int .i64, .int .i64], (v110_2 h0 h1 h2 ([AV.agg [AV.int .i64 (fI (t1.getD t12.toNat AV.undef) 1), AV.int .i64 (fI (t1.getD t12.toNat AV.undef) 2)]]))⟩)]⟩
         else none)
        else none))
      else (bif q110 h0 h1 h2 ([AV.agg [AV.int .i64 (fI (t1.getD t12.toNat AV.undef) 1), AV.int .i64 (fI (t1.getD t12.toNat AV.undef) 2)]]) then (bif (decide ((h6.length + ([AV.agg [AV.int .i64 (fI (t1.getD t12.toNat AV.undef) 1), AV.int .i64 (fI (t1.getD t12.toNat AV.undef) 2)]]).length) * 16 ≤ 140737488355328) && decide ((h6.length + ([AV.agg [AV.int .i64 (fI (t1.getD t12.toNat AV.undef) 1), AV.int .i64 (fI (t1.getD t12.toNat AV.undef) 2)]]).length) ≤ 140737488355328)) then k .ret ⟨[(4, AV.ptr [0, 4] 0 0), (5, AV.int .i64 0), (6, AV.int .i64 0), (7, AV.bool false)], [([0, 0, 1, 125], ⟨false, [.int .i64], (v110_0 h0 h1 h2 ([AV.agg [AV.int .i64 (fI (t1.getD t12.toNat AV.undef) 1), AV.int .i64 (fI (t1.getD t12.toNat AV.undef) 2)]]))⟩), ([0, 0, 8], ⟨false, [.int .i64], h0⟩), ([0, 1, 8], ⟨false, [.int .i64], h1⟩), ([0, 2, 8], ⟨false, [.int .i64, .int .i64], h2⟩), ([0, 4], ⟨true, [], [AV.agg [AV.snil, AV.snil, AV.snil]]⟩), ([0, 8], ⟨true, [], [AV.agg [AV.own [0, 0, 1, 125], AV.own [1, 0, 1, 125], AV.own [2, 0, 1, 125]]]⟩), ([0, 9], ⟨true, [], [AV.agg [AV.int .i64 h5_0, AV.int .i64 h5_1, AV.int .i64 h5_2, AV.int .i64 h5_3]]⟩), ([1, 0, 1, 125], ⟨false, [.int .i64], (v110_1 h0 h1 h2 ([AV.agg [AV.int .i64 (fI (t1.getD t12.toNat AV.undef) 1), AV.int .i64 (fI (t1.getD t12.toNat AV.undef) 2)]]))⟩), ([1, 13], ⟨true, [], [AV.agg [AV.int .i64 (fI (t1.getD t12.toNat AV.undef) 0), AV.int .i64 (fI (t1.getD t12.toNat AV.undef) 1), AV.int .i64 (fI (t1.getD t12.toNat AV.undef) 2), AV.int .i64 (fI (t1.getD t12.toNat AV.undef) 3)]]⟩), ([1, 19], ⟨true, [], [AV.agg [AV.own [0, 0, 1, 125], AV.own [1, 0, 1, 125], AV.own [2, 0, 1, 125]]]⟩), ([1, 124], ⟨false, [.int .i64, .int .i64], [AV.agg [AV.int .i64 (fI (t1.getD t12.toNat AV.undef) 1), AV.int .i64 (fI (t1.getD t12.toNat AV.undef) 2)]]⟩), ([1, 135], ⟨false, [.int .i64, .int .i64], [AV.agg [AV.int .i64 (fI (t1.getD t12.toNat AV.undef) 1), AV.int .i64 (fI (t1.getD t12.toNat AV.undef) 2)]]⟩), ([1, 136], ⟨false, [.int .i64, .int .i64], h6 ++ ([AV.agg [AV.int .i64 (fI (t1.getD t12.toNat AV.undef) 1), AV.int .i64 (fI (t1.getD t12.toNat AV.undef) 2)]])⟩), ([2, 0, 1, 125], ⟨false, [.int .i64, .int .i64], (v110_2 h0 h1 h2 ([AV.agg [AV.int .i64 (fI (t1.getD t12.toNat AV.undef) 1), AV.int .i64 (fI (t1.getD t12.toNat AV.undef) 2)]]))⟩)]⟩
        else none)
       else none))
     else (bif decide (fI (t1.getD t12.toNat AV.undef) 0 = 3) then (bif q111 h0 h1 h2 (fI (t1.getD t12.toNat AV.undef) 1) (fI (t1.getD t12.toNat AV.undef) 2) then (bif !decide (h5_0 = 0) then (bif decide (h5_1 = fI (t1.getD t12.toNat AV.undef) 1) then (bif (v111_3 h0 h1 h2 (fI (t1.getD t12.toNat AV.undef) 1) (fI (t1.getD t12.toNat AV.undef) 2)) then (bif !(decide (fI (t1.getD t12.toNat AV.undef) 3 = 0)) then k .ret ⟨[(4, AV.ptr [0, 4] 0 0), (5, AV.int .i64 0), (6, AV.int .i64 0), (7, AV.bool false)], [([0, 0, 1, 146], ⟨false, [.int .i64], (v111_0 h0 h1 h2 (fI (t1.getD t12.toNat AV.undef) 1) (fI (t1.getD t12.toNat AV.undef) 2))⟩), ([0, 0, 8], ⟨false, [.int .i64], h0⟩), ([0, 1, 8], ⟨false, [.int .i64], h1⟩), ([0, 2, 8], ⟨false, [.int .i64, .int .i64], h2⟩), ([0, 4], ⟨true, [], [AV.agg [AV.snil, AV.snil, AV.snil]]⟩), ([0, 8], ⟨true, [], [AV.agg [AV.own [0, 0, 1, 146], AV.own [1, 0, 1, 146], AV.own [2, 0, 1, 146]]]⟩), ([0, 9], ⟨true, [], [AV.agg [AV.int .i64 0, AV.int .i64 0, AV.int .i64 0, AV.int .i64 0]]⟩), ([0, 10], ⟨false, [.int .i64, .int .i64], h6⟩), ([1, 0, 1, 146], ⟨false, [.int .i64], (v111_1 h0 h1 h2 (fI (t1.getD t12.toNat AV.undef) 1) (fI (t1.getD t12.toNat AV.undef) 2))⟩), ([1, 13], ⟨true, [], [AV.agg [AV.int .i64 (fI (t1.getD t12.toNat AV.undef) 0), AV.int .i64 (fI (t1.getD t12.toNat AV.undef) 1), AV.int .i64 (fI (t1.getD t12.toNat AV.undef) 2), AV.int .i64 (fI (t1.getD t12.toNat AV.undef) 3)]]⟩), ([1, 21], ⟨true, [], [AV.agg [AV.own [0, 0, 1, 146], AV.own [1, 0, 1, 146], AV.own [2, 0, 1, 146]]]⟩), ([2, 0, 1, 146], ⟨false, [.int .i64, .int .i64], (v111_2 h0 h1 h2 (fI (t1.getD t12.toNat AV.undef) 1) (fI (t1.getD t12.toNat AV.undef) 2))⟩)]⟩
           else next ⟨[(1, AV.sl [.int .i64, .int .i64, .int .i64, .int .i64] t1), (4, AV.ptr [0, 4] 0 0), (8, AV.ptr [0, 8] 0 0), (9, AV.ptr [0, 9] 0 0), (10, AV.own [0, 10]), (11, AV.int .i64 (IntKind.i64.wrap (t11 + 1))), (12, AV.int .i64 (IntKind.i64.wrap (t12 + 1)))], [([0, 0, 8], ⟨false, [.int .i64], (v111_0 h0 h1 h2 (fI (t1.getD t12.toNat AV.undef) 1) (fI (t1.getD t12.toNat AV.undef) 2))⟩), ([0, 1, 8], ⟨false, [.int .i64], (v111_1 h0 h1 h2 (fI (t1.getD t12.toNat AV.undef) 1) (fI (t1.getD t12.toNat AV.undef) 2))⟩), ([0, 2, 8], ⟨false, [.int .i64, .int .i64], (v111_2 h0 h1 h2 (fI (t1.getD t12.toNat AV.undef) 1) (fI (t1.getD t12.toNat AV.undef) 2))⟩), ([0, 4], ⟨true, [], [AV.agg [AV.snil, AV.snil, AV.snil]]⟩), ([0, 8], ⟨true, [], [AV.agg [AV.own [0, 0, 8], AV.own [0, 1, 8], AV.own [0, 2, 8]]]⟩), ([0, 9], ⟨true, [], [AV.agg [AV.int .i64 0, AV.int .i64 0, AV.int .i64 0, AV.int .i64 0]]⟩), ([0, 10], ⟨false, [.int .i64, .int .i64], h6⟩)]⟩)
          else k .ret ⟨[(4, AV.ptr [0, 4] 0 0), (5, AV.int .i64 0), (6, AV.int .i64 0), (7, AV.bool false)], [([0, 0, 1, 146], ⟨false, [.int .i64], (v111_0 h0 h1 h2 (fI (t1.getD t12.toNat AV.undef) 1) (fI (t1.getD t12.toNat AV.undef) 2))⟩), ([0, 0, 8], ⟨false, [.int .i64], h0⟩), ([0, 1, 8], ⟨false, [.int .i64], h1⟩), ([0, 2, 8], ⟨false, [.int .i64, .int .i64], h2⟩), ([0, 4], ⟨true, [], [AV.agg [AV.snil, AV.snil, AV.snil]]⟩), ([0, 8], ⟨true, [], [AV.agg [AV.own [0, 0, 1, 146], AV.own [1, 0, 1, 146], AV.own [2, 0, 1, 146]]]⟩), ([0, 9], ⟨true, [], [AV.agg [AV.int .i64 0, AV.int .i64 0, AV.int .i64 0, AV.int .i64 0]]⟩), ([0, 10], ⟨false, [.int .i64, .int .i64], h6⟩), ([1, 0, 1, 146], ⟨false, [.int .i64], (v111_1 h0 h1 h2 (fI (t1.getD t12.toNat AV.undef) 1) (fI (t1.getD t12.toNat AV.undef) 2))⟩), ([1, 13], ⟨true, [], [AV.agg [AV.int .i64 (fI (t1.getD t12.toNat AV.undef) 0), AV.int .i64 (fI (t1.getD t12.toNat AV.undef) 1), AV.int .i64 (fI (t1.getD t12.toNat AV.undef) 2), AV.int .i64 (fI (t1.getD t12.toNat AV.undef) 3)]]⟩), ([1, 21], ⟨true, [], [AV.agg [AV.own [0, 0, 1, 146], AV.own [1, 0, 1, 146], AV.own [2, 0, 1, 146]]]⟩), ([2, 0, 1, 146], ⟨false, [.int .i64, .int .i64], (v111_2 h0 h1 h2 (fI (t1.getD t12.toNat AV.undef) 1) (fI (t1.getD t12.toNat AV.undef) 2))⟩)]⟩)
         else k .ret ⟨[(4, AV.ptr [0, 4] 0 0), (5, AV.int .i64 0), (6, AV.int .i64 0), (7, AV.bool false)], [([0, 0, 1, 146], ⟨false, [.int .i64], (v111_0 h0 h1 h2 (fI (t1.getD t12.toNat AV.undef) 1) (fI (t1.getD t12.toNat AV.undef) 2))⟩), ([0, 0, 8], ⟨false, [.int .i64], h0⟩), ([0, 1, 8], ⟨false, [.int .i64], h1⟩), ([0, 2, 8], ⟨false, [.int .i64, .int .i64], h2⟩), ([0, 4], ⟨true, [], [AV.agg [AV.snil, AV.snil, AV.snil]]⟩), ([0, 8], ⟨true, [], [AV.agg [AV.own [0, 0, 1, 146], AV.own [1, 0, 1, 146], AV.own [2, 0, 1, 146]]]⟩), ([0, 9], ⟨true, [], [AV.agg [AV.int .i64 0, AV.int .i64 0, AV.int .i64 0, AV.int .i64 0]]⟩), ([0, 10], ⟨false, [.int .i64, .int .i64], h6⟩), ([1, 0, 1, 146], ⟨false, [.int .i64], (v111_1 h0 h1 h2 (fI (t1.getD t12.toNat AV.undef) 1) (fI (t1.getD t12.toNat AV.undef) 2))⟩), ([1, 13], ⟨true, [], [AV.agg [AV.int .i64 (fI (t1.getD t12.toNat AV.undef) 0), AV.int .i64 (fI (t1.getD t12.toNat AV.undef) 1), AV.int .i64 (fI (t1.getD t12.toNat AV.undef) 2), AV.int .i64 (fI (t1.getD t12.toNat AV.undef) 3)]]⟩), ([1, 21], ⟨true, [], [AV.agg [AV.own [0, 0, 1, 146], AV.own [1, 0, 1, 146], AV.own [2, 0, 1, 146]]]⟩), ([2, 0, 1, 146], ⟨false, [.int .i64, .int .i64], (v111_2 h0 h1 h2 (fI (t1.getD t12.toNat AV.undef) 1) (fI (t1.getD t12.toNat AV.undef) 2))⟩)]⟩)
        else k .ret ⟨[(4, AV.ptr [0, 4] 0 0), (5, AV.int .i64 0), (6, AV.int .i64 0), (7, AV.bool false)], [([0, 0, 1, 146], ⟨false, [.int .i64], (v111_0 h0 h1 h2 (fI (t1.getD t12.toNat AV.undef) 1) (fI (t1.getD t12.toNat AV.undef) 2))⟩), ([0, 0, 8], ⟨false, [.int .i64], h0⟩), ([0, 1, 8], ⟨false, [.int .i64], h1⟩), ([0, 2, 8], ⟨false, [.int .i64, .int .i64], h2⟩), ([0, 4], ⟨true, [], [AV.agg [AV.snil, AV.snil, AV.snil]]⟩), ([0, 8], ⟨true, [], [AV.agg [AV.own [0, 0, 1, 146], AV.own [1, 0, 1, 146], AV.own [2, 0, 1, 146]]]⟩), ([0, 9], ⟨true, [], [AV.agg [AV.int .i64 0, AV.int .i64 0, AV.int .i64 0, AV.int .i64 0]]⟩), ([0, 10], ⟨false, [.int .i64, .int .i64], h6⟩), ([1, 0, 1, 146], ⟨false, [.int .i64], (v111_1 h0 h1 h2 (fI (t1.getD t12.toNat AV.undef) 1) (fI (t1.getD t12.toNat AV.undef) 2))⟩), ([1, 13], ⟨true, [], [AV.agg [AV.int .i64 (fI (t1.getD t12.toNat AV.undef) 0), AV.int .i64 (fI (t1.getD t12.toNat AV.undef) 1), AV.int .i64 (fI (t1.getD t12.toNat AV.undef) 2), AV.int .i64 (fI (t1.getD t12.toNat AV.undef) 3)]]⟩), ([1, 21], ⟨true, [], [AV.agg [AV.own [0, 0, 1, 146], AV.own [1, 0, 1, 146], AV.own [2, 0, 1, 146]]]⟩), ([2, 0, 1, 146], ⟨false, [.int .i64, .int .i64], (v111_2 h0 h1 h2 (fI (t1.getD t12.toNat AV.undef) 1) (fI (t1.getD t12.toNat AV.undef) 2))⟩)]⟩)
       else none)
      else k .ret ⟨[(4, AV.ptr [0, 4] 0 0), (5, AV.int .i64 0), (6, AV.int .i64 0), (7, AV.bool false)], [([0, 0, 8], ⟨false, [.int .i64], h0⟩), ([0, 1, 8], ⟨false, [.int .i64], h1⟩), ([0, 2, 8], ⟨false, [.int .i64, .int .i64], h2⟩), ([0, 4], ⟨true, [], [AV.agg [AV.snil, AV.snil, AV.snil]]⟩), ([0, 8], ⟨true, [], [AV.agg [AV.own [0, 0, 8], AV.own [0, 1, 8], AV.own [0, 2, 8]]]⟩), ([0, 9], ⟨true, [], [AV.agg [AV.int .i64 h5_0, AV.int .i64 h5_1, AV.int .i64 h5_2, AV.int .i64 h5_3]]⟩), ([0, 10], ⟨false, [.int .i64, .int .i64], h6⟩), ([1, 13], ⟨true, [], [AV.agg [AV.int .i64 (fI (t1.getD t12.toNat AV.undef) 0), AV.int .i64 (fI (t1.getD t12.toNat AV.undef) 1), AV.int .i64 (fI (t1.getD t12.toNat AV.undef) 2), AV.int .i64 (fI (t1.getD t12.toNat AV.undef) 3)]]⟩)]⟩)))
   else none)
  else k (.exit 0) ⟨[(4, AV.ptr [0, 4] 0 0), (8, AV.ptr [0, 8] 0 0), (9, AV.ptr [0, 9] 0 0), (10, AV.own [0, 10]), (11, AV.int .i64 t11)], [([0, 0, 8], ⟨false, [.int .i64], h0⟩), ([0, 1, 8], ⟨false, [.int .i64], h1⟩), ([0, 2, 8], ⟨false, [.int .i64, .int .i64], h2⟩), ([0, 4], ⟨true, [], [AV.agg [AV.snil, AV.snil, AV.snil]]⟩), ([0, 8], ⟨true, [], [AV.agg [AV.own [0, 0, 8], AV.own [0, 1, 8], AV.own [0, 2, 8]]]⟩), ([0, 9], ⟨true, [], [AV.agg [AV.int .i64 h5_0, AV.int .i64 h5_1, AV.int .i64 h5_2, AV.int .i64 h5_3]]⟩), ([0, 10], ⟨false, [.int .i64, .int .i64], h6⟩)]⟩) := by kernel_rfl
theorem st52_0 (t1 : List AV) (ce : CallE) (k : Kont) (s : (Int × Int × (List AV) × (List AV) × (List AV) × Int × Int × Int × Int × (List AV))) (next : St → Option AV) : stepA (codeA c52 ce [] 52 0 (sub [1, 1, 1, 1, 1, 1, 0, 1, 0, 0] (body Try.f52))) (normA [] [1, 4, 8, 9, 10, 11, 12]) next ((fun s : Int × Int × (List AV) × (List AV) × (List AV) × Int × Int × Int × Int × (List AV) => ⟨[(1, AV.sl [.int .i64, .int .i64, .int .i64, .int .i64] t1), (4, AV.ptr [0, 4] 0 0), (8, AV.ptr [0, 8] 0 0), (9, AV.ptr [0, 9] 0 0), (10, AV.own [0, 10]), (11, AV.int .i64 s.1), (12, AV.int .i64 s.2.1)], [([0, 0, 8], ⟨false, [.int .i64], s.2.2.1⟩), ([0, 1, 8], ⟨false, [.int .i64], s.2.2.2.1⟩), ([0, 2, 8], ⟨false, [.int .i64, .int .i64], s.2.2.2.2.1⟩), ([0, 4], ⟨true, [], [AV.agg [AV.snil, AV.snil, AV.snil]]⟩), ([0, 8], ⟨true, [], [AV.agg [AV.own [0, 0, 8], AV.own [0, 1, 8], AV.own [0, 2, 8]]]⟩), ([0, 9], ⟨true, [], [AV.agg [AV.int .i64 s.2.2.2.2.2.1, AV.int .i64 s.2.2.2.2.2.2.1, AV.int .i64 s.2.2.2.2.2.2.2.1, AV.int .i64 s.2.2.2.2.2.2.2.2.1]]⟩), ([0, 10], ⟨false, [.int .i64, .int .i64], s.2.2.2.2.2.2.2.2.2⟩)]⟩) s) k = (R52_0 t1 s).el none (fun s => next ((fun s : Int × Int × (List AV) × (List AV) × (List AV) × Int × Int × Int × Int × (List AV) => ⟨[(1, AV.sl [.int .i64, .int .i64, .int .i64, .int .i64] t1), (4, AV.ptr [0, 4] 0 0), (8, AV.ptr [0, 8] 0 0), (9, AV.ptr [0, 9] 0 0), (10, AV.own [0, 10]), (11, AV.int .i64 s.1), (12, AV.int .i64 s.2.1)], [([0, 0, 8], ⟨false, [.int .i64], s.2.2.1⟩), ([0, 1, 8], ⟨false, [.int .i64], s.2.2.2.1⟩), ([0, 2, 8], ⟨false, [.int .i64, .int .i64], s.2.2.2.2.1⟩), ([0, 4], ⟨true, [], [AV.agg [AV.snil, AV.snil, AV.snil]]⟩), ([0, 8], ⟨true, [], [AV.agg [AV.own [0, 0, 8], AV.own [0, 1, 8], AV.own [0, 2, 8]]]⟩), ([0, 9], ⟨true, [], [AV.agg [AV.int .i64 s.2.2.2.2.2.1, AV.int .i64 s.2.2.2.2.2.2.1, AV.int .i64 s.2.2.2.2.2.2.2.1, AV.int .i64 s.2.2.2.2.2.2.2.2.1]]⟩), ([0, 10], ⟨false, [.int .i64, .int .i64], s.2.2.2.2.2.2.2.2.2⟩)]⟩) s)) (sumE (fun p : Int × (List AV) × (List AV) × (List AV) × Int × Int × Int × Int × (List AV) => k (.exit 0) ⟨[(4, AV.ptr [0, 4] 0 0), (8, AV.ptr [0, 8] 0 0), (9, AV.ptr [0, 9] 0 0), (10, AV.own [0, 10]), (11, AV.int .i64 p.1)], [([0, 0, 8], ⟨false, [.int .i64], p.2.1⟩), ([0, 1, 8], ⟨false, [.int .i64], p.2.2.1⟩), ([0, 2, 8], ⟨false, [.int .i64, .int .i64], p.2.2.2.1⟩), ([0, 4], ⟨true, [], [AV.agg [AV.snil, AV.snil, AV.snil]]⟩), ([0, 8], ⟨true, [], [AV.agg [AV.own [0, 0, 8], AV.own [0, 1, 8], AV.own [0, 2, 8]]]⟩), ([0, 9], ⟨true, [], [AV.agg [AV.int .i64 p.2.2.2.2.1, AV.int .i64 p.2.2.2.2.2.1, AV.int .i64 p.2.2.2.2.2.2.1, AV.int .i64 p.2.2.2.2.2.2.2.1]]⟩), ([0, 10], ⟨false, [.int .i64, .int .i64], p.2.2.2.2.2.2.2.2⟩)]⟩) (sumE (fun p : (List AV) × (List AV) × (List AV) × Int × Int × Int × Int × (List AV) × Int × Int × Int × Int => k .ret ⟨[(4, AV.ptr [0, 4] 0 0), (5, AV.int .i64 0), (6, AV.int .i64 0), (7, AV.bool false)], [([0, 0, 8], ⟨false, [.int .i64], p.1⟩), ([0, 1, 8], ⟨false, [.int .i64], p.2.1⟩), ([0, 2, 8], ⟨false, [.int .i64, .int .i64], p.2.2.1⟩), ([0, 4], ⟨true, [], [AV.agg [AV.snil, AV.snil, AV.snil]]⟩), ([0, 8], ⟨true, [], [AV.agg [AV.own [0, 0, 8], AV.own [0, 1, 8], AV.own [0, 2, 8]]]⟩), ([0, 9], ⟨true, [], [AV.agg [AV.int .i64 p.2.2.2.1, AV.int .i64 p.2.2.2.2.1, AV.int .i64 p.2.2.2.2.2.1, AV.int .i64 p.2.2.2.2.2.2.1]]⟩), ([0, 10], ⟨false, [.int .i64, .int .i64], p.2.2.2.2.2.2.2.1⟩), ([1, 13], ⟨true, [], [AV.agg [AV.int .i64 p.2.2.2.2.2.2.2.2.1, AV.int .i64 p.2.2.2.2.2.2.2.2.2.1, AV.int .i64 p.2.2.2.2.2.2.2.2.2.2.1, AV.int .i64 p.2.2.2.2.2.2.2.2.2.2.2]]⟩), ([1, 86], ⟨false, [.int .i64, .int .i64], ([] : List AV)⟩)]⟩) (sumE (fun p : (List AV) × (List AV) × (List AV) × (List AV) × Int × Int × Int × Int × (List AV) × Int × Int × Int × Int × (List AV) × (List AV) × (List AV) × (List AV) => k .ret ⟨[(4, AV.ptr [0, 4] 0 0), (5, AV.int .i64 0), (6, AV.int .i64 0), (7, AV.bool false)], [([0, 0, 1, 125], ⟨false, [.int .i64], p.1⟩), ([0, 0, 8], ⟨false, [.int .i64], p.2.1⟩), ([0, 1, 8], ⟨false, [.int .i64], p.2.2.1⟩), ([0, 2, 8], ⟨false, [.int .i64, .int .i64], p.2.2.2.1⟩), ([0, 4], ⟨true, [], [AV.agg [AV.snil, AV.snil, AV.snil]]⟩), ([0, 8], ⟨true, [], [AV.agg [AV.own [0, 0, 1, 125], AV.own [1, 0, 1, 125], AV.own [2, 0, 1, 125]]]⟩), ([0, 9], ⟨true, [], [AV.agg [AV.int .i64 p.2.2.2.2.1, AV.int .i64 p.2.2.2.2.2.1, AV.int .i64 p.2.2.2.2.2.2.1, AV.int .i64 p.2.2.2.2.2.2.2.1]]⟩), ([1, 0, 1, 125], ⟨false, [.int .i64], p.2.2.2.2.2.2.2.2.1⟩), ([1, 13], ⟨true, [], [AV.agg [AV.int .i64 p.2.2.2.2.2.2.2.2.2.1, AV.int .i64 p.2.2.2.2.2.2.2.2.2.2.1, AV.int .i64 p.2.2.2.2.2.2.2.2.2.2.2.1, AV.int .i64 p.2.2.2.2.2.2.2.2.2.2.2.2.1]]⟩), ([1, 19], ⟨true, [], [AV.agg [AV.own [0, 0, 1, 125], AV.own [1, 0, 1, 125], AV.own [2, 0, 1, 125]]]⟩), ([1, 124], ⟨false, [.int .i64, .int .i64], p.2.2.2.2.2.2.2.2.2.2.2.2.2.1⟩), ([1, 135], ⟨false, [.int .i64, .int .i64], p.2.2.2.2.2.2.2.2.2.2.2.2.2.2.1⟩), ([1, 136], ⟨false, [.int .i64, .int .i64], p.2.2.2.2.2.2.2.2.2.2.2.2.2.2.2.1⟩), ([2, 0, 1, 125], ⟨false, [.int .i64, .int .i64], p.2.2.2.2.2.2.2.2.2.2.2.2.2.2.2.2⟩)]⟩) (sumE (fun p : (List AV) × (List AV) × (List AV) × (List AV) × (List AV) × (List AV) × Int × Int × Int × Int × (List AV) => k .ret ⟨[(4, AV.ptr [0, 4] 0 0), (5, AV.int .i64 0), (6, AV.int .i64 0), (7, AV.bool false)], [([0, 0, 1, 146], ⟨false, [.int .i64], p.1⟩), ([0, 0, 8], ⟨false, [.int .i64], p.2.1⟩), ([0, 1, 8], ⟨false, [.int .i64], p.2.2.1⟩), ([0, 2, 8], ⟨false, [.int .i64, .int .i64], p.2.2.2.1⟩), ([0, 4], ⟨true, [], [AV.agg [AV.snil, AV.snil, AV.snil]]⟩), ([0, 8], ⟨true, [], [AV.agg [AV.own [0, 0, 1, 146], AV.own [1, 0, 1, 146], AV.own [2, 0, 1, 146]]]⟩), ([0, 9], ⟨true, [], [AV.agg [AV.int .i64 0, AV.int .i64 0, AV.int .i64 0, AV.int .i64 0]]⟩), ([0, 10], ⟨false, [.int .i64, .int .i64], p.2.2.2.2.1⟩), ([1, 0, 1, 146], ⟨false, [.int .i64], p.2.2.2.2.2.1⟩), ([1, 13], ⟨true, [], [AV.agg [AV.int .i64 p.2.2.2.2.2.2.1, AV.int .i64 p.2.2.2.2.2.2.2.1, AV.int .i64 p.2.2.2.2.2.2.2.2.1, AV.int .i64 p.2.2.2.2.2.2.2.2.2.1]]⟩), ([1, 21], ⟨true, [], [AV.agg [AV.own [0, 0, 1, 146], AV.own [1, 0, 1, 146], AV.own [2, 0, 1, 146]]]⟩), ([2, 0, 1, 146], ⟨false, [.int .i64, .int .i64], p.2.2.2.2.2.2.2.2.2.2⟩)]⟩) (fun p : (List AV) × (List AV) × (List AV) × Int × Int × Int × Int × (List AV) × Int × Int × Int × Int => k .ret ⟨[(4, AV.ptr [0, 4] 0 0), (5, AV.int .i64 0), (6, AV.int .i64 0), (7, AV.bool false)], [([0, 0, 8], ⟨false, [.int .i64], p.1⟩), ([0, 1, 8], ⟨false, [.int .i64], p.2.1⟩), ([0, 2, 8], ⟨false, [.int .i64, .int .i64], p.2.2.1⟩), ([0, 4], ⟨true, [], [AV.agg [AV.snil, AV.snil, AV.snil]]⟩), ([0, 8], ⟨true, [], [AV.agg [AV.own [0, 0, 8], AV.own [0, 1, 8], AV.own [0, 2, 8]]]⟩), ([0, 9], ⟨true, [], [AV.agg [AV.int .i64 p.2.2.2.1, AV.int .i64 p.2.2.2.2.1, AV.int .i64 p.2.2.2.2.2.1, AV.int .i64 p.2.2.2.2.2.2.1]]⟩), ([0, 10], ⟨false, [.int .i64, .int .i64], p.2.2.2.2.2.2.2.1⟩), ([1, 13], ⟨true, [], [AV.agg [AV.int .i64 p.2.2.2.2.2.2.2.2.1, AV.int .i64 p.2.2.2.2.2.2.2.2.2.1, AV.int .i64 p.2.2.2.2.2.2.2.2.2.2.1, AV.int .i64 p.2.2.2.2.2.2.2.2.2.2.2]]⟩)]⟩))))) := (s52_0 ce t1 s.1 s.2.1 s.2.2.1 s.2.2.2.1 s.2.2.2.2.1 s.2.2.2.2.2.1 s.2.2.2.2.2.2.1 s.2.2.2.2.2.2.2.1 s.2.2.2.2.2.2.2.2.1 s.2.2.2.2.2.2.2.2.2 next k).trans (by unfold R52_0; unfold F52_0; simp only [el_cond, el_ro, el_sum, el_fail, el_next, el_stop] <;> rfl)
theorem ok52_0 {ce : CallE} : LoopOK c52 ce [] 52 0 (sub [1, 1, 1, 1, 1, 1, 0, 1, 0, 0] (body Try.f52)) := by
  intro m hm st k r h
  obtain rfl : l52_0 = m := Option.some.inj hm
  unfold l52_0 at h
  split at h
  · rename_i g0 t1 g1 g2 g3 g4 g5 g6 g7 g8 g9 g10 t11 t12 g11 g12 h0 g13 g14 h1 g15 g16 h2 g17 g18 g19 g20 g21 g22 h5_0 h5_1 h5_2 h5_3 g23 g24 h6
    obtain ⟨hg, h⟩ := bif_some h
    simp only [Bool.and_eq_true] at hg
    obtain ⟨⟨⟨⟨⟨⟨⟨⟨⟨⟨⟨⟨⟨⟨⟨⟨⟨⟨⟨⟨⟨⟨⟨⟨q0, q1⟩, q2⟩, q3⟩, q4⟩, q5⟩, q6⟩, q7⟩, q8⟩, q9⟩, q10⟩, q11⟩, q12⟩, q13⟩, q14⟩, q15⟩, q16⟩, q17⟩, q18⟩, q19⟩, q20⟩, q21⟩, q22⟩, q23⟩, q24⟩ := hg
    obtain rfl := ctsEq_eq _ _ q0
    obtain rfl := (nmEq_iff _ _).1 q1
    obtain rfl := Nat.eq_of_beq_eq_true q2
    obtain rfl := Nat.eq_of_beq_eq_true q3
    obtain rfl := (nmEq_iff _ _).1 q4
    obtain rfl := Nat.eq_of_beq_eq_true q5
    obtain rfl := Nat.eq_of_beq_eq_true q6
    obtain rfl := (nmEq_iff _ _).1 q7
    obtain rfl := Nat.eq_of_beq_eq_true q8
    obtain rfl := Nat.eq_of_beq_eq_true q9
    obtain rfl := (nmEq_iff _ _).1 q10
    obtain rfl := (nmEq_iff _ _).1 q11
    obtain rfl := ctsEq_eq _ _ q12
    obtain rfl := (nmEq_iff _ _).1 q13
    obtain rfl := ctsEq_eq _ _ q14
    obtain rfl := (nmEq_iff _ _).1 q15
    obtain rfl := ctsEq_eq _ _ q16
    obtain rfl := (nmEq_iff _ _).1 q17
    obtain rfl := (nmEq_iff _ _).1 q18
    obtain rfl := (nmEq_iff _ _).1 q19
    obtain rfl := (nmEq_iff _ _).1 q20
    obtain rfl := (nmEq_iff _ _).1 q21
    obtain rfl := (nmEq_iff _ _).1 q22
    obtain rfl := (nmEq_iff _ _).1 q23
    obtain rfl := ctsEq_eq _ _ q24
    refine ⟨(((t1.length : Int) - t12).toNat + 1), ?_⟩
    rw [← h]
    exact loop_run (fun s : Int × Int × (List AV) × (List AV) × (List AV) × Int × Int × Int × Int × (List AV) => ⟨[(1, AV.sl [.int .i64, .int .i64, .int .i64, .int .i64] t1), (4, AV.ptr [0, 4] 0 0), (8, AV.ptr [0, 8] 0 0), (9, AV.ptr [0, 9] 0 0), (10, AV.own [0, 10]), (11, AV.int .i64 s.1), (12, AV.int .i64 s.2.1)], [([0, 0, 8], ⟨false, [.int .i64], s.2.2.1⟩), ([0, 1, 8], ⟨false, [.int .i64], s.2.2.2.1⟩), ([0, 2, 8], ⟨false, [.int .i64, .int .i64], s.2.2.2.2.1⟩), ([0, 4], ⟨true, [], [AV.agg [AV.snil, AV.snil, AV.snil]]⟩), ([0, 8], ⟨true, [], [AV.agg [AV.own [0, 0, 8], AV.own [0, 1, 8], AV.own [0, 2, 8]]]⟩), ([0, 9], ⟨true, [], [AV.agg [AV.int .i64 s.2.2.2.2.2.1, AV.int .i64 s.2.2.2.2.2.2.1, AV.int .i64 s.2.2.2.2.2.2.2.1, AV.int .i64 s.2.2.2.2.2.2.2.2.1]]⟩), ([0, 10], ⟨false, [.int .i64, .int .i64], s.2.2.2.2.2.2.2.2.2⟩)]⟩) (sumE (fun p : Int × (List AV) × (List AV) × (List AV) × Int × Int × Int × Int × (List AV) => k (.exit 0) ⟨[(4, AV.ptr [0, 4] 0 0), (8, AV.ptr [0, 8] 0 0), (9, AV.ptr [0, 9] 0 0), (10, AV.own [0, 10]), (11, AV.int .i64 p.1)], [([0, 0, 8], ⟨false, [.int .i64], p.2.1⟩), ([0, 1, 8], ⟨false, [.int .i64], p.2.2.1⟩), ([0, 2, 8], ⟨false, [.int .i64, .int .i64], p.2.2.2.1⟩), ([0, 4], ⟨true, [], [AV.agg [AV.snil, AV.snil, AV.snil]]⟩), ([0, 8], ⟨true, [], [AV.agg [AV.own [0, 0, 8], AV.own [0, 1, 8], AV.own [0, 2, 8]]]⟩), ([0, 9], ⟨true, [], [AV.agg [AV.int .i64 p.2.2.2.2.1, AV.int .i64 p.2.2.2.2.2.1, AV.int .i64 p.2.2.2.2.2.2.1, AV.int .i64 p.2.2.2.2.2.2.2.1]]⟩), ([0, 10], ⟨false, [.int .i64, .int .i64], p.2.2.2.2.2.2.2.2⟩)]⟩) (sumE (fun p : (List AV) × (List AV) × (List AV) × Int × Int × Int × Int × (List AV) × Int × Int × Int × Int => k .ret ⟨[(4, AV.ptr [0, 4] 0 0), (5, AV.int .i64 0), (6, AV.int .i64 0), (7, AV.bool false)], [([0, 0, 8], ⟨false, [.int .i64], p.1⟩), ([0, 1, 8], ⟨false, [.int .i64], p.2.1⟩), ([0, 2, 8], ⟨false, [.int .i64, .int .i64], p.2.2.1⟩), ([0, 4], ⟨true, [], [AV.agg [AV.snil, AV.snil, AV.snil]]⟩), ([0, 8], ⟨true, [], [AV.agg [AV.own [0, 0, 8], AV.own [0, 1, 8], AV.own [0, 2, 8]]]⟩), ([0, 9], ⟨true, [], [AV.agg [AV.int .i64 p.2.2.2.1, AV.int .i64 p.2.2.2.2.1, AV.int .i64 p.2.2.2.2.2.1, AV.int .i64 p.2.2.2.2.2.2.1]]⟩), ([0, 10], ⟨false, [.int .i64, .int .i64], p.2.2.2.2.2.2.2.1⟩), ([1, 13], ⟨true, [], [AV.agg [AV.int .i64 p.2.2.2.2.2.2.2.2.1, AV.int .i64 p.2.2.2.2.2.2.2.2.2.1, AV.int .i64 p.2.2.2.2.2.2.2.2.2.2.1, AV.int .i64 p.2.2.2.2.2.2.2.2.2.2.2]]⟩), ([1, 86], ⟨false, [.int .i64, .int .i64], ([] : List AV)⟩)]⟩) (sumE (fun p : (List AV) × (List AV) × (List AV) × (List AV) × Int × Int × Int × Int × (List AV) × Int × Int × Int × Int × (List AV) × (List AV) × (List AV) × (List AV) => k .ret ⟨[(4, AV.ptr [0, 4] 0 0), (5, AV.int .i64 0), (6, AV.int .i64 0), (7, AV.bool false)], [([0, 0, 1, 125], ⟨false, [.int .i64], p.1⟩), ([0, 0, 8], ⟨false, [.int .i64], p.2.1⟩), ([0, 1, 8], ⟨false, [.int .i64], p.2.2.1⟩), ([0, 2, 8], ⟨false, [.int .i64, .int .i64], p.2.2.2.1⟩), ([0, 4], ⟨true, [], [AV.agg [AV.snil, AV.snil, AV.snil]]⟩), ([0, 8], ⟨true, [], [AV.agg [AV.own [0, 0, 1, 125], AV.own [1, 0, 1, 125], AV.own [2, 0, 1, 125]]]⟩), ([0, 9], ⟨true, [], [AV.agg [AV.int .i64 p.2.2.2.2.1, AV.int .i64 p.2.2.2.2.2.1, AV.int .i64 p.2.2.2.2.2.2.1, AV.int .i64 p.2.2.2.2.2.2.2.1]]⟩), ([1, 0, 1, 125], ⟨false, [.int .i64], p.2.2.2.2.2.2.2.2.1⟩), ([1, 13], ⟨true, [], [AV.agg [AV.int .i64 p.2.2.2.2.2.2.2.2.2.1, AV.int .i64 p.2.2.2.2.2.2.2.2.2.2.1, AV.int .i64 p.2.2.2.2.2.2.2.2.2.2.2.1, AV.int .i64 p.2.2.2.2.2.2.2.2.2.2.2.2.1]]⟩), ([1, 19], ⟨true, [], [AV.agg [AV.own [0, 0, 1, 125], AV.own [1, 0, 1, 125], AV.own [2, 0, 1, 125]]]⟩), ([1, 124], ⟨false, [.int .i64, .int .i64], p.2.2.2.2.2.2.2.2.2.2.2.2.2.1⟩), ([1, 135], ⟨false, [.int .i64, .int .i64], p.2.2.2.2.2.2.2.2.2.2.2.2.2.2.1⟩), ([1, 136], ⟨false, [.int .i64, .int .i64], p.2.2.2.2.2.2.2.2.2.2.2.2.2.2.2.1⟩), ([2, 0, 1, 125], ⟨false, [.int .i64, .int .i64], p.2.2.2.2.2.2.2.2.2.2.2.2.2.2.2.2⟩)]⟩) (sumE (fun p : (List AV) × (List AV) × (List AV) × (List AV) × (List AV) × (List AV) × Int × Int × Int × Int × (List AV) => k .ret ⟨[(4, AV.ptr [0, 4] 0 0), (5, AV.int .i64 0), (6, AV.int .i64 0), (7, AV.bool false)], [([0, 0, 1, 146], ⟨false, [.int .i64], p.1⟩), ([0, 0, 8], ⟨false, [.int .i64], p.2.1⟩), ([0, 1, 8], ⟨false, [.int .i64], p.2.2.1⟩), ([0, 2, 8], ⟨false, [.int .i64, .int .i64], p.2.2.2.1⟩), ([0, 4], ⟨true, [], [AV.agg [AV.snil, AV.snil, AV.snil]]⟩), ([0, 8], ⟨true, [], [AV.agg [AV.own [0, 0, 1, 146], AV.own [1, 0, 1, 146], AV.own [2, 0, 1, 146]]]⟩), ([0, 9], ⟨true, [], [AV.agg [AV.int .i64 0, AV.int .i64 0, AV.int .i64 0, AV.int .i64 0]]⟩), ([0, 10], ⟨false, [.int .i64, .int .i64], p.2.2.2.2.1⟩), ([1, 0, 1, 146], ⟨false, [.int .i64], p.2.2.2.2.2.1⟩), ([1, 13], ⟨true, [], [AV.agg [AV.int .i64 p.2.2.2.2.2.2.1, AV.int .i64 p.2.2.2.2.2.2.2.1, AV.int .i64 p.2.2.2.2.2.2.2.2.1, AV.int .i64 p.2.2.2.2.2.2.2.2.2.1]]⟩), ([1, 21], ⟨true, [], [AV.agg [AV.own [0, 0, 1, 146], AV.own [1, 0, 1, 146], AV.own [2, 0, 1, 146]]]⟩), ([2, 0, 1, 146], ⟨false, [.int .i64, .int .i64], p.2.2.2.2.2.2.2.2.2.2⟩)]⟩) (fun p : (List AV) × (List AV) × (List AV) × Int × Int × Int × Int × (List AV) × Int × Int × Int × Int => k .ret ⟨[(4, AV.ptr [0, 4] 0 0), (5, AV.int .i64 0), (6, AV.int .i64 0), (7, AV.bool false)], [([0, 0, 8], ⟨false, [.int .i64], p.1⟩), ([0, 1, 8], ⟨false, [.int .i64], p.2.1⟩), ([0, 2, 8], ⟨false, [.int .i64, .int .i64], p.2.2.1⟩), ([0, 4], ⟨true, [], [AV.agg [AV.snil, AV.snil, AV.snil]]⟩), ([0, 8], ⟨true, [], [AV.agg [AV.own [0, 0, 8], AV.own [0, 1, 8], AV.own [0, 2, 8]]]⟩), ([0, 9], ⟨true, [], [AV.agg [AV.int .i64 p.2.2.2.1, AV.int .i64 p.2.2.2.2.1, AV.int .i64 p.2.2.2.2.2.1, AV.int .i64 p.2.2.2.2.2.2.1]]⟩), ([0, 10], ⟨false, [.int .i64, .int .i64], p.2.2.2.2.2.2.2.1⟩), ([1, 13], ⟨true, [], [AV.agg [AV.int .i64 p.2.2.2.2.2.2.2.2.1, AV.int .i64 p.2.2.2.2.2.2.2.2.2.1, AV.int .i64 p.2.2.2.2.2.2.2.2.2.2.1, AV.int .i64 p.2.2.2.2.2.2.2.2.2.2.2]]⟩)]⟩))))) (st52_0 t1 ce k) _ (t11, t12, h0, h1, h2, h5_0, h5_1, h5_2, h5_3, h6)
  · cases h
def q52 (a0 : List AV) (a1 : List AV) : Bool := (q102 a0 && (q103 a0 && (bif !(v103_0 a0) then true else (ro (runW (R52_0 a1) (((a1.length : Int) - 0).toNat + 1) (0, 0, (v102_0 a0), (v102_1 a0), (v102_2 a0), 0, 0, 0, 0, ([] : List AV))) false (sumE (fun p25 => (bif decide (p25.2.2.2.2.1 = 0) then true else q112 p25.2.1 p25.2.2.1 p25.2.2.2.1 p25.2.2.2.2.2.2.2.2)) (sumE (fun p27 => true) (sumE (fun p28 => true) (sumE (fun p29 => true) (fun p30 => true)))))))))
def v52_0 (a0 : List AV) (a1 : List AV) : List AV := (bif !(v103_0 a0) then ([] : List AV) else (ro (runW (R52_0 a1) (((a1.length : Int) - 0).toNat + 1) (0, 0, (v102_0 a0), (v102_1 a0), (v102_2 a0), 0, 0, 0, 0, ([] : List AV))) [] (sumE (fun p25 => (bif decide (p25.2.2.2.2.1 = 0) then p25.2.1 else (v112_0 p25.2.1 p25.2.2.1 p25.2.2.2.1 p25.2.2.2.2.2.2.2.2))) (sumE (fun p27 => ([] : List AV)) (sumE (fun p28 => ([] : List AV)) (sumE (fun p29 => ([] : List AV)) (fun p30 => ([] : List AV))))))))
def v52_1 (a0 : List AV) (a1 : List AV) : List AV := (bif !(v103_0 a0) then ([] : List AV) else (ro (runW (R52_0 a1) (((a1.length : Int) - 0).toNat + 1) (0, 0, (v102_0 a0), (v102_1 a0), (v102_2 a0), 0, 0, 0, 0, ([] : List AV))) [] (sumE (fun p25 => (bif decide (p25.2.2.2.2.1 = 0) then p25.2.2.1 else (v112_1 p25.2.1 p25.2.2.1 p25.2.2.2.1 p25.2.2.2.2.2.2.2.2))) (sumE (fun p27 => ([] : List AV)) (sumE (fun p28 => ([] : List AV)) (sumE (fun p29 => ([] : List AV)) (fun p30 => ([] : List AV))))))))
def v52_2 (a0 : List AV) (a1 : List AV) : List AV := (bif !(v103_0 a0) then ([] : List AV) else (ro (runW (R52_0 a1) (((a1.length : Int) - 0).toNat + 1) (0, 0, (v102_0 a0), (v102_1 a0), (v102_2 a0), 0, 0, 0, 0, ([] : List AV))) [] (sumE (fun p25 => (bif decide (p25.2.2.2.2.1 = 0) then p25.2.2.2.1 else (v112_2 p25.2.1 p25.2.2.1 p25.2.2.2.1 p25.2.2.2.2.2.2.2.2))) (sumE (fun p27 => ([] : List AV)) (sumE (fun p28 => ([] : List AV)) (sumE (fun p29 => ([] : List AV)) (fun p30 => ([] : List AV))))))))
def v52_3 (a0 : List AV) (a1 : List AV) : Int := (bif !(v103_0 a0) then 0 else (ro (runW (R52_0 a1) (((a1.length : Int) - 0).toNat + 1) (0, 0, (v102_0 a0), (v102_1 a0), (v102_2 a0), 0, 0, 0, 0, ([] : List AV))) 0 (sumE (fun p25 => p25.1) (sumE (fun p27 => 0) (sumE (fun p28 => 0) (sumE (fun p29 => 0) (fun p30 => 0)))))))
def v52_4 (a0 : List AV) (a1 : List AV) : Int := (bif !(v103_0 a0) then 0 else (ro (runW (R52_0 a1) (((a1.length : Int) - 0).toNat + 1) (0, 0, (v102_0 a0), (v102_1 a0), (v102_2 a0), 0, 0, 0, 0, ([] : List AV))) 0 (sumE (fun p25 => (bif decide (p25.2.2.2.2.1 = 0) then 0 else (p25.2.2.2.2.2.2.2.2.length : Int))) (sumE (fun p27 => 0) (sumE (fun p28 => 0) (sumE (fun p29 => 0) (fun p30 => 0)))))))
def v52_5 (a0 : List AV) (a1 : List AV) : Bool := (bif !(v103_0 a0) then false else (ro (runW (R52_0 a1) (((a1.length : Int) - 0).toNat + 1) (0, 0, (v102_0 a0), (v102_1 a0), (v102_2 a0), 0, 0, 0, 0, ([] : List AV))) false (sumE (fun p25 => true) (sumE (fun p27 => false) (sumE (fun p28 => false) (sumE (fun p29 => false) (fun p30 => false)))))))
theorem e52 (a0 : List AV) (a1 : List AV) : funA c52 0 52 [AV.sl [.int .i64] a0, AV.sl [.int .i64, .int .i64, .int .i64, .int .i64] a1] = (bif q102 a0 then (bif q103 a0 then (bif !(v103_0 a0) then some (AV.tup [AV.agg [AV.fl [.int .i64] ([] : List AV), AV.fl [.int .i64] ([] : List AV), AV.fl [.int .i64, .int .i64] ([] : List AV)], AV.int .i64 0, AV.int .i64 0, AV.bool false])
    else (ro (runW (R52_0 a1) (((a1.length : Int) - 0).toNat + 1) (0, 0, (v102_0 a0), (v102_1 a0), (v102_2 a0), 0, 0, 0, 0, ([] : List AV))) none (sumE (fun p25 => (bif decide (p25.2.2.2.2.1 = 0) then some (AV.tup [AV.agg [AV.fl [.int .i64] p25.2.1, AV.fl [.int .i64] p25.2.2.1, AV.fl [.int .i64, .int .i64] p25.2.2.2.1], AV.int .i64 p25.1, AV.int .i64 0, AV.bool true])
      else (bif q112 p25.2.1 p25.2.2.1 p25.2.2.2.1 p25.2.2.2.2.2.2.2.2 then some (AV.tup [AV.agg [AV.fl [.int .i64] (v112_0 p25.2.1 p25.2.2.1 p25.2.2.2.1 p25.2.2.2.2.2.2.2.2), AV.fl [.int .i64] (v112_1 p25.2.1 p25.2.2.1 p25.2.2.2.1 p25.2.2.2.2.2.2.2.2), AV.fl [.int .i64, .int .i64] (v112_2 p25.2.1 p25.2.2.1 p25.2.2.2.1 p25.2.2.2.2.2.2.2.2)], AV.int .i64 p25.1, AV.int .i64 (p25.2.2.2.2.2.2.2.2.length : Int), AV.bool true])
       else none))) (sumE (fun p27 => some (AV.tup [AV.agg [AV.fl [.int .i64] ([] : List AV), AV.fl [.int .i64] ([] : List AV), AV.fl [.int .i64, .int .i64] ([] : List AV)], AV.int .i64 0, AV.int .i64 0, AV.bool false])) (sumE (fun p28 => some (AV.tup [AV.agg [AV.fl [.int .i64] ([] : List AV), AV.fl [.int .i64] ([] : List AV), AV.fl [.int .i64, .int .i64] ([] : List AV)], AV.int .i64 0, AV.int .i64 0, AV.bool false])) (sumE (fun p29 => some (AV.tup [AV.agg [AV.fl [.int .i64] ([] : List AV), AV.fl [.int .i64] ([] : List AV), AV.fl [.int .i64, .int .i64] ([] : List AV)], AV.int .i64 0, AV.int .i64 0, AV.bool false])) (fun p30 => some (AV.tup [AV.agg [AV.fl [.int .i64] ([] : List AV), AV.fl [.int .i64] ([] : List AV), AV.fl [.int .i64, .int .i64] ([] : List AV)], AV.int .i64 0, AV.int .i64 0, AV.bool false]))))))))
   else none)
  else none) := by kernel_rfl
theorem r52 (a0 : List AV) (a1 : List AV) (h : q52 a0 a1 = true) : funA c52 0 52 [AV.sl [.int .i64] a0, AV.sl [.int .i64, .int .i64, .int .i64, .int .i64] a1] = some (AV.tup [AV.agg [AV.fl [.int .i64] (v52_0 a0 a1), AV.fl [.int .i64] (v52_1 a0 a1), AV.fl [.int .i64, .int .i64] (v52_2 a0 a1)], AV.int .i64 (v52_3 a0 a1), AV.int .i64 (v52_4 a0 a1), AV.bool (v52_5 a0 a1)]) := (e52 a0 a1).trans ((brL (brL (br (fun b => some (AV.tup [AV.agg [AV.fl [.int .i64] (bif b then ([] : List AV) else (ro (runW (R52_0 a1) (((a1.length : Int) - 0).toNat + 1) (0, 0, (v102_0 a0), (v102_1 a0), (v102_2 a0), 0, 0, 0, 0, ([] : List AV))) [] (sumE (fun p25 => (bif decide (p25.2.2.2.2.1 = 0) then p25.2.1 else (v112_0 p25.2.1 p25.2.2.1 p25.2.2.2.1 p25.2.2.2.2.2.2.2.2))) (sumE (fun p27 => ([] : List AV)) (sumE (fun p28 => ([] : List AV)) (sumE (fun p29 => ([] : List AV)) (fun p30 => ([] : List AV)))))))), AV.fl [.int .i64] (bif b then ([] : List AV) else (ro (runW (R52_0 a1) (((a1.length : Int) - 0).toNat + 1) (0, 0, (v102_0 a0), (v102_1 a0), (v102_2 a0), 0, 0, 0, 0, ([] : List AV))) [] (sumE (fun p25 => (bif decide (p25.2.2.2.2.1 = 0) then p25.2.2.1 else (v112_1 p25.2.1 p25.2.2.1 p25.2.2.2.1 p25.2.2.2.2.2.2.2.2))) (sumE (fun p27 => ([] : List AV)) (sumE (fun p28 => ([] : List AV)) (sumE (fun p29 => ([] : List AV)) (fun p30 => ([] : List AV)))))))), AV.fl [.int .i64, .int .i64] (bif b then ([] : List AV) else (ro (runW (R52_0 a1) (((a1.length : Int) - 0).toNat + 1) (0, 0, (v102_0 a0), (v102_1 a0), (v102_2 a0), 0, 0, 0, 0, ([] : List AV))) [] (sumE (fun p25 => (bif decide (p25.2.2.2.2.1 = 0) then p25.2.2.2.1 else (v112_2 p25.2.1 p25.2.2.1 p25.2.2.2.1 p25.2.2.2.2.2.2.2.2))) (sumE (fun p27 => ([] : List AV)) (sumE (fun p28 => ([] : List AV)) (sumE (fun p29 => ([] : List AV)) (fun p30 => ([] : List AV))))))))], AV.int .i64 (bif b then 0 else (ro (runW (R52_0 a1) (((a1.length : Int) - 0).toNat + 1) (0, 0, (v102_0 a0), (v102_1 a0), (v102_2 a0), 0, 0, 0, 0, ([] : List AV))) 0 (sumE (fun p25 => p25.1) (sumE (fun p27 => 0) (sumE (fun p28 => 0) (sumE (fun p29 => 0) (fun p30 => 0))))))), AV.int .i64 (bif b then 0 else (ro (runW (R52_0 a1) (((a1.length : Int) - 0).toNat + 1) (0, 0, (v102_0 a0), (v102_1 a0), (v102_2 a0), 0, 0, 0, 0, ([] : List AV))) 0 (sumE (fun p25 => (bif decide (p25.2.2.2.2.1 = 0) then 0 else (p25.2.2.2.2.2.2.2.2.length : Int))) (sumE (fun p27 => 0) (sumE (fun p28 => 0) (sumE (fun p29 => 0) (fun p30 => 0))))))), AV.bool (bif b then false else (ro (runW (R52_0 a1) (((a1.length : Int) - 0).toNat + 1) (0, 0, (v102_0 a0), (v102_1 a0), (v102_2 a0), 0, 0, 0, 0, ([] : List AV))) false (sumE (fun p25 => true) (sumE (fun p27 => false) (sumE (fun p28 => false) (sumE (fun p29 => false) (fun p30 => false)))))))])) (fun _ => rfl) (brO (fun o : Option ((Int × (List AV) × (List AV) × (List AV) × Int × Int × Int × Int × (List AV)) ⊕ ((List AV) × (List AV) × (List AV) × Int × Int × Int × Int × (List AV) × Int × Int × Int × Int) ⊕ ((List AV) × (List AV) × (List AV) × (List AV) × Int × Int × Int × Int × (List AV) × Int × Int × Int × Int × (List AV) × (List AV) × (List AV) × (List AV)) ⊕ ((List AV) × (List AV) × (List AV) × (List AV) × (List AV) × (List AV) × Int × Int × Int × Int × (List AV)) ⊕ ((List AV) × (List AV) × (List AV) × Int × Int × Int × Int × (List AV) × Int × Int × Int × Int)) => some (AV.tup [AV.agg [AV.fl [.int .i64] (ro o [] (sumE (fun p25 => (bif decide (p25.2.2.2.2.1 = 0) then p25.2.1 else (v112_0 p25.2.1 p25.2.2.1 p25.2.2.2.1 p25.2.2.2.2.2.2.2.2))) (sumE (fun p27 => ([] : List AV)) (sumE (fun p28 => ([] : List AV)) (sumE (fun p29 => ([] : List AV)) (fun p30 => ([] : List AV))))))), AV.fl [.int .i64] (ro o [] (sumE (fun p25 => (bif decide (p25.2.2.2.2.1 = 0) then p25.2.2.1 else (v112_1 p25.2.1 p25.2.2.1 p25.2.2.2.1 p25.2.2.2.2.2.2.2.2))) (sumE (fun p27 => ([] : List AV)) (sumE (fun p28 => ([] : List AV)) (sumE (fun p29 => ([] : List AV)) (fun p30 => ([] : List AV))))))), AV.fl [.int .i64, .int .i64] (ro o [] (sumE (fun p25 => (bif decide (p25.2.2.2.2.1 = 0) then p25.2.2.2.1 else (v112_2 p25.2.1 p25.2.2.1 p25.2.2.2.1 p25.2.2.2.2.2.2.2.2))) (sumE (fun p27 => ([] : List AV)) (sumE (fun p28 => ([] : List AV)) (sumE (fun p29 => ([] : List AV)) (fun p30 => ([] : List AV)))))))], AV.int .i64 (ro o 0 (sumE (fun p25 => p25.1) (sumE (fun p27 => 0) (sumE (fun p28 => 0) (sumE (fun p29 => 0) (fun p30 => 0)))))), AV.int .i64 (ro o 0 (sumE (fun p25 => (bif decide (p25.2.2.2.2.1 = 0) then 0 else (p25.2.2.2.2.2.2.2.2.length : Int))) (sumE (fun p27 => 0) (sumE (fun p28 => 0) (sumE (fun p29 => 0) (fun p30 => 0)))))), AV.bool (ro o false (sumE (fun p25 => true) (sumE (fun p27 => false) (sumE (fun p28 => false) (sumE (fun p29 => false) (fun p30 => false))))))])) (brS (fun o : (Int × (List AV) × (List AV) × (List AV) × Int × Int × Int × Int × (List AV)) ⊕ ((List AV) × (List AV) × (List AV) × Int × Int × Int × Int × (List AV) × Int × Int × Int × Int) ⊕ ((List AV) × (List AV) × (List AV) × (List AV) × Int × Int × Int × Int × (List AV) × Int × Int × Int × Int × (List AV) × (List AV) × (List AV) × (List AV)) ⊕ ((List AV) × (List AV) × (List AV) × (List AV) × (List AV) × (List AV) × Int × Int × Int × Int × (List AV)) ⊕ ((List AV) × (List AV) × (List AV) × Int × Int × Int × Int × (List AV) × Int × Int × Int × Int) => some (AV.tup [AV.agg [AV.fl [.int .i64] ((sumE (fun p25 => (bif decide (p25.2.2.2.2.1 = 0) then p25.2.1 else (v112_0 p25.2.1 p25.2.2.1 p25.2.2.2.1 p25.2.2.2.2.2.2.2.2))) (sumE (fun p27 => ([] : List AV)) (sumE (fun p28 => ([] : List AV)) (sumE (fun p29 => ([] : List AV)) (fun p30 => ([] : List AV)))))) o), AV.fl [.int .i64] ((sumE (fun p25 => (bif decide (p25.2.2.2.2.1 = 0) then p25.2.2.1 else (v112_1 p25.2.1 p25.2.2.1 p25.2.2.2.1 p25.2.2.2.2.2.2.2.2))) (sumE (fun p27 => ([] : List AV)) (sumE (fun p28 => ([] : List AV)) (sumE (fun p29 => ([] : List AV)) (fun p30 => ([] : List AV)))))) o), AV.fl [.int .i64, .int .i64] ((sumE (fun p25 => (bif decide (p25.2.2.2.2.1 = 0) then p25.2.2.2.1 else (v112_2 p25.2.1 p25.2.2.1 p25.2.2.2.1 p25.2.2.2.2.2.2.2.2))) (sumE (fun p27 => ([] : List AV)) (sumE (fun p28 => ([] : List AV)) (sumE (fun p29 => ([] : List AV)) (fun p30 => ([] : List AV)))))) o)], AV.int .i64 ((sumE (fun p25 => p25.1) (sumE (fun p27 => 0) (sumE (fun p28 => 0) (sumE (fun p29 => 0) (fun p30 => 0))))) o), AV.int .i64 ((sumE (fun p25 => (bif decide (p25.2.2.2.2.1 = 0) then 0 else (p25.2.2.2.2.2.2.2.2.length : Int))) (sumE (fun p27 => 0) (sumE (fun p28 => 0) (sumE (fun p29 => 0) (fun p30 => 0))))) o), AV.bool ((sumE (fun p25 => true) (sumE (fun p27 => false) (sumE (fun p28 => false) (sumE (fun p29 => false) (fun p30 => false))))) o)])) (fun p25 => (br (fun b => some (AV.tup [AV.agg [AV.fl [.int .i64] (bif b then p25.2.1 else (v112_0 p25.2.1 p25.2.2.1 p25.2.2.2.1 p25.2.2.2.2.2.2.2.2)), AV.fl [.int .i64] (bif b then p25.2.2.1 else (v112_1 p25.2.1 p25.2.2.1 p25.2.2.2.1 p25.2.2.2.2.2.2.2.2)), AV.fl [.int .i64, .int .i64] (bif b then p25.2.2.2.1 else (v112_2 p25.2.1 p25.2.2.1 p25.2.2.2.1 p25.2.2.2.2.2.2.2.2))], AV.int .i64 p25.1, AV.int .i64 (bif b then 0 else (p25.2.2.2.2.2.2.2.2.length : Int)), AV.bool true])) (fun _ => rfl) (brL1 (fun _ => rfl)))) (brS (fun o : ((List AV) × (List AV) × (List AV) × Int × Int × Int × Int × (List AV) × Int × Int × Int × Int) ⊕ ((List AV) × (List AV) × (List AV) × (List AV) × Int × Int × Int × Int × (List AV) × Int × Int × Int × Int × (List AV) × (List AV) × (List AV) × (List AV)) ⊕ ((List AV) × (List AV) × (List AV) × (List AV) × (List AV) × (List AV) × Int × Int × Int × Int × (List AV)) ⊕ ((List AV) × (List AV) × (List AV) × Int × Int × Int × Int × (List AV) × Int × Int × Int × Int) => some (AV.tup [AV.agg [AV.fl [.int .i64] ((sumE (fun p27 => ([] : List AV)) (sumE (fun p28 => ([] : List AV)) (sumE (fun p29 => ([] : List AV)) (fun p30 => ([] : List AV))))) o), AV.fl [.int .i64] ((sumE (fun p27 => ([] : List AV)) (sumE (fun p28 => ([] : List AV)) (sumE (fun p29 => ([] : List AV)) (fun p30 => ([] : List AV))))) o), AV.fl [.int .i64, .int .i64] ((sumE (fun p27 => ([] : List AV)) (sumE (fun p28 => ([] : List AV)) (sumE (fun p29 => ([] : List AV)) (fun p30 => ([] : List AV))))) o)], AV.int .i64 ((sumE (fun p27 => 0) (sumE (fun p28 => 0) (sumE (fun p29 => 0) (fun p30 => 0)))) o), AV.int .i64 ((sumE (fun p27 => 0) (sumE (fun p28 => 0) (sumE (fun p29 => 0) (fun p30 => 0)))) o), AV.bool ((sumE (fun p27 => false) (sumE (fun p28 => false) (sumE (fun p29 => false) (fun p30 => false)))) o)])) (fun p27 => (fun _ => rfl)) (brS (fun o : ((List AV) × (List AV) × (List AV) × (List AV) × Int × Int × Int × Int × (List AV) × Int × Int × Int × Int × (List AV) × (List AV) × (List AV) × (List AV)) ⊕ ((List AV) × (List AV) × (List AV) × (List AV) × (List AV) × (List AV) × Int × Int × Int × Int × (List AV)) ⊕ ((List AV) × (List AV) × (List AV) × Int × Int × Int × Int × (List AV) × Int × Int × Int × Int) => some (AV.tup [AV.agg [AV.fl [.int .i64] ((sumE (fun p28 => ([] : List AV)) (sumE (fun p29 => ([] : List AV)) (fun p30 => ([] : List AV)))) o), AV.fl [.int .i64] ((sumE (fun p28 => ([] : List AV)) (sumE (fun p29 => ([] : List AV)) (fun p30 => ([] : List AV)))) o), AV.fl [.int .i64, .int .i64] ((sumE (fun p28 => ([] : List AV)) (sumE (fun p29 => ([] : List AV)) (fun p30 => ([] : List AV)))) o)], AV.int .i64 ((sumE (fun p28 => 0) (sumE (fun p29 => 0) (fun p30 => 0))) o), AV.int .i64 ((sumE (fun p28 => 0) (sumE (fun p29 => 0) (fun p30 => 0))) o), AV.bool ((sumE (fun p28 => false) (sumE (fun p29 => false) (fun p30 => false))) o)])) (fun p28 => (fun _ => rfl)) (brS (fun o : ((List AV) × (List AV) × (List AV) × (List AV) × (List AV) × (List AV) × Int × Int × Int × Int × (List AV)) ⊕ ((List AV) × (List AV) × (List AV) × Int × Int × Int × Int × (List AV) × Int × Int × Int × Int) => some (AV.tup [AV.agg [AV.fl [.int .i64] ((sumE (fun p29 => ([] : List AV)) (fun p30 => ([] : List AV))) o), AV.fl [.int .i64] ((sumE (fun p29 => ([] : List AV)) (fun p30 => ([] : List AV))) o), AV.fl [.int .i64, .int .i64] ((sumE (fun p29 => ([] : List AV)) (fun p30 => ([] : List AV))) o)], AV.int .i64 ((sumE (fun p29 => 0) (fun p30 => 0)) o), AV.int .i64 ((sumE (fun p29 => 0) (fun p30 => 0)) o), AV.bool ((sumE (fun p29 => false) (fun p30 => false)) o)])) (fun p29 => (fun _ => rfl)) (fun p30 => (fun _ => rfl)))))))))) h)
def m52 : TModel
  | [.sl g0 a0, .sl g1 a1] => bif ctsEq g0 ([.int .i64]) && ctsEq g1 ([.int .i64, .int .i64, .int .i64, .int .i64]) then some (q52 a0 a1, AV.tup [AV.agg [AV.fl [.int .i64] (v52_0 a0 a1), AV.fl [.int .i64] (v52_1 a0 a1), AV.fl [.int .i64, .int .i64] (v52_2 a0 a1)], AV.int .i64 (v52_3 a0 a1), AV.int .i64 (v52_4 a0 a1), AV.bool (v52_5 a0 a1)]) else none
  | _ => none
theorem k52 : Known Try.prog 52 := ⟨Try.f52, Try.func52, by kernel_rfl, by kernel_rfl⟩
theorem meets52 : Meets Try.prog 52 m52 := by
  refine meet (f := Try.f52) (l := [(0, sub [1, 1, 1, 1, 1, 1, 0, 1, 0, 0] (body Try.f52))]) (hs := [(52, 0, [1, 4, 8, 9, 10, 11, 12]), (52, 999, [4, 5, 6, 7]), (52, 1000, [4, 8, 9, 10, 11]), (52, 1001, [1, 4, 8, 9, 10, 11, 12]), (52, 1002, [1, 4, 8, 9, 10, 11, 12, 14])]) (ts := [(68, m68), (95, m95), (97, m97), (102, m102), (103, m103), (110, m110), (111, m111), (112, m112)]) (ws := []) (is := []) (ls := [(52, 0, l52_0)]) (lvl := 0) mixed k52 Try.func52 (by kernel_rfl) (loops_cons ok52_0 noLoop) (allT_cons meets68 (allT_cons meets95 (allT_cons meets97 (allT_cons meets102 (allT_cons meets103 (allT_cons meets110 (allT_cons meets111 (allT_cons meets112 allT_nil)))))))) allM_nil noI fun w xs us r hl hv h => ?_
  unfold m52 at h
  split at h
  · rename_i g0 a0 g1 a1
    obtain ⟨hg, h⟩ := bif_pair h
    simp only [Bool.and_eq_true] at hg
    obtain ⟨q0, q1⟩ := hg
    obtain rfl := ctsEq_eq _ _ q0
    obtain rfl := ctsEq_eq _ _ q1
    obtain ⟨h1, rfl⟩ := pair_inj h
    exact r52 a0 a1 h1
  · cases h

/-! ### 55 loop.example/g01984/spec.CrashAfter -/
noncomputable def c55 : Cfg := cfg Try.prog [(55, 999, [6, 7])] [(52, m52), (68, m68)] [] [] []
def q55 (a0 : List AV) (a1 : List AV) (a2 : Int) : Bool := (bif !(v68_0 a2 0 (a1.length : Int)) then true else ((decide (0 ≤ 0) && decide (0 ≤ a2) && decide (a2 ≤ (a1.length : Int))) && q52 a0 ((a1.take (Int.toNat a2)).drop (Int.toNat 0))))
def v55_0 (a0 : List AV) (a1 : List AV) (a2 : Int) : List AV := (bif !(v68_0 a2 0 (a1.length : Int)) then ([] : List AV) else (v52_0 a0 ((a1.take (Int.toNat a2)).drop (Int.toNat 0))))
def v55_1 (a0 : List AV) (a1 : List AV) (a2 : Int) : List AV := (bif !(v68_0 a2 0 (a1.length : Int)) then ([] : List AV) else (v52_1 a0 ((a1.take (Int.toNat a2)).drop (Int.toNat 0))))
def v55_2 (a0 : List AV) (a1 : List AV) (a2 : Int) : List AV := (bif !(v68_0 a2 0 (a1.length : Int)) then ([] : List AV) else (v52_2 a0 ((a1.take (Int.toNat a2)).drop (Int.toNat 0))))
def v55_3 (a0 : List AV) (a1 : List AV) (a2 : Int) : Bool := (bif !(v68_0 a2 0 (a1.length : Int)) then false else (v52_5 a0 ((a1.take (Int.toNat a2)).drop (Int.toNat 0))))
theorem e55 (a0 : List AV) (a1 : List AV) (a2 : Int) : funA c55 0 55 [AV.sl [.int .i64] a0, AV.sl [.int .i64, .int .i64, .int .i64, .int .i64] a1, AV.int .i64 a2] = (bif !(v68_0 a2 0 (a1.length : Int)) then some (AV.tup [AV.agg [AV.fl [.int .i64] ([] : List AV), AV.fl [.int .i64] ([] : List AV), AV.fl [.int .i64, .int .i64] ([] : List AV)], AV.bool false])
  else (bif (decide (0 ≤ 0) && decide (0 ≤ a2) && decide (a2 ≤ (a1.length : Int))) then (bif q52 a0 ((a1.take (Int.toNat a2)).drop (Int.toNat 0)) then some (AV.tup [AV.agg [AV.fl [.int .i64] (v52_0 a0 ((a1.take (Int.toNat a2)).drop (Int.toNat 0))), AV.fl [.int .i64] (v52_1 a0 ((a1.take (Int.toNat a2)).drop (Int.toNat 0))), AV.fl [.int .i64, .int .i64] (v52_2 a0 ((a1.take (Int.toNat a2)).drop (Int.toNat 0)))], AV.bool (v52_5 a0 ((a1.take (Int.toNat a2)).drop (Int.toNat 0)))])
    else none)
   else none)) := by kernel_rfl
theorem r55 (a0 : List AV) (a1 : List AV) (a2 : Int) (h : q55 a0 a1 a2 = true) : funA c55 0 55 [AV.sl [.int .i64] a0, AV.sl [.int .i64, .int .i64, .int .i64, .int .i64] a1, AV.int .i64 a2] = some (AV.tup [AV.agg [AV.fl [.int .i64] (v55_0 a0 a1 a2), AV.fl [.int .i64] (v55_1 a0 a1 a2), AV.fl [.int .i64, .int .i64] (v55_2 a0 a1 a2)], AV.bool (v55_3 a0 a1 a2)]) := (e55 a0 a1 a2).trans ((br (fun b => some (AV.tup [AV.agg [AV.fl [.int .i64] (bif b then ([] : List AV) else (v52_0 a0 ((a1.take (Int.toNat a2)).drop (Int.toNat 0)))), AV.fl [.int .i64] (bif b then ([] : List AV) else (v52_1 a0 ((a1.take (Int.toNat a2)).drop (Int.toNat 0)))), AV.fl [.int .i64, .int .i64] (bif b then ([] : List AV) else (v52_2 a0 ((a1.take (Int.toNat a2)).drop (Int.toNat 0))))], AV.bool (bif b then false else (v52_5 a0 ((a1.take (Int.toNat a2)).drop (Int.toNat 0))))])) (fun _ => rfl) (brL (brL1 (fun _ => rfl)))) h)
def m55 : TModel
  | [.sl g0 a0, .sl g1 a1, .int .i64 a2] => bif ctsEq g0 ([.int .i64]) && ctsEq g1 ([.int .i64, .int .i64, .int .i64, .int .i64]) then some (q55 a0 a1 a2, AV.tup [AV.agg [AV.fl [.int .i64] (v55_0 a0 a1 a2), AV.fl [.int .i64] (v55_1 a0 a1 a2), AV.fl [.int .i64, .int .i64] (v55_2 a0 a1 a2)], AV.bool (v55_3 a0 a1 a2)]) else none
  | _ => none
theorem k55 : Known Try.prog 55 := ⟨Try.f55, Try.func55, by kernel_rfl, by kernel_rfl⟩
theorem meets55 : Meets Try.prog 55 m55 := by
  refine meet (f := Try.f55) (l := []) (hs := [(55, 999, [6, 7])]) (ts := [(52, m52), (68, m68)]) (ws := []) (is := []) (ls := []) (lvl := 0) mixed k55 Try.func55 (by kernel_rfl) noLoop (allT_cons meets52 (allT_cons meets68 allT_nil)) allM_nil noI fun w xs us r hl hv h => ?_
  unfold m55 at h
  split at h
  · rename_i g0 a0 g1 a1 a2
    obtain ⟨hg, h⟩ := bif_pair h
    simp only [Bool.and_eq_true] at hg
    obtain ⟨q0, q1⟩ := hg
    obtain rfl := ctsEq_eq _ _ q0
    obtain rfl := ctsEq_eq _ _ q1
    obtain ⟨h1, rfl⟩ := pair_inj h
    exact r55 a0 a1 a2 h1
  · cases h

/-! ### 163 loop.example/g01984/impl.within$1 -/
noncomputable def c163 : Cfg := cfg Try.prog [(163, 999, [4])] [] [] [] []
def q163 (a0 : Int) (a1 : AV) (a2 : AV) : Bool := true
def v163_0 (a0 : Int) (a1 : AV) (a2 : AV) : Bool := (bif decide (a0 < fI a1 0) then true else decide (a0 > fI a2 0))
theorem e163 (a0 : Int) (a1 : AV) (a2 : AV) : funA c163 0 163 [AV.int .i64 a0, AV.rptr [.int .i64] a1 0, AV.rptr [.int .i64] a2 0] = (bif decide (a0 < fI a1 0) then some (AV.bool true)
  else some (AV.bool (decide (a0 > fI a2 0)))) := by kernel_rfl
theorem r163 (a0 : Int) (a1 : AV) (a2 : AV) : funA c163 0 163 [AV.int .i64 a0, AV.rptr [.int .i64] a1 0, AV.rptr [.int .i64] a2 0] = some (AV.bool (v163_0 a0 a1 a2)) := (e163 a0 a1 a2).trans (of_tt (brT (fun b => some (AV.bool (bif b then true else decide (a0 > fI a2 0)))) (fun _ => rfl) (fun _ => rfl)))
def m163 : TModel
  | [.int .i64 a0, .rptr g0 a1 g1, .rptr g2 a2 g3] => bif ctsEq g0 ([.int .i64]) && Nat.beq g1 0 && ctsEq g2 ([.int .i64]) && Nat.beq g3 0 then some (true, AV.bool (v163_0 a0 a1 a2)) else none
  | _ => none
theorem k163 : Known Try.prog 163 := ⟨Try.f163, Try.func163, by kernel_rfl, by kernel_rfl⟩
theorem meets163 : Meets Try.prog 163 m163 := by
  refine meet (f := Try.f163) (l := []) (hs := [(163, 999, [4])]) (ts := []) (ws := []) (is := []) (ls := []) (lvl := 0) mixed k163 Try.func163 (by kernel_rfl) noLoop allT_nil allM_nil noI fun w xs us r hl hv h => ?_
  unfold m163 at h
  split at h
  · rename_i a0 g0 a1 g1 g2 a2 g3
    obtain ⟨hg, h⟩ := bif_pair h
    simp only [Bool.and_eq_true] at hg
    obtain ⟨⟨⟨q0, q1⟩, q2⟩, q3⟩ := hg
    obtain rfl := ctsEq_eq _ _ q0
    obtain rfl := Nat.eq_of_beq_eq_true q1
    obtain rfl := ctsEq_eq _ _ q2
    obtain rfl := Nat.eq_of_beq_eq_true q3
    obtain ⟨h1, rfl⟩ := pair_inj h
    exact r163 a0 a1 a2
  · cases h

/-! ### 178 slices.IndexFunc[[]int,int] -/
def F178_0 (t0 : List AV) (t1_0 : AV) (t1_1 : AV) (t7 : Int) (t8 : Int) : Out (Int) (Unit ⊕ Int) := (bif decide (t8 < t7) then (bif (decide (0 ≤ t8) && decide (t8 < (t0.length : Int))) then (bif (v163_0 (fI (t0.getD t8.toNat AV.undef) 0) t1_0 t1_1) then .stop (.inr t8)
    else .next (IntKind.i64.wrap (t8 + 1)))
   else .fail)
  else .stop (.inl ()))
def R178_0 (t0 : List AV) (t1_0 : AV) (t1_1 : AV) (t7 : Int) : (Int) → Out (Int) (Unit ⊕ Int) := fun s : Int => F178_0 t0 t1_0 t1_1 t7 s
def l178_0 : LModel := fun _ _ st k => match st with
  | ⟨[(0, .sl g0 t0), (1, .fn g1 [.rptr g2 t1_0 g3, .rptr g4 t1_1 g5]), (7, .int .i64 t7), (8, .int .i64 t8)], []⟩ => bif ctsEq g0 ([.int .i64]) && Nat.beq g1 163 && ctsEq g2 ([.int .i64]) && Nat.beq g3 0 && ctsEq g4 ([.int .i64]) && Nat.beq g5 0 then ro (runW (R178_0 t0 t1_0 t1_1 t7) ((t7 - t8).toNat + 1) t8) none (sumE (fun _ : Unit => k (.exit 0) ⟨[], []⟩) (fun p : Int => k .ret ⟨[(4, AV.int .i64 p)], []⟩)) else none
  | _ => none
noncomputable def c178 : Cfg := cfg Try.prog [(178, 0, [0, 1, 7, 8]), (178, 999, [4]), (178, 1000, []), (178, 1001, [0, 1, 7, 8])] [(163, m163)] [] [] [(178, 0, l178_0)]
theorem s178_0 (ce : CallE) (t0 : List AV) (t1_0 : AV) (t1_1 : AV) (t7 : Int) (t8 : Int) (next : St → Option AV) (k : Kont) : stepA (codeA c178 ce [] 178 0 (sub [1, 0, 1, 0, 0] (body Try.f178))) (normA [] [0, 1, 7, 8]) next ⟨[(0, AV.sl [.int .i64] t0), (1, AV.fn 163 [AV.rptr [.int .i64] t1_0 0, AV.rptr [.int .i64] t1_1 0]), (7, AV.int .i64 t7), (8, AV.int .i64 t8)], []⟩ k = (bif decide (t8 < t7) then (bif (decide (0 ≤ t8) && decide (t8 < (t0.length : Int))) then (bif (v163_0 (fI (t0.getD t8.toNat AV.undef) 0) t1_0 t1_1) then k .ret ⟨[(4, AV.int .i64 t8)], []⟩
    else next ⟨[(0, AV.sl [.int .i64] t0), (1, AV.fn 163 [AV.rptr [.int .i64] t1_0 0, AV.rptr [.int .i64] t1_1 0]), (7, AV.int .i64 t7), (8, AV.int .i64 (IntKind.i64.wrap (t8 + 1)))], []⟩)
   else none)
  else k (.exit 0) ⟨[], []⟩) := by kernel_rfl
theorem st178_0 (t0 : List AV) (t1_0 : AV) (t1_1 : AV) (t7 : Int) (ce : CallE) (k : Kont) (s : Int) (next : St → Option AV) : stepA (codeA c178 ce [] 178 0 (sub [1, 0, 1, 0, 0] (body Try.f178))) (normA [] [0, 1, 7, 8]) next ((fun s : Int => ⟨[(0, AV.sl [.int .i64] t0), (1, AV.fn 163 [AV.rptr [.int .i64] t1_0 0, AV.rptr [.int .i64] t1_1 0]), (7, AV.int .i64 t7), (8, AV.int .i64 s)], []⟩) s) k = (R178_0 t0 t1_0 t1_1 t7 s).el none (fun s => next ((fun s : Int => ⟨[(0, AV.sl [.int .i64] t0), (1, AV.fn 163 [AV.rptr [.int .i64] t1_0 0, AV.rptr [.int .i64] t1_1 0]), (7, AV.int .i64 t7), (8, AV.int .i64 s)], []⟩) s)) (sumE (fun _ : Unit => k (.exit 0) ⟨[], []⟩) (fun p : Int => k .ret ⟨[(4, AV.int .i64 p)], []⟩)) := (s178_0 ce t0 t1_0 t1_1 t7 s next k).trans (by unfold R178_0; unfold F178_0; simp only [el_cond, el_ro, el_sum, el_fail, el_next, el_stop] <;> rfl)
theorem ok178_0 {ce : CallE} : LoopOK c178 ce [] 178 0 (sub [1, 0, 1, 0, 0] (body Try.f178)) := by
  intro m hm st k r h
  obtain rfl : l178_0 = m := Option.some.inj hm
  unfold l178_0 at h
  split at h
  · rename_i g0 t0 g1 g2 t1_0 g3 g4 t1_1 g5 t7 t8
    obtain ⟨hg, h⟩ := bif_some h
    simp only [Bool.and_eq_true] at hg
    obtain ⟨⟨⟨⟨⟨q0, q1⟩, q2⟩, q3⟩, q4⟩, q5⟩ := hg
    obtain rfl := ctsEq_eq _ _ q0
    obtain rfl := Nat.eq_of_beq_eq_true q1
    obtain rfl := ctsEq_eq _ _ q2
    obtain rfl := Nat.eq_of_beq_eq_true q3
    obtain rfl := ctsEq_eq _ _ q4
    obtain rfl := Nat.eq_of_beq_eq_true q5
    refine ⟨((t7 - t8).toNat + 1), ?_⟩
    rw [← h]
    exact loop_run (fun s : Int => ⟨[(0, AV.sl [.int .i64] t0), (1, AV.fn 163 [AV.rptr [.int .i64] t1_0 0, AV.rptr [.int .i64] t1_1 0]), (7, AV.int .i64 t7), (8, AV.int .i64 s)], []⟩) (sumE (fun _ : Unit => k (.exit 0) ⟨[], []⟩) (fun p : Int => k .ret ⟨[(4, AV.int .i64 p)], []⟩)) (st178_0 t0 t1_0 t1_1 t7 ce k) _ t8
  · cases h
def q178 (a0 : List AV) (a1_0 : AV) (a1_1 : AV) : Bool := (ro (runW (R178_0 a0 a1_0 a1_1 (a0.length : Int)) (((a0.length : Int) - 0).toNat + 1) 0) false (sumE (fun _ => true) (fun p32 => true)))
def v178_0 (a0 : List AV) (a1_0 : AV) (a1_1 : AV) : Int := (ro (runW (R178_0 a0 a1_0 a1_1 (a0.length : Int)) (((a0.length : Int) - 0).toNat + 1) 0) 0 (sumE (fun _ => (-1)) (fun p32 => p32)))
theorem e178 (a0 : List AV) (a1_0 : AV) (a1_1 : AV) : funA c178 0 178 [AV.sl [.int .i64] a0, AV.fn 163 [AV.rptr [.int .i64] a1_0 0, AV.rptr [.int .i64] a1_1 0]] = (ro (runW (R178_0 a0 a1_0 a1_1 (a0.length : Int)) (((a0.length : Int) - 0).toNat + 1) 0) none (sumE (fun _ => some (AV.int .i64 (-1))) (fun p32 => some (AV.int .i64 p32)))) := by kernel_rfl
theorem r178 (a0 : List AV) (a1_0 : AV) (a1_1 : AV) (h : q178 a0 a1_0 a1_1 = true) : funA c178 0 178 [AV.sl [.int .i64] a0, AV.fn 163 [AV.rptr [.int .i64] a1_0 0, AV.rptr [.int .i64] a1_1 0]] = some (AV.int .i64 (v178_0 a0 a1_0 a1_1)) := (e178 a0 a1_0 a1_1).trans ((brO (fun o : Option (Unit ⊕ Int) => some (AV.int .i64 (ro o 0 (sumE (fun _ => (-1)) (fun p32 => p32))))) (brS (fun o : Unit ⊕ Int => some (AV.int .i64 ((sumE (fun _ => (-1)) (fun p32 => p32)) o))) (fun _ => (fun _ => rfl)) (fun p32 => (fun _ => rfl)))) h)
def m178 : TModel
  | [.sl g0 a0, .fn g1 [.rptr g2 a1_0 g3, .rptr g4 a1_1 g5]] => bif ctsEq g0 ([.int .i64]) && Nat.beq g1 163 && ctsEq g2 ([.int .i64]) && Nat.beq g3 0 && ctsEq g4 ([.int .i64]) && Nat.beq g5 0 then some (q178 a0 a1_0 a1_1, AV.int .i64 (v178_0 a0 a1_0 a1_1)) else none
  | _ => none
theorem k178 : Known Try.prog 178 := ⟨Try.f178, Try.func178, by kernel_rfl, by kernel_rfl⟩
theorem meets178 : Meets Try.prog 178 m178 := by
  refine meet (f := Try.f178) (l := [(0, sub [1, 0, 1, 0, 0] (body Try.f178))]) (hs := [(178, 0, [0, 1, 7, 8]), (178, 999, [4]), (178, 1000, []), (178, 1001, [0, 1, 7, 8])]) (ts := [(163, m163)]) (ws := []) (is := []) (ls := [(178, 0, l178_0)]) (lvl := 0) mixed k178 Try.func178 (by kernel_rfl) (loops_cons ok178_0 noLoop) (allT_cons meets163 allT_nil) allM_nil noI fun w xs us r hl hv h => ?_
  unfold m178 at h
  split at h
  · rename_i g0 a0 g1 g2 a1_0 g3 g4 a1_1 g5
    obtain ⟨hg, h⟩ := bif_pair h
    simp only [Bool.and_eq_true] at hg
    obtain ⟨⟨⟨⟨⟨q0, q1⟩, q2⟩, q3⟩, q4⟩, q5⟩ := hg
    obtain rfl := ctsEq_eq _ _ q0
    obtain rfl := Nat.eq_of_beq_eq_true q1
    obtain rfl := ctsEq_eq _ _ q2
    obtain rfl := Nat.eq_of_beq_eq_true q3
    obtain rfl := ctsEq_eq _ _ q4
    obtain rfl := Nat.eq_of_beq_eq_true q5
    obtain ⟨h1, rfl⟩ := pair_inj h
    exact r178 a0 a1_0 a1_1 h1
  · cases h

/-! ### 162 slices.ContainsFunc[[]int,int] -/
noncomputable def c162 : Cfg := cfg Try.prog [(162, 999, [4])] [(178, m178)] [] [] []
def q162 (a0 : List AV) (a1_0 : AV) (a1_1 : AV) : Bool := q178 a0 a1_0 a1_1
def v162_0 (a0 : List AV) (a1_0 : AV) (a1_1 : AV) : Bool := decide ((v178_0 a0 a1_0 a1_1) ≥ 0)
theorem e162 (a0 : List AV) (a1_0 : AV) (a1_1 : AV) : funA c162 0 162 [AV.sl [.int .i64] a0, AV.fn 163 [AV.rptr [.int .i64] a1_0 0, AV.rptr [.int .i64] a1_1 0]] = (bif q178 a0 a1_0 a1_1 then some (AV.bool (decide ((v178_0 a0 a1_0 a1_1) ≥ 0)))
  else none) := by kernel_rfl
theorem r162 (a0 : List AV) (a1_0 : AV) (a1_1 : AV) (h : q162 a0 a1_0 a1_1 = true) : funA c162 0 162 [AV.sl [.int .i64] a0, AV.fn 163 [AV.rptr [.int .i64] a1_0 0, AV.rptr [.int .i64] a1_1 0]] = some (AV.bool (v162_0 a0 a1_0 a1_1)) := (e162 a0 a1_0 a1_1).trans ((brL1 (fun _ => rfl)) h)
def m162 : TModel
  | [.sl g0 a0, .fn g1 [.rptr g2 a1_0 g3, .rptr g4 a1_1 g5]] => bif ctsEq g0 ([.int .i64]) && Nat.beq g1 163 && ctsEq g2 ([.int .i64]) && Nat.beq g3 0 && ctsEq g4 ([.int .i64]) && Nat.beq g5 0 then some (q162 a0 a1_0 a1_1, AV.bool (v162_0 a0 a1_0 a1_1)) else none
  | _ => none
theorem k162 : Known Try.prog 162 := ⟨Try.f162, Try.func162, by kernel_rfl, by kernel_rfl⟩
theorem meets162 : Meets Try.prog 162 m162 := by
  refine meet (f := Try.f162) (l := []) (hs := [(162, 999, [4])]) (ts := [(178, m178)]) (ws := []) (is := []) (ls := []) (lvl := 0) mixed k162 Try.func162 (by kernel_rfl) noLoop (allT_cons meets178 allT_nil) allM_nil noI fun w xs us r hl hv h => ?_
  unfold m162 at h
  split at h
  · rename_i g0 a0 g1 g2 a1_0 g3 g4 a1_1 g5
    obtain ⟨hg, h⟩ := bif_pair h
    simp only [Bool.and_eq_true] at hg
    obtain ⟨⟨⟨⟨⟨q0, q1⟩, q2⟩, q3⟩, q4⟩, q5⟩ := hg
    obtain rfl := ctsEq_eq _ _ q0
    obtain rfl := Nat.eq_of_beq_eq_true q1
    obtain rfl := ctsEq_eq _ _ q2
    obtain rfl := Nat.eq_of_beq_eq_true q3
    obtain rfl := ctsEq_eq _ _ q4
    obtain rfl := Nat.eq_of_beq_eq_true q5
    obtain ⟨h1, rfl⟩ := pair_inj h
    exact r162 a0 a1_0 a1_1 h1
  · cases h

/-! ### 124 loop.example/g01984/impl.within -/
noncomputable def c124 : Cfg := cfg Try.prog [(124, 999, [6])] [(162, m162)] [] [] []
def q124 (a0 : List AV) (a1 : Int) (a2 : Int) : Bool := q162 a0 (AV.int .i64 a1) (AV.int .i64 a2)
def v124_0 (a0 : List AV) (a1 : Int) (a2 : Int) : Bool := !(v162_0 a0 (AV.int .i64 a1) (AV.int .i64 a2))
theorem e124 (a0 : List AV) (a1 : Int) (a2 : Int) : funA c124 0 124 [AV.sl [.int .i64] a0, AV.int .i64 a1, AV.int .i64 a2] = (bif q162 a0 (AV.int .i64 a1) (AV.int .i64 a2) then some (AV.bool (!(v162_0 a0 (AV.int .i64 a1) (AV.int .i64 a2))))
  else none) := by kernel_rfl
theorem r124 (a0 : List AV) (a1 : Int) (a2 : Int) (h : q124 a0 a1 a2 = true) : funA c124 0 124 [AV.sl [.int .i64] a0, AV.int .i64 a1, AV.int .i64 a2] = some (AV.bool (v124_0 a0 a1 a2)) := (e124 a0 a1 a2).trans ((brL1 (fun _ => rfl)) h)
def m124 : TModel
  | [.sl g0 a0, .int .i64 a1, .int .i64 a2] => bif ctsEq g0 ([.int .i64]) then some (q124 a0 a1 a2, AV.bool (v124_0 a0 a1 a2)) else none
  | _ => none
theorem k124 : Known Try.prog 124 := ⟨Try.f124, Try.func124, by kernel_rfl, by kernel_rfl⟩
theorem meets124 : Meets Try.prog 124 m124 := by
  refine meet (f := Try.f124) (l := []) (hs := [(124, 999, [6])]) (ts := [(162, m162)]) (ws := []) (is := []) (ls := []) (lvl := 0) mixed k124 Try.func124 (by kernel_rfl) noLoop (allT_cons meets162 allT_nil) allM_nil noI fun w xs us r hl hv h => ?_
  unfold m124 at h
  split at h
  · rename_i g0 a0 a1 a2
    obtain ⟨hg, h⟩ := bif_pair h
    have q0 := hg
    obtain rfl := ctsEq_eq _ _ q0
    obtain ⟨h1, rfl⟩ := pair_inj h
    exact r124 a0 a1 a2 h1
  · cases h

/-! ### 105 loop.example/g01984/impl.AreValues -/
noncomputable def c105 : Cfg := cfg Try.prog [(105, 999, [2])] [(124, m124)] [] [] []
def q105 (a0 : List AV) : Bool := (bif decide ((a0.length : Int) ≤ 64) then q124 a0 (-999) 999 else true)
def v105_0 (a0 : List AV) : Bool := (bif decide ((a0.length : Int) ≤ 64) then (v124_0 a0 (-999) 999) else false)
theorem e105 (a0 : List AV) : funA c105 0 105 [AV.sl [.int .i64] a0] = (bif decide ((a0.length : Int) ≤ 64) then (bif q124 a0 (-999) 999 then some (AV.bool (v124_0 a0 (-999) 999))
   else none)
  else some (AV.bool false)) := by kernel_rfl
theorem r105 (a0 : List AV) (h : q105 a0 = true) : funA c105 0 105 [AV.sl [.int .i64] a0] = some (AV.bool (v105_0 a0)) := (e105 a0).trans ((br (fun b => some (AV.bool (bif b then (v124_0 a0 (-999) 999) else false))) (brL1 (fun _ => rfl)) (fun _ => rfl)) h)
def m105 : TModel
  | [.sl g0 a0] => bif ctsEq g0 ([.int .i64]) then some (q105 a0, AV.bool (v105_0 a0)) else none
  | _ => none
theorem k105 : Known Try.prog 105 := ⟨Try.f105, Try.func105, by kernel_rfl, by kernel_rfl⟩
theorem meets105 : Meets Try.prog 105 m105 := by
  refine meet (f := Try.f105) (l := []) (hs := [(105, 999, [2])]) (ts := [(124, m124)]) (ws := []) (is := []) (ls := []) (lvl := 0) mixed k105 Try.func105 (by kernel_rfl) noLoop (allT_cons meets124 allT_nil) allM_nil noI fun w xs us r hl hv h => ?_
  unfold m105 at h
  split at h
  · rename_i g0 a0
    obtain ⟨hg, h⟩ := bif_pair h
    have q0 := hg
    obtain rfl := ctsEq_eq _ _ q0
    obtain ⟨h1, rfl⟩ := pair_inj h
    exact r105 a0 h1
  · cases h

/-! ### 139 slices.Clone[[]int,int] -/
noncomputable def c139 : Cfg := cfg Try.prog [(139, 999, [2])] [] [] [] []
def q139 (a0 : List AV) : Bool := decide (a0.length * 8 ≤ 140737488355328) && decide (a0.length ≤ 140737488355328)
def v139_0 (a0 : List AV) : List AV := a0
theorem e139 (a0 : List AV) : funA c139 0 139 [AV.sl [.int .i64] a0] = (bif decide (0 < a0.length) then (bif (decide ((([] : List AV).length + a0.length) * 8 ≤ 140737488355328) && decide ((([] : List AV).length + a0.length) ≤ 140737488355328)) then some (AV.fl [.int .i64] (([] : List AV) ++ a0))
   else none)
  else none) := by kernel_rfl
theorem e139n (b : Bool) : funA c139 0 139 [AV.sle b [.int .i64]] = some (AV.fl [.int .i64] []) := by cases b <;> kernel_rfl
def m139 : TModel
  | [.sl g0 a0] => bif ctsEq g0 [.int .i64] then some (q139 a0, AV.fl [.int .i64] (v139_0 a0)) else none
  | _ => none
theorem k139 : Known Try.prog 139 := ⟨Try.f139, Try.func139, by kernel_rfl, by kernel_rfl⟩
theorem meets139 : Meets Try.prog 139 m139 := by
  refine meet_nil (f := Try.f139) (l := []) (hs := [(139, 999, [2])]) (ts := []) (ws := []) (is := []) (ls := []) (lvl := 0) (tys := [.int .i64]) mixed k139 Try.func139 (by kernel_rfl) noLoop allT_nil allM_nil noI (fun xs r h => ?_) (fun b r h => ?_) (fun ys r h0 h => ?_)
  · unfold m139 at h
    split at h
    · rename_i g0 a0
      obtain ⟨hg, h⟩ := bif_pair h
      obtain rfl := ctsEq_eq _ _ hg
      exact ⟨a0, rfl⟩
    · cases h
  · obtain ⟨hg, h⟩ := bif_pair (g := ctsEq [.int .i64] [.int .i64]) h
    obtain ⟨_, rfl⟩ := pair_inj h
    exact e139n b
  · obtain ⟨hg, h⟩ := bif_pair (g := ctsEq [.int .i64] [.int .i64]) h
    obtain ⟨hq, rfl⟩ := pair_inj h
    refine (e139 ys).trans ?_
    unfold q139 at hq
    have e : ([] : List AV).length + ys.length = ys.length := by simp
    rw [e, hq, decide_eq_true h0]
    rfl

/-! ### 107 loop.example/g01984/impl.NewCracker -/
def F107_0_s0 (t13 : Int) (h0 : List AV) (t14 : Int) : Out (Int ⊕ (Int × (List AV))) (Unit ⊕ ((List AV))) := (bif decide (t14 < t13) then (bif (decide ((([AV.int .i64 t14]).length) * 8 ≤ 140737488355328) && decide ((([AV.int .i64 t14]).length) ≤ 140737488355328)) then .next (.inr (IntKind.i64.wrap (t14 + 1), [AV.int .i64 t14]))
   else .fail)
  else .stop (.inl ()))
def F107_0_s1 (t13 : Int) (h0 : List AV) (t14 : Int) (h1 : List AV) : Out (Int ⊕ (Int × (List AV))) (Unit ⊕ ((List AV))) := (bif decide (t14 < t13) then (bif (decide ((h1.length + ([AV.int .i64 t14]).length) * 8 ≤ 140737488355328) && decide ((h1.length + ([AV.int .i64 t14]).length) ≤ 140737488355328)) then .next (.inr (IntKind.i64.wrap (t14 + 1), h1 ++ ([AV.int .i64 t14])))
   else .fail)
  else .stop (.inr h1))
def R107_0 (t13 : Int) (h0 : List AV) : (Int ⊕ (Int × (List AV))) → Out (Int ⊕ (Int × (List AV))) (Unit ⊕ ((List AV))) := sumE (fun s : Int => F107_0_s0 t13 h0 s) (fun s : Int × (List AV) => F107_0_s1 t13 h0 s.1 s.2)
def l107_0 : LModel := fun _ _ st k => match st with
  | ⟨[(2, .ptr g0 g1 g2), (3, .ptr g3 g4 g5), (13, .int .i64 t13), (14, .int .i64 t14)], [(g6, ⟨false, g7, h0⟩), (g8, ⟨true, [], [.agg [.snil, .snil, .snil]]⟩), (g9, ⟨true, [], [.agg [.own g10, .snil, .snil]]⟩)]⟩ => bif nmEq g0 ([0, 2]) && Nat.beq g1 0 && Nat.beq g2 0 && nmEq g3 ([0, 3]) && Nat.beq g4 0 && Nat.beq g5 0 && nmEq g6 ([0, 0, 3]) && ctsEq g7 ([.int .i64]) && nmEq g8 ([0, 2]) && nmEq g9 ([0, 3]) && nmEq g10 ([0, 0, 3]) then ro (runW (R107_0 t13 h0) ((t13 - t14).toNat + 1) (.inl t14)) none (sumE (fun _ : Unit => k (.exit 0) ⟨[(2, AV.ptr [0, 2] 0 0), (3, AV.ptr [0, 3] 0 0)], [([0, 0, 3], ⟨false, [.int .i64], h0⟩), ([0, 2], ⟨true, [], [AV.agg [AV.snil, AV.snil, AV.snil]]⟩), ([0, 3], ⟨true, [], [AV.agg [AV.own [0, 0, 3], AV.snil, AV.snil]]⟩)]⟩) (fun p : (List AV) => k (.exit 0) ⟨[(2, AV.ptr [0, 2] 0 0), (3, AV.ptr [0, 3] 0 0)], [([0, 0, 3], ⟨false, [.int .i64], h0⟩), ([0, 1, 3], ⟨false, [.int .i64], p⟩), ([0, 2], ⟨true, [], [AV.agg [AV.snil, AV.snil, AV.snil]]⟩), ([0, 3], ⟨true, [], [AV.agg [AV.own [0, 0, 3], AV.own [0, 1, 3], AV.snil]]⟩)]⟩)) else none
  | ⟨[(2, .ptr g0 g1 g2), (3, .ptr g3 g4 g5), (13, .int .i64 t13), (14, .int .i64 t14)], [(g6, ⟨false, g7, h0⟩), (g8, ⟨false, g9, h1⟩), (g10, ⟨true, [], [.agg [.snil, .snil, .snil]]⟩), (g11, ⟨true, [], [.agg [.own g12, .own g13, .snil]]⟩)]⟩ => bif nmEq g0 ([0, 2]) && Nat.beq g1 0 && Nat.beq g2 0 && nmEq g3 ([0, 3]) && Nat.beq g4 0 && Nat.beq g5 0 && nmEq g6 ([0, 0, 3]) && ctsEq g7 ([.int .i64]) && nmEq g8 ([0, 1, 3]) && ctsEq g9 ([.int .i64]) && nmEq g10 ([0, 2]) && nmEq g11 ([0, 3]) && nmEq g12 ([0, 0, 3]) && nmEq g13 ([0, 1, 3]) then ro (runW (R107_0 t13 h0) ((t13 - t14).toNat + 1) (.inr (t14, h1))) none (sumE (fun _ : Unit => k (.exit 0) ⟨[(2, AV.ptr [0, 2] 0 0), (3, AV.ptr [0, 3] 0 0)], [([0, 0, 3], ⟨false, [.int .i64], h0⟩), ([0, 2], ⟨true, [], [AV.agg [AV.snil, AV.snil, AV.snil]]⟩), ([0, 3], ⟨true, [], [AV.agg [AV.own [0, 0, 3], AV.snil, AV.snil]]⟩)]⟩) (fun p : (List AV) => k (.exit 0) ⟨[(2, AV.ptr [0, 2] 0 0), (3, AV.ptr [0, 3] 0 0)], [([0, 0, 3], ⟨false, [.int .i64], h0⟩), ([0, 1, 3], ⟨false, [.int .i64], p⟩), ([0, 2], ⟨true, [], [AV.agg [AV.snil, AV.snil, AV.snil]]⟩), ([0, 3], ⟨true, [], [AV.agg [AV.own [0, 0, 3], AV.own [0, 1, 3], AV.snil]]⟩)]⟩)) else none
  | _ => none
noncomputable def c107 : Cfg := cfg Try.prog [(107, 0, [2, 3, 13, 14]), (107, 999, [2]), (107, 1000, [2, 3]), (107, 1001, [2, 3, 13, 14])] [(105, m105), (139, m139)] [] [] [(107, 0, l107_0)]
theorem s107_0_s0 (ce : CallE) (t13 : Int) (t14 : Int) (h0 : List AV) (next : St → Option AV) (k : Kont) : stepA (codeA c107 ce [] 107 0 (sub [1, 1, 1, 0, 1, 0, 0] (body Try.f107))) (normA [] [2, 3, 13, 14]) next ⟨[(2, AV.ptr [0, 2] 0 0), (3, AV.ptr [0, 3] 0 0), (13, AV.int .i64 t13), (14, AV.int .i64 t14)], [([0, 0, 3], ⟨false, [.int .i64], h0⟩), ([0, 2], ⟨true, [], [AV.agg [AV.snil, AV.snil, AV.snil]]⟩), ([0, 3], ⟨true, [], [AV.agg [AV.own [0, 0, 3], AV.snil, AV.snil]]⟩)]⟩ k = (bif decide (t14 < t13) then (bif (decide ((([AV.int .i64 t14]).length) * 8 ≤ 140737488355328) && decide ((([AV.int .i64 t14]).length) ≤ 140737488355328)) then next ⟨[(2, AV.ptr [0, 2] 0 0), (3, AV.ptr [0, 3] 0 0), (13, AV.int .i64 t13), (14, AV.int .i64 (IntKind.i64.wrap (t14 + 1)))], [([0, 0, 3], ⟨false, [.int .i64], h0⟩), ([0, 1, 3], ⟨false, [.int .i64], [AV.int .i64 t14]⟩), ([0, 2], ⟨true, [], [AV.agg [AV.snil, AV.snil, AV.snil]]⟩), ([0, 3], ⟨true, [], [AV.agg [AV.own [0, 0, 3], AV.own [0, 1, 3], AV.snil]]⟩)]⟩
   else none)
  else k (.exit 0) ⟨[(2, AV.ptr [0, 2] 0 0), (3, AV.ptr [0, 3] 0 0)], [([0, 0, 3], ⟨false, [.int .i64], h0⟩), ([0, 2], ⟨true, [], [AV.agg [AV.snil, AV.snil, AV.snil]]⟩), ([0, 3], ⟨true, [], [AV.agg [AV.own [0, 0, 3], AV.snil, AV.snil]]⟩)]⟩) := by kernel_rfl
theorem s107_0_s1 (ce : CallE) (t13 : Int) (t14 : Int) (h0 : List AV) (h1 : List AV) (next : St → Option AV) (k : Kont) : stepA (codeA c107 ce [] 107 0 (sub [1, 1, 1, 0, 1, 0, 0] (body Try.f107))) (normA [] [2, 3, 13, 14]) next ⟨[(2, AV.ptr [0, 2] 0 0), (3, AV.ptr [0, 3] 0 0), (13, AV.int .i64 t13), (14, AV.int .i64 t14)], [([0, 0, 3], ⟨false, [.int .i64], h0⟩), ([0, 1, 3], ⟨false, [.int .i64], h1⟩), ([0, 2], ⟨true, [], [AV.agg [AV.snil, AV.snil, AV.snil]]⟩), ([0, 3], ⟨true, [], [AV.agg [AV.own [0, 0, 3], AV.own [0, 1, 3], AV.snil]]⟩)]⟩ k = (bif decide (t14 < t13) then (bif (decide ((h1.length + ([AV.int .i64 t14]).length) * 8 ≤ 140737488355328) && decide ((h1.length + ([AV.int .i64 t14]).length) ≤ 140737488355328)) then next ⟨[(2, AV.ptr [0, 2] 0 0), (3, AV.ptr [0, 3] 0 0), (13, AV.int .i64 t13), (14, AV.int .i64 (IntKind.i64.wrap (t14 + 1)))], [([0, 0, 3], ⟨false, [.int .i64], h0⟩), ([0, 1, 3], ⟨false, [.int .i64], h1 ++ ([AV.int .i64 t14])⟩), ([0, 2], ⟨true, [], [AV.agg [AV.snil, AV.snil, AV.snil]]⟩), ([0, 3], ⟨true, [], [AV.agg [AV.own [0, 0, 3], AV.own [0, 1, 3], AV.snil]]⟩)]⟩
   else none)
  else k (.exit 0) ⟨[(2, AV.ptr [0, 2] 0 0), (3, AV.ptr [0, 3] 0 0)], [([0, 0, 3], ⟨false, [.int .i64], h0⟩), ([0, 1, 3], ⟨false, [.int .i64], h1⟩), ([0, 2], ⟨true, [], [AV.agg [AV.snil, AV.snil, AV.snil]]⟩), ([0, 3], ⟨true, [], [AV.agg [AV.own [0, 0, 3], AV.own [0, 1, 3], AV.snil]]⟩)]⟩) := by kernel_rfl
theorem st107_0 (t13 : Int) (h0 : List AV) (ce : CallE) (k : Kont) (s : Int ⊕ (Int × (List AV))) (next : St → Option AV) : stepA (codeA c107 ce [] 107 0 (sub [1, 1, 1, 0, 1, 0, 0] (body Try.f107))) (normA [] [2, 3, 13, 14]) next ((sumE (fun s : Int => ⟨[(2, AV.ptr [0, 2] 0 0), (3, AV.ptr [0, 3] 0 0), (13, AV.int .i64 t13), (14, AV.int .i64 s)], [([0, 0, 3], ⟨false, [.int .i64], h0⟩), ([0, 2], ⟨true, [], [AV.agg [AV.snil, AV.snil, AV.snil]]⟩), ([0, 3], ⟨true, [], [AV.agg [AV.own [0, 0, 3], AV.snil, AV.snil]]⟩)]⟩) (fun s : Int × (List AV) => ⟨[(2, AV.ptr [0, 2] 0 0), (3, AV.ptr [0, 3] 0 0), (13, AV.int .i64 t13), (14, AV.int .i64 s.1)], [([0, 0, 3], ⟨false, [.int .i64], h0⟩), ([0, 1, 3], ⟨false, [.int .i64], s.2⟩), ([0, 2], ⟨true, [], [AV.agg [AV.snil, AV.snil, AV.snil]]⟩), ([0, 3], ⟨true, [], [AV.agg [AV.own [0, 0, 3], AV.own [0, 1, 3], AV.snil]]⟩)]⟩)) s) k = (R107_0 t13 h0 s).el none (fun s => next ((sumE (fun s : Int => ⟨[(2, AV.ptr [0, 2] 0 0), (3, AV.ptr [0, 3] 0 0), (13, AV.int .i64 t13), (14, AV.int .i64 s)], [([0, 0, 3], ⟨false, [.int .i64], h0⟩), ([0, 2], ⟨true, [], [AV.agg [AV.snil, AV.snil, AV.snil]]⟩), ([0, 3], ⟨true, [], [AV.agg [AV.own [0, 0, 3], AV.snil, AV.snil]]⟩)]⟩) (fun s : Int × (List AV) => ⟨[(2, AV.ptr [0, 2] 0 0), (3, AV.ptr [0, 3] 0 0), (13, AV.int .i64 t13), (14, AV.int .i64 s.1)], [([0, 0, 3], ⟨false, [.int .i64], h0⟩), ([0, 1, 3], ⟨false, [.int .i64], s.2⟩), ([0, 2], ⟨true, [], [AV.agg [AV.snil, AV.snil, AV.snil]]⟩), ([0, 3], ⟨true, [], [AV.agg [AV.own [0, 0, 3], AV.own [0, 1, 3], AV.snil]]⟩)]⟩)) s)) (sumE (fun _ : Unit => k (.exit 0) ⟨[(2, AV.ptr [0, 2] 0 0), (3, AV.ptr [0, 3] 0 0)], [([0, 0, 3], ⟨false, [.int .i64], h0⟩), ([0, 2], ⟨true, [], [AV.agg [AV.snil, AV.snil, AV.snil]]⟩), ([0, 3], ⟨true, [], [AV.agg [AV.own [0, 0, 3], AV.snil, AV.snil]]⟩)]⟩) (fun p : (List AV) => k (.exit 0) ⟨[(2, AV.ptr [0, 2] 0 0), (3, AV.ptr [0, 3] 0 0)], [([0, 0, 3], ⟨false, [.int .i64], h0⟩), ([0, 1, 3], ⟨false, [.int .i64], p⟩), ([0, 2], ⟨true, [], [AV.agg [AV.snil, AV.snil, AV.snil]]⟩), ([0, 3], ⟨true, [], [AV.agg [AV.own [0, 0, 3], AV.own [0, 1, 3], AV.snil]]⟩)]⟩)) := (match s with | .inl s => (s107_0_s0 ce t13 s h0 next k).trans (by unfold R107_0; unfold F107_0_s0; simp only [el_cond, el_ro, el_sum, el_fail, el_next, el_stop] <;> rfl) | .inr s => (s107_0_s1 ce t13 s.1 h0 s.2 next k).trans (by unfold R107_0; unfold F107_0_s1; simp only [el_cond, el_ro, el_sum, el_fail, el_next, el_stop] <;> rfl))
theorem ok107_0 {ce : CallE} : LoopOK c107 ce [] 107 0 (sub [1, 1, 1, 0, 1, 0, 0] (body Try.f107)) := by
  intro m hm st k r h
  obtain rfl : l107_0 = m := Option.some.inj hm
  unfold l107_0 at h
  split at h
  · rename_i g0 g1 g2 g3 g4 g5 t13 t14 g6 g7 h0 g8 g9 g10
    obtain ⟨hg, h⟩ := bif_some h
    simp only [Bool.and_eq_true] at hg
    obtain ⟨⟨⟨⟨⟨⟨⟨⟨⟨⟨q0, q1⟩, q2⟩, q3⟩, q4⟩, q5⟩, q6⟩, q7⟩, q8⟩, q9⟩, q10⟩ := hg
    obtain rfl := (nmEq_iff _ _).1 q0
    obtain rfl := Nat.eq_of_beq_eq_true q1
    obtain rfl := Nat.eq_of_beq_eq_true q2
    obtain rfl := (nmEq_iff _ _).1 q3
    obtain rfl := Nat.eq_of_beq_eq_true q4
    obtain rfl := Nat.eq_of_beq_eq_true q5
    obtain rfl := (nmEq_iff _ _).1 q6
    obtain rfl := ctsEq_eq _ _ q7
    obtain rfl := (nmEq_iff _ _).1 q8
    obtain rfl := (nmEq_iff _ _).1 q9
    obtain rfl := (nmEq_iff _ _).1 q10
    refine ⟨((t13 - t14).toNat + 1), ?_⟩
    rw [← h]
    exact loop_run (sumE (fun s : Int => ⟨[(2, AV.ptr [0, 2] 0 0), (3, AV.ptr [0, 3] 0 0), (13, AV.int .i64 t13), (14, AV.int .i64 s)], [([0, 0, 3], ⟨false, [.int .i64], h0⟩), ([0, 2], ⟨true, [], [AV.agg [AV.snil, AV.snil, AV.snil]]⟩), ([0, 3], ⟨true, [], [AV.agg [AV.own [0, 0, 3], AV.snil, AV.snil]]⟩)]⟩) (fun s : Int × (List AV) => ⟨[(2, AV.ptr [0, 2] 0 0), (3, AV.ptr [0, 3] 0 0), (13, AV.int .i64 t13), (14, AV.int .i64 s.1)], [([0, 0, 3], ⟨false, [.int .i64], h0⟩), ([0, 1, 3], ⟨false, [.int .i64], s.2⟩), ([0, 2], ⟨true, [], [AV.agg [AV.snil, AV.snil, AV.snil]]⟩), ([0, 3], ⟨true, [], [AV.agg [AV.own [0, 0, 3], AV.own [0, 1, 3], AV.snil]]⟩)]⟩)) (sumE (fun _ : Unit => k (.exit 0) ⟨[(2, AV.ptr [0, 2] 0 0), (3, AV.ptr [0, 3] 0 0)], [([0, 0, 3], ⟨false, [.int .i64], h0⟩), ([0, 2], ⟨true, [], [AV.agg [AV.snil, AV.snil, AV.snil]]⟩), ([0, 3], ⟨true, [], [AV.agg [AV.own [0, 0, 3], AV.snil, AV.snil]]⟩)]⟩) (fun p : (List AV) => k (.exit 0) ⟨[(2, AV.ptr [0, 2] 0 0), (3, AV.ptr [0, 3] 0 0)], [([0, 0, 3], ⟨false, [.int .i64], h0⟩), ([0, 1, 3], ⟨false, [.int .i64], p⟩), ([0, 2], ⟨true, [], [AV.agg [AV.snil, AV.snil, AV.snil]]⟩), ([0, 3], ⟨true, [], [AV.agg [AV.own [0, 0, 3], AV.own [0, 1, 3], AV.snil]]⟩)]⟩)) (st107_0 t13 h0 ce k) _ (.inl t14)
  · rename_i g0 g1 g2 g3 g4 g5 t13 t14 g6 g7 h0 g8 g9 h1 g10 g11 g12 g13
    obtain ⟨hg, h⟩ := bif_some h
    simp only [Bool.and_eq_true] at hg
    obtain ⟨⟨⟨⟨⟨⟨⟨⟨⟨⟨⟨⟨⟨q0, q1⟩, q2⟩, q3⟩, q4⟩, q5⟩, q6⟩, q7⟩, q8⟩, q9⟩, q10⟩, q11⟩, q12⟩, q13⟩ := hg
    obtain rfl := (nmEq_iff _ _).1 q0
    obtain rfl := Nat.eq_of_beq_eq_true q1
    obtain rfl := Nat.eq_of_beq_eq_true q2
    obtain rfl := (nmEq_iff _ _).1 q3
    obtain rfl := Nat.eq_of_beq_eq_true q4
    obtain rfl := Nat.eq_of_beq_eq_true q5
    obtain rfl := (nmEq_iff _ _).1 q6
    obtain rfl := ctsEq_eq _ _ q7
    obtain rfl := (nmEq_iff _ _).1 q8
    obtain rfl := ctsEq_eq _ _ q9
    obtain rfl := (nmEq_iff _ _).1 q10
    obtain rfl := (nmEq_iff _ _).1 q11
    obtain rfl := (nmEq_iff _ _).1 q12
    obtain rfl := (nmEq_iff _ _).1 q13
    refine ⟨((t13 - t14).toNat + 1), ?_⟩
    rw [← h]
    exact loop_run (sumE (fun s : Int => ⟨[(2, AV.ptr [0, 2] 0 0), (3, AV.ptr [0, 3] 0 0), (13, AV.int .i64 t13), (14, AV.int .i64 s)], [([0, 0, 3], ⟨false, [.int .i64], h0⟩), ([0, 2], ⟨true, [], [AV.agg [AV.snil, AV.snil, AV.snil]]⟩), ([0, 3], ⟨true, [], [AV.agg [AV.own [0, 0, 3], AV.snil, AV.snil]]⟩)]⟩) (fun s : Int × (List AV) => ⟨[(2, AV.ptr [0, 2] 0 0), (3, AV.ptr [0, 3] 0 0), (13, AV.int .i64 t13), (14, AV.int .i64 s.1)], [([0, 0, 3], ⟨false, [.int .i64], h0⟩), ([0, 1, 3], ⟨false, [.int .i64], s.2⟩), ([0, 2], ⟨true, [], [AV.agg [AV.snil, AV.snil, AV.snil]]⟩), ([0, 3], ⟨true, [], [AV.agg [AV.own [0, 0, 3], AV.own [0, 1, 3], AV.snil]]⟩)]⟩)) (sumE (fun _ : Unit => k (.exit 0) ⟨[(2, AV.ptr [0, 2] 0 0), (3, AV.ptr [0, 3] 0 0)], [([0, 0, 3], ⟨false, [.int .i64], h0⟩), ([0, 2], ⟨true, [], [AV.agg [AV.snil, AV.snil, AV.snil]]⟩), ([0, 3], ⟨true, [], [AV.agg [AV.own [0, 0, 3], AV.snil, AV.snil]]⟩)]⟩) (fun p : (List AV) => k (.exit 0) ⟨[(2, AV.ptr [0, 2] 0 0), (3, AV.ptr [0, 3] 0 0)], [([0, 0, 3], ⟨false, [.int .i64], h0⟩), ([0, 1, 3], ⟨false, [.int .i64], p⟩), ([0, 2], ⟨true, [], [AV.agg [AV.snil, AV.snil, AV.snil]]⟩), ([0, 3], ⟨true, [], [AV.agg [AV.own [0, 0, 3], AV.own [0, 1, 3], AV.snil]]⟩)]⟩)) (st107_0 t13 h0 ce k) _ (.inr (t14, h1))
  · cases h
def q107 (a0 : List AV) : Bool := (q105 a0 && (bif !(v105_0 a0) then true else (q139 a0 && (ro (runW (R107_0 (a0.length : Int) (v139_0 a0)) (((a0.length : Int) - 0).toNat + 1) (.inl 0)) false (sumE (fun _ => true) (fun p34 => true))))))
def v107_0 (a0 : List AV) : List AV := (bif !(v105_0 a0) then ([] : List AV) else (v139_0 a0))
def v107_1 (a0 : List AV) : List AV := (bif !(v105_0 a0) then ([] : List AV) else (ro (runW (R107_0 (a0.length : Int) (v139_0 a0)) (((a0.length : Int) - 0).toNat + 1) (.inl 0)) [] (sumE (fun _ => ([] : List AV)) (fun p34 => p34))))
def v107_2 (a0 : List AV) : List AV := ([] : List AV)
theorem e107 (a0 : List AV) : funA c107 0 107 [AV.sl [.int .i64] a0] = (bif q105 a0 then (bif !(v105_0 a0) then some (AV.agg [AV.fl [.int .i64] ([] : List AV), AV.fl [.int .i64] ([] : List AV), AV.fl [.int .i64, .int .i64] ([] : List AV)])
   else (bif q139 a0 then (ro (runW (R107_0 (a0.length : Int) (v139_0 a0)) (((a0.length : Int) - 0).toNat + 1) (.inl 0)) none (sumE (fun _ => some (AV.agg [AV.fl [.int .i64] (v139_0 a0), AV.fl [.int .i64] ([] : List AV), AV.fl [.int .i64, .int .i64] ([] : List AV)])) (fun p34 => some (AV.agg [AV.fl [.int .i64] (v139_0 a0), AV.fl [.int .i64] p34, AV.fl [.int .i64, .int .i64] ([] : List AV)]))))
    else none))
  else none) := by kernel_rfl
theorem r107 (a0 : List AV) (h : q107 a0 = true) : funA c107 0 107 [AV.sl [.int .i64] a0] = some (AV.agg [AV.fl [.int .i64] (v107_0 a0), AV.fl [.int .i64] (v107_1 a0), AV.fl [.int .i64, .int .i64] (v107_2 a0)]) := (e107 a0).trans ((brL (br (fun b => some (AV.agg [AV.fl [.int .i64] (bif b then ([] : List AV) else (v139_0 a0)), AV.fl [.int .i64] (bif b then ([] : List AV) else (ro (runW (R107_0 (a0.length : Int) (v139_0 a0)) (((a0.length : Int) - 0).toNat + 1) (.inl 0)) [] (sumE (fun _ => ([] : List AV)) (fun p34 => p34)))), AV.fl [.int .i64, .int .i64] ([] : List AV)])) (fun _ => rfl) (brL (brO (fun o : Option (Unit ⊕ ((List AV))) => some (AV.agg [AV.fl [.int .i64] (v139_0 a0), AV.fl [.int .i64] (ro o [] (sumE (fun _ => ([] : List AV)) (fun p34 => p34))), AV.fl [.int .i64, .int .i64] ([] : List AV)])) (brS (fun o : Unit ⊕ ((List AV)) => some (AV.agg [AV.fl [.int .i64] (v139_0 a0), AV.fl [.int .i64] ((sumE (fun _ => ([] : List AV)) (fun p34 => p34)) o), AV.fl [.int .i64, .int .i64] ([] : List AV)])) (fun _ => (fun _ => rfl)) (fun p34 => (fun _ => rfl))))))) h)
def m107 : TModel
  | [.sl g0 a0] => bif ctsEq g0 ([.int .i64]) then some (q107 a0, AV.agg [AV.fl [.int .i64] (v107_0 a0), AV.fl [.int .i64] (v107_1 a0), AV.fl [.int .i64, .int .i64] (v107_2 a0)]) else none
  | _ => none
theorem k107 : Known Try.prog 107 := ⟨Try.f107, Try.func107, by kernel_rfl, by kernel_rfl⟩
theorem meets107 : Meets Try.prog 107 m107 := by
  refine meet (f := Try.f107) (l := [(0, sub [1, 1, 1, 0, 1, 0, 0] (body Try.f107))]) (hs := [(107, 0, [2, 3, 13, 14]), (107, 999, [2]), (107, 1000, [2, 3]), (107, 1001, [2, 3, 13, 14])]) (ts := [(105, m105), (139, m139)]) (ws := []) (is := []) (ls := [(107, 0, l107_0)]) (lvl := 0) mixed k107 Try.func107 (by kernel_rfl) (loops_cons ok107_0 noLoop) (allT_cons meets105 (allT_cons meets139 allT_nil)) allM_nil noI fun w xs us r hl hv h => ?_
  unfold m107 at h
  split at h
  · rename_i g0 a0
    obtain ⟨hg, h⟩ := bif_pair h
    have q0 := hg
    obtain rfl := ctsEq_eq _ _ q0
    obtain ⟨h1, rfl⟩ := pair_inj h
    exact r107 a0 h1
  · cases h

/-! ### 98 loop.example/g01984/impl.bound -/
noncomputable def c98 : Cfg := cfg Try.prog [(98, 999, [2])] [] [] [] []
def q98 (a0 : Int) : Bool := true
def v98_0 (a0 : Int) : Bool := (bif decide (a0 ≥ (-1000)) then decide (a0 ≤ 1000) else false)
theorem e98 (a0 : Int) : funA c98 0 98 [AV.int .i64 a0] = (bif decide (a0 ≥ (-1000)) then some (AV.bool (decide (a0 ≤ 1000)))
  else some (AV.bool false)) := by kernel_rfl
theorem r98 (a0 : Int) : funA c98 0 98 [AV.int .i64 a0] = some (AV.bool (v98_0 a0)) := (e98 a0).trans (of_tt (brT (fun b => some (AV.bool (bif b then decide (a0 ≤ 1000) else false))) (fun _ => rfl) (fun _ => rfl)))
def m98 : TModel
  | [.int .i64 a0] => some (true, AV.bool (v98_0 a0))
  | _ => none
theorem k98 : Known Try.prog 98 := ⟨Try.f98, Try.func98, by kernel_rfl, by kernel_rfl⟩
theorem meets98 : Meets Try.prog 98 m98 := by
  refine meet (f := Try.f98) (l := []) (hs := [(98, 999, [2])]) (ts := []) (ws := []) (is := []) (ls := []) (lvl := 0) mixed k98 Try.func98 (by kernel_rfl) noLoop allT_nil allM_nil noI fun w xs us r hl hv h => ?_
  unfold m98 at h
  split at h
  · rename_i a0
    obtain ⟨h1, rfl⟩ := pair_inj h
    exact r98 a0
  · cases h

/-! ### 147 loop.example/g01984/impl.FindPivot -/
def F147_0 (t1 : Int) (t9 : List AV) (t10 : Int) (t11 : Int) : Out (Int) (Unit ⊕ (Int × Int × Int)) := (bif decide (t11 < t10) then (bif (decide (0 ≤ t11) && decide (t11 < (t9.length : Int))) then (bif decide (fI (t9.getD t11.toNat AV.undef) 0 = t1) then .stop (.inr (fI (t9.getD t11.toNat AV.undef) 1, fI (t9.getD t11.toNat AV.undef) 0, fI (t9.getD t11.toNat AV.undef) 1))
    else .next (IntKind.i64.wrap (t11 + 1)))
   else .fail)
  else .stop (.inl ()))
def R147_0 (t1 : Int) (t9 : List AV) (t10 : Int) : (Int) → Out (Int) (Unit ⊕ (Int × Int × Int)) := fun s : Int => F147_0 t1 t9 t10 s
def l147_0 : LModel := fun _ _ st k => match st with
  | ⟨[(1, .int .i64 t1), (9, .sl g0 t9), (10, .int .i64 t10), (11, .int .i64 t11)], []⟩ => bif ctsEq g0 ([.int .i64, .int .i64]) then ro (runW (R147_0 t1 t9 t10) ((t10 - t11).toNat + 1) t11) none (sumE (fun _ : Unit => k (.exit 0) ⟨[], []⟩) (fun p : Int × Int × Int => k .ret ⟨[(4, AV.int .i64 p.1), (5, AV.bool true)], [([1, 7], ⟨true, [], [AV.agg [AV.int .i64 p.2.1, AV.int .i64 p.2.2]]⟩)]⟩)) else none
  | _ => none
noncomputable def c147 : Cfg := cfg Try.prog [(147, 0, [1, 9, 10, 11]), (147, 999, [4, 5]), (147, 1000, []), (147, 1001, [1, 9, 10, 11])] [] [] [] [(147, 0, l147_0)]
theorem s147_0 (ce : CallE) (t1 : Int) (t9 : List AV) (t10 : Int) (t11 : Int) (next : St → Option AV) (k : Kont) : stepA (codeA c147 ce [] 147 0 (sub [1, 0, 1, 0, 0] (body Try.f147))) (normA [] [1, 9, 10, 11]) next ⟨[(1, AV.int .i64 t1), (9, AV.sl [.int .i64, .int .i64] t9), (10, AV.int .i64 t10), (11, AV.int .i64 t11)], []⟩ k = (bif decide (t11 < t10) then (bif (decide (0 ≤ t11) && decide (t11 < (t9.length : Int))) then (bif decide (fI (t9.getD t11.toNat AV.undef) 0 = t1) then k .ret ⟨[(4, AV.int .i64 (fI (t9.getD t11.toNat AV.undef) 1)), (5, AV.bool true)], [([1, 7], ⟨true, [], [AV.agg [AV.int .i64 (fI (t9.getD t11.toNat AV.undef) 0), AV.int .i64 (fI (t9.getD t11.toNat AV.undef) 1)]]⟩)]⟩
    else next ⟨[(1, AV.int .i64 t1), (9, AV.sl [.int .i64, .int .i64] t9), (10, AV.int .i64 t10), (11, AV.int .i64 (IntKind.i64.wrap (t11 + 1)))], []⟩)
   else none)
  else k (.exit 0) ⟨[], []⟩) := by kernel_rfl
theorem st147_0 (t1 : Int) (t9 : List AV) (t10 : Int) (ce : CallE) (k : Kont) (s : Int) (next : St → Option AV) : stepA (codeA c147 ce [] 147 0 (sub [1, 0, 1, 0, 0] (body Try.f147))) (normA [] [1, 9, 10, 11]) next ((fun s : Int => ⟨[(1, AV.int .i64 t1), (9, AV.sl [.int .i64, .int .i64] t9), (10, AV.int .i64 t10), (11, AV.int .i64 s)], []⟩) s) k = (R147_0 t1 t9 t10 s).el none (fun s => next ((fun s : Int => ⟨[(1, AV.int .i64 t1), (9, AV.sl [.int .i64, .int .i64] t9), (10, AV.int .i64 t10), (11, AV.int .i64 s)], []⟩) s)) (sumE (fun _ : Unit => k (.exit 0) ⟨[], []⟩) (fun p : Int × Int × Int => k .ret ⟨[(4, AV.int .i64 p.1), (5, AV.bool true)], [([1, 7], ⟨true, [], [AV.agg [AV.int .i64 p.2.1, AV.int .i64 p.2.2]]⟩)]⟩)) := (s147_0 ce t1 t9 t10 s next k).trans (by unfold R147_0; unfold F147_0; simp only [el_cond, el_ro, el_sum, el_fail, el_next, el_stop] <;> rfl)
theorem ok147_0 {ce : CallE} : LoopOK c147 ce [] 147 0 (sub [1, 0, 1, 0, 0] (body Try.f147)) := by
  intro m hm st k r h
  obtain rfl : l147_0 = m := Option.some.inj hm
  unfold l147_0 at h
  split at h
  · rename_i t1 g0 t9 t10 t11
    obtain ⟨hg, h⟩ := bif_some h
    have q0 := hg
    obtain rfl := ctsEq_eq _ _ q0
    refine ⟨((t10 - t11).toNat + 1), ?_⟩
    rw [← h]
    exact loop_run (fun s : Int => ⟨[(1, AV.int .i64 t1), (9, AV.sl [.int .i64, .int .i64] t9), (10, AV.int .i64 t10), (11, AV.int .i64 s)], []⟩) (sumE (fun _ : Unit => k (.exit 0) ⟨[], []⟩) (fun p : Int × Int × Int => k .ret ⟨[(4, AV.int .i64 p.1), (5, AV.bool true)], [([1, 7], ⟨true, [], [AV.agg [AV.int .i64 p.2.1, AV.int .i64 p.2.2]]⟩)]⟩)) (st147_0 t1 t9 t10 ce k) _ t11
  · cases h
def q147 (a0_0 : List AV) (a0_1 : List AV) (a0_2 : List AV) (a1 : Int) : Bool := (ro (runW (R147_0 a1 a0_2 (a0_2.length : Int)) (((a0_2.length : Int) - 0).toNat + 1) 0) false (sumE (fun _ => true) (fun p36 => true)))
def v147_0 (a0_0 : List AV) (a0_1 : List AV) (a0_2 : List AV) (a1 : Int) : Int := (ro (runW (R147_0 a1 a0_2 (a0_2.length : Int)) (((a0_2.length : Int) - 0).toNat + 1) 0) 0 (sumE (fun _ => 0) (fun p36 => p36.1)))
def v147_1 (a0_0 : List AV) (a0_1 : List AV) (a0_2 : List AV) (a1 : Int) : Bool := (ro (runW (R147_0 a1 a0_2 (a0_2.length : Int)) (((a0_2.length : Int) - 0).toNat + 1) 0) false (sumE (fun _ => false) (fun p36 => true)))
theorem e147 (a0_0 : List AV) (a0_1 : List AV) (a0_2 : List AV) (a1 : Int) : funA c147 0 147 [AV.agg [AV.sl [.int .i64] a0_0, AV.sl [.int .i64] a0_1, AV.sl [.int .i64, .int .i64] a0_2], AV.int .i64 a1] = (ro (runW (R147_0 a1 a0_2 (a0_2.length : Int)) (((a0_2.length : Int) - 0).toNat + 1) 0) none (sumE (fun _ => some (AV.tup [AV.int .i64 0, AV.bool false])) (fun p36 => some (AV.tup [AV.int .i64 p36.1, AV.bool true])))) := by kernel_rfl
theorem r147 (a0_0 : List AV) (a0_1 : List AV) (a0_2 : List AV) (a1 : Int) (h : q147 a0_0 a0_1 a0_2 a1 = true) : funA c147 0 147 [AV.agg [AV.sl [.int .i64] a0_0, AV.sl [.int .i64] a0_1, AV.sl [.int .i64, .int .i64] a0_2], AV.int .i64 a1] = some (AV.tup [AV.int .i64 (v147_0 a0_0 a0_1 a0_2 a1), AV.bool (v147_1 a0_0 a0_1 a0_2 a1)]) := (e147 a0_0 a0_1 a0_2 a1).trans ((brO (fun o : Option (Unit ⊕ (Int × Int × Int)) => some (AV.tup [AV.int .i64 (ro o 0 (sumE (fun _ => 0) (fun p36 => p36.1))), AV.bool (ro o false (sumE (fun _ => false) (fun p36 => true)))])) (brS (fun o : Unit ⊕ (Int × Int × Int) => some (AV.tup [AV.int .i64 ((sumE (fun _ => 0) (fun p36 => p36.1)) o), AV.bool ((sumE (fun _ => false) (fun p36 => true)) o)])) (fun _ => (fun _ => rfl)) (fun p36 => (fun _ => rfl)))) h)
def m147 : TModel
  | [.agg [.sl g0 a0_0, .sl g1 a0_1, .sl g2 a0_2], .int .i64 a1] => bif ctsEq g0 ([.int .i64]) && ctsEq g1 ([.int .i64]) && ctsEq g2 ([.int .i64, .int .i64]) then some (q147 a0_0 a0_1 a0_2 a1, AV.tup [AV.int .i64 (v147_0 a0_0 a0_1 a0_2 a1), AV.bool (v147_1 a0_0 a0_1 a0_2 a1)]) else none
  | _ => none
theorem k147 : Known Try.prog 147 := ⟨Try.f147, Try.func147, by kernel_rfl, by kernel_rfl⟩
theorem meets147 : Meets Try.prog 147 m147 := by
  refine meet (f := Try.f147) (l := [(0, sub [1, 0, 1, 0, 0] (body Try.f147))]) (hs := [(147, 0, [1, 9, 10, 11]), (147, 999, [4, 5]), (147, 1000, []), (147, 1001, [1, 9, 10, 11])]) (ts := []) (ws := []) (is := []) (ls := [(147, 0, l147_0)]) (lvl := 0) mixed k147 Try.func147 (by kernel_rfl) (loops_cons ok147_0 noLoop) allT_nil allM_nil noI fun w xs us r hl hv h => ?_
  unfold m147 at h
  split at h
  · rename_i g0 a0_0 g1 a0_1 g2 a0_2 a1
    obtain ⟨hg, h⟩ := bif_pair h
    simp only [Bool.and_eq_true] at hg
    obtain ⟨⟨q0, q1⟩, q2⟩ := hg
    obtain rfl := ctsEq_eq _ _ q0
    obtain rfl := ctsEq_eq _ _ q1
    obtain rfl := ctsEq_eq _ _ q2
    obtain ⟨h1, rfl⟩ := pair_inj h
    exact r147 a0_0 a0_1 a0_2 a1 h1
  · cases h

/-! ### 145 loop.example/g01984/impl.isPivot -/
noncomputable def c145 : Cfg := cfg Try.prog [(145, 999, [4])] [(147, m147)] [] [] []
def q145 (a0_0 : List AV) (a0_1 : List AV) (a0_2 : List AV) (a1 : Int) : Bool := q147 a0_0 a0_1 a0_2 a1
def v145_0 (a0_0 : List AV) (a0_1 : List AV) (a0_2 : List AV) (a1 : Int) : Bool := (v147_1 a0_0 a0_1 a0_2 a1)
theorem e145 (a0_0 : List AV) (a0_1 : List AV) (a0_2 : List AV) (a1 : Int) : funA c145 0 145 [AV.agg [AV.sl [.int .i64] a0_0, AV.sl [.int .i64] a0_1, AV.sl [.int .i64, .int .i64] a0_2], AV.int .i64 a1] = (bif q147 a0_0 a0_1 a0_2 a1 then some (AV.bool (v147_1 a0_0 a0_1 a0_2 a1))
  else none) := by kernel_rfl
theorem r145 (a0_0 : List AV) (a0_1 : List AV) (a0_2 : List AV) (a1 : Int) (h : q145 a0_0 a0_1 a0_2 a1 = true) : funA c145 0 145 [AV.agg [AV.sl [.int .i64] a0_0, AV.sl [.int .i64] a0_1, AV.sl [.int .i64, .int .i64] a0_2], AV.int .i64 a1] = some (AV.bool (v145_0 a0_0 a0_1 a0_2 a1)) := (e145 a0_0 a0_1 a0_2 a1).trans ((brL1 (fun _ => rfl)) h)
def m145 : TModel
  | [.agg [.sl g0 a0_0, .sl g1 a0_1, .sl g2 a0_2], .int .i64 a1] => bif ctsEq g0 ([.int .i64]) && ctsEq g1 ([.int .i64]) && ctsEq g2 ([.int .i64, .int .i64]) then some (q145 a0_0 a0_1 a0_2 a1, AV.bool (v145_0 a0_0 a0_1 a0_2 a1)) else none
  | _ => none
theorem k145 : Known Try.prog 145 := ⟨Try.f145, Try.func145, by kernel_rfl, by kernel_rfl⟩
theorem meets145 : Meets Try.prog 145 m145 := by
  refine meet (f := Try.f145) (l := []) (hs := [(145, 999, [4])]) (ts := [(147, m147)]) (ws := []) (is := []) (ls := []) (lvl := 0) mixed k145 Try.func145 (by kernel_rfl) noLoop (allT_cons meets147 allT_nil) allM_nil noI fun w xs us r hl hv h => ?_
  unfold m145 at h
  split at h
  · rename_i g0 a0_0 g1 a0_1 g2 a0_2 a1
    obtain ⟨hg, h⟩ := bif_pair h
    simp only [Bool.and_eq_true] at hg
    obtain ⟨⟨q0, q1⟩, q2⟩ := hg
    obtain rfl := ctsEq_eq _ _ q0
    obtain rfl := ctsEq_eq _ _ q1
    obtain rfl := ctsEq_eq _ _ q2
    obtain ⟨h1, rfl⟩ := pair_inj h
    exact r145 a0_0 a0_1 a0_2 a1 h1
  · cases h

/-! ### 146 loop.example/g01984/impl.piece -/
def F146_0 (t1 : Int) (t7 : Int) (t14 : List AV) (t15 : Int) (t6 : Int) (t16 : Int) : Out ((Int × Int)) (Int ⊕ (Int × Int × Int × Int)) := (bif decide (t16 < t15) then (bif (decide (0 ≤ t16) && decide (t16 < (t14.length : Int))) then (bif decide (fI (t14.getD t16.toNat AV.undef) 0 ≤ t1) then (bif decide (fI (t14.getD t16.toNat AV.undef) 0 ≥ t1) then .stop (.inr (fI (t14.getD t16.toNat AV.undef) 1, fI (t14.getD t16.toNat AV.undef) 1, fI (t14.getD t16.toNat AV.undef) 0, fI (t14.getD t16.toNat AV.undef) 1))
     else .next (fI (t14.getD t16.toNat AV.undef) 1, IntKind.i64.wrap (t16 + 1)))
    else (bif decide (fI (t14.getD t16.toNat AV.undef) 0 ≥ t1) then .stop (.inr (t6, fI (t14.getD t16.toNat AV.undef) 1, fI (t14.getD t16.toNat AV.undef) 0, fI (t14.getD t16.toNat AV.undef) 1))
     else .next (t6, IntKind.i64.wrap (t16 + 1))))
   else .fail)
  else .stop (.inl t6))
def R146_0 (t1 : Int) (t7 : Int) (t14 : List AV) (t15 : Int) : ((Int × Int)) → Out ((Int × Int)) (Int ⊕ (Int × Int × Int × Int)) := fun s : Int × Int => F146_0 t1 t7 t14 t15 s.1 s.2
def l146_0 : LModel := fun _ _ st k => match st with
  | ⟨[(1, .int .i64 t1), (6, .int .i64 t6), (7, .int .i64 t7), (14, .sl g0 t14), (15, .int .i64 t15), (16, .int .i64 t16)], []⟩ => bif ctsEq g0 ([.int .i64, .int .i64]) then ro (runW (R146_0 t1 t7 t14 t15) ((t15 - t16).toNat + 1) (t6, t16)) none (sumE (fun p : Int => k (.exit 0) ⟨[(6, AV.int .i64 p), (7, AV.int .i64 t7)], []⟩) (fun p : Int × Int × Int × Int => k .ret ⟨[(4, AV.int .i64 p.1), (5, AV.int .i64 p.2.1)], [([1, 9], ⟨true, [], [AV.agg [AV.int .i64 p.2.2.1, AV.int .i64 p.2.2.2]]⟩)]⟩)) else none
  | _ => none
noncomputable def c146 : Cfg := cfg Try.prog [(146, 0, [1, 6, 7, 14, 15, 16]), (146, 999, [4, 5]), (146, 1000, [6, 7]), (146, 1001, [1, 6, 7, 14, 15, 16])] [] [] [] [(146, 0, l146_0)]
theorem s146_0 (ce : CallE) (t1 : Int) (t6 : Int) (t7 : Int) (t14 : List AV) (t15 : Int) (t16 : Int) (next : St → Option AV) (k : Kont) : stepA (codeA c146 ce [] 146 0 (sub [1, 1, 0, 1, 0, 0] (body Try.f146))) (normA [] [1, 6, 7, 14, 15, 16]) next ⟨[(1, AV.int .i64 t1), (6, AV.int .i64 t6), (7, AV.int .i64 t7), (14, AV.sl [.int .i64, .int .i64] t14), (15, AV.int .i64 t15), (16, AV.int .i64 t16)], []⟩ k = (bif decide (t16 < t15) then (bif (decide (0 ≤ t16) && decide (t16 < (t14.length : Int))) then (bif decide (fI (t14.getD t16.toNat AV.undef) 0 ≤ t1) then (bif decide (fI (t14.getD t16.toNat AV.undef) 0 ≥ t1) then k .ret ⟨[(4, AV.int .i64 (fI (t14.getD t16.toNat AV.undef) 1)), (5, AV.int .i64 (fI (t14.getD t16.toNat AV.undef) 1))], [([1, 9], ⟨true, [], [AV.agg [AV.int .i64 (fI (t14.getD t16.toNat AV.undef) 0), AV.int .i64 (fI (t14.getD t16.toNat AV.undef) 1)]]⟩)]⟩
     else next ⟨[(1, AV.int .i64 t1), (6, AV.int .i64 (fI (t14.getD t16.toNat AV.undef) 1)), (7, AV.int .i64 t7), (14, AV.sl [.int .i64, .int .i64] t14), (15, AV.int .i64 t15), (16, AV.int .i64 (IntKind.i64.wrap (t16 + 1)))], []⟩)
    else (bif decide (fI (t14.getD t16.toNat AV.undef) 0 ≥ t1) then k .ret ⟨[(4, AV.int .i64 t6), (5, AV.int .i64 (fI (t14.getD t16.toNat AV.undef) 1))], [([1, 9], ⟨true, [], [AV.agg [AV.int .i64 (fI (t14.getD t16.toNat AV.undef) 0), AV.int .i64 (fI (t14.getD t16.toNat AV.undef) 1)]]⟩)]⟩
     else next ⟨[(1, AV.int .i64 t1), (6, AV.int .i64 t6), (7, AV.int .i64 t7), (14, AV.sl [.int .i64, .int .i64] t14), (15, AV.int .i64 t15), (16, AV.int .i64 (IntKind.i64.wrap (t16 + 1)))], []⟩))
   else none)
  else k (.exit 0) ⟨[(6, AV.int .i64 t6), (7, AV.int .i64 t7)], []⟩) := by kernel_rfl
theorem st146_0 (t1 : Int) (t7 : Int) (t14 : List AV) (t15 : Int) (ce : CallE) (k : Kont) (s : (Int × Int)) (next : St → Option AV) : stepA (codeA c146 ce [] 146 0 (sub [1, 1, 0, 1, 0, 0] (body Try.f146))) (normA [] [1, 6, 7, 14, 15, 16]) next ((fun s : Int × Int => ⟨[(1, AV.int .i64 t1), (6, AV.int .i64 s.1), (7, AV.int .i64 t7), (14, AV.sl [.int .i64, .int .i64] t14), (15, AV.int .i64 t15), (16, AV.int .i64 s.2)], []⟩) s) k = (R146_0 t1 t7 t14 t15 s).el none (fun s => next ((fun s : Int × Int => ⟨[(1, AV.int .i64 t1), (6, AV.int .i64 s.1), (7, AV.int .i64 t7), (14, AV.sl [.int .i64, .int .i64] t14), (15, AV.int .i64 t15), (16, AV.int .i64 s.2)], []⟩) s)) (sumE (fun p : Int => k (.exit 0) ⟨[(6, AV.int .i64 p), (7, AV.int .i64 t7)], []⟩) (fun p : Int × Int × Int × Int => k .ret ⟨[(4, AV.int .i64 p.1), (5, AV.int .i64 p.2.1)], [([1, 9], ⟨true, [], [AV.agg [AV.int .i64 p.2.2.1, AV.int .i64 p.2.2.2]]⟩)]⟩)) := (s146_0 ce t1 s.1 t7 t14 t15 s.2 next k).trans (by unfold R146_0; unfold F146_0; simp only [el_cond, el_ro, el_sum, el_fail, el_next, el_stop] <;> rfl)
theorem ok146_0 {ce : CallE} : LoopOK c146 ce [] 146 0 (sub [1, 1, 0, 1, 0, 0] (body Try.f146)) := by
  intro m hm st k r h
  obtain rfl : l146_0 = m := Option.some.inj hm
  unfold l146_0 at h
  split at h
  · rename_i t1 t6 t7 g0 t14 t15 t16
    obtain ⟨hg, h⟩ := bif_some h
    have q0 := hg
    obtain rfl := ctsEq_eq _ _ q0
    refine ⟨((t15 - t16).toNat + 1), ?_⟩
    rw [← h]
    exact loop_run (fun s : Int × Int => ⟨[(1, AV.int .i64 t1), (6, AV.int .i64 s.1), (7, AV.int .i64 t7), (14, AV.sl [.int .i64, .int .i64] t14), (15, AV.int .i64 t15), (16, AV.int .i64 s.2)], []⟩) (sumE (fun p : Int => k (.exit 0) ⟨[(6, AV.int .i64 p), (7, AV.int .i64 t7)], []⟩) (fun p : Int × Int × Int × Int => k .ret ⟨[(4, AV.int .i64 p.1), (5, AV.int .i64 p.2.1)], [([1, 9], ⟨true, [], [AV.agg [AV.int .i64 p.2.2.1, AV.int .i64 p.2.2.2]]⟩)]⟩)) (st146_0 t1 t7 t14 t15 ce k) _ (t6, t16)
  · cases h
def q146 (a0_0 : List AV) (a0_1 : List AV) (a0_2 : List AV) (a1 : Int) : Bool := (ro (runW (R146_0 a1 (a0_0.length : Int) a0_2 (a0_2.length : Int)) (((a0_2.length : Int) - 0).toNat + 1) (0, 0)) false (sumE (fun p37 => true) (fun p38 => true)))
def v146_0 (a0_0 : List AV) (a0_1 : List AV) (a0_2 : List AV) (a1 : Int) : Int := (ro (runW (R146_0 a1 (a0_0.length : Int) a0_2 (a0_2.length : Int)) (((a0_2.length : Int) - 0).toNat + 1) (0, 0)) 0 (sumE (fun p37 => p37) (fun p38 => p38.1)))
def v146_1 (a0_0 : List AV) (a0_1 : List AV) (a0_2 : List AV) (a1 : Int) : Int := (ro (runW (R146_0 a1 (a0_0.length : Int) a0_2 (a0_2.length : Int)) (((a0_2.length : Int) - 0).toNat + 1) (0, 0)) 0 (sumE (fun p37 => (a0_0.length : Int)) (fun p38 => p38.2.1)))
theorem e146 (a0_0 : List AV) (a0_1 : List AV) (a0_2 : List AV) (a1 : Int) : funA c146 0 146 [AV.agg [AV.sl [.int .i64] a0_0, AV.sl [.int .i64] a0_1, AV.sl [.int .i64, .int .i64] a0_2], AV.int .i64 a1] = (ro (runW (R146_0 a1 (a0_0.length : Int) a0_2 (a0_2.length : Int)) (((a0_2.length : Int) - 0).toNat + 1) (0, 0)) none (sumE (fun p37 => some (AV.tup [AV.int .i64 p37, AV.int .i64 (a0_0.length : Int)])) (fun p38 => some (AV.tup [AV.int .i64 p38.1, AV.int .i64 p38.2.1])))) := by kernel_rfl
theorem r146 (a0_0 : List AV) (a0_1 : List AV) (a0_2 : List AV) (a1 : Int) (h : q146 a0_0 a0_1 a0_2 a1 = true) : funA c146 0 146 [AV.agg [AV.sl [.int .i64] a0_0, AV.sl [.int .i64] a0_1, AV.sl [.int .i64, .int .i64] a0_2], AV.int .i64 a1] = some (AV.tup [AV.int .i64 (v146_0 a0_0 a0_1 a0_2 a1), AV.int .i64 (v146_1 a0_0 a0_1 a0_2 a1)]) := (e146 a0_0 a0_1 a0_2 a1).trans ((brO (fun o : Option (Int ⊕ (Int × Int × Int × Int)) => some (AV.tup [AV.int .i64 (ro o 0 (sumE (fun p37 => p37) (fun p38 => p38.1))), AV.int .i64 (ro o 0 (sumE (fun p37 => (a0_0.length : Int)) (fun p38 => p38.2.1)))])) (brS (fun o : Int ⊕ (Int × Int × Int × Int) => some (AV.tup [AV.int .i64 ((sumE (fun p37 => p37) (fun p38 => p38.1)) o), AV.int .i64 ((sumE (fun p37 => (a0_0.length : Int)) (fun p38 => p38.2.1)) o)])) (fun p37 => (fun _ => rfl)) (fun p38 => (fun _ => rfl)))) h)
def m146 : TModel
  | [.agg [.sl g0 a0_0, .sl g1 a0_1, .sl g2 a0_2], .int .i64 a1] => bif ctsEq g0 ([.int .i64]) && ctsEq g1 ([.int .i64]) && ctsEq g2 ([.int .i64, .int .i64]) then some (q146 a0_0 a0_1 a0_2 a1, AV.tup [AV.int .i64 (v146_0 a0_0 a0_1 a0_2 a1), AV.int .i64 (v146_1 a0_0 a0_1 a0_2 a1)]) else none
  | _ => none
theorem k146 : Known Try.prog 146 := ⟨Try.f146, Try.func146, by kernel_rfl, by kernel_rfl⟩
theorem meets146 : Meets Try.prog 146 m146 := by
  refine meet (f := Try.f146) (l := [(0, sub [1, 1, 0, 1, 0, 0] (body Try.f146))]) (hs := [(146, 0, [1, 6, 7, 14, 15, 16]), (146, 999, [4, 5]), (146, 1000, [6, 7]), (146, 1001, [1, 6, 7, 14, 15, 16])]) (ts := []) (ws := []) (is := []) (ls := [(146, 0, l146_0)]) (lvl := 0) mixed k146 Try.func146 (by kernel_rfl) (loops_cons ok146_0 noLoop) allT_nil allM_nil noI fun w xs us r hl hv h => ?_
  unfold m146 at h
  split at h
  · rename_i g0 a0_0 g1 a0_1 g2 a0_2 a1
    obtain ⟨hg, h⟩ := bif_pair h
    simp only [Bool.and_eq_true] at hg
    obtain ⟨⟨q0, q1⟩, q2⟩ := hg
    obtain rfl := ctsEq_eq _ _ q0
    obtain rfl := ctsEq_eq _ _ q1
    obtain rfl := ctsEq_eq _ _ q2
    obtain ⟨h1, rfl⟩ := pair_inj h
    exact r146 a0_0 a0_1 a0_2 a1 h1
  · cases h

/-! ### 164 slices.Clone[[]loop.example/g01984/impl.Pivot,loop.example/g01984/impl.Pivot] -/
noncomputable def c164 : Cfg := cfg Try.prog [(164, 999, [2])] [] [] [] []
def q164 (a0 : List AV) : Bool := decide (a0.length * 16 ≤ 140737488355328) && decide (a0.length ≤ 140737488355328)
def v164_0 (a0 : List AV) : List AV := a0
theorem e164 (a0 : List AV) : funA c164 0 164 [AV.sl [.int .i64, .int .i64] a0] = (bif decide (0 < a0.length) then (bif (decide ((([] : List AV).length + a0.length) * 16 ≤ 140737488355328) && decide ((([] : List AV).length + a0.length) ≤ 140737488355328)) then some (AV.fl [.int .i64, .int .i64] (([] : List AV) ++ a0))
   else none)
  else none) := by kernel_rfl
theorem e164n (b : Bool) : funA c164 0 164 [AV.sle b [.int .i64, .int .i64]] = some (AV.fl [.int .i64, .int .i64] []) := by cases b <;> kernel_rfl
def m164 : TModel
  | [.sl g0 a0] => bif ctsEq g0 [.int .i64, .int .i64] then some (q164 a0, AV.fl [.int .i64, .int .i64] (v164_0 a0)) else none
  | _ => none
theorem k164 : Known Try.prog 164 := ⟨Try.f164, Try.func164, by kernel_rfl, by kernel_rfl⟩
theorem meets164 : Meets Try.prog 164 m164 := by
  refine meet_nil (f := Try.f164) (l := []) (hs := [(164, 999, [2])]) (ts := []) (ws := []) (is := []) (ls := []) (lvl := 0) (tys := [.int .i64, .int .i64]) mixed k164 Try.func164 (by kernel_rfl) noLoop allT_nil allM_nil noI (fun xs r h => ?_) (fun b r h => ?_) (fun ys r h0 h => ?_)
  · unfold m164 at h
    split at h
    · rename_i g0 a0
      obtain ⟨hg, h⟩ := bif_pair h
      obtain rfl := ctsEq_eq _ _ hg
      exact ⟨a0, rfl⟩
    · cases h
  · obtain ⟨hg, h⟩ := bif_pair (g := ctsEq [.int .i64, .int .i64] [.int .i64, .int .i64]) h
    obtain ⟨_, rfl⟩ := pair_inj h
    exact e164n b
  · obtain ⟨hg, h⟩ := bif_pair (g := ctsEq [.int .i64, .int .i64] [.int .i64, .int .i64]) h
    obtain ⟨hq, rfl⟩ := pair_inj h
    refine (e164 ys).trans ?_
    unfold q164 at hq
    have e : ([] : List AV).length + ys.length = ys.length := by simp
    rw [e, hq, decide_eq_true h0]
    rfl

/-! ### 129 loop.example/g01984/impl.copyCracker -/
noncomputable def c129 : Cfg := cfg Try.prog [(129, 999, [2])] [(139, m139), (164, m164)] [] [] []
def q129 (a0_0 : List AV) (a0_1 : List AV) (a0_2 : List AV) : Bool := (q139 a0_0 && (q139 a0_1 && q164 a0_2))
def v129_0 (a0_0 : List AV) (a0_1 : List AV) (a0_2 : List AV) : List AV := (v139_0 a0_0)
def v129_1 (a0_0 : List AV) (a0_1 : List AV) (a0_2 : List AV) : List AV := (v139_0 a0_1)
def v129_2 (a0_0 : List AV) (a0_1 : List AV) (a0_2 : List AV) : List AV := (v164_0 a0_2)
theorem e129 (a0_0 : List AV) (a0_1 : List AV) (a0_2 : List AV) : funA c129 0 129 [AV.agg [AV.sl [.int .i64] a0_0, AV.sl [.int .i64] a0_1, AV.sl [.int .i64, .int .i64] a0_2]] = (bif q139 a0_0 then (bif q139 a0_1 then (bif q164 a0_2 then some (AV.agg [AV.fl [.int .i64] (v139_0 a0_0), AV.fl [.int .i64] (v139_0 a0_1), AV.fl [.int .i64, .int .i64] (v164_0 a0_2)])
    else none)
   else none)
  else none) := by kernel_rfl
theorem r129 (a0_0 : List AV) (a0_1 : List AV) (a0_2 : List AV) (h : q129 a0_0 a0_1 a0_2 = true) : funA c129 0 129 [AV.agg [AV.sl [.int .i64] a0_0, AV.sl [.int .i64] a0_1, AV.sl [.int .i64, .int .i64] a0_2]] = some (AV.agg [AV.fl [.int .i64] (v129_0 a0_0 a0_1 a0_2), AV.fl [.int .i64] (v129_1 a0_0 a0_1 a0_2), AV.fl [.int .i64, .int .i64] (v129_2 a0_0 a0_1 a0_2)]) := (e129 a0_0 a0_1 a0_2).trans ((brL (brL (brL1 (fun _ => rfl)))) h)
def m129 : TModel
  | [.agg [.sl g0 a0_0, .sl g1 a0_1, .sl g2 a0_2]] => bif ctsEq g0 ([.int .i64]) && ctsEq g1 ([.int .i64]) && ctsEq g2 ([.int .i64, .int .i64]) then some (q129 a0_0 a0_1 a0_2, AV.agg [AV.fl [.int .i64] (v129_0 a0_0 a0_1 a0_2), AV.fl [.int .i64] (v129_1 a0_0 a0_1 a0_2), AV.fl [.int .i64, .int .i64] (v129_2 a0_0 a0_1 a0_2)]) else none
  | _ => none
theorem k129 : Known Try.prog 129 := ⟨Try.f129, Try.func129, by kernel_rfl, by kernel_rfl⟩
theorem meets129 : Meets Try.prog 129 m129 := by
  refine meet (f := Try.f129) (l := []) (hs := [(129, 999, [2])]) (ts := [(139, m139), (164, m164)]) (ws := []) (is := []) (ls := []) (lvl := 0) mixed k129 Try.func129 (by kernel_rfl) noLoop (allT_cons meets139 (allT_cons meets164 allT_nil)) allM_nil noI fun w xs us r hl hv h => ?_
  unfold m129 at h
  split at h
  · rename_i g0 a0_0 g1 a0_1 g2 a0_2
    obtain ⟨hg, h⟩ := bif_pair h
    simp only [Bool.and_eq_true] at hg
    obtain ⟨⟨q0, q1⟩, q2⟩ := hg
    obtain rfl := ctsEq_eq _ _ q0
    obtain rfl := ctsEq_eq _ _ q1
    obtain rfl := ctsEq_eq _ _ q2
    obtain ⟨h1, rfl⟩ := pair_inj h
    exact r129 a0_0 a0_1 a0_2 h1
  · cases h

/-! ### 149 loop.example/g01984/impl.ApplySwaps -/
def F149_0 (t7 : Int) (t21 : List AV) (t22 : Int) (h2_0 : List AV) (h2_1 : List AV) (h2_2 : List AV) (h3 : List AV) (t23 : Int) (h0 : List AV) (h1 : List AV) : Out ((Int × (List AV) × (List AV))) (((List AV) × (List AV)) ⊕ ((List AV) × (List AV) × (List AV) × (List AV) × Int × Int × (List AV))) := (bif decide (t23 < t22) then (bif (decide (0 ≤ t23) && decide (t23 < (t21.length : Int))) then (bif decide (fI (t21.getD t23.toNat AV.undef) 0 < 0) then (bif q129 h2_0 h2_1 h2_2 then .stop (.inr (h0, h1, (v129_0 h2_0 h2_1 h2_2), (v129_1 h2_0 h2_1 h2_2), fI (t21.getD t23.toNat AV.undef) 0, fI (t21.getD t23.toNat AV.undef) 1, (v129_2 h2_0 h2_1 h2_2)))
     else .fail)
    else (bif decide (fI (t21.getD t23.toNat AV.undef) 0 ≥ t7) then (bif q129 h2_0 h2_1 h2_2 then .stop (.inr (h0, h1, (v129_0 h2_0 h2_1 h2_2), (v129_1 h2_0 h2_1 h2_2), fI (t21.getD t23.toNat AV.undef) 0, fI (t21.getD t23.toNat AV.undef) 1, (v129_2 h2_0 h2_1 h2_2)))
      else .fail)
     else (bif decide (fI (t21.getD t23.toNat AV.undef) 1 < 0) then (bif q129 h2_0 h2_1 h2_2 then .stop (.inr (h0, h1, (v129_0 h2_0 h2_1 h2_2), (v129_1 h2_0 h2_1 h2_2), fI (t21.getD t23.toNat AV.undef) 0, fI (t21.getD t23.toNat AV.undef) 1, (v129_2 h2_0 h2_1 h2_2)))
       else .fail)
      else (bif decide (fI (t21.getD t23.toNat AV.undef) 1 ≥ t7) then (bif q129 h2_0 h2_1 h2_2 then .stop (.inr (h0, h1, (v129_0 h2_0 h2_1 h2_2), (v129_1 h2_0 h2_1 h2_2), fI (t21.getD t23.toNat AV.undef) 0, fI (t21.getD t23.toNat AV.undef) 1, (v129_2 h2_0 h2_1 h2_2)))
        else .fail)
       else (bif (decide (0 ≤ fI (t21.getD t23.toNat AV.undef) 1) && decide (fI (t21.getD t23.toNat AV.undef) 1 < (h0.length : Int))) then (bif (decide (0 ≤ fI (t21.getD t23.toNat AV.undef) 0) && decide (fI (t21.getD t23.toNat AV.undef) 0 < (h0.length : Int))) then (bif (decide (0 ≤ fI (t21.getD t23.toNat AV.undef) 0) && decide (fI (t21.getD t23.toNat AV.undef) 0 < (h0.length : Int))) then (bif (decide (0 ≤ fI (t21.getD t23.toNat AV.undef) 1) && decide (fI (t21.getD t23.toNat AV.undef) 1 < ((h0.set (fI (t21.getD t23.toNat AV.undef) 0).toNat (AV.agg [AV.int .i64 (fI (h0.getD (fI (t21.getD t23.toNat AV.undef) 1).toNat AV.undef) 0)])).length : Int))) then (bif (decide (0 ≤ fI (t21.getD t23.toNat AV.undef) 1) && decide (fI (t21.getD t23.toNat AV.undef) 1 < (h1.length : Int))) then (bif (decide (0 ≤ fI (t21.getD t23.toNat AV.undef) 0) && decide (fI (t21.getD t23.toNat AV.undef) 0 < (h1.length : Int))) then (bif (decide (0 ≤ fI (t21.getD t23.toNat AV.undef) 0) && decide (fI (t21.getD t23.toNat AV.undef) 0 < (h1.length : Int))) then (bif (decide (0 ≤ fI (t21.getD t23.toNat AV.undef) 1) && decide (fI (t21.getD t23.toNat AV.undef) 1 < ((h1.set (fI (t21.getD t23.toNat AV.undef) 0).toNat (AV.agg [AV.int .i64 (fI (h1.getD (fI (t21.getD t23.toNat AV.undef) 1).toNat AV.undef) 0)])).length : Int))) then .next (IntKind.i64.wrap (t23 + 1), (h0.set (fI (t21.getD t23.toNat AV.undef) 0).toNat (AV.agg [AV.int .i64 (fI (h0.getD (fI (t21.getD t23.toNat AV.undef) 1).toNat AV.undef) 0)])).set (fI (t21.getD t23.toNat AV.undef) 1).toNat (AV.agg [AV.int .i64 (fI (h0.getD (fI (t21.getD t23.toNat AV.undef) 0).toNat AV.undef) 0)]), (h1.set (fI (t21.getD t23.toNat AV.undef) 0).toNat (AV.agg [AV.int .i64 (fI (h1.getD (fI (t21.getD t23.toNat AV.undef) 1).toNat AV.undef) 0)])).set (fI (t21.getD t23.toNat AV.undef) 1).toNat (AV.agg [AV.int .i64 (fI (h1.getD (fI (t21.getD t23.toNat AV.undef) 0).toNat AV.undef) 0)]))
               else .fail)
              else .fail)
             else .fail)
            else .fail)
           else .fail)
          else .fail)
         else .fail)
        else .fail)))))
   else .fail)
  else .stop (.inl (h0, h1)))
def R149_0 (t7 : Int) (t21 : List AV) (t22 : Int) (h2_0 : List AV) (h2_1 : List AV) (h2_2 : List AV) (h3 : List AV) : ((Int × (List AV) × (List AV))) → Out ((Int × (List AV) × (List AV))) (((List AV) × (List AV)) ⊕ ((List AV) × (List AV) × (List AV) × (List AV) × Int × Int × (List AV))) := fun s : Int × (List AV) × (List AV) => F149_0 t7 t21 t22 h2_0 h2_1 h2_2 h3 s.1 s.2.1 s.2.2
def l149_0 : LModel := fun _ _ st k => match st with
  | ⟨[(2, .ptr g0 g1 g2), (4, .ptr g3 g4 g5), (6, .ptr g6 g7 g8), (7, .int .i64 t7), (21, .sl g9 t21), (22, .int .i64 t22), (23, .int .i64 t23)], [(g10, ⟨false, g11, h0⟩), (g12, ⟨false, g13, h1⟩), (g14, ⟨true, [], [.agg [.sl g15 h2_0, .sl g16 h2_1, .sl g17 h2_2]]⟩), (g18, ⟨false, g19, h3⟩), (g20, ⟨true, [], [.agg [.snil, .snil, .snil]]⟩), (g21, ⟨true, [], [.agg [.own g22, .own g23, .own g24]]⟩)]⟩ => bif nmEq g0 ([0, 2]) && Nat.beq g1 0 && Nat.beq g2 0 && nmEq g3 ([0, 4]) && Nat.beq g4 0 && Nat.beq g5 0 && nmEq g6 ([0, 6]) && Nat.beq g7 0 && Nat.beq g8 0 && ctsEq g9 ([.int .i64, .int .i64]) && nmEq g10 ([0, 0, 6]) && ctsEq g11 ([.int .i64]) && nmEq g12 ([0, 1, 6]) && ctsEq g13 ([.int .i64]) && nmEq g14 ([0, 2]) && ctsEq g15 ([.int .i64]) && ctsEq g16 ([.int .i64]) && ctsEq g17 ([.int .i64, .int .i64]) && nmEq g18 ([0, 2, 6]) && ctsEq g19 ([.int .i64, .int .i64]) && nmEq g20 ([0, 4]) && nmEq g21 ([0, 6]) && nmEq g22 ([0, 0, 6]) && nmEq g23 ([0, 1, 6]) && nmEq g24 ([0, 2, 6]) then ro (runW (R149_0 t7 t21 t22 h2_0 h2_1 h2_2 h3) ((t22 - t23).toNat + 1) (t23, h0, h1)) none (sumE (fun p : (List AV) × (List AV) => k (.exit 0) ⟨[(4, AV.ptr [0, 4] 0 0), (6, AV.ptr [0, 6] 0 0)], [([0, 0, 6], ⟨false, [.int .i64], p.1⟩), ([0, 1, 6], ⟨false, [.int .i64], p.2⟩), ([0, 2], ⟨true, [], [AV.agg [AV.sl [.int .i64] h2_0, AV.sl [.int .i64] h2_1, AV.sl [.int .i64, .int .i64] h2_2]]⟩), ([0, 2, 6], ⟨false, [.int .i64, .int .i64], h3⟩), ([0, 4], ⟨true, [], [AV.agg [AV.snil, AV.snil, AV.snil]]⟩), ([0, 6], ⟨true, [], [AV.agg [AV.own [0, 0, 6], AV.own [0, 1, 6], AV.own [0, 2, 6]]]⟩)]⟩) (fun p : (List AV) × (List AV) × (List AV) × (List AV) × Int × Int × (List AV) => k .ret ⟨[(4, AV.ptr [0, 4] 0 0), (5, AV.bool false)], [([0, 0, 6], ⟨false, [.int .i64], p.1⟩), ([0, 1, 6], ⟨false, [.int .i64], p.2.1⟩), ([0, 1, 48], ⟨false, [.int .i64], p.2.2.1⟩), ([0, 2], ⟨true, [], [AV.agg [AV.sl [.int .i64] h2_0, AV.sl [.int .i64] h2_1, AV.sl [.int .i64, .int .i64] h2_2]]⟩), ([0, 2, 6], ⟨false, [.int .i64, .int .i64], h3⟩), ([0, 4], ⟨true, [], [AV.agg [AV.own [0, 1, 48], AV.own [1, 1, 48], AV.own [2, 1, 48]]]⟩), ([0, 6], ⟨true, [], [AV.agg [AV.own [0, 0, 6], AV.own [0, 1, 6], AV.own [0, 2, 6]]]⟩), ([1, 1, 48], ⟨false, [.int .i64], p.2.2.2.1⟩), ([1, 9], ⟨true, [], [AV.agg [AV.int .i64 p.2.2.2.2.1, AV.int .i64 p.2.2.2.2.2.1]]⟩), ([2, 1, 48], ⟨false, [.int .i64, .int .i64], p.2.2.2.2.2.2⟩)]⟩)) else none
  | _ => none
noncomputable def c149 : Cfg := cfg Try.prog [(149, 0, [2, 4, 6, 7, 21, 22, 23]), (149, 999, [4, 5]), (149, 1000, [4, 6]), (149, 1001, [2, 4, 6, 7, 21, 22, 23])] [(129, m129)] [] [] [(149, 0, l149_0)]
theorem s149_0 (ce : CallE) (t7 : Int) (t21 : List AV) (t22 : Int) (t23 : Int) (h0 : List AV) (h1 : List AV) (h2_0 : List AV) (h2_1 : List AV) (h2_2 : List AV) (h3 : List AV) (next : St → Option AV) (k : Kont) : stepA (codeA c149 ce [] 149 0 (sub [1, 1, 1, 0, 1, 0, 0] (body Try.f149))) (normA [] [2, 4, 6, 7, 21, 22, 23]) next ⟨[(2, AV.ptr [0, 2] 0 0), (4, AV.ptr [0, 4] 0 0), (6, AV.ptr [0, 6] 0 0), (7, AV.int .i64 t7), (21, AV.sl [.int .i64, .int .i64] t21), (22, AV.int .i64 t22), (23, AV.int .i64 t23)], [([0, 0, 6], ⟨false, [.int .i64], h0⟩), ([0, 1, 6], ⟨false, [.int .i64], h1⟩), ([0, 2], ⟨true, [], [AV.agg [AV.sl [.int .i64] h2_0, AV.sl [.int .i64] h2_1, AV.sl [.int .i64, .int .i64] h2_2]]⟩), ([0, 2, 6], ⟨false, [.int .i64, .int .i64], h3⟩), ([0, 4], ⟨true, [], [AV.agg [AV.snil, AV.snil, AV.snil]]⟩), ([0, 6], ⟨true, [], [AV.agg [AV.own [0, 0, 6], AV.own [0, 1, 6], AV.own [0, 2, 6]]]⟩)]⟩ k = (bif decide (t23 < t22) then (bif (decide (0 ≤ t23) && decide (t23 < (t21.length : Int))) then (bif decide (fI (t21.getD t23.toNat AV.undef) 0 < 0) then (bif q129 h2_0 h2_1 h2_2 then k .ret ⟨[(4, AV.ptr [0, 4] 0 0), (5, AV.bool false)], [([0, 0, 6], ⟨false, [.int .i64], h0⟩), ([0, 1, 6], ⟨false, [.int .i64], h1⟩), ([0, 1, 48], ⟨false, [.int .i64], (v129_0 h2_0 h2_1 h2_2)⟩), ([0, 2], ⟨true, [], [AV.agg [AV.sl [.int .i64] h2_0, AV.sl [.int .i64] h2_1, AV.sl [.int .i64, .int .i64] h2_2]]⟩), ([0, 2, 6], ⟨false, [.int .i64, .int .i64], h3⟩), ([0, 4], ⟨true, [], [AV.agg [AV.own [0, 1, 48], AV.own [1, 1, 48], AV.own [2, 1, 48]]]⟩), ([0, 6], ⟨true, [], [AV.agg [AV.own [0, 0, 6], AV.own [0, 1, 6], AV.own [0, 2, 6]]]⟩), ([1, 1, 48], ⟨false, [.int .i64], (v129_1 h2_0 h2_1 h2_2)⟩), ([1, 9], ⟨true, [], [AV.agg [AV.int .i64 (fI (t21.getD t23.toNat AV.undef) 0), AV.int .i64 (fI (t21.getD t23.toNat AV.undef) 1)]]⟩), ([2, 1, 48], ⟨false, [.int .i64, .int .i64], (v129_2 h2_0 h2_1 h2_2)⟩)]⟩
     else none)
    else (bif decide (fI (t21.getD t23.toNat AV.undef) 0 ≥ t7) then (bif q129 h2_0 h2_1 h2_2 then k .ret ⟨[(4, AV.ptr [0, 4] 0 0), (5, AV.bool false)], [([0, 0, 6], ⟨false, [.int .i64], h0⟩), ([0, 1, 6], ⟨false, [.int .i64], h1⟩), ([0, 1, 48], ⟨false, [.int .i64], (v129_0 h2_0 h2_1 h2_2)⟩), ([0, 2], ⟨true, [], [AV.agg [AV.sl [.int .i64] h2_0, AV.sl [.int .i64] h2_1, AV.sl [.int .i64, .int .i64] h2_2]]⟩), ([0, 2, 6], ⟨false, [.int .i64, .int .i64], h3⟩), ([0, 4], ⟨true, [], [AV.agg [AV.own [0, 1, 48], AV.own [1, 1, 48], AV.own [2, 1, 48]]]⟩), ([0, 6], ⟨true, [], [AV.agg [AV.own [0, 0, 6], AV.own [0, 1, 6], AV.own [0, 2, 6]]]⟩), ([1, 1, 48], ⟨false, [.int .i64], (v129_1 h2_0 h2_1 h2_2)⟩), ([1, 9], ⟨true, [], [AV.agg [AV.int .i64 (fI (t21.getD t23.toNat AV.undef) 0), AV.int .i64 (fI (t21.getD t23.toNat AV.undef) 1)]]⟩), ([2, 1, 48], ⟨false, [.int .i64, .int .i64], (v129_2 h2_0 h2_1 h2_2)⟩)]⟩
      else none)
     else (bif decide (fI (t21.getD t23.toNat AV.undef) 1 < 0) then (bif q129 h2_0 h2_1 h2_2 then k .ret ⟨[(4, AV.ptr [0, 4] 0 0), (5, AV.bool false)], [([0, 0, 6], ⟨false, [.int .i64], h0⟩), ([0, 1, 6], ⟨false, [.int .i64], h1⟩), ([0, 1, 48], ⟨false, [.int .i64], (v129_0 h2_0 h2_1 h2_2)⟩), ([0, 2], ⟨true, [], [AV.agg [AV.sl [.int .i64] h2_0, AV.sl [.int .i64] h2_1, AV.sl [.int .i64, .int .i64] h2_2]]⟩), ([0, 2, 6], ⟨false, [.int .i64, .int .i64], h3⟩), ([0, 4], ⟨true, [], [AV.agg [AV.own [0, 1, 48], AV.own [1, 1, 48], AV.own [2, 1, 48]]]⟩), ([0, 6], ⟨true, [], [AV.agg [AV.own [0, 0, 6], AV.own [0, 1, 6], AV.own [0, 2, 6]]]⟩), ([1, 1, 48], ⟨false, [.int .i64], (v129_1 h2_0 h2_1 h2_2)⟩), ([1, 9], ⟨true, [], [AV.agg [AV.int .i64 (fI (t21.getD t23.toNat AV.undef) 0), AV.int .i64 (fI (t21.getD t23.toNat AV.undef) 1)]]⟩), ([2, 1, 48], ⟨false, [.int .i64, .int .i64], (v129_2 h2_0 h2_1 h2_2)⟩)]⟩
       else none)
      else (bif decide (fI (t21.getD t23.toNat AV.undef) 1 ≥ t7) then (bif q129 h2_0 h2_1 h2_2 then k .ret ⟨[(4, AV.ptr [0, 4] 0 0), (5, AV.bool false)], [([0, 0, 6], ⟨false, [.int .i64], h0⟩), ([0, 1, 6], ⟨false, [.int .i64], h1⟩), ([0, 1, 48], ⟨false, [.int .i64], (v129_0 h2_0 h2_1 h2_2)⟩), ([0, 2], ⟨true, [], [AV.agg [AV.sl [.int .i64] h2_0, AV.sl [.int .i64] h2_1, AV.sl [.int .i64, .int .i64] h2_2]]⟩), ([0, 2, 6], ⟨false, [.int .i64, .int .i64], h3⟩), ([0, 4], ⟨true, [], [AV.agg [AV.own [0, 1, 48], AV.own [1, 1, 48], AV.own [2, 1, 48]]]⟩), ([0, 6], ⟨true, [], [AV.agg [AV.own [0, 0, 6], AV.own [0, 1, 6], AV.own [0, 2, 6]]]⟩), ([1, 1, 48], ⟨false, [.int .i64], (v129_1 h2_0 h2_1 h2_2)⟩), ([1, 9], ⟨true, [], [AV.agg [AV.int .i64 (fI (t21.getD t23.toNat AV.undef) 0), AV.int .i64 (fI (t21.getD t23.toNat AV.undef) 1)]]⟩), ([2, 1, 48], ⟨false, [.int .i64, .int .i64], (v129_2 h2_0 h2_1 h2_2)⟩)]⟩
        else none)
       else (bif (decide (0 ≤ fI (t21.getD t23.toNat AV.undef) 1) && decide (fI (t21.getD t23.toNat AV.undef) 1 < (h0.length : Int))) then (bif (decide (0 ≤ fI (t21.getD t23.toNat AV.undef) 0) && decide (fI (t21.getD t23.toNat AV.undef) 0 < (h0.length : Int))) then (bif (decide (0 ≤ fI (t21.getD t23.toNat AV.undef) 0) && decide (fI (t21.getD t23.toNat AV.undef) 0 < (h0.length : Int))) then (bif (decide (0 ≤ fI (t21.getD t23.toNat AV.undef) 1) && decide (fI (t21.getD t23.toNat AV.undef) 1 < ((h0.set (fI (t21.getD t23.toNat AV.undef) 0).toNat (AV.agg [AV.int .i64 (fI (h0.getD (fI (t21.getD t23.toNat AV.undef) 1).toNat AV.undef) 0)])).length : Int))) then (bif (decide (0 ≤ fI (t21.getD t23.toNat AV.undef) 1) && decide (fI (t21.getD t23.toNat AV.undef) 1 < (h1.length : Int))) then (bif (decide (0 ≤ fI (t21.getD t23.toNat AV.undef) 0) && decide (fI (t21.getD t23.toNat AV.undef) 0 < (h1.length : Int))) then (bif (decide (0 ≤ fI (t21.getD t23.toNat AV.undef) 0) && decide (fI (t21.getD t23.toNat AV.undef) 0 < (h1.length : Int))) then (bif (decide (0 ≤ fI (t21.getD t23.toNat AV.undef) 1) && decide (fI (t21.getD t23.toNat AV.undef) 1 < ((h1.set (fI (t21.getD t23.toNat AV.undef) 0).toNat (AV.agg [AV.int .i64 (fI (h1.getD (fI (t21.getD t23.toNat AV.undef) 1).toNat AV.undef) 0)])).length : Int))) then next ⟨[(2, AV.ptr [0, 2] 0 0), (4, AV.ptr [0, 4] 0 0), (6, AV.ptr [0, 6] 0 0), (7, AV.int .i64 t7), (21, AV.sl [.int .i64, .int .i64] t21), (22, AV.int .i64 t22), (23, AV.int .i64 (IntKind.i64.wrap (t23 + 1)))], [([0, 0, 6], ⟨false, [.int .i64], (h0.set (fI (t21.getD t23.toNat AV.undef) 0).toNat (AV.agg [AV.int .i64 (fI (h0.getD (fI (t21.getD t23.toNat AV.undef) 1).toNat AV.undef) 0)])).set (fI (t21.getD t23.toNat AV.undef) 1).toNat (AV.agg [AV.int .i64 (fI (h0.getD (fI (t21.getD t23.toNat AV.undef) 0).toNat AV.undef) 0)])⟩), ([0, 1, 6], ⟨false, [.int .i64], (h1.set (fI (t21.getD t23.toNat AV.undef) 0).toNat (AV.agg [AV.int .i64 (fI (h1.getD (fI (t21.getD t23.toNat AV.undef) 1).toNat AV.undef) 0)])).set (fI (t21.getD t23.toNat AV.undef) 1).toNat (AV.agg [AV.int .i64 (fI (h1.getD (fI (t21.getD t23.toNat AV.undef) 0).toNat AV.undef) 0)])⟩), ([0, 2], ⟨true, [], [AV.agg [AV.sl [.int .i64] h2_0, AV.sl [.int .i64] h2_1, AV.sl [.int .i64, .int .i64] h2_2]]⟩), ([0, 2, 6], ⟨false, [.int .i64, .int .i64], h3⟩), ([0, 4], ⟨true, [], [AV.agg [AV.snil, AV.snil, AV.snil]]⟩), ([0, 6], ⟨true, [], [AV.agg [AV.own [0, 0, 6], AV.own [0, 1, 6], AV.own [0, 2, 6]]]⟩)]⟩
               else none)
              else none)
             else none)
            else none)
           else none)
          else none)
         else none)
        else none)))))
   else none)
  else k (.exit 0) ⟨[(4, AV.ptr [0, 4] 0 0), (6, AV.ptr [0, 6] 0 0)], [([0, 0, 6], ⟨false, [.int .i64], h0⟩), ([0, 1, 6], ⟨false, [.int .i64], h1⟩), ([0, 2], ⟨true, [], [AV.agg [AV.sl [.int .i64] h2_0, AV.sl [.int .i64] h2_1, AV.sl [.int .i64, .int .i64] h2_2]]⟩), ([0, 2, 6], ⟨false, [.int .i64, .int .i64], h3⟩), ([0, 4], ⟨true, [], [AV.agg [AV.snil, AV.snil, AV.snil]]⟩), ([0, 6], ⟨true, [], [AV.agg [AV.own [0, 0, 6], AV.own [0, 1, 6], AV.own [0, 2, 6]]]⟩)]⟩) := by kernel_rfl
theorem st149_0 (t7 : Int) (t21 : List AV) (t22 : Int) (h2_0 : List AV) (h2_1 : List AV) (h2_2 : List AV) (h3 : List AV) (ce : CallE) (k : Kont) (s : (Int × (List AV) × (List AV))) (next : St → Option AV) : stepA (codeA c149 ce [] 149 0 (sub [1, 1, 1, 0, 1, 0, 0] (body Try.f149))) (normA [] [2, 4, 6, 7, 21, 22, 23]) next ((fun s : Int × (List AV) × (List AV) => ⟨[(2, AV.ptr [0, 2] 0 0), (4, AV.ptr [0, 4] 0 0), (6, AV.ptr [0, 6] 0 0), (7, AV.int .i64 t7), (21, AV.sl [.int .i64, .int .i64] t21), (22, AV.int .i64 t22), (23, AV.int .i64 s.1)], [([0, 0, 6], ⟨false, [.int .i64], s.2.1⟩), ([0, 1, 6], ⟨false, [.int .i64], s.2.2⟩), ([0, 2], ⟨true, [], [AV.agg [AV.sl [.int .i64] h2_0, AV.sl [.int .i64] h2_1, AV.sl [.int .i64, .int .i64] h2_2]]⟩), ([0, 2, 6], ⟨false, [.int .i64, .int .i64], h3⟩), ([0, 4], ⟨true, [], [AV.agg [AV.snil, AV.snil, AV.snil]]⟩), ([0, 6], ⟨true, [], [AV.agg [AV.own [0, 0, 6], AV.own [0, 1, 6], AV.own [0, 2, 6]]]⟩)]⟩) s) k = (R149_0 t7 t21 t22 h2_0 h2_1 h2_2 h3 s).el none (fun s => next ((fun s : Int × (List AV) × (List AV) => ⟨[(2, AV.ptr [0, 2] 0 0), (4, AV.ptr [0, 4] 0 0), (6, AV.ptr [0, 6] 0 0), (7, AV.int .i64 t7), (21, AV.sl [.int .i64, .int .i64] t21), (22, AV.int .i64 t22), (23, AV.int .i64 s.1)], [([0, 0, 6], ⟨false, [.int .i64], s.2.1⟩), ([0, 1, 6], ⟨false, [.int .i64], s.2.2⟩), ([0, 2], ⟨true, [], [AV.agg [AV.sl [.int .i64] h2_0, AV.sl [.int .i64] h2_1, AV.sl [.int .i64, .int .i64] h2_2]]⟩), ([0, 2, 6], ⟨false, [.int .i64, .int .i64], h3⟩), ([0, 4], ⟨true, [], [AV.agg [AV.snil, AV.snil, AV.snil]]⟩), ([0, 6], ⟨true, [], [AV.agg [AV.own [0, 0, 6], AV.own [0, 1, 6], AV.own [0, 2, 6]]]⟩)]⟩) s)) (sumE (fun p : (List AV) × (List AV) => k (.exit 0) ⟨[(4, AV.ptr [0, 4] 0 0), (6, AV.ptr [0, 6] 0 0)], [([0, 0, 6], ⟨false, [.int .i64], p.1⟩), ([0, 1, 6], ⟨false, [.int .i64], p.2⟩), ([0, 2], ⟨true, [], [AV.agg [AV.sl [.int .i64] h2_0, AV.sl [.int .i64] h2_1, AV.sl [.int .i64, .int .i64] h2_2]]⟩), ([0, 2, 6], ⟨false, [.int .i64, .int .i64], h3⟩), ([0, 4], ⟨true, [], [AV.agg [AV.snil, AV.snil, AV.snil]]⟩), ([0, 6], ⟨true, [], [AV.agg [AV.own [0, 0, 6], AV.own [0, 1, 6], AV.own [0, 2, 6]]]⟩)]⟩) (fun p : (List AV) × (List AV) × (List AV) × (List AV) × Int × Int × (List AV) => k .ret ⟨[(4, AV.ptr [0, 4] 0 0), (5, AV.bool false)], [([0, 0, 6], ⟨false, [.int .i64], p.1⟩), ([0, 1, 6], ⟨false, [.int .i64], p.2.1⟩), ([0, 1, 48], ⟨false, [.int .i64], p.2.2.1⟩), ([0, 2], ⟨true, [], [AV.agg [AV.sl [.int .i64] h2_0, AV.sl [.int .i64] h2_1, AV.sl [.int .i64, .int .i64] h2_2]]⟩), ([0, 2, 6], ⟨false, [.int .i64, .int .i64], h3⟩), ([0, 4], ⟨true, [], [AV.agg [AV.own [0, 1, 48], AV.own [1, 1, 48], AV.own [2, 1, 48]]]⟩), ([0, 6], ⟨true, [], [AV.agg [AV.own [0, 0, 6], AV.own [0, 1, 6], AV.own [0, 2, 6]]]⟩), ([1, 1, 48], ⟨false, [.int .i64], p.2.2.2.1⟩), ([1, 9], ⟨true, [], [AV.agg [AV.int .i64 p.2.2.2.2.1, AV.int .i64 p.2.2.2.2.2.1]]⟩), ([2, 1, 48], ⟨false, [.int .i64, .int .i64], p.2.2.2.2.2.2⟩)]⟩)) := (s149_0 ce t7 t21 t22 s.1 s.2.1 s.2.2 h2_0 h2_1 h2_2 h3 next k).trans (by unfold R149_0; unfold F149_0; simp only [el_cond, el_ro, el_sum, el_fail, el_next, el_stop] <;> rfl)
theorem ok149_0 {ce : CallE} : LoopOK c149 ce [] 149 0 (sub [1, 1, 1, 0, 1, 0, 0] (body Try.f149)) := by
  intro m hm st k r h
  obtain rfl : l149_0 = m := Option.some.inj hm
  unfold l149_0 at h
  split at h
  · rename_i g0 g1 g2 g3 g4 g5 g6 g7 g8 t7 g9 t21 t22 t23 g10 g11 h0 g12 g13 h1 g14 g15 h2_0 g16 h2_1 g17 h2_2 g18 g19 h3 g20 g21 g22 g23 g24
    obtain ⟨hg, h⟩ := bif_some h
    simp only [Bool.and_eq_true] at hg
    obtain ⟨⟨⟨⟨⟨⟨⟨⟨⟨⟨⟨⟨⟨⟨⟨⟨⟨⟨⟨⟨⟨⟨⟨⟨q0, q1⟩, q2⟩, q3⟩, q4⟩, q5⟩, q6⟩, q7⟩, q8⟩, q9⟩, q10⟩, q11⟩, q12⟩, q13⟩, q14⟩, q15⟩, q16⟩, q17⟩, q18⟩, q19⟩, q20⟩, q21⟩, q22⟩, q23⟩, q24⟩ := hg
    obtain rfl := (nmEq_iff _ _).1 q0
    obtain rfl := Nat.eq_of_beq_eq_true q1
    obtain rfl := Nat.eq_of_beq_eq_true q2
    obtain rfl := (nmEq_iff _ _).1 q3
    obtain rfl := Nat.eq_of_beq_eq_true q4
    obtain rfl := Nat.eq_of_beq_eq_true q5
    obtain rfl := (nmEq_iff _ _).1 q6
    obtain rfl := Nat.eq_of_beq_eq_true q7
    obtain rfl := Nat.eq_of_beq_eq_true q8
    obtain rfl := ctsEq_eq _ _ q9
    obtain rfl := (nmEq_iff _ _).1 q10
    obtain rfl := ctsEq_eq _ _ q11
    obtain rfl := (nmEq_iff _ _).1 q12
    obtain rfl := ctsEq_eq _ _ q13
    obtain rfl := (nmEq_iff _ _).1 q14
    obtain rfl := ctsEq_eq _ _ q15
    obtain rfl := ctsEq_eq _ _ q16
    obtain rfl := ctsEq_eq _ _ q17
    obtain rfl := (nmEq_iff _ _).1 q18
    obtain rfl := ctsEq_eq _ _ q19
    obtain rfl := (nmEq_iff _ _).1 q20
    obtain rfl := (nmEq_iff _ _).1 q21
    obtain rfl := (nmEq_iff _ _).1 q22
    obtain rfl := (nmEq_iff _ _).1 q23
    obtain rfl := (nmEq_iff _ _).1 q24
    refine ⟨((t22 - t23).toNat + 1), ?_⟩
    rw [← h]
    exact loop_run (fun s : Int × (List AV) × (List AV) => ⟨[(2, AV.ptr [0, 2] 0 0), (4, AV.ptr [0, 4] 0 0), (6, AV.ptr [0, 6] 0 0), (7, AV.int .i64 t7), (21, AV.sl [.int .i64, .int .i64] t21), (22, AV.int .i64 t22), (23, AV.int .i64 s.1)], [([0, 0, 6], ⟨false, [.int .i64], s.2.1⟩), ([0, 1, 6], ⟨false, [.int .i64], s.2.2⟩), ([0, 2], ⟨true, [], [AV.agg [AV.sl [.int .i64] h2_0, AV.sl [.int .i64] h2_1, AV.sl [.int .i64, .int .i64] h2_2]]⟩), ([0, 2, 6], ⟨false, [.int .i64, .int .i64], h3⟩), ([0, 4], ⟨true, [], [AV.agg [AV.snil, AV.snil, AV.snil]]⟩), ([0, 6], ⟨true, [], [AV.agg [AV.own [0, 0, 6], AV.own [0, 1, 6], AV.own [0, 2, 6]]]⟩)]⟩) (sumE (fun p : (List AV) × (List AV) => k (.exit 0) ⟨[(4, AV.ptr [0, 4] 0 0), (6, AV.ptr [0, 6] 0 0)], [([0, 0, 6], ⟨false, [.int .i64], p.1⟩), ([0, 1, 6], ⟨false, [.int .i64], p.2⟩), ([0, 2], ⟨true, [], [AV.agg [AV.sl [.int .i64] h2_0, AV.sl [.int .i64] h2_1, AV.sl [.int .i64, .int .i64] h2_2]]⟩), ([0, 2, 6], ⟨false, [.int .i64, .int .i64], h3⟩), ([0, 4], ⟨true, [], [AV.agg [AV.snil, AV.snil, AV.snil]]⟩), ([0, 6], ⟨true, [], [AV.agg [AV.own [0, 0, 6], AV.own [0, 1, 6], AV.own [0, 2, 6]]]⟩)]⟩) (fun p : (List AV) × (List AV) × (List AV) × (List AV) × Int × Int × (List AV) => k .ret ⟨[(4, AV.ptr [0, 4] 0 0), (5, AV.bool false)], [([0, 0, 6], ⟨false, [.int .i64], p.1⟩), ([0, 1, 6], ⟨false, [.int .i64], p.2.1⟩), ([0, 1, 48], ⟨false, [.int .i64], p.2.2.1⟩), ([0, 2], ⟨true, [], [AV.agg [AV.sl [.int .i64] h2_0, AV.sl [.int .i64] h2_1, AV.sl [.int .i64, .int .i64] h2_2]]⟩), ([0, 2, 6], ⟨false, [.int .i64, .int .i64], h3⟩), ([0, 4], ⟨true, [], [AV.agg [AV.own [0, 1, 48], AV.own [1, 1, 48], AV.own [2, 1, 48]]]⟩), ([0, 6], ⟨true, [], [AV.agg [AV.own [0, 0, 6], AV.own [0, 1, 6], AV.own [0, 2, 6]]]⟩), ([1, 1, 48], ⟨false, [.int .i64], p.2.2.2.1⟩), ([1, 9], ⟨true, [], [AV.agg [AV.int .i64 p.2.2.2.2.1, AV.int .i64 p.2.2.2.2.2.1]]⟩), ([2, 1, 48], ⟨false, [.int .i64, .int .i64], p.2.2.2.2.2.2⟩)]⟩)) (st149_0 t7 t21 t22 h2_0 h2_1 h2_2 h3 ce k) _ (t23, h0, h1)
  · cases h
def q149 (a0_0 : List AV) (a0_1 : List AV) (a0_2 : List AV) (a1 : List AV) : Bool := (q129 a0_0 a0_1 a0_2 && (bif !decide ((a0_1.length : Int) = (a0_0.length : Int)) then true else (ro (runW (R149_0 (a0_0.length : Int) a1 (a1.length : Int) a0_0 a0_1 a0_2 (v129_2 a0_0 a0_1 a0_2)) (((a1.length : Int) - 0).toNat + 1) (0, (v129_0 a0_0 a0_1 a0_2), (v129_1 a0_0 a0_1 a0_2))) false (sumE (fun p39 => true) (fun p40 => true)))))
def v149_0 (a0_0 : List AV) (a0_1 : List AV) (a0_2 : List AV) (a1 : List AV) : List AV := (bif !decide ((a0_1.length : Int) = (a0_0.length : Int)) then (v129_0 a0_0 a0_1 a0_2) else (ro (runW (R149_0 (a0_0.length : Int) a1 (a1.length : Int) a0_0 a0_1 a0_2 (v129_2 a0_0 a0_1 a0_2)) (((a1.length : Int) - 0).toNat + 1) (0, (v129_0 a0_0 a0_1 a0_2), (v129_1 a0_0 a0_1 a0_2))) [] (sumE (fun p39 => p39.1) (fun p40 => p40.2.2.1))))
def v149_1 (a0_0 : List AV) (a0_1 : List AV) (a0_2 : List AV) (a1 : List AV) : List AV := (bif !decide ((a0_1.length : Int) = (a0_0.length : Int)) then (v129_1 a0_0 a0_1 a0_2) else (ro (runW (R149_0 (a0_0.length : Int) a1 (a1.length : Int) a0_0 a0_1 a0_2 (v129_2 a0_0 a0_1 a0_2)) (((a1.length : Int) - 0).toNat + 1) (0, (v129_0 a0_0 a0_1 a0_2), (v129_1 a0_0 a0_1 a0_2))) [] (sumE (fun p39 => p39.2) (fun p40 => p40.2.2.2.1))))
def v149_2 (a0_0 : List AV) (a0_1 : List AV) (a0_2 : List AV) (a1 : List AV) : List AV := (bif !decide ((a0_1.length : Int) = (a0_0.length : Int)) then (v129_2 a0_0 a0_1 a0_2) else (ro (runW (R149_0 (a0_0.length : Int) a1 (a1.length : Int) a0_0 a0_1 a0_2 (v129_2 a0_0 a0_1 a0_2)) (((a1.length : Int) - 0).toNat + 1) (0, (v129_0 a0_0 a0_1 a0_2), (v129_1 a0_0 a0_1 a0_2))) [] (sumE (fun p39 => (v129_2 a0_0 a0_1 a0_2)) (fun p40 => p40.2.2.2.2.2.2))))
def v149_3 (a0_0 : List AV) (a0_1 : List AV) (a0_2 : List AV) (a1 : List AV) : Bool := (bif !decide ((a0_1.length : Int) = (a0_0.length : Int)) then false else (ro (runW (R149_0 (a0_0.length : Int) a1 (a1.length : Int) a0_0 a0_1 a0_2 (v129_2 a0_0 a0_1 a0_2)) (((a1.length : Int) - 0).toNat + 1) (0, (v129_0 a0_0 a0_1 a0_2), (v129_1 a0_0 a0_1 a0_2))) false (sumE (fun p39 => true) (fun p40 => false))))
theorem e149 (a0_0 : List AV) (a0_1 : List AV) (a0_2 : List AV) (a1 : List AV) : funA c149 0 149 [AV.agg [AV.sl [.int .i64] a0_0, AV.sl [.int .i64] a0_1, AV.sl [.int .i64, .int .i64] a0_2], AV.sl [.int .i64, .int .i64] a1] = (bif q129 a0_0 a0_1 a0_2 then (bif !decide ((a0_1.length : Int) = (a0_0.length : Int)) then some (AV.tup [AV.agg [AV.fl [.int .i64] (v129_0 a0_0 a0_1 a0_2), AV.fl [.int .i64] (v129_1 a0_0 a0_1 a0_2), AV.fl [.int .i64, .int .i64] (v129_2 a0_0 a0_1 a0_2)], AV.bool false])
   else (ro (runW (R149_0 (a0_0.length : Int) a1 (a1.length : Int) a0_0 a0_1 a0_2 (v129_2 a0_0 a0_1 a0_2)) (((a1.length : Int) - 0).toNat + 1) (0, (v129_0 a0_0 a0_1 a0_2), (v129_1 a0_0 a0_1 a0_2))) none (sumE (fun p39 => some (AV.tup [AV.agg [AV.fl [.int .i64] p39.1, AV.fl [.int .i64] p39.2, AV.fl [.int .i64, .int .i64] (v129_2 a0_0 a0_1 a0_2)], AV.bool true])) (fun p40 => some (AV.tup [AV.agg [AV.fl [.int .i64] p40.2.2.1, AV.fl [.int .i64] p40.2.2.2.1, AV.fl [.int .i64, .int .i64] p40.2.2.2.2.2.2], AV.bool false])))))
  else none) := by kernel_rfl
theorem r149 (a0_0 : List AV) (a0_1 : List AV) (a0_2 : List AV) (a1 : List AV) (h : q149 a0_0 a0_1 a0_2 a1 = true) : funA c149 0 149 [AV.agg [AV.sl [.int .i64] a0_0, AV.sl [.int .i64] a0_1, AV.sl [.int .i64, .int .i64] a0_2], AV.sl [.int .i64, .int .i64] a1] = some (AV.tup [AV.agg [AV.fl [.int .i64] (v149_0 a0_0 a0_1 a0_2 a1), AV.fl [.int .i64] (v149_1 a0_0 a0_1 a0_2 a1), AV.fl [.int .i64, .int .i64] (v149_2 a0_0 a0_1 a0_2 a1)], AV.bool (v149_3 a0_0 a0_1 a0_2 a1)]) := (e149 a0_0 a0_1 a0_2 a1).trans ((brL (br (fun b => some (AV.tup [AV.agg [AV.fl [.int .i64] (bif b then (v129_0 a0_0 a0_1 a0_2) else (ro (runW (R149_0 (a0_0.length : Int) a1 (a1.length : Int) a0_0 a0_1 a0_2 (v129_2 a0_0 a0_1 a0_2)) (((a1.length : Int) - 0).toNat + 1) (0, (v129_0 a0_0 a0_1 a0_2), (v129_1 a0_0 a0_1 a0_2))) [] (sumE (fun p39 => p39.1) (fun p40 => p40.2.2.1)))), AV.fl [.int .i64] (bif b then (v129_1 a0_0 a0_1 a0_2) else (ro (runW (R149_0 (a0_0.length : Int) a1 (a1.length : Int) a0_0 a0_1 a0_2 (v129_2 a0_0 a0_1 a0_2)) (((a1.length : Int) - 0).toNat + 1) (0, (v129_0 a0_0 a0_1 a0_2), (v129_1 a0_0 a0_1 a0_2))) [] (sumE (fun p39 => p39.2) (fun p40 => p40.2.2.2.1)))), AV.fl [.int .i64, .int .i64] (bif b then (v129_2 a0_0 a0_1 a0_2) else (ro (runW (R149_0 (a0_0.length : Int) a1 (a1.length : Int) a0_0 a0_1 a0_2 (v129_2 a0_0 a0_1 a0_2)) (((a1.length : Int) - 0).toNat + 1) (0, (v129_0 a0_0 a0_1 a0_2), (v129_1 a0_0 a0_1 a0_2))) [] (sumE (fun p39 => (v129_2 a0_0 a0_1 a0_2)) (fun p40 => p40.2.2.2.2.2.2))))], AV.bool (bif b then false else (ro (runW (R149_0 (a0_0.length : Int) a1 (a1.length : Int) a0_0 a0_1 a0_2 (v129_2 a0_0 a0_1 a0_2)) (((a1.length : Int) - 0).toNat + 1) (0, (v129_0 a0_0 a0_1 a0_2), (v129_1 a0_0 a0_1 a0_2))) false (sumE (fun p39 => true) (fun p40 => false))))])) (fun _ => rfl) (brO (fun o : Option (((List AV) × (List AV)) ⊕ ((List AV) × (List AV) × (List AV) × (List AV) × Int × Int × (List AV))) => some (AV.tup [AV.agg [AV.fl [.int .i64] (ro o [] (sumE (fun p39 => p39.1) (fun p40 => p40.2.2.1))), AV.fl [.int .i64] (ro o [] (sumE (fun p39 => p39.2) (fun p40 => p40.2.2.2.1))), AV.fl [.int .i64, .int .i64] (ro o [] (sumE (fun p39 => (v129_2 a0_0 a0_1 a0_2)) (fun p40 => p40.2.2.2.2.2.2)))], AV.bool (ro o false (sumE (fun p39 => true) (fun p40 => false)))])) (brS (fun o : ((List AV) × (List AV)) ⊕ ((List AV) × (List AV) × (List AV) × (List AV) × Int × Int × (List AV)) => some (AV.tup [AV.agg [AV.fl [.int .i64] ((sumE (fun p39 => p39.1) (fun p40 => p40.2.2.1)) o), AV.fl [.int .i64] ((sumE (fun p39 => p39.2) (fun p40 => p40.2.2.2.1)) o), AV.fl [.int .i64, .int .i64] ((sumE (fun p39 => (v129_2 a0_0 a0_1 a0_2)) (fun p40 => p40.2.2.2.2.2.2)) o)], AV.bool ((sumE (fun p39 => true) (fun p40 => false)) o)])) (fun p39 => (fun _ => rfl)) (fun p40 => (fun _ => rfl)))))) h)
def m149 : TModel
  | [.agg [.sl g0 a0_0, .sl g1 a0_1, .sl g2 a0_2], .sl g3 a1] => bif ctsEq g0 ([.int .i64]) && ctsEq g1 ([.int .i64]) && ctsEq g2 ([.int .i64, .int .i64]) && ctsEq g3 ([.int .i64, .int .i64]) then some (q149 a0_0 a0_1 a0_2 a1, AV.tup [AV.agg [AV.fl [.int .i64] (v149_0 a0_0 a0_1 a0_2 a1), AV.fl [.int .i64] (v149_1 a0_0 a0_1 a0_2 a1), AV.fl [.int .i64, .int .i64] (v149_2 a0_0 a0_1 a0_2 a1)], AV.bool (v149_3 a0_0 a0_1 a0_2 a1)]) else none
  | _ => none
theorem k149 : Known Try.prog 149 := ⟨Try.f149, Try.func149, by kernel_rfl, by kernel_rfl⟩
theorem meets149 : Meets Try.prog 149 m149 := by
  refine meet (f := Try.f149) (l := [(0, sub [1, 1, 1, 0, 1, 0, 0] (body Try.f149))]) (hs := [(149, 0, [2, 4, 6, 7, 21, 22, 23]), (149, 999, [4, 5]), (149, 1000, [4, 6]), (149, 1001, [2, 4, 6, 7, 21, 22, 23])]) (ts := [(129, m129)]) (ws := []) (is := []) (ls := [(149, 0, l149_0)]) (lvl := 0) mixed k149 Try.func149 (by kernel_rfl) (loops_cons ok149_0 noLoop) (allT_cons meets129 allT_nil) allM_nil noI fun w xs us r hl hv h => ?_
  unfold m149 at h
  split at h
  · rename_i g0 a0_0 g1 a0_1 g2 a0_2 g3 a1
    obtain ⟨hg, h⟩ := bif_pair h
    simp only [Bool.and_eq_true] at hg
    obtain ⟨⟨⟨q0, q1⟩, q2⟩, q3⟩ := hg
    obtain rfl := ctsEq_eq _ _ q0
    obtain rfl := ctsEq_eq _ _ q1
    obtain rfl := ctsEq_eq _ _ q2
    obtain rfl := ctsEq_eq _ _ q3
    obtain ⟨h1, rfl⟩ := pair_inj h
    exact r149 a0_0 a0_1 a0_2 a1 h1
  · cases h

/-! ### 173 loop.example/g01984/impl.withPivot$1 -/
noncomputable def c173 : Cfg := cfg Try.prog [(173, 999, [3])] [] [] [] []
def q173 (a0_0 : Int) (a0_1 : Int) (a1 : AV) : Bool := true
def v173_0 (a0_0 : Int) (a0_1 : Int) (a1 : AV) : Bool := decide (a0_0 > fI a1 0)
theorem e173 (a0_0 : Int) (a0_1 : Int) (a1 : AV) : funA c173 0 173 [AV.agg [AV.int .i64 a0_0, AV.int .i64 a0_1], AV.rptr [.int .i64, .int .i64] a1 0] = some (AV.bool (decide (a0_0 > fI a1 0))) := by kernel_rfl
theorem r173 (a0_0 : Int) (a0_1 : Int) (a1 : AV) : funA c173 0 173 [AV.agg [AV.int .i64 a0_0, AV.int .i64 a0_1], AV.rptr [.int .i64, .int .i64] a1 0] = some (AV.bool (v173_0 a0_0 a0_1 a1)) := (e173 a0_0 a0_1 a1).trans (of_tt (fun _ => rfl))
def m173 : TModel
  | [.agg [.int .i64 a0_0, .int .i64 a0_1], .rptr g0 a1 g1] => bif ctsEq g0 ([.int .i64, .int .i64]) && Nat.beq g1 0 then some (true, AV.bool (v173_0 a0_0 a0_1 a1)) else none
  | _ => none
theorem k173 : Known Try.prog 173 := ⟨Try.f173, Try.func173, by kernel_rfl, by kernel_rfl⟩
theorem meets173 : Meets Try.prog 173 m173 := by
  refine meet (f := Try.f173) (l := []) (hs := [(173, 999, [3])]) (ts := []) (ws := []) (is := []) (ls := []) (lvl := 0) mixed k173 Try.func173 (by kernel_rfl) noLoop allT_nil allM_nil noI fun w xs us r hl hv h => ?_
  unfold m173 at h
  split at h
  · rename_i a0_0 a0_1 g0 a1 g1
    obtain ⟨hg, h⟩ := bif_pair h
    simp only [Bool.and_eq_true] at hg
    obtain ⟨q0, q1⟩ := hg
    obtain rfl := ctsEq_eq _ _ q0
    obtain rfl := Nat.eq_of_beq_eq_true q1
    obtain ⟨h1, rfl⟩ := pair_inj h
    exact r173 a0_0 a0_1 a1
  · cases h

/-! ### 172 slices.IndexFunc[[]loop.example/g01984/impl.Pivot,loop.example/g01984/impl.Pivot] -/
def F172_0 (t0 : List AV) (t1 : AV) (t7 : Int) (t8 : Int) : Out (Int) (Unit ⊕ Int) := (bif decide (t8 < t7) then (bif (decide (0 ≤ t8) && decide (t8 < (t0.length : Int))) then (bif (v173_0 (fI (t0.getD t8.toNat AV.undef) 0) (fI (t0.getD t8.toNat AV.undef) 1) t1) then .stop (.inr t8)
    else .next (IntKind.i64.wrap (t8 + 1)))
   else .fail)
  else .stop (.inl ()))
def R172_0 (t0 : List AV) (t1 : AV) (t7 : Int) : (Int) → Out (Int) (Unit ⊕ Int) := fun s : Int => F172_0 t0 t1 t7 s
def l172_0 : LModel := fun _ _ st k => match st with
  | ⟨[(0, .sl g0 t0), (1, .fn g1 [.rptr g2 t1 g3]), (7, .int .i64 t7), (8, .int .i64 t8)], []⟩ => bif ctsEq g0 ([.int .i64, .int .i64]) && Nat.beq g1 173 && ctsEq g2 ([.int .i64, .int .i64]) && Nat.beq g3 0 then ro (runW (R172_0 t0 t1 t7) ((t7 - t8).toNat + 1) t8) none (sumE (fun _ : Unit => k (.exit 0) ⟨[], []⟩) (fun p : Int => k .ret ⟨[(4, AV.int .i64 p)], []⟩)) else none
  | _ => none
noncomputable def c172 : Cfg := cfg Try.prog [(172, 0, [0, 1, 7, 8]), (172, 999, [4]), (172, 1000, []), (172, 1001, [0, 1, 7, 8])] [(173, m173)] [] [] [(172, 0, l172_0)]
theorem s172_0 (ce : CallE) (t0 : List AV) (t1 : AV) (t7 : Int) (t8 : Int) (next : St → Option AV) (k : Kont) : stepA (codeA c172 ce [] 172 0 (sub [1, 0, 1, 0, 0] (body Try.f172))) (normA [] [0, 1, 7, 8]) next ⟨[(0, AV.sl [.int .i64, .int .i64] t0), (1, AV.fn 173 [AV.rptr [.int .i64, .int .i64] t1 0]), (7, AV.int .i64 t7), (8, AV.int .i64 t8)], []⟩ k = (bif decide (t8 < t7) then (bif (decide (0 ≤ t8) && decide (t8 < (t0.length : Int))) then (bif (v173_0 (fI (t0.getD t8.toNat AV.undef) 0) (fI (t0.getD t8.toNat AV.undef) 1) t1) then k .ret ⟨[(4, AV.int .i64 t8)], []⟩
    else next ⟨[(0, AV.sl [.int .i64, .int .i64] t0), (1, AV.fn 173 [AV.rptr [.int .i64, .int .i64] t1 0]), (7, AV.int .i64 t7), (8, AV.int .i64 (IntKind.i64.wrap (t8 + 1)))], []⟩)
   else none)
  else k (.exit 0) ⟨[], []⟩) := by kernel_rfl
theorem st172_0 (t0 : List AV) (t1 : AV) (t7 : Int) (ce : CallE) (k : Kont) (s : Int) (next : St → Option AV) : stepA (codeA c172 ce [] 172 0 (sub [1, 0, 1, 0, 0] (body Try.f172))) (normA [] [0, 1, 7, 8]) next ((fun s : Int => ⟨[(0, AV.sl [.int .i64, .int .i64] t0), (1, AV.fn 173 [AV.rptr [.int .i64, .int .i64] t1 0]), (7, AV.int .i64 t7), (8, AV.int .i64 s)], []⟩) s) k = (R172_0 t0 t1 t7 s).el none (fun s => next ((fun s : Int => ⟨[(0, AV.sl [.int .i64, .int .i64] t0), (1, AV.fn 173 [AV.rptr [.int .i64, .int .i64] t1 0]), (7, AV.int .i64 t7), (8, AV.int .i64 s)], []⟩) s)) (sumE (fun _ : Unit => k (.exit 0) ⟨[], []⟩) (fun p : Int => k .ret ⟨[(4, AV.int .i64 p)], []⟩)) := (s172_0 ce t0 t1 t7 s next k).trans (by unfold R172_0; unfold F172_0; simp only [el_cond, el_ro, el_sum, el_fail, el_next, el_stop] <;> rfl)
theorem ok172_0 {ce : CallE} : LoopOK c172 ce [] 172 0 (sub [1, 0, 1, 0, 0] (body Try.f172)) := by
  intro m hm st k r h
  obtain rfl : l172_0 = m := Option.some.inj hm
  unfold l172_0 at h
  split at h
  · rename_i g0 t0 g1 g2 t1 g3 t7 t8
    obtain ⟨hg, h⟩ := bif_some h
    simp only [Bool.and_eq_true] at hg
    obtain ⟨⟨⟨q0, q1⟩, q2⟩, q3⟩ := hg
    obtain rfl := ctsEq_eq _ _ q0
    obtain rfl := Nat.eq_of_beq_eq_true q1
    obtain rfl := ctsEq_eq _ _ q2
    obtain rfl := Nat.eq_of_beq_eq_true q3
    refine ⟨((t7 - t8).toNat + 1), ?_⟩
    rw [← h]
    exact loop_run (fun s : Int => ⟨[(0, AV.sl [.int .i64, .int .i64] t0), (1, AV.fn 173 [AV.rptr [.int .i64, .int .i64] t1 0]), (7, AV.int .i64 t7), (8, AV.int .i64 s)], []⟩) (sumE (fun _ : Unit => k (.exit 0) ⟨[], []⟩) (fun p : Int => k .ret ⟨[(4, AV.int .i64 p)], []⟩)) (st172_0 t0 t1 t7 ce k) _ t8
  · cases h
def q172 (a0 : List AV) (a1 : AV) : Bool := (ro (runW (R172_0 a0 a1 (a0.length : Int)) (((a0.length : Int) - 0).toNat + 1) 0) false (sumE (fun _ => true) (fun p42 => true)))
def v172_0 (a0 : List AV) (a1 : AV) : Int := (ro (runW (R172_0 a0 a1 (a0.length : Int)) (((a0.length : Int) - 0).toNat + 1) 0) 0 (sumE (fun _ => (-1)) (fun p42 => p42)))
theorem e172 (a0 : List AV) (a1 : AV) : funA c172 0 172 [AV.sl [.int .i64, .int .i64] a0, AV.fn 173 [AV.rptr [.int .i64, .int .i64] a1 0]] = (ro (runW (R172_0 a0 a1 (a0.length : Int)) (((a0.length : Int) - 0).toNat + 1) 0) none (sumE (fun _ => some (AV.int .i64 (-1))) (fun p42 => some (AV.int .i64 p42)))) := by kernel_rfl
theorem r172 (a0 : List AV) (a1 : AV) (h : q172 a0 a1 = true) : funA c172 0 172 [AV.sl [.int .i64, .int .i64] a0, AV.fn 173 [AV.rptr [.int .i64, .int .i64] a1 0]] = some (AV.int .i64 (v172_0 a0 a1)) := (e172 a0 a1).trans ((brO (fun o : Option (Unit ⊕ Int) => some (AV.int .i64 (ro o 0 (sumE (fun _ => (-1)) (fun p42 => p42))))) (brS (fun o : Unit ⊕ Int => some (AV.int .i64 ((sumE (fun _ => (-1)) (fun p42 => p42)) o))) (fun _ => (fun _ => rfl)) (fun p42 => (fun _ => rfl)))) h)
def m172 : TModel
  | [.sl g0 a0, .fn g1 [.rptr g2 a1 g3]] => bif ctsEq g0 ([.int .i64, .int .i64]) && Nat.beq g1 173 && ctsEq g2 ([.int .i64, .int .i64]) && Nat.beq g3 0 then some (q172 a0 a1, AV.int .i64 (v172_0 a0 a1)) else none
  | _ => none
theorem k172 : Known Try.prog 172 := ⟨Try.f172, Try.func172, by kernel_rfl, by kernel_rfl⟩
theorem meets172 : Meets Try.prog 172 m172 := by
  refine meet (f := Try.f172) (l := [(0, sub [1, 0, 1, 0, 0] (body Try.f172))]) (hs := [(172, 0, [0, 1, 7, 8]), (172, 999, [4]), (172, 1000, []), (172, 1001, [0, 1, 7, 8])]) (ts := [(173, m173)]) (ws := []) (is := []) (ls := [(172, 0, l172_0)]) (lvl := 0) mixed k172 Try.func172 (by kernel_rfl) (loops_cons ok172_0 noLoop) (allT_cons meets173 allT_nil) allM_nil noI fun w xs us r hl hv h => ?_
  unfold m172 at h
  split at h
  · rename_i g0 a0 g1 g2 a1 g3
    obtain ⟨hg, h⟩ := bif_pair h
    simp only [Bool.and_eq_true] at hg
    obtain ⟨⟨⟨q0, q1⟩, q2⟩, q3⟩ := hg
    obtain rfl := ctsEq_eq _ _ q0
    obtain rfl := Nat.eq_of_beq_eq_true q1
    obtain rfl := ctsEq_eq _ _ q2
    obtain rfl := Nat.eq_of_beq_eq_true q3
    obtain ⟨h1, rfl⟩ := pair_inj h
    exact r172 a0 a1 h1
  · cases h

/-! ### 150 loop.example/g01984/impl.withPivot -/
noncomputable def c150 : Cfg := cfg Try.prog [(150, 999, [4]), (174, 999, [6])] [(129, m129), (172, m172)] [] [174] [] [(174, insA Try.prog 32)]
def q150 (a0_0 : List AV) (a0_1 : List AV) (a0_2 : List AV) (a1_0 : Int) (a1_1 : Int) : Bool := (q129 a0_0 a0_1 a0_2 && (q172 (v129_2 a0_0 a0_1 a0_2) (AV.agg [AV.int .i64 a1_0, AV.int .i64 a1_1]) && (bif decide ((v172_0 (v129_2 a0_0 a0_1 a0_2) (AV.agg [AV.int .i64 a1_0, AV.int .i64 a1_1])) < 0) then (decide (0 ≤ ((v129_2 a0_0 a0_1 a0_2).length : Int)) && decide (((v129_2 a0_0 a0_1 a0_2).length : Int) ≤ ((v129_2 a0_0 a0_1 a0_2).length : Int)) && decide (((v129_2 a0_0 a0_1 a0_2).length + 1) * 16 ≤ 140737488355328)) else (decide (0 ≤ (v172_0 (v129_2 a0_0 a0_1 a0_2) (AV.agg [AV.int .i64 a1_0, AV.int .i64 a1_1]))) && decide ((v172_0 (v129_2 a0_0 a0_1 a0_2) (AV.agg [AV.int .i64 a1_0, AV.int .i64 a1_1])) ≤ ((v129_2 a0_0 a0_1 a0_2).length : Int)) && decide (((v129_2 a0_0 a0_1 a0_2).length + 1) * 16 ≤ 140737488355328)))))
def v150_0 (a0_0 : List AV) (a0_1 : List AV) (a0_2 : List AV) (a1_0 : Int) (a1_1 : Int) : List AV := (v129_0 a0_0 a0_1 a0_2)
def v150_1 (a0_0 : List AV) (a0_1 : List AV) (a0_2 : List AV) (a1_0 : Int) (a1_1 : Int) : List AV := (v129_1 a0_0 a0_1 a0_2)
def v150_2 (a0_0 : List AV) (a0_1 : List AV) (a0_2 : List AV) (a1_0 : Int) (a1_1 : Int) : List AV := (bif decide ((v172_0 (v129_2 a0_0 a0_1 a0_2) (AV.agg [AV.int .i64 a1_0, AV.int .i64 a1_1])) < 0) then (v129_2 a0_0 a0_1 a0_2).take (Int.toNat ((v129_2 a0_0 a0_1 a0_2).length : Int)) ++ ([AV.agg [AV.int .i64 a1_0, AV.int .i64 a1_1]]) ++ (v129_2 a0_0 a0_1 a0_2).drop (Int.toNat ((v129_2 a0_0 a0_1 a0_2).length : Int)) else (v129_2 a0_0 a0_1 a0_2).take (Int.toNat (v172_0 (v129_2 a0_0 a0_1 a0_2) (AV.agg [AV.int .i64 a1_0, AV.int .i64 a1_1]))) ++ ([AV.agg [AV.int .i64 a1_0, AV.int .i64 a1_1]]) ++ (v129_2 a0_0 a0_1 a0_2).drop (Int.toNat (v172_0 (v129_2 a0_0 a0_1 a0_2) (AV.agg [AV.int .i64 a1_0, AV.int .i64 a1_1]))))
theorem e150 (a0_0 : List AV) (a0_1 : List AV) (a0_2 : List AV) (a1_0 : Int) (a1_1 : Int) : funA c150 1 150 [AV.agg [AV.sl [.int .i64] a0_0, AV.sl [.int .i64] a0_1, AV.sl [.int .i64, .int .i64] a0_2], AV.agg [AV.int .i64 a1_0, AV.int .i64 a1_1]] = (bif q129 a0_0 a0_1 a0_2 then (bif q172 (v129_2 a0_0 a0_1 a0_2) (AV.agg [AV.int .i64 a1_0, AV.int .i64 a1_1]) then (bif decide ((v172_0 (v129_2 a0_0 a0_1 a0_2) (AV.agg [AV.int .i64 a1_0, AV.int .i64 a1_1])) < 0) then (bif (decide (0 ≤ ((v129_2 a0_0 a0_1 a0_2).length : Int)) && decide (((v129_2 a0_0 a0_1 a0_2).length : Int) ≤ ((v129_2 a0_0 a0_1 a0_2).length : Int)) && decide (((v129_2 a0_0 a0_1 a0_2).length + 1) * 16 ≤ 140737488355328)) then some (AV.agg [AV.fl [.int .i64] (v129_0 a0_0 a0_1 a0_2), AV.fl [.int .i64] (v129_1 a0_0 a0_1 a0_2), AV.fl [.int .i64, .int .i64] ((v129_2 a0_0 a0_1 a0_2).take (Int.toNat ((v129_2 a0_0 a0_1 a0_2).length : Int)) ++ ([AV.agg [AV.int .i64 a1_0, AV.int .i64 a1_1]]) ++ (v129_2 a0_0 a0_1 a0_2).drop (Int.toNat ((v129_2 a0_0 a0_1 a0_2).length : Int)))])
     else none)
    else (bif (decide (0 ≤ (v172_0 (v129_2 a0_0 a0_1 a0_2) (AV.agg [AV.int .i64 a1_0, AV.int .i64 a1_1]))) && decide ((v172_0 (v129_2 a0_0 a0_1 a0_2) (AV.agg [AV.int .i64 a1_0, AV.int .i64 a1_1])) ≤ ((v129_2 a0_0 a0_1 a0_2).length : Int)) && decide (((v129_2 a0_0 a0_1 a0_2).length + 1) * 16 ≤ 140737488355328)) then some (AV.agg [AV.fl [.int .i64] (v129_0 a0_0 a0_1 a0_2), AV.fl [.int .i64] (v129_1 a0_0 a0_1 a0_2), AV.fl [.int .i64, .int .i64] ((v129_2 a0_0 a0_1 a0_2).take (Int.toNat (v172_0 (v129_2 a0_0 a0_1 a0_2) (AV.agg [AV.int .i64 a1_0, AV.int .i64 a1_1]))) ++ ([AV.agg [AV.int .i64 a1_0, AV.int .i64 a1_1]]) ++ (v129_2 a0_0 a0_1 a0_2).drop (Int.toNat (v172_0 (v129_2 a0_0 a0_1 a0_2) (AV.agg [AV.int .i64 a1_0, AV.int .i64 a1_1]))))])
     else none))
   else none)
  else none) := by kernel_rfl
theorem r150 (a0_0 : List AV) (a0_1 : List AV) (a0_2 : List AV) (a1_0 : Int) (a1_1 : Int) (h : q150 a0_0 a0_1 a0_2 a1_0 a1_1 = true) : funA c150 1 150 [AV.agg [AV.sl [.int .i64] a0_0, AV.sl [.int .i64] a0_1, AV.sl [.int .i64, .int .i64] a0_2], AV.agg [AV.int .i64 a1_0, AV.int .i64 a1_1]] = some (AV.agg [AV.fl [.int .i64] (v150_0 a0_0 a0_1 a0_2 a1_0 a1_1), AV.fl [.int .i64] (v150_1 a0_0 a0_1 a0_2 a1_0 a1_1), AV.fl [.int .i64, .int .i64] (v150_2 a0_0 a0_1 a0_2 a1_0 a1_1)]) := (e150 a0_0 a0_1 a0_2 a1_0 a1_1).trans ((brL (brL (br (fun b => some (AV.agg [AV.fl [.int .i64] (v129_0 a0_0 a0_1 a0_2), AV.fl [.int .i64] (v129_1 a0_0 a0_1 a0_2), AV.fl [.int .i64, .int .i64] (bif b then (v129_2 a0_0 a0_1 a0_2).take (Int.toNat ((v129_2 a0_0 a0_1 a0_2).length : Int)) ++ ([AV.agg [AV.int .i64 a1_0, AV.int .i64 a1_1]]) ++ (v129_2 a0_0 a0_1 a0_2).drop (Int.toNat ((v129_2 a0_0 a0_1 a0_2).length : Int)) else (v129_2 a0_0 a0_1 a0_2).take (Int.toNat (v172_0 (v129_2 a0_0 a0_1 a0_2) (AV.agg [AV.int .i64 a1_0, AV.int .i64 a1_1]))) ++ ([AV.agg [AV.int .i64 a1_0, AV.int .i64 a1_1]]) ++ (v129_2 a0_0 a0_1 a0_2).drop (Int.toNat (v172_0 (v129_2 a0_0 a0_1 a0_2) (AV.agg [AV.int .i64 a1_0, AV.int .i64 a1_1]))))])) (brL1 (fun _ => rfl)) (brL1 (fun _ => rfl))))) h)
def m150 : TModel
  | [.agg [.sl g0 a0_0, .sl g1 a0_1, .sl g2 a0_2], .agg [.int .i64 a1_0, .int .i64 a1_1]] => bif ctsEq g0 ([.int .i64]) && ctsEq g1 ([.int .i64]) && ctsEq g2 ([.int .i64, .int .i64]) then some (q150 a0_0 a0_1 a0_2 a1_0 a1_1, AV.agg [AV.fl [.int .i64] (v150_0 a0_0 a0_1 a0_2 a1_0 a1_1), AV.fl [.int .i64] (v150_1 a0_0 a0_1 a0_2 a1_0 a1_1), AV.fl [.int .i64, .int .i64] (v150_2 a0_0 a0_1 a0_2 a1_0 a1_1)]) else none
  | _ => none
theorem k150 : Known Try.prog 150 := ⟨Try.f150, Try.func150, by kernel_rfl, by kernel_rfl⟩
theorem i150_174 : InlK Try.prog [(150, 999, [4]), (174, 999, [6])] [(129, m129), (172, m172)] [] [174] [] 174 [(174, insA Try.prog 32)] := ⟨⟨Try.f174, Try.func174, by kernel_rfl, by kernel_rfl⟩, Try.f174, [], Try.func174, by kernel_rfl, fun _ _ => noLoop⟩
theorem meets150 : Meets Try.prog 150 m150 := by
  refine meet (f := Try.f150) (l := []) (hs := [(150, 999, [4]), (174, 999, [6])]) (ts := [(129, m129), (172, m172)]) (ws := []) (is := [174]) (ls := []) (sp := [(174, insA Try.prog 32)]) (hS := (allS_cons ins174 allS_nil)) (lvl := 1) mixed k150 Try.func150 (by kernel_rfl) noLoop (allT_cons meets129 (allT_cons meets172 allT_nil)) allM_nil (allI_cons i150_174 noI) fun w xs us r hl hv h => ?_
  unfold m150 at h
  split at h
  · rename_i g0 a0_0 g1 a0_1 g2 a0_2 a1_0 a1_1
    obtain ⟨hg, h⟩ := bif_pair h
    simp only [Bool.and_eq_true] at hg
    obtain ⟨⟨q0, q1⟩, q2⟩ := hg
    obtain rfl := ctsEq_eq _ _ q0
    obtain rfl := ctsEq_eq _ _ q1
    obtain rfl := ctsEq_eq _ _ q2
    obtain ⟨h1, rfl⟩ := pair_inj h
    exact r150 a0_0 a0_1 a0_2 a1_0 a1_1 h1
  · cases h

/-! ### 90 slices.Index[[]int,int] -/
def F90_0 (t0 : List AV) (t1 : Int) (t7 : Int) (t8 : Int) : Out (Int) (Unit ⊕ Int) := (bif decide (t8 < t7) then (bif (decide (0 ≤ t8) && decide (t8 < (t0.length : Int))) then (bif decide (t1 = fI (t0.getD t8.toNat AV.undef) 0) then .stop (.inr t8)
    else .next (IntKind.i64.wrap (t8 + 1)))
   else .fail)
  else .stop (.inl ()))
def R90_0 (t0 : List AV) (t1 : Int) (t7 : Int) : (Int) → Out (Int) (Unit ⊕ Int) := fun s : Int => F90_0 t0 t1 t7 s
def l90_0 : LModel := fun _ _ st k => match st with
  | ⟨[(0, .sl g0 t0), (1, .int .i64 t1), (7, .int .i64 t7), (8, .int .i64 t8)], []⟩ => bif ctsEq g0 ([.int .i64]) then ro (runW (R90_0 t0 t1 t7) ((t7 - t8).toNat + 1) t8) none (sumE (fun _ : Unit => k (.exit 0) ⟨[], []⟩) (fun p : Int => k .ret ⟨[(4, AV.int .i64 p)], []⟩)) else none
  | _ => none
noncomputable def c90 : Cfg := cfg Try.prog [(90, 0, [0, 1, 7, 8]), (90, 999, [4]), (90, 1000, []), (90, 1001, [0, 1, 7, 8])] [] [] [] [(90, 0, l90_0)]
theorem s90_0 (ce : CallE) (t0 : List AV) (t1 : Int) (t7 : Int) (t8 : Int) (next : St → Option AV) (k : Kont) : stepA (codeA c90 ce [] 90 0 (sub [1, 0, 1, 0, 0] (body Try.f90))) (normA [] [0, 1, 7, 8]) next ⟨[(0, AV.sl [.int .i64] t0), (1, AV.int .i64 t1), (7, AV.int .i64 t7), (8, AV.int .i64 t8)], []⟩ k = (bif decide (t8 < t7) then (bif (decide (0 ≤ t8) && decide (t8 < (t0.length : Int))) then (bif decide (t1 = fI (t0.getD t8.toNat AV.undef) 0) then k .ret ⟨[(4, AV.int .i64 t8)], []⟩
    else next ⟨[(0, AV.sl [.int .i64] t0), (1, AV.int .i64 t1), (7, AV.int .i64 t7), (8, AV.int .i64 (IntKind.i64.wrap (t8 + 1)))], []⟩)
   else none)
  else k (.exit 0) ⟨[], []⟩) := by kernel_rfl
theorem st90_0 (t0 : List AV) (t1 : Int) (t7 : Int) (ce : CallE) (k : Kont) (s : Int) (next : St → Option AV) : stepA (codeA c90 ce [] 90 0 (sub [1, 0, 1, 0, 0] (body Try.f90))) (normA [] [0, 1, 7, 8]) next ((fun s : Int => ⟨[(0, AV.sl [.int .i64] t0), (1, AV.int .i64 t1), (7, AV.int .i64 t7), (8, AV.int .i64 s)], []⟩) s) k = (R90_0 t0 t1 t7 s).el none (fun s => next ((fun s : Int => ⟨[(0, AV.sl [.int .i64] t0), (1, AV.int .i64 t1), (7, AV.int .i64 t7), (8, AV.int .i64 s)], []⟩) s)) (sumE (fun _ : Unit => k (.exit 0) ⟨[], []⟩) (fun p : Int => k .ret ⟨[(4, AV.int .i64 p)], []⟩)) := (s90_0 ce t0 t1 t7 s next k).trans (by unfold R90_0; unfold F90_0; simp only [el_cond, el_ro, el_sum, el_fail, el_next, el_stop] <;> rfl)
theorem ok90_0 {ce : CallE} : LoopOK c90 ce [] 90 0 (sub [1, 0, 1, 0, 0] (body Try.f90)) := by
  intro m hm st k r h
  obtain rfl : l90_0 = m := Option.some.inj hm
  unfold l90_0 at h
  split at h
  · rename_i g0 t0 t1 t7 t8
    obtain ⟨hg, h⟩ := bif_some h
    have q0 := hg
    obtain rfl := ctsEq_eq _ _ q0
    refine ⟨((t7 - t8).toNat + 1), ?_⟩
    rw [← h]
    exact loop_run (fun s : Int => ⟨[(0, AV.sl [.int .i64] t0), (1, AV.int .i64 t1), (7, AV.int .i64 t7), (8, AV.int .i64 s)], []⟩) (sumE (fun _ : Unit => k (.exit 0) ⟨[], []⟩) (fun p : Int => k .ret ⟨[(4, AV.int .i64 p)], []⟩)) (st90_0 t0 t1 t7 ce k) _ t8
  · cases h
def q90 (a0 : List AV) (a1 : Int) : Bool := (ro (runW (R90_0 a0 a1 (a0.length : Int)) (((a0.length : Int) - 0).toNat + 1) 0) false (sumE (fun _ => true) (fun p44 => true)))
def v90_0 (a0 : List AV) (a1 : Int) : Int := (ro (runW (R90_0 a0 a1 (a0.length : Int)) (((a0.length : Int) - 0).toNat + 1) 0) 0 (sumE (fun _ => (-1)) (fun p44 => p44)))
theorem e90 (a0 : List AV) (a1 : Int) : funA c90 0 90 [AV.sl [.int .i64] a0, AV.int .i64 a1] = (ro (runW (R90_0 a0 a1 (a0.length : Int)) (((a0.length : Int) - 0).toNat + 1) 0) none (sumE (fun _ => some (AV.int .i64 (-1))) (fun p44 => some (AV.int .i64 p44)))) := by kernel_rfl
theorem r90 (a0 : List AV) (a1 : Int) (h : q90 a0 a1 = true) : funA c90 0 90 [AV.sl [.int .i64] a0, AV.int .i64 a1] = some (AV.int .i64 (v90_0 a0 a1)) := (e90 a0 a1).trans ((brO (fun o : Option (Unit ⊕ Int) => some (AV.int .i64 (ro o 0 (sumE (fun _ => (-1)) (fun p44 => p44))))) (brS (fun o : Unit ⊕ Int => some (AV.int .i64 ((sumE (fun _ => (-1)) (fun p44 => p44)) o))) (fun _ => (fun _ => rfl)) (fun p44 => (fun _ => rfl)))) h)
def m90 : TModel
  | [.sl g0 a0, .int .i64 a1] => bif ctsEq g0 ([.int .i64]) then some (q90 a0 a1, AV.int .i64 (v90_0 a0 a1)) else none
  | _ => none
theorem k90 : Known Try.prog 90 := ⟨Try.f90, Try.func90, by kernel_rfl, by kernel_rfl⟩
theorem meets90 : Meets Try.prog 90 m90 := by
  refine meet (f := Try.f90) (l := [(0, sub [1, 0, 1, 0, 0] (body Try.f90))]) (hs := [(90, 0, [0, 1, 7, 8]), (90, 999, [4]), (90, 1000, []), (90, 1001, [0, 1, 7, 8])]) (ts := []) (ws := []) (is := []) (ls := [(90, 0, l90_0)]) (lvl := 0) mixed k90 Try.func90 (by kernel_rfl) (loops_cons ok90_0 noLoop) allT_nil allM_nil noI fun w xs us r hl hv h => ?_
  unfold m90 at h
  split at h
  · rename_i g0 a0 a1
    obtain ⟨hg, h⟩ := bif_pair h
    have q0 := hg
    obtain rfl := ctsEq_eq _ _ q0
    obtain ⟨h1, rfl⟩ := pair_inj h
    exact r90 a0 a1 h1
  · cases h

/-! ### 125 slices.Contains[[]int,int] -/
noncomputable def c125 : Cfg := cfg Try.prog [(125, 999, [4])] [(90, m90)] [] [] []
def q125 (a0 : List AV) (a1 : Int) : Bool := q90 a0 a1
def v125_0 (a0 : List AV) (a1 : Int) : Bool := decide ((v90_0 a0 a1) ≥ 0)
theorem e125 (a0 : List AV) (a1 : Int) : funA c125 0 125 [AV.sl [.int .i64] a0, AV.int .i64 a1] = (bif q90 a0 a1 then some (AV.bool (decide ((v90_0 a0 a1) ≥ 0)))
  else none) := by kernel_rfl
theorem r125 (a0 : List AV) (a1 : Int) (h : q125 a0 a1 = true) : funA c125 0 125 [AV.sl [.int .i64] a0, AV.int .i64 a1] = some (AV.bool (v125_0 a0 a1)) := (e125 a0 a1).trans ((brL1 (fun _ => rfl)) h)
def m125 : TModel
  | [.sl g0 a0, .int .i64 a1] => bif ctsEq g0 ([.int .i64]) then some (q125 a0 a1, AV.bool (v125_0 a0 a1)) else none
  | _ => none
theorem k125 : Known Try.prog 125 := ⟨Try.f125, Try.func125, by kernel_rfl, by kernel_rfl⟩
theorem meets125 : Meets Try.prog 125 m125 := by
  refine meet (f := Try.f125) (l := []) (hs := [(125, 999, [4])]) (ts := [(90, m90)]) (ws := []) (is := []) (ls := []) (lvl := 0) mixed k125 Try.func125 (by kernel_rfl) noLoop (allT_cons meets90 allT_nil) allM_nil noI fun w xs us r hl hv h => ?_
  unfold m125 at h
  split at h
  · rename_i g0 a0 a1
    obtain ⟨hg, h⟩ := bif_pair h
    have q0 := hg
    obtain rfl := ctsEq_eq _ _ q0
    obtain ⟨h1, rfl⟩ := pair_inj h
    exact r125 a0 a1 h1
  · cases h

/-! ### 71 loop.example/g01984/impl.IsCracker -/
def F71_4 (t50 : List AV) (t51 : Int) (t52 : Int) (t103 : List AV) (t104 : Int) (h0_0 : List AV) (h0_1 : List AV) (h0_2 : List AV) (h1_0 : Int) (h1_1 : Int) (t105 : Int) : Out (Int) (Unit ⊕ Unit) := (bif decide (t105 < t104) then (bif (decide (0 ≤ t105) && decide (t105 < (t103.length : Int))) then (bif !(decide (fI (t103.getD t105.toNat AV.undef) 0 < h1_0) == decide (t105 < h1_1)) then .stop (.inr ())
    else .next (IntKind.i64.wrap (t105 + 1)))
   else .fail)
  else .stop (.inl ()))
def R71_4 (t50 : List AV) (t51 : Int) (t52 : Int) (t103 : List AV) (t104 : Int) (h0_0 : List AV) (h0_1 : List AV) (h0_2 : List AV) (h1_0 : Int) (h1_1 : Int) : (Int) → Out (Int) (Unit ⊕ Unit) := fun s : Int => F71_4 t50 t51 t52 t103 t104 h0_0 h0_1 h0_2 h1_0 h1_1 s
def l71_4 : LModel := fun _ _ st k => match st with
  | ⟨[(1, .ptr g0 g1 g2), (6, .ptr g3 g4 g5), (50, .sl g6 t50), (51, .int .i64 t51), (52, .int .i64 t52), (103, .sl g7 t103), (104, .int .i64 t104), (105, .int .i64 t105)], [(g8, ⟨true, [], [.agg [.sl g9 h0_0, .sl g10 h0_1, .sl g11 h0_2]]⟩), (g12, ⟨true, [], [.agg [.int .i64 h1_0, .int .i64 h1_1]]⟩)]⟩ => bif nmEq g0 ([0, 1]) && Nat.beq g1 0 && Nat.beq g2 0 && nmEq g3 ([0, 6]) && Nat.beq g4 0 && Nat.beq g5 0 && ctsEq g6 ([.int .i64, .int .i64]) && ctsEq g7 ([.int .i64]) && nmEq g8 ([0, 1]) && ctsEq g9 ([.int .i64]) && ctsEq g10 ([.int .i64]) && ctsEq g11 ([.int .i64, .int .i64]) && nmEq g12 ([0, 6]) then ro (runW (R71_4 t50 t51 t52 t103 t104 h0_0 h0_1 h0_2 h1_0 h1_1) ((t104 - t105).toNat + 1) t105) none (sumE (fun _ : Unit => k (.exit 4) ⟨[(1, AV.ptr [0, 1] 0 0), (50, AV.sl [.int .i64, .int .i64] t50), (51, AV.int .i64 t51), (52, AV.int .i64 t52)], [([0, 1], ⟨true, [], [AV.agg [AV.sl [.int .i64] h0_0, AV.sl [.int .i64] h0_1, AV.sl [.int .i64, .int .i64] h0_2]]⟩), ([0, 6], ⟨true, [], [AV.agg [AV.int .i64 h1_0, AV.int .i64 h1_1]]⟩)]⟩) (fun _ : Unit => k .ret ⟨[(2, AV.bool false)], [([0, 1], ⟨true, [], [AV.agg [AV.sl [.int .i64] h0_0, AV.sl [.int .i64] h0_1, AV.sl [.int .i64, .int .i64] h0_2]]⟩), ([0, 6], ⟨true, [], [AV.agg [AV.int .i64 h1_0, AV.int .i64 h1_1]]⟩)]⟩)) else none
  | _ => none
def F71_2 (t50 : List AV) (t51 : Int) (h0_0 : List AV) (h0_1 : List AV) (h0_2 : List AV) (t52 : Int) : Out (Int) (Unit ⊕ (Int × Int) ⊕ (Int × Int)) := (bif decide (t52 < t51) then (bif (decide (0 ≤ t52) && decide (t52 < (t50.length : Int))) then (bif !(v98_0 (fI (t50.getD t52.toNat AV.undef) 0)) then .stop (.inr (.inl (fI (t50.getD t52.toNat AV.undef) 0, fI (t50.getD t52.toNat AV.undef) 1)))
    else (bif decide (fI (t50.getD t52.toNat AV.undef) 1 < 0) then .stop (.inr (.inl (fI (t50.getD t52.toNat AV.undef) 0, fI (t50.getD t52.toNat AV.undef) 1)))
     else (bif decide (fI (t50.getD t52.toNat AV.undef) 1 > (h0_0.length : Int)) then .stop (.inr (.inl (fI (t50.getD t52.toNat AV.undef) 0, fI (t50.getD t52.toNat AV.undef) 1)))
      else (bif decide (t52 > 0) then (bif (decide (0 ≤ IntKind.i64.wrap (t52 - 1)) && decide (IntKind.i64.wrap (t52 - 1) < (h0_2.length : Int))) then (bif decide (fI (t50.getD t52.toNat AV.undef) 0 ≤ fI (h0_2.getD (IntKind.i64.wrap (t52 - 1)).toNat AV.undef) 0) then .stop (.inr (.inl (fI (t50.getD t52.toNat AV.undef) 0, fI (t50.getD t52.toNat AV.undef) 1)))
         else (bif (decide (0 ≤ IntKind.i64.wrap (t52 - 1)) && decide (IntKind.i64.wrap (t52 - 1) < (h0_2.length : Int))) then (bif decide (fI (t50.getD t52.toNat AV.undef) 1 < fI (h0_2.getD (IntKind.i64.wrap (t52 - 1)).toNat AV.undef) 1) then .stop (.inr (.inl (fI (t50.getD t52.toNat AV.undef) 0, fI (t50.getD t52.toNat AV.undef) 1)))
           else (ro (runW (R71_4 t50 t51 t52 h0_0 (h0_0.length : Int) h0_0 h0_1 h0_2 (fI (t50.getD t52.toNat AV.undef) 0) (fI (t50.getD t52.toNat AV.undef) 1)) (((h0_0.length : Int) - 0).toNat + 1) 0) .fail (sumE (fun _ => .next (IntKind.i64.wrap (t52 + 1))) (fun _ => .stop (.inr (.inr (fI (t50.getD t52.toNat AV.undef) 0, fI (t50.getD t52.toNat AV.undef) 1)))))))
          else .fail))
        else .fail)
       else (ro (runW (R71_4 t50 t51 t52 h0_0 (h0_0.length : Int) h0_0 h0_1 h0_2 (fI (t50.getD t52.toNat AV.undef) 0) (fI (t50.getD t52.toNat AV.undef) 1)) (((h0_0.length : Int) - 0).toNat + 1) 0) .fail (sumE (fun _ => .next (IntKind.i64.wrap (t52 + 1))) (fun _ => .stop (.inr (.inr (fI (t50.getD t52.toNat AV.undef) 0, fI (t50.getD t52.toNat AV.undef) 1))))))))))
   else .fail)
  else .stop (.inl ()))
def R71_2 (t50 : List AV) (t51 : Int) (h0_0 : List AV) (h0_1 : List AV) (h0_2 : List AV) : (Int) → Out (Int) (Unit ⊕ (Int × Int) ⊕ (Int × Int)) := fun s : Int => F71_2 t50 t51 h0_0 h0_1 h0_2 s
def l71_2 : LModel := fun _ _ st k => match st with
  | ⟨[(1, .ptr g0 g1 g2), (50, .sl g3 t50), (51, .int .i64 t51), (52, .int .i64 t52)], [(g4, ⟨true, [], [.agg [.sl g5 h0_0, .sl g6 h0_1, .sl g7 h0_2]]⟩)]⟩ => bif nmEq g0 ([0, 1]) && Nat.beq g1 0 && Nat.beq g2 0 && ctsEq g3 ([.int .i64, .int .i64]) && nmEq g4 ([0, 1]) && ctsEq g5 ([.int .i64]) && ctsEq g6 ([.int .i64]) && ctsEq g7 ([.int .i64, .int .i64]) then ro (runW (R71_2 t50 t51 h0_0 h0_1 h0_2) ((t51 - t52).toNat + 1) t52) none (sumE (fun _ : Unit => k (.exit 2) ⟨[], [([0, 1], ⟨true, [], [AV.agg [AV.sl [.int .i64] h0_0, AV.sl [.int .i64] h0_1, AV.sl [.int .i64, .int .i64] h0_2]]⟩)]⟩) (sumE (fun p : Int × Int => k .ret ⟨[(2, AV.bool false)], [([0, 1], ⟨true, [], [AV.agg [AV.sl [.int .i64] h0_0, AV.sl [.int .i64] h0_1, AV.sl [.int .i64, .int .i64] h0_2]]⟩), ([1, 6], ⟨true, [], [AV.agg [AV.int .i64 p.1, AV.int .i64 p.2]]⟩)]⟩) (fun p : Int × Int => k .ret ⟨[(2, AV.bool false)], [([0, 1], ⟨true, [], [AV.agg [AV.sl [.int .i64] h0_0, AV.sl [.int .i64] h0_1, AV.sl [.int .i64, .int .i64] h0_2]]⟩), ([0, 6], ⟨true, [], [AV.agg [AV.int .i64 p.1, AV.int .i64 p.2]]⟩)]⟩))) else none
  | _ => none
def F71_0 (t35 : List AV) (t36 : Int) (h0_0 : List AV) (h0_1 : List AV) (h0_2 : List AV) (t37 : Int) : Out (Int) (Unit ⊕ Unit) := (bif decide (t37 < t36) then (bif (decide (0 ≤ t37) && decide (t37 < (t35.length : Int))) then (bif (decide (0 ≤ 0) && decide (0 ≤ t37) && decide (t37 ≤ (h0_1.length : Int))) then (bif q125 ((h0_1.take (Int.toNat t37)).drop (Int.toNat 0)) (fI (t35.getD t37.toNat AV.undef) 0) then (bif (v125_0 ((h0_1.take (Int.toNat t37)).drop (Int.toNat 0)) (fI (t35.getD t37.toNat AV.undef) 0)) then .stop (.inr ())
      else .next (IntKind.i64.wrap (t37 + 1)))
     else .fail)
    else .fail)
   else .fail)
  else .stop (.inl ()))
def R71_0 (t35 : List AV) (t36 : Int) (h0_0 : List AV) (h0_1 : List AV) (h0_2 : List AV) : (Int) → Out (Int) (Unit ⊕ Unit) := fun s : Int => F71_0 t35 t36 h0_0 h0_1 h0_2 s
def l71_0 : LModel := fun _ _ st k => match st with
  | ⟨[(1, .ptr g0 g1 g2), (35, .sl g3 t35), (36, .int .i64 t36), (37, .int .i64 t37)], [(g4, ⟨true, [], [.agg [.sl g5 h0_0, .sl g6 h0_1, .sl g7 h0_2]]⟩)]⟩ => bif nmEq g0 ([0, 1]) && Nat.beq g1 0 && Nat.beq g2 0 && ctsEq g3 ([.int .i64]) && nmEq g4 ([0, 1]) && ctsEq g5 ([.int .i64]) && ctsEq g6 ([.int .i64]) && ctsEq g7 ([.int .i64, .int .i64]) then ro (runW (R71_0 t35 t36 h0_0 h0_1 h0_2) ((t36 - t37).toNat + 1) t37) none (sumE (fun _ : Unit => k (.exit 0) ⟨[(1, AV.ptr [0, 1] 0 0)], [([0, 1], ⟨true, [], [AV.agg [AV.sl [.int .i64] h0_0, AV.sl [.int .i64] h0_1, AV.sl [.int .i64, .int .i64] h0_2]]⟩)]⟩) (fun _ : Unit => k .ret ⟨[(2, AV.bool false)], [([0, 1], ⟨true, [], [AV.agg [AV.sl [.int .i64] h0_0, AV.sl [.int .i64] h0_1, AV.sl [.int .i64, .int .i64] h0_2]]⟩)]⟩)) else none
  | _ => none
noncomputable def c71 : Cfg := cfg Try.prog [(71, 0, [1, 35, 36, 37]), (71, 2, [1, 50, 51, 52]), (71, 4, [1, 6, 50, 51, 52, 103, 104, 105]), (71, 999, [2]), (71, 1000, [1]), (71, 1001, [1, 35, 36, 37]), (71, 1002, []), (71, 1003, [1, 50, 51, 52]), (71, 1004, [1, 50, 51, 52]), (71, 1005, [1, 6, 50, 51, 52, 103, 104, 105])] [(98, m98), (105, m105), (124, m124), (125, m125)] [] [] [(71, 0, l71_0), (71, 2, l71_2), (71, 4, l71_4)]
theorem s71_4 (ce : CallE) (t50 : List AV) (t51 : Int) (t52 : Int) (t103 : List AV) (t104 : Int) (t105 : Int) (h0_0 : List AV) (h0_1 : List AV) (h0_2 : List AV) (h1_0 : Int) (h1_1 : Int) (next : St → Option AV) (k : Kont) : stepA (codeA c71 ce [] 71 4 (sub [1, 1, 1, 0, 1, 0, 0, 1, 1, 0, 0, 1, 1, 1, 0, 0] (body Try.f71))) (normA [] [1, 6, 50, 51, 52, 103, 104, 105]) next ⟨[(1, AV.ptr [0, 1] 0 0), (6, AV.ptr [0, 6] 0 0), (50, AV.sl [.int .i64, .int .i64] t50), (51, AV.int .i64 t51), (52, AV.int .i64 t52), (103, AV.sl [.int .i64] t103), (104, AV.int .i64 t104), (105, AV.int .i64 t105)], [([0, 1], ⟨true, [], [AV.agg [AV.sl [.int .i64] h0_0, AV.sl [.int .i64] h0_1, AV.sl [.int .i64, .int .i64] h0_2]]⟩), ([0, 6], ⟨true, [], [AV.agg [AV.int .i64 h1_0, AV.int .i64 h1_1]]⟩)]⟩ k = (bif decide (t105 < t104) then (bif (decide (0 ≤ t105) && decide (t105 < (t103.length : Int))) then (bif !(decide (fI (t103.getD t105.toNat AV.undef) 0 < h1_0) == decide (t105 < h1_1)) then k .ret ⟨[(2, AV.bool false)], [([0, 1], ⟨true, [], [AV.agg [AV.sl [.int .i64] h0_0, AV.sl [.int .i64] h0_1, AV.sl [.int .i64, .int .i64] h0_2]]⟩), ([0, 6], ⟨true, [], [AV.agg [AV.int .i64 h1_0, AV.int .i64 h1_1]]⟩)]⟩
    else next ⟨[(1, AV.ptr [0, 1] 0 0), (6, AV.ptr [0, 6] 0 0), (50, AV.sl [.int .i64, .int .i64] t50), (51, AV.int .i64 t51), (52, AV.int .i64 t52), (103, AV.sl [.int .i64] t103), (104, AV.int .i64 t104), (105, AV.int .i64 (IntKind.i64.wrap (t105 + 1)))], [([0, 1], ⟨true, [], [AV.agg [AV.sl [.int .i64] h0_0, AV.sl [.int .i64] h0_1, AV.sl [.int .i64, .int .i64] h0_2]]⟩), ([0, 6], ⟨true, [], [AV.agg [AV.int .i64 h1_0, AV.int .i64 h1_1]]⟩)]⟩)
   else none)
  else k (.exit 4) ⟨[(1, AV.ptr [0, 1] 0 0), (50, AV.sl [.int .i64, .int .i64] t50), (51, AV.int .i64 t51), (52, AV.int .i64 t52)], [([0, 1], ⟨true, [], [AV.agg [AV.sl [.int .i64] h0_0, AV.sl [.int .i64] h0_1, AV.sl [.int .i64, .int .i64] h0_2]]⟩), ([0, 6], ⟨true, [], [AV.agg [AV.int .i64 h1_0, AV.int .i64 h1_1]]⟩)]⟩) := by kernel_rfl
theorem st71_4 (t50 : List AV) (t51 : Int) (t52 : Int) (t103 : List AV) (t104 : Int) (h0_0 : List AV) (h0_1 : List AV) (h0_2 : List AV) (h1_0 : Int) (h1_1 : Int) (ce : CallE) (k : Kont) (s : Int) (next : St → Option AV) : stepA (codeA c71 ce [] 71 4 (sub [1, 1, 1, 0, 1, 0, 0, 1, 1, 0, 0, 1, 1, 1, 0, 0] (body Try.f71))) (normA [] [1, 6, 50, 51, 52, 103, 104, 105]) next ((fun s : Int => ⟨[(1, AV.ptr [0, 1] 0 0), (6, AV.ptr [0, 6] 0 0), (50, AV.sl [.int .i64, .int .i64] t50), (51, AV.int .i64 t51), (52, AV.int .i64 t52), (103, AV.sl [.int .i64] t103), (104, AV.int .i64 t104), (105, AV.int .i64 s)], [([0, 1], ⟨true, [], [AV.agg [AV.sl [.int .i64] h0_0, AV.sl [.int .i64] h0_1, AV.sl [.int .i64, .int .i64] h0_2]]⟩), ([0, 6], ⟨true, [], [AV.agg [AV.int .i64 h1_0, AV.int .i64 h1_1]]⟩)]⟩) s) k = (R71_4 t50 t51 t52 t103 t104 h0_0 h0_1 h0_2 h1_0 h1_1 s).el none (fun s => next ((fun s : Int => ⟨[(1, AV.ptr [0, 1] 0 0), (6, AV.ptr [0, 6] 0 0), (50, AV.sl [.int .i64, .int .i64] t50), (51, AV.int .i64 t51), (52, AV.int .i64 t52), (103, AV.sl [.int .i64] t103), (104, AV.int .i64 t104), (105, AV.int .i64 s)], [([0, 1], ⟨true, [], [AV.agg [AV.sl [.int .i64] h0_0, AV.sl [.int .i64] h0_1, AV.sl [.int .i64, .int .i64] h0_2]]⟩), ([0, 6], ⟨true, [], [AV.agg [AV.int .i64 h1_0, AV.int .i64 h1_1]]⟩)]⟩) s)) (sumE (fun _ : Unit => k (.exit 4) ⟨[(1, AV.ptr [0, 1] 0 0), (50, AV.sl [.int .i64, .int .i64] t50), (51, AV.int .i64 t51), (52, AV.int .i64 t52)], [([0, 1], ⟨true, [], [AV.agg [AV.sl [.int .i64] h0_0, AV.sl [.int .i64] h0_1, AV.sl [.int .i64, .int .i64] h0_2]]⟩), ([0, 6], ⟨true, [], [AV.agg [AV.int .i64 h1_0, AV.int .i64 h1_1]]⟩)]⟩) (fun _ : Unit => k .ret ⟨[(2, AV.bool false)], [([0, 1], ⟨true, [], [AV.agg [AV.sl [.int .i64] h0_0, AV.sl [.int .i64] h0_1, AV.sl [.int .i64, .int .i64] h0_2]]⟩), ([0, 6], ⟨true, [], [AV.agg [AV.int .i64 h1_0, AV.int .i64 h1_1]]⟩)]⟩)) := (s71_4 ce t50 t51 t52 t103 t104 s h0_0 h0_1 h0_2 h1_0 h1_1 next k).trans (by unfold R71_4; unfold F71_4; simp only [el_cond, el_ro, el_sum, el_fail, el_next, el_stop] <;> rfl)
theorem ok71_4 {ce : CallE} : LoopOK c71 ce [] 71 4 (sub [1, 1, 1, 0, 1, 0, 0, 1, 1, 0, 0, 1, 1, 1, 0, 0] (body Try.f71)) := by
  intro m hm st k r h
  obtain rfl : l71_4 = m := Option.some.inj hm
  unfold l71_4 at h
  split at h
  · rename_i g0 g1 g2 g3 g4 g5 g6 t50 t51 t52 g7 t103 t104 t105 g8 g9 h0_0 g10 h0_1 g11 h0_2 g12 h1_0 h1_1
    obtain ⟨hg, h⟩ := bif_some h
    simp only [Bool.and_eq_true] at hg
    obtain ⟨⟨⟨⟨⟨⟨⟨⟨⟨⟨⟨⟨q0, q1⟩, q2⟩, q3⟩, q4⟩, q5⟩, q6⟩, q7⟩, q8⟩, q9⟩, q10⟩, q11⟩, q12⟩ := hg
    obtain rfl := (nmEq_iff _ _).1 q0
    obtain rfl := Nat.eq_of_beq_eq_true q1
    obtain rfl := Nat.eq_of_beq_eq_true q2
    obtain rfl := (nmEq_iff _ _).1 q3
    obtain rfl := Nat.eq_of_beq_eq_true q4
    obtain rfl := Nat.eq_of_beq_eq_true q5
    obtain rfl := ctsEq_eq _ _ q6
    obtain rfl := ctsEq_eq _ _ q7
    obtain rfl := (nmEq_iff _ _).1 q8
    obtain rfl := ctsEq_eq _ _ q9
    obtain rfl := ctsEq_eq _ _ q10
    obtain rfl := ctsEq_eq _ _ q11
    obtain rfl := (nmEq_iff _ _).1 q12
    refine ⟨((t104 - t105).toNat + 1), ?_⟩
    rw [← h]
    exact loop_run (fun s : Int => ⟨[(1, AV.ptr [0, 1] 0 0), (6, AV.ptr [0, 6] 0 0), (50, AV.sl [.int .i64, .int .i64] t50), (51, AV.int .i64 t51), (52, AV.int .i64 t52), (103, AV.sl [.int .i64] t103), (104, AV.int .i64 t104), (105, AV.int .i64 s)], [([0, 1], ⟨true, [], [AV.agg [AV.sl [.int .i64] h0_0, AV.sl [.int .i64] h0_1, AV.sl [.int .i64, .int .i64] h0_2]]⟩), ([0, 6], ⟨true, [], [AV.agg [AV.int .i64 h1_0, AV.int .i64 h1_1]]⟩)]⟩) (sumE (fun _ : Unit => k (.exit 4) ⟨[(1, AV.ptr [0, 1] 0 0), (50, AV.sl [.int .i64, .int .i64] t50), (51, AV.int .i64 t51), (52, AV.int .i64 t52)], [([0, 1], ⟨true, [], [AV.agg [AV.sl [.int .i64] h0_0, AV.sl [.int .i64] h0_1, AV.sl [.int .i64, .int .i64] h0_2]]⟩), ([0, 6], ⟨true, [], [AV.agg [AV.int .i64 h1_0, AV.int .i64 h1_1]]⟩)]⟩) (fun _ : Unit => k .ret ⟨[(2, AV.bool false)], [([0, 1], ⟨true, [], [AV.agg [AV.sl [.int .i64] h0_0, AV.sl [.int .i64] h0_1, AV.sl [.int .i64, .int .i64] h0_2]]⟩), ([0, 6], ⟨true, [], [AV.agg [AV.int .i64 h1_0, AV.int .i64 h1_1]]⟩)]⟩)) (st71_4 t50 t51 t52 t103 t104 h0_0 h0_1 h0_2 h1_0 h1_1 ce k) _ t105
  · cases h
theorem s71_2 (ce : CallE) (t50 : List AV) (t51 : Int) (t52 : Int) (h0_0 : List AV) (h0_1 : List AV) (h0_2 : List AV) (next : St → Option AV) (k : Kont) : stepA (codeA c71 ce [] 71 2 (sub [1, 1, 1, 0, 1, 0, 0] (body Try.f71))) (normA [] [1, 50, 51, 52]) next ⟨[(1, AV.ptr [0, 1] 0 0), (50, AV.sl [.int .i64, .int .i64] t50), (51, AV.int .i64 t51), (52, AV.int .i64 t52)], [([0, 1], ⟨true, [], [AV.agg [AV.sl [.int .i64] h0_0, AV.sl [.int .i64] h0_1, AV.sl [.int .i64, .int .i64] h0_2]]⟩)]⟩ k = (bif decide (t52 < t51) then (bif (decide (0 ≤ t52) && decide (t52 < (t50.length : Int))) then (bif !(v98_0 (fI (t50.getD t52.toNat AV.undef) 0)) then k .ret ⟨[(2, AV.bool false)], [([0, 1], ⟨true, [], [AV.agg [AV.sl [.int .i64] h0_0, AV.sl [.int .i64] h0_1, AV.sl [.int .i64, .int .i64] h0_2]]⟩), ([1, 6], ⟨true, [], [AV.agg [AV.int .i64 (fI (t50.getD t52.toNat AV.undef) 0), AV.int .i64 (fI (t50.getD t52.toNat AV.undef) 1)]]⟩)]⟩
    else (bif decide (fI (t50.getD t52.toNat AV.undef) 1 < 0) then k .ret ⟨[(2, AV.bool false)], [([0, 1], ⟨true, [], [AV.agg [AV.sl [.int .i64] h0_0, AV.sl [.int .i64] h0_1, AV.sl [.int .i64, .int .i64] h0_2]]⟩), ([1, 6], ⟨true, [], [AV.agg [AV.int .i64 (fI (t50.getD t52.toNat AV.undef) 0), AV.int .i64 (fI (t50.getD t52.toNat AV.undef) 1)]]⟩)]⟩
     else (bif decide (fI (t50.getD t52.toNat AV.undef) 1 > (h0_0.length : Int)) then k .ret ⟨[(2, AV.bool false)], [([0, 1], ⟨true, [], [AV.agg [AV.sl [.int .i64] h0_0, AV.sl [.int .i64] h0_1, AV.sl [.int .i64, .int .i64] h0_2]]⟩), ([1, 6], ⟨true, [], [AV.agg [AV.int .i64 (fI (t50.getD t52.toNat AV.undef) 0), AV.int .i64 (fI (t50.getD t52.toNat AV.undef) 1)]]⟩)]⟩
      else (bif decide (t52 > 0) then (bif (decide (0 ≤ IntKind.i64.wrap (t52 - 1)) && decide (IntKind.i64.wrap (t52 - 1) < (h0_2.length : Int))) then (bif decide (fI (t50.getD t52.toNat AV.undef) 0 ≤ fI (h0_2.getD (IntKind.i64.wrap (t52 - 1)).toNat AV.undef) 0) then k .ret ⟨[(2, AV.bool false)], [([0, 1], ⟨true, [], [AV.agg [AV.sl [.int .i64] h0_0, AV.sl [.int .i64] h0_1, AV.sl [.int .i64, .int .i64] h0_2]]⟩), ([1, 6], ⟨true, [], [AV.agg [AV.int .i64 (fI (t50.getD t52.toNat AV.undef) 0), AV.int .i64 (fI (t50.getD t52.toNat AV.undef) 1)]]⟩)]⟩
         else (bif (decide (0 ≤ IntKind.i64.wrap (t52 - 1)) && decide (IntKind.i64.wrap (t52 - 1) < (h0_2.length : Int))) then (bif decide (fI (t50.getD t52.toNat AV.undef) 1 < fI (h0_2.getD (IntKind.i64.wrap (t52 - 1)).toNat AV.undef) 1) then k .ret ⟨[(2, AV.bool false)], [([0, 1], ⟨true, [], [AV.agg [AV.sl [.int .i64] h0_0, AV.sl [.int .i64] h0_1, AV.sl [.int .i64, .int .i64] h0_2]]⟩), ([1, 6], ⟨true, [], [AV.agg [AV.int .i64 (fI (t50.getD t52.toNat AV.undef) 0), AV.int .i64 (fI (t50.getD t52.toNat AV.undef) 1)]]⟩)]⟩
           else (ro (runW (R71_4 t50 t51 t52 h0_0 (h0_0.length : Int) h0_0 h0_1 h0_2 (fI (t50.getD t52.toNat AV.undef) 0) (fI (t50.getD t52.toNat AV.undef) 1)) (((h0_0.length : Int) - 0).toNat + 1) 0) none (sumE (fun _ => next ⟨[(1, AV.ptr [0, 1] 0 0), (50, AV.sl [.int .i64, .int .i64] t50), (51, AV.int .i64 t51), (52, AV.int .i64 (IntKind.i64.wrap (t52 + 1)))], [([0, 1], ⟨true, [], [AV.agg [AV.sl [.int .i64] h0_0, AV.sl [.int .i64] h0_1, AV.sl [.int .i64, .int .i64] h0_2]]⟩)]⟩) (fun _ => k .ret ⟨[(2, AV.bool false)], [([0, 1], ⟨true, [], [AV.agg [AV.sl [.int .i64] h0_0, AV.sl [.int .i64] h0_1, AV.sl [.int .i64, .int .i64] h0_2]]⟩), ([0, 6], ⟨true, [], [AV.agg [AV.int .i64 (fI (t50.getD t52.toNat AV.undef) 0), AV.int .i64 (fI (t50.getD t52.toNat AV.undef) 1)]]⟩)]⟩))))
          else none))
        else none)
       else (ro (runW (R71_4 t50 t51 t52 h0_0 (h0_0.length : Int) h0_0 h0_1 h0_2 (fI (t50.getD t52.toNat AV.undef) 0) (fI (t50.getD t52.toNat AV.undef) 1)) (((h0_0.length : Int) - 0).toNat + 1) 0) none (sumE (fun _ => next ⟨[(1, AV.ptr [0, 1] 0 0), (50, AV.sl [.int .i64, .int .i64] t50), (51, AV.int .i64 t51), (52, AV.int .i64 (IntKind.i64.wrap (t52 + 1)))], [([0, 1], ⟨true, [], [AV.agg [AV.sl [.int .i64] h0_0, AV.sl [.int .i64] h0_1, AV.sl [.int .i64, .int .i64] h0_2]]⟩)]⟩) (fun _ => k .ret ⟨[(2, AV.bool false)], [([0, 1], ⟨true, [], [AV.agg [AV.sl [.int .i64] h0_0, AV.sl [.int .i64] h0_1, AV.sl [.int .i64, .int .i64] h0_2]]⟩), ([0, 6], ⟨true, [], [AV.agg [AV.int .i64 (fI (t50.getD t52.toNat AV.undef) 0), AV.int .i64 (fI (t50.getD t52.toNat AV.undef) 1)]]⟩)]⟩)))))))
   else none)
  else k (.exit 2) ⟨[], [([0, 1], ⟨true, [], [AV.agg [AV.sl [.int .i64] h0_0, AV.sl [.int .i64] h0_1, AV.sl [.int .i64, .int .i64] h0_2]]⟩)]⟩) := by kernel_rfl
theorem st71_2 (t50 : List AV) (t51 : Int) (h0_0 : List AV) (h0_1 : List AV) (h0_2 : List AV) (ce : CallE) (k : Kont) (s : Int) (next : St → Option AV) : stepA (codeA c71 ce [] 71 2 (sub [1, 1, 1, 0, 1, 0, 0] (body Try.f71))) (normA [] [1, 50, 51, 52]) next ((fun s : Int => ⟨[(1, AV.ptr [0, 1] 0 0), (50, AV.sl [.int .i64, .int .i64] t50), (51, AV.int .i64 t51), (52, AV.int .i64 s)], [([0, 1], ⟨true, [], [AV.agg [AV.sl [.int .i64] h0_0, AV.sl [.int .i64] h0_1, AV.sl [.int .i64, .int .i64] h0_2]]⟩)]⟩) s) k = (R71_2 t50 t51 h0_0 h0_1 h0_2 s).el none (fun s => next ((fun s : Int => ⟨[(1, AV.ptr [0, 1] 0 0), (50, AV.sl [.int .i64, .int .i64] t50), (51, AV.int .i64 t51), (52, AV.int .i64 s)], [([0, 1], ⟨true, [], [AV.agg [AV.sl [.int .i64] h0_0, AV.sl [.int .i64] h0_1, AV.sl [.int .i64, .int .i64] h0_2]]⟩)]⟩) s)) (sumE (fun _ : Unit => k (.exit 2) ⟨[], [([0, 1], ⟨true, [], [AV.agg [AV.sl [.int .i64] h0_0, AV.sl [.int .i64] h0_1, AV.sl [.int .i64, .int .i64] h0_2]]⟩)]⟩) (sumE (fun p : Int × Int => k .ret ⟨[(2, AV.bool false)], [([0, 1], ⟨true, [], [AV.agg [AV.sl [.int .i64] h0_0, AV.sl [.int .i64] h0_1, AV.sl [.int .i64, .int .i64] h0_2]]⟩), ([1, 6], ⟨true, [], [AV.agg [AV.int .i64 p.1, AV.int .i64 p.2]]⟩)]⟩) (fun p : Int × Int => k .ret ⟨[(2, AV.bool false)], [([0, 1], ⟨true, [], [AV.agg [AV.sl [.int .i64] h0_0, AV.sl [.int .i64] h0_1, AV.sl [.int .i64, .int .i64] h0_2]]⟩), ([0, 6], ⟨true, [], [AV.agg [AV.int .i64 p.1, AV.int .i64 p.2]]⟩)]⟩))) := (s71_2 ce t50 t51 s h0_0 h0_1 h0_2 next k).trans (by unfold R71_2; unfold F71_2; simp only [el_cond, el_ro, el_sum, el_fail, el_next, el_stop] <;> rfl)
theorem ok71_2 {ce : CallE} : LoopOK c71 ce [] 71 2 (sub [1, 1, 1, 0, 1, 0, 0] (body Try.f71)) := by
  intro m hm st k r h
  obtain rfl : l71_2 = m := Option.some.inj hm
  unfold l71_2 at h
  split at h
  · rename_i g0 g1 g2 g3 t50 t51 t52 g4 g5 h0_0 g6 h0_1 g7 h0_2
    obtain ⟨hg, h⟩ := bif_some h
    simp only [Bool.and_eq_true] at hg
    obtain ⟨⟨⟨⟨⟨⟨⟨q0, q1⟩, q2⟩, q3⟩, q4⟩, q5⟩, q6⟩, q7⟩ := hg
    obtain rfl := (nmEq_iff _ _).1 q0
    obtain rfl := Nat.eq_of_beq_eq_true q1
    obtain rfl := Nat.eq_of_beq_eq_true q2
    obtain rfl := ctsEq_eq _ _ q3
    obtain rfl := (nmEq_iff _ _).1 q4
    obtain rfl := ctsEq_eq _ _ q5
    obtain rfl := ctsEq_eq _ _ q6
    obtain rfl := ctsEq_eq _ _ q7
    refine ⟨((t51 - t52).toNat + 1), ?_⟩
    rw [← h]
    exact loop_run (fun s : Int => ⟨[(1, AV.ptr [0, 1] 0 0), (50, AV.sl [.int .i64, .int .i64] t50), (51, AV.int .i64 t51), (52, AV.int .i64 s)], [([0, 1], ⟨true, [], [AV.agg [AV.sl [.int .i64] h0_0, AV.sl [.int .i64] h0_1, AV.sl [.int .i64, .int .i64] h0_2]]⟩)]⟩) (sumE (fun _ : Unit => k (.exit 2) ⟨[], [([0, 1], ⟨true, [], [AV.agg [AV.sl [.int .i64] h0_0, AV.sl [.int .i64] h0_1, AV.sl [.int .i64, .int .i64] h0_2]]⟩)]⟩) (sumE (fun p : Int × Int => k .ret ⟨[(2, AV.bool false)], [([0, 1], ⟨true, [], [AV.agg [AV.sl [.int .i64] h0_0, AV.sl [.int .i64] h0_1, AV.sl [.int .i64, .int .i64] h0_2]]⟩), ([1, 6], ⟨true, [], [AV.agg [AV.int .i64 p.1, AV.int .i64 p.2]]⟩)]⟩) (fun p : Int × Int => k .ret ⟨[(2, AV.bool false)], [([0, 1], ⟨true, [], [AV.agg [AV.sl [.int .i64] h0_0, AV.sl [.int .i64] h0_1, AV.sl [.int .i64, .int .i64] h0_2]]⟩), ([0, 6], ⟨true, [], [AV.agg [AV.int .i64 p.1, AV.int .i64 p.2]]⟩)]⟩))) (st71_2 t50 t51 h0_0 h0_1 h0_2 ce k) _ t52
  · cases h
theorem s71_0 (ce : CallE) (t35 : List AV) (t36 : Int) (t37 : Int) (h0_0 : List AV) (h0_1 : List AV) (h0_2 : List AV) (next : St → Option AV) (k : Kont) : stepA (codeA c71 ce [] 71 0 (sub [1, 1, 0, 1, 0, 0] (body Try.f71))) (normA [] [1, 35, 36, 37]) next ⟨[(1, AV.ptr [0, 1] 0 0), (35, AV.sl [.int .i64] t35), (36, AV.int .i64 t36), (37, AV.int .i64 t37)], [([0, 1], ⟨true, [], [AV.agg [AV.sl [.int .i64] h0_0, AV.sl [.int .i64] h0_1, AV.sl [.int .i64, .int .i64] h0_2]]⟩)]⟩ k = (bif decide (t37 < t36) then (bif (decide (0 ≤ t37) && decide (t37 < (t35.length : Int))) then (bif (decide (0 ≤ 0) && decide (0 ≤ t37) && decide (t37 ≤ (h0_1.length : Int))) then (bif q125 ((h0_1.take (Int.toNat t37)).drop (Int.toNat 0)) (fI (t35.getD t37.toNat AV.undef) 0) then (bif (v125_0 ((h0_1.take (Int.toNat t37)).drop (Int.toNat 0)) (fI (t35.getD t37.toNat AV.undef) 0)) then k .ret ⟨[(2, AV.bool false)], [([0, 1], ⟨true, [], [AV.agg [AV.sl [.int .i64] h0_0, AV.sl [.int .i64] h0_1, AV.sl [.int .i64, .int .i64] h0_2]]⟩)]⟩
      else next ⟨[(1, AV.ptr [0, 1] 0 0), (35, AV.sl [.int .i64] t35), (36, AV.int .i64 t36), (37, AV.int .i64 (IntKind.i64.wrap (t37 + 1)))], [([0, 1], ⟨true, [], [AV.agg [AV.sl [.int .i64] h0_0, AV.sl [.int .i64] h0_1, AV.sl [.int .i64, .int .i64] h0_2]]⟩)]⟩)
     else none)
    else none)
   else none)
  else k (.exit 0) ⟨[(1, AV.ptr [0, 1] 0 0)], [([0, 1], ⟨true, [], [AV.agg [AV.sl [.int .i64] h0_0, AV.sl [.int .i64] h0_1, AV.sl [.int .i64, .int .i64] h0_2]]⟩)]⟩) := by kernel_rfl
theorem st71_0 (t35 : List AV) (t36 : Int) (h0_0 : List AV) (h0_1 : List AV) (h0_2 : List AV) (ce : CallE) (k : Kont) (s : Int) (next : St → Option AV) : stepA (codeA c71 ce [] 71 0 (sub [1, 1, 0, 1, 0, 0] (body Try.f71))) (normA [] [1, 35, 36, 37]) next ((fun s : Int => ⟨[(1, AV.ptr [0, 1] 0 0), (35, AV.sl [.int .i64] t35), (36, AV.int .i64 t36), (37, AV.int .i64 s)], [([0, 1], ⟨true, [], [AV.agg [AV.sl [.int .i64] h0_0, AV.sl [.int .i64] h0_1, AV.sl [.int .i64, .int .i64] h0_2]]⟩)]⟩) s) k = (R71_0 t35 t36 h0_0 h0_1 h0_2 s).el none (fun s => next ((fun s : Int => ⟨[(1, AV.ptr [0, 1] 0 0), (35, AV.sl [.int .i64] t35), (36, AV.int .i64 t36), (37, AV.int .i64 s)], [([0, 1], ⟨true, [], [AV.agg [AV.sl [.int .i64] h0_0, AV.sl [.int .i64] h0_1, AV.sl [.int .i64, .int .i64] h0_2]]⟩)]⟩) s)) (sumE (fun _ : Unit => k (.exit 0) ⟨[(1, AV.ptr [0, 1] 0 0)], [([0, 1], ⟨true, [], [AV.agg [AV.sl [.int .i64] h0_0, AV.sl [.int .i64] h0_1, AV.sl [.int .i64, .int .i64] h0_2]]⟩)]⟩) (fun _ : Unit => k .ret ⟨[(2, AV.bool false)], [([0, 1], ⟨true, [], [AV.agg [AV.sl [.int .i64] h0_0, AV.sl [.int .i64] h0_1, AV.sl [.int .i64, .int .i64] h0_2]]⟩)]⟩)) := (s71_0 ce t35 t36 s h0_0 h0_1 h0_2 next k).trans (by unfold R71_0; unfold F71_0; simp only [el_cond, el_ro, el_sum, el_fail, el_next, el_stop] <;> rfl)
theorem ok71_0 {ce : CallE} : LoopOK c71 ce [] 71 0 (sub [1, 1, 0, 1, 0, 0] (body Try.f71)) := by
  intro m hm st k r h
  obtain rfl : l71_0 = m := Option.some.inj hm
  unfold l71_0 at h
  split at h
  · rename_i g0 g1 g2 g3 t35 t36 t37 g4 g5 h0_0 g6 h0_1 g7 h0_2
    obtain ⟨hg, h⟩ := bif_some h
    simp only [Bool.and_eq_true] at hg
    obtain ⟨⟨⟨⟨⟨⟨⟨q0, q1⟩, q2⟩, q3⟩, q4⟩, q5⟩, q6⟩, q7⟩ := hg
    obtain rfl := (nmEq_iff _ _).1 q0
    obtain rfl := Nat.eq_of_beq_eq_true q1
    obtain rfl := Nat.eq_of_beq_eq_true q2
    obtain rfl := ctsEq_eq _ _ q3
    obtain rfl := (nmEq_iff _ _).1 q4
    obtain rfl := ctsEq_eq _ _ q5
    obtain rfl := ctsEq_eq _ _ q6
    obtain rfl := ctsEq_eq _ _ q7
    refine ⟨((t36 - t37).toNat + 1), ?_⟩
    rw [← h]
    exact loop_run (fun s : Int => ⟨[(1, AV.ptr [0, 1] 0 0), (35, AV.sl [.int .i64] t35), (36, AV.int .i64 t36), (37, AV.int .i64 s)], [([0, 1], ⟨true, [], [AV.agg [AV.sl [.int .i64] h0_0, AV.sl [.int .i64] h0_1, AV.sl [.int .i64, .int .i64] h0_2]]⟩)]⟩) (sumE (fun _ : Unit => k (.exit 0) ⟨[(1, AV.ptr [0, 1] 0 0)], [([0, 1], ⟨true, [], [AV.agg [AV.sl [.int .i64] h0_0, AV.sl [.int .i64] h0_1, AV.sl [.int .i64, .int .i64] h0_2]]⟩)]⟩) (fun _ : Unit => k .ret ⟨[(2, AV.bool false)], [([0, 1], ⟨true, [], [AV.agg [AV.sl [.int .i64] h0_0, AV.sl [.int .i64] h0_1, AV.sl [.int .i64, .int .i64] h0_2]]⟩)]⟩)) (st71_0 t35 t36 h0_0 h0_1 h0_2 ce k) _ t37
  · cases h
def q71 (a0_0 : List AV) (a0_1 : List AV) (a0_2 : List AV) : Bool := (q105 a0_0 && (bif !(v105_0 a0_0) then true else (bif !decide ((a0_1.length : Int) = (a0_0.length : Int)) then true else (q124 a0_1 0 999 && (bif !(v124_0 a0_1 0 999) then true else (bif decide ((a0_2.length : Int) > 2001) then true else (ro (runW (R71_0 a0_1 (a0_1.length : Int) a0_0 a0_1 a0_2) (((a0_1.length : Int) - 0).toNat + 1) 0) false (sumE (fun _ => (ro (runW (R71_2 a0_2 (a0_2.length : Int) a0_0 a0_1 a0_2) (((a0_2.length : Int) - 0).toNat + 1) 0) false (sumE (fun _ => true) (sumE (fun p51 => true) (fun p52 => true))))) (fun _ => true)))))))))
def v71_0 (a0_0 : List AV) (a0_1 : List AV) (a0_2 : List AV) : Bool := (bif !(v105_0 a0_0) then false else (bif !decide ((a0_1.length : Int) = (a0_0.length : Int)) then false else (bif !(v124_0 a0_1 0 999) then false else (bif decide ((a0_2.length : Int) > 2001) then false else (ro (runW (R71_0 a0_1 (a0_1.length : Int) a0_0 a0_1 a0_2) (((a0_1.length : Int) - 0).toNat + 1) 0) false (sumE (fun _ => (ro (runW (R71_2 a0_2 (a0_2.length : Int) a0_0 a0_1 a0_2) (((a0_2.length : Int) - 0).toNat + 1) 0) false (sumE (fun _ => true) (sumE (fun p51 => false) (fun p52 => false))))) (fun _ => false)))))))
theorem e71 (a0_0 : List AV) (a0_1 : List AV) (a0_2 : List AV) : funA c71 0 71 [AV.agg [AV.sl [.int .i64] a0_0, AV.sl [.int .i64] a0_1, AV.sl [.int .i64, .int .i64] a0_2]] = (bif q105 a0_0 then (bif !(v105_0 a0_0) then some (AV.bool false)
   else (bif !decide ((a0_1.length : Int) = (a0_0.length : Int)) then some (AV.bool false)
    else (bif q124 a0_1 0 999 then (bif !(v124_0 a0_1 0 999) then some (AV.bool false)
      else (bif decide ((a0_2.length : Int) > 2001) then some (AV.bool false)
       else (ro (runW (R71_0 a0_1 (a0_1.length : Int) a0_0 a0_1 a0_2) (((a0_1.length : Int) - 0).toNat + 1) 0) none (sumE (fun _ => (ro (runW (R71_2 a0_2 (a0_2.length : Int) a0_0 a0_1 a0_2) (((a0_2.length : Int) - 0).toNat + 1) 0) none (sumE (fun _ => some (AV.bool true)) (sumE (fun p51 => some (AV.bool false)) (fun p52 => some (AV.bool false)))))) (fun _ => some (AV.bool false))))))
     else none)))
  else none) := by kernel_rfl
theorem r71 (a0_0 : List AV) (a0_1 : List AV) (a0_2 : List AV) (h : q71 a0_0 a0_1 a0_2 = true) : funA c71 0 71 [AV.agg [AV.sl [.int .i64] a0_0, AV.sl [.int .i64] a0_1, AV.sl [.int .i64, .int .i64] a0_2]] = some (AV.bool (v71_0 a0_0 a0_1 a0_2)) := (e71 a0_0 a0_1 a0_2).trans ((brL (br (fun b => some (AV.bool (bif b then false else (bif !decide ((a0_1.length : Int) = (a0_0.length : Int)) then false else (bif !(v124_0 a0_1 0 999) then false else (bif decide ((a0_2.length : Int) > 2001) then false else (ro (runW (R71_0 a0_1 (a0_1.length : Int) a0_0 a0_1 a0_2) (((a0_1.length : Int) - 0).toNat + 1) 0) false (sumE (fun _ => (ro (runW (R71_2 a0_2 (a0_2.length : Int) a0_0 a0_1 a0_2) (((a0_2.length : Int) - 0).toNat + 1) 0) false (sumE (fun _ => true) (sumE (fun p51 => false) (fun p52 => false))))) (fun _ => false))))))))) (fun _ => rfl) (br (fun b => some (AV.bool (bif b then false else (bif !(v124_0 a0_1 0 999) then false else (bif decide ((a0_2.length : Int) > 2001) then false else (ro (runW (R71_0 a0_1 (a0_1.length : Int) a0_0 a0_1 a0_2) (((a0_1.length : Int) - 0).toNat + 1) 0) false (sumE (fun _ => (ro (runW (R71_2 a0_2 (a0_2.length : Int) a0_0 a0_1 a0_2) (((a0_2.length : Int) - 0).toNat + 1) 0) false (sumE (fun _ => true) (sumE (fun p51 => false) (fun p52 => false))))) (fun _ => false)))))))) (fun _ => rfl) (brL (br (fun b => some (AV.bool (bif b then false else (bif decide ((a0_2.length : Int) > 2001) then false else (ro (runW (R71_0 a0_1 (a0_1.length : Int) a0_0 a0_1 a0_2) (((a0_1.length : Int) - 0).toNat + 1) 0) false (sumE (fun _ => (ro (runW (R71_2 a0_2 (a0_2.length : Int) a0_0 a0_1 a0_2) (((a0_2.length : Int) - 0).toNat + 1) 0) false (sumE (fun _ => true) (sumE (fun p51 => false) (fun p52 => false))))) (fun _ => false))))))) (fun _ => rfl) (br (fun b => some (AV.bool (bif b then false else (ro (runW (R71_0 a0_1 (a0_1.length : Int) a0_0 a0_1 a0_2) (((a0_1.length : Int) - 0).toNat + 1) 0) false (sumE (fun _ => (ro (runW (R71_2 a0_2 (a0_2.length : Int) a0_0 a0_1 a0_2) (((a0_2.length : Int) - 0).toNat + 1) 0) false (sumE (fun _ => true) (sumE (fun p51 => false) (fun p52 => false))))) (fun _ => false)))))) (fun _ => rfl) (brO (fun o : Option (Unit ⊕ Unit) => some (AV.bool (ro o false (sumE (fun _ => (ro (runW (R71_2 a0_2 (a0_2.length : Int) a0_0 a0_1 a0_2) (((a0_2.length : Int) - 0).toNat + 1) 0) false (sumE (fun _ => true) (sumE (fun p51 => false) (fun p52 => false))))) (fun _ => false))))) (brS (fun o : Unit ⊕ Unit => some (AV.bool ((sumE (fun _ => (ro (runW (R71_2 a0_2 (a0_2.length : Int) a0_0 a0_1 a0_2) (((a0_2.length : Int) - 0).toNat + 1) 0) false (sumE (fun _ => true) (sumE (fun p51 => false) (fun p52 => false))))) (fun _ => false)) o))) (fun _ => (brO (fun o : Option (Unit ⊕ (Int × Int) ⊕ (Int × Int)) => some (AV.bool (ro o false (sumE (fun _ => true) (sumE (fun p51 => false) (fun p52 => false)))))) (brS (fun o : Unit ⊕ (Int × Int) ⊕ (Int × Int) => some (AV.bool ((sumE (fun _ => true) (sumE (fun p51 => false) (fun p52 => false))) o))) (fun _ => (fun _ => rfl)) (brS (fun o : (Int × Int) ⊕ (Int × Int) => some (AV.bool ((sumE (fun p51 => false) (fun p52 => false)) o))) (fun p51 => (fun _ => rfl)) (fun p52 => (fun _ => rfl)))))) (fun _ => (fun _ => rfl)))))))))) h)
def m71 : TModel
  | [.agg [.sl g0 a0_0, .sl g1 a0_1, .sl g2 a0_2]] => bif ctsEq g0 ([.int .i64]) && ctsEq g1 ([.int .i64]) && ctsEq g2 ([.int .i64, .int .i64]) then some (q71 a0_0 a0_1 a0_2, AV.bool (v71_0 a0_0 a0_1 a0_2)) else none
  | _ => none
theorem k71 : Known Try.prog 71 := ⟨Try.f71, Try.func71, by kernel_rfl, by kernel_rfl⟩
theorem meets71 : Meets Try.prog 71 m71 := by
  refine meet (f := Try.f71) (l := [(0, sub [1, 1, 0, 1, 0, 0] (body Try.f71)), (2, sub [1, 1, 1, 0, 1, 0, 0] (body Try.f71)), (4, sub [1, 1, 1, 0, 1, 0, 0, 1, 1, 0, 0, 1, 1, 1, 0, 0] (body Try.f71))]) (hs := [(71, 0, [1, 35, 36, 37]), (71, 2, [1, 50, 51, 52]), (71, 4, [1, 6, 50, 51, 52, 103, 104, 105]), (71, 999, [2]), (71, 1000, [1]), (71, 1001, [1, 35, 36, 37]), (71, 1002, []), (71, 1003, [1, 50, 51, 52]), (71, 1004, [1, 50, 51, 52]), (71, 1005, [1, 6, 50, 51, 52, 103, 104, 105])]) (ts := [(98, m98), (105, m105), (124, m124), (125, m125)]) (ws := []) (is := []) (ls := [(71, 0, l71_0), (71, 2, l71_2), (71, 4, l71_4)]) (lvl := 0) mixed k71 Try.func71 (by kernel_rfl) (loops_cons ok71_0 (loops_cons ok71_2 (loops_cons ok71_4 noLoop))) (allT_cons meets98 (allT_cons meets105 (allT_cons meets124 (allT_cons meets125 allT_nil)))) allM_nil noI fun w xs us r hl hv h => ?_
  unfold m71 at h
  split at h
  · rename_i g0 a0_0 g1 a0_1 g2 a0_2
    obtain ⟨hg, h⟩ := bif_pair h
    simp only [Bool.and_eq_true] at hg
    obtain ⟨⟨q0, q1⟩, q2⟩ := hg
    obtain rfl := ctsEq_eq _ _ q0
    obtain rfl := ctsEq_eq _ _ q1
    obtain rfl := ctsEq_eq _ _ q2
    obtain ⟨h1, rfl⟩ := pair_inj h
    exact r71 a0_0 a0_1 a0_2 h1
  · cases h
end Go.Proofs.Ytepfklcdpkpepaa
