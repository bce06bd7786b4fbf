/- The walk of what this claim reaches: printed by a program, each equation checked by the kernel. -/
import Derived.Test.YtmlhhemflhiinaaRW1
import Derived.Test.YtmlhhemflhiinaaProg
import Derived.KernelRfl
namespace Go.Proofs.Ytmlhhemflhiinaa
open Go Go.Proofs.VE
set_option linter.unusedVariables false
set_option linter.unusedSimpArgs false
set_option maxRecDepth 100000
set_option maxHeartbeats 4000000
/-! ### 29 loop.example/g01984/spec.ReplayJournal -/
def F29_0 (t1 : List AV) (t11 : Int) (t12 : Int) (h0 : List AV) (h1 : List AV) (h2 : List AV) (h5_0 : Int) (h5_1 : Int) (h5_2 : Int) (h5_3 : Int) (h6 : List AV) : Out ((Int × Int × (List AV) × (List AV) × (List AV) × Int × Int × Int × Int × (List AV))) ((Int × (List AV) × (List AV) × (List AV) × Int × Int × Int × Int × (List AV)) ⊕ ((List AV) × (List AV) × (List AV) × Int × Int × Int × Int × (List AV) × Int × Int × Int × Int) ⊕ ((List AV) × (List AV) × (List AV) × (List AV) × Int × Int × Int × Int × (List AV) × Int × Int × Int × Int × (List AV) × (List AV) × (List AV) × (List AV)) ⊕ ((List AV) × (List AV) × (List AV) × (List AV) × (List AV) × (List AV) × Int × Int × Int × Int × (List AV)) ⊕ ((List AV) × (List AV) × (List AV) × Int × Int × Int × Int × (List AV) × Int × Int × Int × Int)) := (bif decide (t12 < (t1.length : Int)) then (bif (decide (0 ≤ t12) && decide (t12 < (t1.length : Int))) then (bif decide (fI (t1.getD t12.toNat .undef) 0 = 1) then (bif q33 h0 h1 h2 (fI (t1.getD t12.toNat .undef) 1) then (bif q32 h0 h1 h2 (fI (t1.getD t12.toNat .undef) 1) then (bif decide (h5_0 = 0) then (bif (v28_0 (fI (t1.getD t12.toNat .undef) 1) (-1000) 1000) then (bif !(v32_1 h0 h1 h2 (fI (t1.getD t12.toNat .undef) 1)) then (bif decide (fI (t1.getD t12.toNat .undef) 2 = (v33_0 h0 h1 h2 (fI (t1.getD t12.toNat .undef) 1))) then (bif !(decide (fI (t1.getD t12.toNat .undef) 3 = (v33_1 h0 h1 h2 (fI (t1.getD t12.toNat .undef) 1)))) then .stop (.inr (.inl (h0, h1, h2, fI (t1.getD t12.toNat .undef) 0, fI (t1.getD t12.toNat .undef) 1, fI (t1.getD t12.toNat .undef) 2, fI (t1.getD t12.toNat .undef) 3, h6, fI (t1.getD t12.toNat .undef) 0, fI (t1.getD t12.toNat .undef) 1, fI (t1.getD t12.toNat .undef) 2, fI (t1.getD t12.toNat .undef) 3)))
  else .next (t11, IntKind.i64.wrap (t12 + 1), h0, h1, h2, fI (t1.getD t12.toNat .undef) 0, fI (t1.getD t12.toNat .undef) 1, fI (t1.getD t12.toNat .undef) 2, fI (t1.getD t12.toNat .undef) 3, ([] : List AV)))
  else .stop (.inr (.inl (h0, h1, h2, fI (t1.getD t12.toNat .undef) 0, fI (t1.getD t12.toNat .undef) 1, fI (t1.getD t12.toNat .undef) 2, fI (t1.getD t12.toNat .undef) 3, h6, fI (t1.getD t12.toNat .undef) 0, fI (t1.getD t12.toNat .undef) 1, fI (t1.getD t12.toNat .undef) 2, fI (t1.getD t12.toNat .undef) 3))))
  else .stop (.inr (.inl (h0, h1, h2, fI (t1.getD t12.toNat .undef) 0, fI (t1.getD t12.toNat .undef) 1, fI (t1.getD t12.toNat .undef) 2, fI (t1.getD t12.toNat .undef) 3, h6, fI (t1.getD t12.toNat .undef) 0, fI (t1.getD t12.toNat .undef) 1, fI (t1.getD t12.toNat .undef) 2, fI (t1.getD t12.toNat .undef) 3))))
  else .stop (.inr (.inl (h0, h1, h2, fI (t1.getD t12.toNat .undef) 0, fI (t1.getD t12.toNat .undef) 1, fI (t1.getD t12.toNat .undef) 2, fI (t1.getD t12.toNat .undef) 3, h6, fI (t1.getD t12.toNat .undef) 0, fI (t1.getD t12.toNat .undef) 1, fI (t1.getD t12.toNat .undef) 2, fI (t1.getD t12.toNat .undef) 3))))
  else .stop (.inr (.inl (h0, h1, h2, fI (t1.getD t12.toNat .undef) 0, fI (t1.getD t12.toNat .undef) 1, fI (t1.getD t12.toNat .undef) 2, fI (t1.getD t12.toNat .undef) 3, h6, fI (t1.getD t12.toNat .undef) 0, fI (t1.getD t12.toNat .undef) 1, fI (t1.getD t12.toNat .undef) 2, fI (t1.getD t12.toNat .undef) 3))))
  else .fail)
  else .fail)
  else (bif decide (fI (t1.getD t12.toNat .undef) 0 = 2) then (bif !decide (h5_0 = 0) then (bif (v28_0 (fI (t1.getD t12.toNat .undef) 1) h5_2 (IntKind.i64.wrap (fI (t1.getD t12.toNat .undef) 2 - 1))) then (bif (v28_0 (fI (t1.getD t12.toNat .undef) 2) h5_2 (IntKind.i64.wrap (h5_3 - 1))) then (bif q35 h0 h1 h2 ([AV.agg [AV.int .i64 (fI (t1.getD t12.toNat .undef) 1), AV.int .i64 (fI (t1.getD t12.toNat .undef) 2)]]) then (bif (decide ((h6.length + ([AV.agg [AV.int .i64 (fI (t1.getD t12.toNat .undef) 1), AV.int .i64 (fI (t1.getD t12.toNat .undef) 2)]]).length) * 16 ≤ 140737488355328) && decide ((h6.length + ([AV.agg [AV.int .i64 (fI (t1.getD t12.toNat .undef) 1), AV.int .i64 (fI (t1.getD t12.toNat .undef) 2)]]).length) ≤ 140737488355328)) then (bif !(decide (fI (t1.getD t12.toNat .undef) 3 = 0)) then .stop (.inr (.inr (.inl ((v35_0 h0 h1 h2 ([AV.agg [AV.int .i64 (fI (t1.getD t12.toNat .undef) 1), AV.int .i64 (fI (t1.getD t12.toNat .undef) 2)]])), h0, h1, h2, h5_0, h5_1, h5_2, h5_3, (v35_1 h0 h1 h2 ([AV.agg [AV.int .i64 (fI (t1.getD t12.toNat .undef) 1), AV.int .i64 (fI (t1.getD t12.toNat .undef) 2)]])), fI (t1.getD t12.toNat .undef) 0, fI (t1.getD t12.toNat .undef) 1, fI (t1.getD t12.toNat .undef) 2, fI (t1.getD t12.toNat .undef) 3, [AV.agg [AV.int .i64 (fI (t1.getD t12.toNat .undef) 1), AV.int .i64 (fI (t1.getD t12.toNat .undef) 2)]], [AV.agg [AV.int .i64 (fI (t1.getD t12.toNat .undef) 1), AV.int .i64 (fI (t1.getD t12.toNat .undef) 2)]], h6 ++ ([AV.agg [AV.int .i64 (fI (t1.getD t12.toNat .undef) 1), AV.int .i64 (fI (t1.getD t12.toNat .undef) 2)]]), (v35_2 h0 h1 h2 ([AV.agg [AV.int .i64 (fI (t1.getD t12.toNat .undef) 1), AV.int .i64 (fI (t1.getD t12.toNat .undef) 2)]]))))))
  else .next (t11, IntKind.i64.wrap (t12 + 1), (v35_0 h0 h1 h2 ([AV.agg [AV.int .i64 (fI (t1.getD t12.toNat .undef) 1), AV.int .i64 (fI (t1.getD t12.toNat .undef) 2)]])), (v35_1 h0 h1 h2 ([AV.agg [AV.int .i64 (fI (t1.getD t12.toNat .undef) 1), AV.int .i64 (fI (t1.getD t12.toNat .undef) 2)]])), (v35_2 h0 h1 h2 ([AV.agg [AV.int .i64 (fI (t1.getD t12.toNat .undef) 1), AV.int .i64 (fI (t1.getD t12.toNat .undef) 2)]])), h5_0, h5_1, h5_2, h5_3, h6 ++ ([AV.agg [AV.int .i64 (fI (t1.getD t12.toNat .undef) 1), AV.int .i64 (fI (t1.getD t12.toNat .undef) 2)]])))
  else .fail)
  else .fail)
  else (bif q35 h0 h1 h2 ([AV.agg [AV.int .i64 (fI (t1.getD t12.toNat .undef) 1), AV.int .i64 (fI (t1.getD t12.toNat .undef) 2)]]) then (bif (decide ((h6.length + ([AV.agg [AV.int .i64 (fI (t1.getD t12.toNat .undef) 1), AV.int .i64 (fI (t1.getD t12.toNat .undef) 2)]]).length) * 16 ≤ 140737488355328) && decide ((h6.length + ([AV.agg [AV.int .i64 (fI (t1.getD t12.toNat .undef) 1), AV.int .i64 (fI (t1.getD t12.toNat .undef) 2)]]).length) ≤ 140737488355328)) then .stop (.inr (.inr (.inl ((v35_0 h0 h1 h2 ([AV.agg [AV.int .i64 (fI (t1.getD t12.toNat .undef) 1), AV.int .i64 (fI (t1.getD t12.toNat .undef) 2)]])), h0, h1, h2, h5_0, h5_1, h5_2, h5_3, (v35_1 h0 h1 h2 ([AV.agg [AV.int .i64 (fI (t1.getD t12.toNat .undef) 1), AV.int .i64 (fI (t1.getD t12.toNat .undef) 2)]])), fI (t1.getD t12.toNat .undef) 0, fI (t1.getD t12.toNat .undef) 1, fI (t1.getD t12.toNat .undef) 2, fI (t1.getD t12.toNat .undef) 3, [AV.agg [AV.int .i64 (fI (t1.getD t12.toNat .undef) 1), AV.int .i64 (fI (t1.getD t12.toNat .undef) 2)]], [AV.agg [AV.int .i64 (fI (t1.getD t12.toNat .undef) 1), AV.int .i64 (fI (t1.getD t12.toNat .undef) 2)]], h6 ++ ([AV.agg [AV.int .i64 (fI (t1.getD t12.toNat .undef) 1), AV.int .i64 (fI (t1.getD t12.toNat .undef) 2)]]), (v35_2 h0 h1 h2 ([AV.agg [AV.int .i64 (fI (t1.getD t12.toNat .undef) 1), AV.int .i64 (fI (t1.getD t12.toNat .undef) 2)]]))))))
  else .fail)
  else .fail))
  else (bif q35 h0 h1 h2 ([AV.agg [AV.int .i64 (fI (t1.getD t12.toNat .undef) 1), AV.int .i64 (fI (t1.getD t12.toNat .undef) 2)]]) then (bif (decide ((h6.length + ([AV.agg [AV.int .i64 (fI (t1.getD t12.toNat .undef) 1), AV.int .i64 (fI (t1.getD t12.toNat .undef) 2)]]).length) * 16 ≤ 140737488355328) && decide ((h6.length + ([AV.agg [AV.int .i64 (fI (t1.getD t12.toNat .undef) 1), AV.int .i64 (fI (t1.getD t12.toNat .undef) 2)]]).length) ≤ 140737488355328)) then .stop (.inr (.inr (.inl ((v35_0 h0 h1 h2 ([AV.agg [AV.int .i64 (fI (t1.getD t12.toNat .undef) 1), AV.int .i64 (fI (t1.getD t12.toNat .undef) 2)]])), h0, h1, h2, h5_0, h5_1, h5_2, h5_3, (v35_1 h0 h1 h2 ([AV.agg [AV.int .i64 (fI (t1.getD t12.toNat .undef) 1), AV.int .i64 (fI (t1.getD t12.toNat .undef) 2)]])), fI (t1.getD t12.toNat .undef) 0, fI (t1.getD t12.toNat .undef) 1, fI (t1.getD t12.toNat .undef) 2, fI (t1.getD t12.toNat .undef) 3, [AV.agg [AV.int .i64 (fI (t1.getD t12.toNat .undef) 1), AV.int .i64 (fI (t1.getD t12.toNat .undef) 2)]], [AV.agg [AV.int .i64 (fI (t1.getD t12.toNat .undef) 1), AV.int .i64 (fI (t1.getD t12.toNat .undef) 2)]], h6 ++ ([AV.agg [AV.int .i64 (fI (t1.getD t12.toNat .undef) 1), AV.int .i64 (fI (t1.getD t12.toNat .undef) 2)]]), (v35_2 h0 h1 h2 ([AV.agg [AV.int .i64 (fI (t1.getD t12.toNat .undef) 1), AV.int .i64 (fI (t1.getD t12.toNat .undef) 2)]]))))))
  else .fail)
  else .fail))
  else (bif q35 h0 h1 h2 ([AV.agg [AV.int .i64 (fI (t1.getD t12.toNat .undef) 1), AV.int .i64 (fI (t1.getD t12.toNat .undef) 2)]]) then (bif (decide ((h6.length + ([AV.agg [AV.int .i64 (fI (t1.getD t12.toNat .undef) 1), AV.int .i64 (fI (t1.getD t12.toNat .undef) 2)]]).length) * 16 ≤ 140737488355328) && decide ((h6.length + ([AV.agg [AV.int .i64 (fI (t1.getD t12.toNat .undef) 1), AV.int .i64 (fI (t1.getD t12.toNat .undef) 2)]]).length) ≤ 140737488355328)) then .stop (.inr (.inr (.inl ((v35_0 h0 h1 h2 ([AV.agg [AV.int .i64 (fI (t1.getD t12.toNat .undef) 1), AV.int .i64 (fI (t1.getD t12.toNat .undef) 2)]])), h0, h1, h2, h5_0, h5_1, h5_2, h5_3, (v35_1 h0 h1 h2 ([AV.agg [AV.int .i64 (fI (t1.getD t12.toNat .undef) 1), AV.int .i64 (fI (t1.getD t12.toNat .undef) 2)]])), fI (t1.getD t12.toNat .undef) 0, fI (t1.getD t12.toNat .undef) 1, fI (t1.getD t12.toNat .undef) 2, fI (t1.getD t12.toNat .undef) 3, [AV.agg [AV.int .i64 (fI (t1.getD t12.toNat .undef) 1), AV.int .i64 (fI (t1.getD t12.toNat .undef) 2)]], [AV.agg [AV.int .i64 (fI (t1.getD t12.toNat .undef) 1), AV.int .i64 (fI (t1.getD t12.toNat .undef) 2)]], h6 ++ ([AV.agg [AV.int .i64 (fI (t1.getD t12.toNat .undef) 1), AV.int .i64 (fI (t1.getD t12.toNat .undef) 2)]]), (v35_2 h0 h1 h2 ([AV.agg [AV.int .i64 (fI (t1.getD t12.toNat .undef) 1), AV.int .i64 (fI (t1.getD t12.toNat .undef) 2)]]))))))
  else .fail)
  else .fail))
  else (bif decide (fI (t1.getD t12.toNat .undef) 0 = 3) then (bif q36 h0 h1 h2 (fI (t1.getD t12.toNat .undef) 1) (fI (t1.getD t12.toNat .undef) 2) then (bif !decide (h5_0 = 0) then (bif decide (h5_1 = fI (t1.getD t12.toNat .undef) 1) then (bif (v36_3 h0 h1 h2 (fI (t1.getD t12.toNat .undef) 1) (fI (t1.getD t12.toNat .undef) 2)) then (bif !(decide (fI (t1.getD t12.toNat .undef) 3 = 0)) then .stop (.inr (.inr (.inr (.inl ((v36_0 h0 h1 h2 (fI (t1.getD t12.toNat .undef) 1) (fI (t1.getD t12.toNat .undef) 2)), h0, h1, h2, h6, (v36_1 h0 h1 h2 (fI (t1.getD t12.toNat .undef) 1) (fI (t1.getD t12.toNat .undef) 2)), fI (t1.getD t12.toNat .undef) 0, fI (t1.getD t12.toNat .undef) 1, fI (t1.getD t12.toNat .undef) 2, fI (t1.getD t12.toNat .undef) 3, (v36_2 h0 h1 h2 (fI (t1.getD t12.toNat .undef) 1) (fI (t1.getD t12.toNat .undef) 2)))))))
  else .next (IntKind.i64.wrap (t11 + 1), IntKind.i64.wrap (t12 + 1), (v36_0 h0 h1 h2 (fI (t1.getD t12.toNat .undef) 1) (fI (t1.getD t12.toNat .undef) 2)), (v36_1 h0 h1 h2 (fI (t1.getD t12.toNat .undef) 1) (fI (t1.getD t12.toNat .undef) 2)), (v36_2 h0 h1 h2 (fI (t1.getD t12.toNat .undef) 1) (fI (t1.getD t12.toNat .undef) 2)), 0, 0, 0, 0, h6))
  else .stop (.inr (.inr (.inr (.inl ((v36_0 h0 h1 h2 (fI (t1.getD t12.toNat .undef) 1) (fI (t1.getD t12.toNat .undef) 2)), h0, h1, h2, h6, (v36_1 h0 h1 h2 (fI (t1.getD t12.toNat .undef) 1) (fI (t1.getD t12.toNat .undef) 2)), fI (t1.getD t12.toNat .undef) 0, fI (t1.getD t12.toNat .undef) 1, fI (t1.getD t12.toNat .undef) 2, fI (t1.getD t12.toNat .undef) 3, (v36_2 h0 h1 h2 (fI (t1.getD t12.toNat .undef) 1) (fI (t1.getD t12.toNat .undef) 2))))))))
  else .stop (.inr (.inr (.inr (.inl ((v36_0 h0 h1 h2 (fI (t1.getD t12.toNat .undef) 1) (fI (t1.getD t12.toNat .undef) 2)), h0, h1, h2, h6, (v36_1 h0 h1 h2 (fI (t1.getD t12.toNat .undef) 1) (fI (t1.getD t12.toNat .undef) 2)), fI (t1.getD t12.toNat .undef) 0, fI (t1.getD t12.toNat .undef) 1, fI (t1.getD t12.toNat .undef) 2, fI (t1.getD t12.toNat .undef) 3, (v36_2 h0 h1 h2 (fI (t1.getD t12.toNat .undef) 1) (fI (t1.getD t12.toNat .undef) 2))))))))
  else .stop (.inr (.inr (.inr (.inl ((v36_0 h0 h1 h2 (fI (t1.getD t12.toNat .undef) 1) (fI (t1.getD t12.toNat .undef) 2)), h0, h1, h2, h6, (v36_1 h0 h1 h2 (fI (t1.getD t12.toNat .undef) 1) (fI (t1.getD t12.toNat .undef) 2)), fI (t1.getD t12.toNat .undef) 0, fI (t1.getD t12.toNat .undef) 1, fI (t1.getD t12.toNat .undef) 2, fI (t1.getD t12.toNat .undef) 3, (v36_2 h0 h1 h2 (fI (t1.getD t12.toNat .undef) 1) (fI (t1.getD t12.toNat .undef) 2))))))))
  else .fail)
  else .stop (.inr (.inr (.inr (.inr (h0, h1, h2, h5_0, h5_1, h5_2, h5_3, h6, fI (t1.getD t12.toNat .undef) 0, fI (t1.getD t12.toNat .undef) 1, fI (t1.getD t12.toNat .undef) 2, fI (t1.getD t12.toNat .undef) 3))))))))
  else .fail)
  else .stop (.inl (t11, h0, h1, h2, h5_0, h5_1, h5_2, h5_3, h6)))
def R29_0 (t1 : List AV) : ((Int × Int × (List AV) × (List AV) × (List AV) × Int × Int × Int × Int × (List AV))) → Out ((Int × Int × (List AV) × (List AV) × (List AV) × Int × Int × Int × Int × (List AV))) ((Int × (List AV) × (List AV) × (List AV) × Int × Int × Int × Int × (List AV)) ⊕ ((List AV) × (List AV) × (List AV) × Int × Int × Int × Int × (List AV) × Int × Int × Int × Int) ⊕ ((List AV) × (List AV) × (List AV) × (List AV) × Int × Int × Int × Int × (List AV) × Int × Int × Int × Int × (List AV) × (List AV) × (List AV) × (List AV)) ⊕ ((List AV) × (List AV) × (List AV) × (List AV) × (List AV) × (List AV) × Int × Int × Int × Int × (List AV)) ⊕ ((List AV) × (List AV) × (List AV) × Int × Int × Int × Int × (List AV) × Int × Int × Int × Int)) := fun s : Int × Int × (List AV) × (List AV) × (List AV) × Int × Int × Int × Int × (List AV) => F29_0 t1 s.1 s.2.1 s.2.2.1 s.2.2.2.1 s.2.2.2.2.1 s.2.2.2.2.2.1 s.2.2.2.2.2.2.1 s.2.2.2.2.2.2.2.1 s.2.2.2.2.2.2.2.2.1 s.2.2.2.2.2.2.2.2.2
def l29_0 : LModel := fun _ _ st k => match st with
  | ⟨[(1, .sl g0 t1), (4, .ptr g1 g2 g3), (8, .ptr g4 g5 g6), (9, .ptr g7 g8 g9), (10, .own g10), (11, .int .i64 t11), (12, .int .i64 t12)], [(g11, ⟨false, g12, h0⟩), (g13, ⟨false, g14, h1⟩), (g15, ⟨false, g16, h2⟩), (g17, ⟨true, [], [.agg [.snil, .snil, .snil]]⟩), (g18, ⟨true, [], [.agg [.own g19, .own g20, .own g21]]⟩), (g22, ⟨true, [], [.agg [.int .i64 h5_0, .int .i64 h5_1, .int .i64 h5_2, .int .i64 h5_3]]⟩), (g23, ⟨false, g24, h6⟩)]⟩ => bif ctsEq g0 ([.int .i64, .int .i64, .int .i64, .int .i64]) && nmEq g1 ([0, 4]) && Nat.beq g2 0 && Nat.beq g3 0 && nmEq g4 ([0, 8]) && Nat.beq g5 0 && Nat.beq g6 0 && nmEq g7 ([0, 9]) && Nat.beq g8 0 && Nat.beq g9 0 && nmEq g10 ([0, 10]) && nmEq g11 ([0, 0, 8]) && ctsEq g12 ([.int .i64]) && nmEq g13 ([0, 1, 8]) && ctsEq g14 ([.int .i64]) && nmEq g15 ([0, 2, 8]) && ctsEq g16 ([.int .i64, .int .i64]) && nmEq g17 ([0, 4]) && nmEq g18 ([0, 8]) && nmEq g19 ([0, 0, 8]) && nmEq g20 ([0, 1, 8]) && nmEq g21 ([0, 2, 8]) && nmEq g22 ([0, 9]) && nmEq g23 ([0, 10]) && ctsEq g24 ([.int .i64, .int .i64]) then ro (runW (R29_0 t1) (((t1.length : Int) - t12).toNat + 1) (t11, t12, h0, h1, h2, h5_0, h5_1, h5_2, h5_3, h6)) none (sumE (fun p : Int × (List AV) × (List AV) × (List AV) × Int × Int × Int × Int × (List AV) => k (.exit 0) ⟨[(4, AV.ptr [0, 4] 0 0), (8, AV.ptr [0, 8] 0 0), (9, AV.ptr [0, 9] 0 0), (10, AV.own [0, 10]), (11, AV.int .i64 p.1)], [([0, 0, 8], ⟨false, [.int .i64], p.2.1⟩), ([0, 1, 8], ⟨false, [.int .i64], p.2.2.1⟩), ([0, 2, 8], ⟨false, [.int .i64, .int .i64], p.2.2.2.1⟩), ([0, 4], ⟨true, [], [AV.agg [AV.snil, AV.snil, AV.snil]]⟩), ([0, 8], ⟨true, [], [AV.agg [AV.own [0, 0, 8], AV.own [0, 1, 8], AV.own [0, 2, 8]]]⟩), ([0, 9], ⟨true, [], [AV.agg [AV.int .i64 p.2.2.2.2.1, AV.int .i64 p.2.2.2.2.2.1, AV.int .i64 p.2.2.2.2.2.2.1, AV.int .i64 p.2.2.2.2.2.2.2.1]]⟩), ([0, 10], ⟨false, [.int .i64, .int .i64], p.2.2.2.2.2.2.2.2⟩)]⟩) (sumE (fun p : (List AV) × (List AV) × (List AV) × Int × Int × Int × Int × (List AV) × Int × Int × Int × Int => k .ret ⟨[(4, AV.ptr [0, 4] 0 0), (5, AV.int .i64 0), (6, AV.int .i64 0), (7, AV.bool false)], [([0, 0, 8], ⟨false, [.int .i64], p.1⟩), ([0, 1, 8], ⟨false, [.int .i64], p.2.1⟩), ([0, 2, 8], ⟨false, [.int .i64, .int .i64], p.2.2.1⟩), ([0, 4], ⟨true, [], [AV.agg [AV.snil, AV.snil, AV.snil]]⟩), ([0, 8], ⟨true, [], [AV.agg [AV.own [0, 0, 8], AV.own [0, 1, 8], AV.own [0, 2, 8]]]⟩), ([0, 9], ⟨true, [], [AV.agg [AV.int .i64 p.2.2.2.1, AV.int .i64 p.2.2.2.2.1, AV.int .i64 p.2.2.2.2.2.1, AV.int .i64 p.2.2.2.2.2.2.1]]⟩), ([0, 10], ⟨false, [.int .i64, .int .i64], p.2.2.2.2.2.2.2.1⟩), ([1, 13], ⟨true, [], [AV.agg [AV.int .i64 p.2.2.2.2.2.2.2.2.1, AV.int .i64 p.2.2.2.2.2.2.2.2.2.1, AV.int .i64 p.2.2.2.2.2.2.2.2.2.2.1, AV.int .i64 p.2.2.2.2.2.2.2.2.2.2.2]]⟩), ([1, 86], ⟨false, [.int .i64, .int .i64], ([] : List AV)⟩)]⟩) (sumE (fun p : (List AV) × (List AV) × (List AV) × (List AV) × Int × Int × Int × Int × (List AV) × Int × Int × Int × Int × (List AV) × (List AV) × (List AV) × (List AV) => k .ret ⟨[(4, AV.ptr [0, 4] 0 0), (5, AV.int .i64 0), (6, AV.int .i64 0), (7, AV.bool false)], [([0, 0, 1, 125], ⟨false, [.int .i64], p.1⟩), ([0, 0, 8], ⟨false, [.int .i64], p.2.1⟩), ([0, 1, 8], ⟨false, [.int .i64], p.2.2.1⟩), ([0, 2, 8], ⟨false, [.int .i64, .int .i64], p.2.2.2.1⟩), ([0, 4], ⟨true, [], [AV.agg [AV.snil, AV.snil, AV.snil]]⟩), ([0, 8], ⟨true, [], [AV.agg [AV.own [0, 0, 1, 125], AV.own [1, 0, 1, 125], AV.own [2, 0, 1, 125]]]⟩), ([0, 9], ⟨true, [], [AV.agg [AV.int .i64 p.2.2.2.2.1, AV.int .i64 p.2.2.2.2.2.1, AV.int .i64 p.2.2.2.2.2.2.1, AV.int .i64 p.2.2.2.2.2.2.2.1]]⟩), ([1, 0, 1, 125], ⟨false, [.int .i64], p.2.2.2.2.2.2.2.2.1⟩), ([1, 13], ⟨true, [], [AV.agg [AV.int .i64 p.2.2.2.2.2.2.2.2.2.1, AV.int .i64 p.2.2.2.2.2.2.2.2.2.2.1, AV.int .i64 p.2.2.2.2.2.2.2.2.2.2.2.1, AV.int .i64 p.2.2.2.2.2.2.2.2.2.2.2.2.1]]⟩), ([1, 19], ⟨true, [], [AV.agg [AV.own [0, 0, 1, 125], AV.own [1, 0, 1, 125], AV.own [2, 0, 1, 125]]]⟩), ([1, 124], ⟨false, [.int .i64, .int .i64], p.2.2.2.2.2.2.2.2.2.2.2.2.2.1⟩), ([1, 135], ⟨false, [.int .i64, .int .i64], p.2.2.2.2.2.2.2.2.2.2.2.2.2.2.1⟩), ([1, 136], ⟨false, [.int .i64, .int .i64], p.2.2.2.2.2.2.2.2.2.2.2.2.2.2.2.1⟩), ([2, 0, 1, 125], ⟨false, [.int .i64, .int .i64], p.2.2.2.2.2.2.2.2.2.2.2.2.2.2.2.2⟩)]⟩) (sumE (fun p : (List AV) × (List AV) × (List AV) × (List AV) × (List AV) × (List AV) × Int × Int × Int × Int × (List AV) => k .ret ⟨[(4, AV.ptr [0, 4] 0 0), (5, AV.int .i64 0), (6, AV.int .i64 0), (7, AV.bool false)], [([0, 0, 1, 146], ⟨false, [.int .i64], p.1⟩), ([0, 0, 8], ⟨false, [.int .i64], p.2.1⟩), ([0, 1, 8], ⟨false, [.int .i64], p.2.2.1⟩), ([0, 2, 8], ⟨false, [.int .i64, .int .i64], p.2.2.2.1⟩), ([0, 4], ⟨true, [], [AV.agg [AV.snil, AV.snil, AV.snil]]⟩), ([0, 8], ⟨true, [], [AV.agg [AV.own [0, 0, 1, 146], AV.own [1, 0, 1, 146], AV.own [2, 0, 1, 146]]]⟩), ([0, 9], ⟨true, [], [AV.agg [AV.int .i64 0, AV.int .i64 0, AV.int .i64 0, AV.int .i64 0]]⟩), ([0, 10], ⟨false, [.int .i64, .int .i64], p.2.2.2.2.1⟩), ([1, 0, 1, 146], ⟨false, [.int .i64], p.2.2.2.2.2.1⟩), ([1, 13], ⟨true, [], [AV.agg [AV.int .i64 p.2.2.2.2.2.2.1, AV.int .i64 p.2.2.2.2.2.2.2.1, AV.int .i64 p.2.2.2.2.2.2.2.2.1, AV.int .i64 p.2.2.2.2.2.2.2.2.2.1]]⟩), ([1, 21], ⟨true, [], [AV.agg [AV.own [0, 0, 1, 146], AV.own [1, 0, 1, 146], AV.own [2, 0, 1, 146]]]⟩), ([2, 0, 1, 146], ⟨false, [.int .i64, .int .i64], p.2.2.2.2.2.2.2.2.2.2⟩)]⟩) (fun p : (List AV) × (List AV) × (List AV) × Int × Int × Int × Int × (List AV) × Int × Int × Int × Int => k .ret ⟨[(4, AV.ptr [0, 4] 0 0), (5, AV.int .i64 0), (6, AV.int .i64 0), (7, AV.bool false)], [([0, 0, 8], ⟨false, [.int .i64], p.1⟩), ([0, 1, 8], ⟨false, [.int .i64], p.2.1⟩), ([0, 2, 8], ⟨false, [.int .i64, .int .i64], p.2.2.1⟩), ([0, 4], ⟨true, [], [AV.agg [AV.snil, AV.snil, AV.snil]]⟩), ([0, 8], ⟨true, [], [AV.agg [AV.own [0, 0, 8], AV.own [0, 1, 8], AV.own [0, 2, 8]]]⟩), ([0, 9], ⟨true, [], [AV.agg [AV.int .i64 p.2.2.2.1, AV.int .i64 p.2.2.2.2.1, AV.int .i64 p.2.2.2.2.2.1, AV.int .i64 p.2.2.2.2.2.2.1]]⟩), ([0, 10], ⟨false, [.int .i64, .int .i64], p.2.2.2.2.2.2.2.1⟩), ([1, 13], ⟨true, [], [AV.agg [AV.int .i64 p.2.2.2.2.2.2.2.2.1, AV.int .i64 p.2.2.2.2.2.2.2.2.2.1, AV.int .i64 p.2.2.2.2.2.2.2.2.2.2.1, AV.int .i64 p.2.2.2.2.2.2.2.2.2.2.2]]⟩)]⟩))))) else none
  | _ => none
noncomputable def c29 : Cfg := cfg Try.prog [(29, 0, [1, 4, 8, 9, 10, 11, 12]), (29, 999, [4, 5, 6, 7]), (29, 1000, [4, 8, 9, 10, 11]), (29, 1001, [1, 4, 8, 9, 10, 11, 12]), (29, 1002, [1, 4, 8, 9, 10, 11, 12, 14])] [(28, m28), (32, m32), (33, m33), (35, m35), (36, m36), (46, m46), (47, m47), (48, m48)] [] [] [(29, 0, l29_0)]
theorem s29_0 (ce : CallE) (t1 : List AV) (t11 : Int) (t12 : Int) (h0 : List AV) (h1 : List AV) (h2 : List AV) (h5_0 : Int) (h5_1 : Int) (h5_2 : Int) (h5_3 : Int) (h6 : List AV) (next : St → Option AV) (k : Kont) : stepA (codeA c29 ce [] 29 0 (sub [1, 1, 1, 1, 1, 1, 0, 1, 0, 0] (body Try.f29))) (normA [] [1, 4, 8, 9, 10, 11, 12]) next ⟨[(1, AV.sl [.int .i64, .int .i64, .int .i64, .int .i64] t1), (4, AV.ptr [0, 4] 0 0), (8, AV.ptr [0, 8] 0 0), (9, AV.ptr [0, 9] 0 0), (10, AV.own [0, 10]), (11, AV.int .i64 t11), (12, AV.int .i64 t12)], [([0, 0, 8], ⟨false, [.int .i64], h0⟩), ([0, 1, 8], ⟨false, [.int .i64], h1⟩), ([0, 2, 8], ⟨false, [.int .i64, .int .i64], h2⟩), ([0, 4], ⟨true, [], [AV.agg [AV.snil, AV.snil, AV.snil]]⟩), ([0, 8], ⟨true, [], [AV.agg [AV.own [0, 0, 8], AV.own [0, 1, 8], AV.own [0, 2, 8]]]⟩), ([0, 9], ⟨true, [], [AV.agg [AV.int .i64 h5_0, AV.int .i64 h5_1, AV.int .i64 h5_2, AV.int .i64 h5_3]]⟩), ([0, 10], ⟨false, [.int .i64, .int .i64], h6⟩)]⟩ k = (bif decide (t12 < (t1.length : Int)) then (bif (decide (0 ≤ t12) && decide (t12 < (t1.length : Int))) then (bif decide (fI (t1.getD t12.toNat .undef) 0 = 1) then (bif q33 h0 h1 h2 (fI (t1.getD t12.toNat .undef) 1) then (bif q32 h0 h1 h2 (fI (t1.getD t12.toNat .undef) 1) then (bif decide (h5_0 = 0) then (bif (v28_0 (fI (t1.getD t12.toNat .undef) 1) (-1000) 1000) then (bif !(v32_1 h0 h1 h2 (fI (t1.getD t12.toNat .undef) 1)) then (bif decide (fI (t1.getD t12.toNat .undef) 2 = (v33_0 h0 h1 h2 (fI (t1.getD t12.toNat .undef) 1))) then (bif !(decide (fI (t1.getD t12.toNat .undef) 3 = (v33_1 h0 h1 h2 (fI (t1.getD t12.toNat .undef) 1)))) then k .ret ⟨[(4, AV.ptr [0, 4] 0 0), (5, AV.int .i64 0), (6, AV.int .i64 0), (7, AV.bool false)], [([0, 0, 8], ⟨false, [.int .i64], h0⟩), ([0, 1, 8], ⟨false, [.int .i64], h1⟩), ([0, 2, 8], ⟨false, [.int .i64, .int .i64], h2⟩), ([0, 4], ⟨true, [], [AV.agg [AV.snil, AV.snil, AV.snil]]⟩), ([0, 8], ⟨true, [], [AV.agg [AV.own [0, 0, 8], AV.own [0, 1, 8], AV.own [0, 2, 8]]]⟩), ([0, 9], ⟨true, [], [AV.agg [AV.int .i64 (fI (t1.getD t12.toNat .undef) 0), AV.int .i64 (fI (t1.getD t12.toNat .undef) 1), AV.int .i64 (fI (t1.getD t12.toNat .undef) 2), AV.int .i64 (fI (t1.getD t12.toNat .undef) 3)]]⟩), ([0, 10], ⟨false, [.int .i64, .int .i64], h6⟩), ([1, 13], ⟨true, [], [AV.agg [AV.int .i64 (fI (t1.getD t12.toNat .undef) 0), AV.int .i64 (fI (t1.getD t12.toNat .undef) 1), AV.int .i64 (fI (t1.getD t12.toNat .undef) 2), AV.int .i64 (fI (t1.getD t12.toNat .undef) 3)]]⟩), ([1, 86], ⟨false, [.int .i64, .int .i64], ([] : List AV)⟩)]⟩
  else next ⟨[(1, AV.sl [.int .i64, .int .i64, .int .i64, .int .i64] t1), (4, AV.ptr [0, 4] 0 0), (8, AV.ptr [0, 8] 0 0), (9, AV.ptr [0, 9] 0 0), (10, AV.own [0, 10]), (11, AV.int .i64 t11), (12, AV.int .i64 (IntKind.i64.wrap (t12 + 1)))], [([0, 0, 8], ⟨false, [.int .i64], h0⟩), ([0, 1, 8], ⟨false, [.int .i64], h1⟩), ([0, 2, 8], ⟨false, [.int .i64, .int .i64], h2⟩), ([0, 4], ⟨true, [], [AV.agg [AV.snil, AV.snil, AV.snil]]⟩), ([0, 8], ⟨true, [], [AV.agg [AV.own [0, 0, 8], AV.own [0, 1, 8], AV.own [0, 2, 8]]]⟩), ([0, 9], ⟨true, [], [AV.agg [AV.int .i64 (fI (t1.getD t12.toNat .undef) 0), AV.int .i64 (fI (t1.getD t12.toNat .undef) 1), AV.int .i64 (fI (t1.getD t12.toNat .undef) 2), AV.int .i64 (fI (t1.getD t12.toNat .undef) 3)]]⟩), ([0, 10], ⟨false, [.int .i64, .int .i64], ([] : List AV)⟩)]⟩)
  else k .ret ⟨[(4, AV.ptr [0, 4] 0 0), (5, AV.int .i64 0), (6, AV.int .i64 0), (7, AV.bool false)], [([0, 0, 8], ⟨false, [.int .i64], h0⟩), ([0, 1, 8], ⟨false, [.int .i64], h1⟩), ([0, 2, 8], ⟨false, [.int .i64, .int .i64], h2⟩), ([0, 4], ⟨true, [], [AV.agg [AV.snil, AV.snil, AV.snil]]⟩), ([0, 8], ⟨true, [], [AV.agg [AV.own [0, 0, 8], AV.own [0, 1, 8], AV.own [0, 2, 8]]]⟩), ([0, 9], ⟨true, [], [AV.agg [AV.int .i64 (fI (t1.getD t12.toNat .undef) 0), AV.int .i64 (fI (t1.getD t12.toNat .undef) 1), AV.int .i64 (fI (t1.getD t12.toNat .undef) 2), AV.int .i64 (fI (t1.getD t12.toNat .undef) 3)]]⟩), ([0, 10], ⟨false, [.int .i64, .int .i64], h6⟩), ([1, 13], ⟨true, [], [AV.agg [AV.int .i64 (fI (t1.getD t12.toNat .undef) 0), AV.int .i64 (fI (t1.getD t12.toNat .undef) 1), AV.int .i64 (fI (t1.getD t12.toNat .undef) 2), AV.int .i64 (fI (t1.getD t12.toNat .undef) 3)]]⟩), ([1, 86], ⟨false, [.int .i64, .int .i64], ([] : List AV)⟩)]⟩)
  else k .ret ⟨[(4, AV.ptr [0, 4] 0 0), (5, AV.int .i64 0), (6, AV.int .i64 0), (7, AV.bool false)], [([0, 0, 8], ⟨false, [.int .i64], h0⟩), ([0, 1, 8], ⟨false, [.int .i64], h1⟩), ([0, 2, 8], ⟨false, [.int .i64, .int .i64], h2⟩), ([0, 4], ⟨true, [], [AV.agg [AV.snil, AV.snil, AV.snil]]⟩), ([0, 8], ⟨true, [], [AV.agg [AV.own [0, 0, 8], AV.own [0, 1, 8], AV.own [0, 2, 8]]]⟩), ([0, 9], ⟨true, [], [AV.agg [AV.int .i64 (fI (t1.getD t12.toNat .undef) 0), AV.int .i64 (fI (t1.getD t12.toNat .undef) 1), AV.int .i64 (fI (t1.getD t12.toNat .undef) 2), AV.int .i64 (fI (t1.getD t12.toNat .undef) 3)]]⟩), ([0, 10], ⟨false, [.int .i64, .int .i64], h6⟩), ([1, 13], ⟨true, [], [AV.agg [AV.int .i64 (fI (t1.getD t12.toNat .undef) 0), AV.int .i64 (fI (t1.getD t12.toNat .undef) 1), AV.int .i64 (fI (t1.getD t12.toNat .undef) 2), AV.int .i64 (fI (t1.getD t12.toNat .undef) 3)]]⟩), ([1, 86], ⟨false, [.int .i64, .int .i64], ([] : List AV)⟩)]⟩)
  else k .ret ⟨[(4, AV.ptr [0, 4] 0 0), (5, AV.int .i64 0), (6, AV.int .i64 0), (7, AV.bool false)], [([0, 0, 8], ⟨false, [.int .i64], h0⟩), ([0, 1, 8], ⟨false, [.int .i64], h1⟩), ([0, 2, 8], ⟨false, [.int .i64, .int .i64], h2⟩), ([0, 4], ⟨true, [], [AV.agg [AV.snil, AV.snil, AV.snil]]⟩), ([0, 8], ⟨true, [], [AV.agg [AV.own [0, 0, 8], AV.own [0, 1, 8], AV.own [0, 2, 8]]]⟩), ([0, 9], ⟨true, [], [AV.agg [AV.int .i64 (fI (t1.getD t12.toNat .undef) 0), AV.int .i64 (fI (t1.getD t12.toNat .undef) 1), AV.int .i64 (fI (t1.getD t12.toNat .undef) 2), AV.int .i64 (fI (t1.getD t12.toNat .undef) 3)]]⟩), ([0, 10], ⟨false, [.int .i64, .int .i64], h6⟩), ([1, 13], ⟨true, [], [AV.agg [AV.int .i64 (fI (t1.getD t12.toNat .undef) 0), AV.int .i64 (fI (t1.getD t12.toNat .undef) 1), AV.int .i64 (fI (t1.getD t12.toNat .undef) 2), AV.int .i64 (fI (t1.getD t12.toNat .undef) 3)]]⟩), ([1, 86], ⟨false, [.int .i64, .int .i64], ([] : List AV)⟩)]⟩)
  else k .ret ⟨[(4, AV.ptr [0, 4] 0 0), (5, AV.int .i64 0), (6, AV.int .i64 0), (7, AV.bool false)], [([0, 0, 8], ⟨false, [.int .i64], h0⟩), ([0, 1, 8], ⟨false, [.int .i64], h1⟩), ([0, 2, 8], ⟨false, [.int .i64, .int .i64], h2⟩), ([0, 4], ⟨true, [], [AV.agg [AV.snil, AV.snil, AV.snil]]⟩), ([0, 8], ⟨true, [], [AV.agg [AV.own [0, 0, 8], AV.own [0, 1, 8], AV.own [0, 2, 8]]]⟩), ([0, 9], ⟨true, [], [AV.agg [AV.int .i64 (fI (t1.getD t12.toNat .undef) 0), AV.int .i64 (fI (t1.getD t12.toNat .undef) 1), AV.int .i64 (fI (t1.getD t12.toNat .undef) 2), AV.int .i64 (fI (t1.getD t12.toNat .undef) 3)]]⟩), ([0, 10], ⟨false, [.int .i64, .int .i64], h6⟩), ([1, 13], ⟨true, [], [AV.agg [AV.int .i64 (fI (t1.getD t12.toNat .undef) 0), AV.int .i64 (fI (t1.getD t12.toNat .undef) 1), AV.int .i64 (fI (t1.getD t12.toNat .undef) 2), AV.int .i64 (fI (t1.getD t12.toNat .undef) 3)]]⟩), ([1, 86], ⟨false, [.int .i64, .int .i64], ([] : List AV)⟩)]⟩)
  else none)
  else none)
  else (bif decide (fI (t1.getD t12.toNat .undef) 0 = 2) then (bif !decide (h5_0 = 0) then (bif (v28_0 (fI (t1.getD t12.toNat .undef) 1) h5_2 (IntKind.i64.wrap (fI (t1.getD t12.toNat .undef) 2 - 1))) then (bif (v28_0 (fI (t1.getD t12.toNat .undef) 2) h5_2 (IntKind.i64.wrap (h5_3 - 1))) then (bif q35 h0 h1 h2 ([AV.agg [AV.int .i64 (fI (t1.getD t12.toNat .undef) 1), AV.int .i64 (fI (t1.getD t12.toNat .undef) 2)]]) then (bif (decide ((h6.length + ([AV.agg [AV.int .i64 (fI (t1.getD t12.toNat .undef) 1), AV.int .i64 (fI (t1.getD t12.toNat .undef) 2)]]).length) * 16 ≤ 140737488355328) && decide ((h6.length + ([AV.agg [AV.int .i64 (fI (t1.getD t12.toNat .undef) 1), AV.int .i64 (fI (t1.getD t12.toNat .undef) 2)]]).length) ≤ 140737488355328)) then (bif !(decide (fI (t1.getD t12.toNat .undef) 3 = 0)) then k .ret ⟨[(4, AV.ptr [0, 4] 0 0), (5, AV.int .i64 0), (6, AV.int .i64 0), (7, AV.bool false)], [([0, 0, 1, 125], ⟨false, [.int .i64], (v35_0 h0 h1 h2 ([AV.agg [AV.int .i64 (fI (t1.getD t12.toNat .undef) 1), AV.int .i64 (fI (t1.getD t12.toNat .undef) 2)]]))⟩), ([0, 0, 8], ⟨false, [.int .i64], h0⟩), ([0, 1, 8], ⟨false, [.int .i64], h1⟩), ([0, 2, 8], ⟨false, [.int .i64, .int .i64], h2⟩), ([0, 4], ⟨true, [], [AV.agg [AV.snil, AV.snil, AV.snil]]⟩), ([0, 8], ⟨true, [], [AV.agg [AV.own [0, 0, 1, 125], AV.own [1, 0, 1, 125], AV.own [2, 0, 1, 125]]]⟩), ([0, 9], ⟨true, [], [AV.agg [AV.int .i64 h5_0, AV.int .i64 h5_1, AV.int .i64 h5_2, AV.int .i64 h5_3]]⟩), ([1, 0, 1, 125], ⟨false, [.int .i64], (v35_1 h0 h1 h2 ([AV.agg [AV.int .i64 (fI (t1.getD t12.toNat .undef) 1), AV.int .i64 (fI (t1.getD t12.toNat .undef) 2)]]))⟩), ([1, 13], ⟨true, [], [AV.agg [AV.int .i64 (fI (t1.getD t12.toNat .undef) 0), AV.int .i64 (fI (t1.getD t12.toNat .undef) 1), AV.int .i64 (fI (t1.getD t12.toNat .undef) 2), AV.int .i64 (fI (t1.getD t12.toNat .undef) 3)]]⟩), ([1, 19], ⟨true, [], [AV.agg [AV.own [0, 0, 1, 125], AV.own [1, 0, 1, 125], AV.own [2, 0, 1, 125]]]⟩), ([1, 124], ⟨false, [.int .i64, .int .i64], [AV.agg [AV.int .i64 (fI (t1.getD t12.toNat .undef) 1), AV.int .i64 (fI (t1.getD t12.toNat .undef) 2)]]⟩), ([1, 135], ⟨false, [.int .i64, .int .i64], [AV.agg [AV.int .i64 (fI (t1.getD t12.toNat .undef) 1), AV.int .i64 (fI (t1.getD t12.toNat .undef) 2)]]⟩), ([1, 136], ⟨false, [.int .i64, .int .i64], h6 ++ ([AV.agg [AV.int .i64 (fI (t1.getD t12.toNat .undef) 1), AV.int .i64 (fI (t1.getD t12.toNat .undef) 2)]])⟩), ([2, 0, 1, 125], ⟨false, [.int .i64, .int .i64], (v35_2 h0 h1 h2 ([AV.agg [AV.int .i64 (fI (t1.getD t12.toNat .undef) 1), AV.int .i64 (fI (t1.getD t12.toNat .undef) 2)]]))⟩)]⟩
  else next ⟨[(1, AV.sl [.int .i64, .int .i64, .int .i64, .int .i64] t1), (4, AV.ptr [0, 4] 0 0), (8, AV.ptr [0, 8] 0 0), (9, AV.ptr [0, 9] 0 0), (10, AV.own [0, 10]), (11, AV.int .i64 t11), (12, AV.int .i64 (IntKind.i64.wrap (t12 + 1)))], [([0, 0, 8], ⟨false, [.int .i64], (v35_0 h0 h1 h2 ([AV.agg [AV.int .i64 (fI (t1.getD t12.toNat .undef) 1), AV.int .i64 (fI (t1.getD t12.toNat .undef) 2)]]))⟩), ([0, 1, 8], ⟨false, [.int .i64], (v35_1 h0 h1 h2 ([AV.agg [AV.int .i64 (fI (t1.getD t12.toNat .undef) 1), AV.int .i64 (fI (t1.getD t12.toNat .undef) 2)]]))⟩), ([0, 2, 8], ⟨false, [.int .i64, .int .i64], (v35_2 h0 h1 h2 ([AV.agg [AV.int .i64 (fI (t1.getD t12.toNat .undef) 1), AV.int .i64 (fI (t1.getD t12.toNat .undef) 2)]]))⟩), ([0, 4], ⟨true, [], [AV.agg [AV.snil, AV.snil, AV.snil]]⟩), ([0, 8], ⟨true, [], [AV.agg [AV.own [0, 0, 8], AV.own [0, 1, 8], AV.own [0, 2, 8]]]⟩), ([0, 9], ⟨true, [], [AV.agg [AV.int .i64 h5_0, AV.int .i64 h5_1, AV.int .i64 h5_2, AV.int .i64 h5_3]]⟩), ([0, 10], ⟨false, [.int .i64, .int .i64], h6 ++ ([AV.agg [AV.int .i64 (fI (t1.getD t12.toNat .undef) 1), AV.int .i64 (fI (t1.getD t12.toNat .undef) 2)]])⟩)]⟩)
  else none)
  else none)
  else (bif q35 h0 h1 h2 ([AV.agg [AV.int .i64 (fI (t1.getD t12.toNat .undef) 1), AV.int .i64 (fI (t1.getD t12.toNat .undef) 2)]]) then (bif (decide ((h6.length + ([AV.agg [AV.int .i64 (fI (t1.getD t12.toNat .undef) 1), AV.int .i64 (fI (t1.getD t12.toNat .undef) 2)]]).length) * 16 ≤ 140737488355328) && decide ((h6.length + ([AV.agg [AV.int .i64 (fI (t1.getD t12.toNat .undef) 1), AV.int .i64 (fI (t1.getD t12.toNat .undef) 2)]]).length) ≤ 140737488355328)) then k .ret ⟨[(4, AV.ptr [0, 4] 0 0), (5, AV.int .i64 0), (6, AV.int .i64 0), (7, AV.bool false)], [([0, 0, 1, 125], ⟨false, [.int .i64], (v35_0 h0 h1 h2 ([AV.agg [AV.int .i64 (fI (t1.getD t12.toNat .undef) 1), AV.int .i64 (fI (t1.getD t12.toNat .undef) 2)]]))⟩), ([0, 0, 8], ⟨false, [.int .i64], h0⟩), ([0, 1, 8], ⟨false, [.int .i64], h1⟩), ([0, 2, 8], ⟨false, [.int .i64, .int .i64], h2⟩), ([0, 4], ⟨true, [], [AV.agg [AV.snil, AV.snil, AV.snil]]⟩), ([0, 8], ⟨true, [], [AV.agg [AV.own [0, 0, 1, 125], AV.own [1, 0, 1, 125], AV.own [2, 0, 1, 125]]]⟩), ([0, 9], ⟨true, [], [AV.agg [AV.int .i64 h5_0, AV.int .i64 h5_1, AV.int .i64 h5_2, AV.int .i64 h5_3]]⟩), ([1, 0, 1, 125], ⟨false, [.int .i64], (v35_1 h0 h1 h2 ([AV.agg [AV.int .i64 (fI (t1.getD t12.toNat .undef) 1), AV.int .i64 (fI (t1.getD t12.toNat .undef) 2)]]))⟩), ([1, 13], ⟨true, [], [AV.agg [AV.int .i64 (fI (t1.getD t12.toNat .undef) 0), AV.int .i64 (fI (t1.getD t12.toNat .undef) 1), AV.int .i64 (fI (t1.getD t12.toNat .undef) 2), AV.int .i64 (fI (t1.getD t12.toNat .undef) 3)]]⟩), ([1, 19], ⟨true, [], [AV.agg [AV.own [0, 0, 1, 125], AV.own [1, 0, 1, 125], AV.own [2, 0, 1, 125]]]⟩), ([1, 124], ⟨false, [.int .i64, .int .i64], [AV.agg [AV.int .i64 (fI (t1.getD t12.toNat .undef) 1), AV.int .i64 (fI (t1.getD t12.toNat .undef) 2)]]⟩), ([1, 135], ⟨false, [.int .i64, .int .i64], [AV.agg [AV.int .i64 (fI (t1.getD t12.toNat .undef) 1), AV.int .i64 (fI (t1.getD t12.toNat .undef) 2)]]⟩), ([1, 136], ⟨false, [.int .i64, .int .i64], h6 ++ ([AV.agg [AV.int .i64 (fI (t1.getD t12.toNat .undef) 1), AV.int .i64 (fI (t1.getD t12.toNat .undef) 2)]])⟩), ([2, 0, 1, 125], ⟨false, [.int .i64, .int .i64], (v35_2 h0 h1 h2 ([AV.agg [AV.int .i64 (fI (t1.getD t12.toNat .undef) 1), AV.int .i64 (fI (t1.getD t12.toNat .undef) 2)]]))⟩)]⟩
  else none)
  else none))
  else (bif q35 h0 h1 h2 ([AV.agg [AV.int .i64 (fI (t1.getD t12.toNat .undef) 1), AV.int .i64 (fI (t1.getD t12.toNat .undef) 2)]]) then (bif (decide ((h6.length + ([AV.agg [AV.int .i64 (fI (t1.getD t12.toNat .undef) 1), AV.int .i64 (fI (t1.getD t12.toNat .undef) 2)]]).length) * 16 ≤ 140737488355328) && decide ((h6.length + ([AV.agg [AV.int .i64 (fI (t1.getD t12.toNat .undef) 1), AV.int .i64 (fI (t1.getD t12.toNat .undef) 2)]]).length) ≤ 140737488355328)) then k .ret ⟨[(4, AV.ptr [0, 4] 0 0), (5, AV.int .i64 0), (6, AV.int .i64 0), (7, AV.bool false)], [([0, 0, 1, 125], ⟨false, [.int .i64], (v35_0 h0 h1 h2 ([AV.agg [AV.int .i64 (fI (t1.getD t12.toNat .undef) 1), AV.int .i64 (fI (t1.getD t12.toNat .undef) 2)]]))⟩), ([0, 0, 8], ⟨false, [.int .i64], h0⟩), ([0, 1, 8], ⟨false, [.int .i64], h1⟩), ([0, 2, 8], ⟨false, [.int .i64, .int .i64], h2⟩), ([0, 4], ⟨true, [], [AV.agg [AV.snil, AV.snil, AV.snil]]⟩), ([0, 8], ⟨true, [], [AV.agg [AV.own [0, 0, 1, 125], AV.own [1, 0, 1, 125], AV.own [2, 0, 1, 125]]]⟩), ([0, 9], ⟨true, [], [AV.agg [AV.int .i64 h5_0, AV.int .i64 h5_1, AV.int .i64 h5_2, AV.int .i64 h5_3]]⟩), ([1, 0, 1, 125], ⟨false, [.int .i64], (v35_1 h0 h1 h2 ([AV.agg [AV.int .i64 (fI (t1.getD t12.toNat .undef) 1), AV.int .i64 (fI (t1.getD t12.toNat .undef) 2)]]))⟩), ([1, 13], ⟨true, [], [AV.agg [AV.int .i64 (fI (t1.getD t12.toNat .undef) 0), AV.int .i64 (fI (t1.getD t12.toNat .undef) 1), AV.int .i64 (fI (t1.getD t12.toNat .undef) 2), AV.int .i64 (fI (t1.getD t12.toNat .undef) 3)]]⟩), ([1, 19], ⟨true, [], [AV.agg [AV.own [0, 0, 1, 125], AV.own [1, 0, 1, 125], AV.own [2, 0, 1, 125]]]⟩), ([1, 124], ⟨false, [.int .i64, .int .i64], [AV.agg [AV.int .i64 (fI (t1.getD t12.toNat .undef) 1), AV.int .i64 (fI (t1.getD t12.toNat .undef) 2)]]⟩), ([1, 135], ⟨false, [.int .i64, .int .i64], [AV.agg [AV.int .i64 (fI (t1.getD t12.toNat .undef) 1), AV.int .i64 (fI (t1.getD t12.toNat .undef) 2)]]⟩), ([1, 136], ⟨false, [.int .i64, .int .i64], h6 ++ ([AV.agg [AV.int .i64 (fI (t1.getD t12.toNat .undef) 1), AV.int .i64 (fI (t1.getD t12.toNat .undef) 2)]])⟩), ([2, 0, 1, 125], ⟨false, [.int .i64, .int .i64], (v35_2 h0 h1 h2 ([AV.agg [AV.int .i64 (fI (t1.getD t12.toNat .undef) 1), AV.int .i64 (fI (t1.getD t12.toNat .undef) 2)]]))⟩)]⟩
  else none)
  else none))
  else (bif q35 h0 h1 h2 ([AV.agg [AV.int .i64 (fI (t1.getD t12.toNat .undef) 1), AV.int .i64 (fI (t1.getD t12.toNat .undef) 2)]]) then (bif (decide ((h6.length + ([AV.agg [AV.int .i64 (fI (t1.getD t12.toNat .undef) 1), AV.int .i64 (fI (t1.getD t12.toNat .undef) 2)]]).length) * 16 ≤ 140737488355328) && decide ((h6.length + ([AV.agg [AV.int .i64 (fI (t1.getD t12.toNat .undef) 1), AV.int .i64 (fI (t1.getD t12.toNat .undef) 2)]]).length) ≤ 140737488355328)) then k .ret ⟨[(4, AV.ptr [0, 4] 0 0), (5, AV.int .i64 0), (6, AV.int .i64 0), (7, AV.bool false)], [([0, 0, 1, 125], ⟨false, [.int .i64], (v35_0 h0 h1 h2 ([AV.agg [AV.int .i64 (fI (t1.getD t12.toNat .undef) 1), AV.int .i64 (fI (t1.getD t12.toNat .undef) 2)]]))⟩), ([0, 0, 8], ⟨false, [.int .i64], h0⟩), ([0, 1, 8], ⟨false, [.int .i64], h1⟩), ([0, 2, 8], ⟨false, [.int .i64, .int .i64], h2⟩), ([0, 4], ⟨true, [], [AV.agg [AV.snil, AV.snil, AV.snil]]⟩), ([0, 8], ⟨true, [], [AV.agg [AV.own [0, 0, 1, 125], AV.own [1, 0, 1, 125], AV.own [2, 0, 1, 125]]]⟩), ([0, 9], ⟨true, [], [AV.agg [AV.int .i64 h5_0, AV.int .i64 h5_1, AV.int .i64 h5_2, AV.int .i64 h5_3]]⟩), ([1, 0, 1, 125], ⟨false, [.int .i64], (v35_1 h0 h1 h2 ([AV.agg [AV.int .i64 (fI (t1.getD t12.toNat .undef) 1), AV.int .i64 (fI (t1.getD t12.toNat .undef) 2)]]))⟩), ([1, 13], ⟨true, [], [AV.agg [AV.int .i64 (fI (t1.getD t12.toNat .undef) 0), AV.int .i64 (fI (t1.getD t12.toNat .undef) 1), AV.int .i64 (fI (t1.getD t12.toNat .undef) 2), AV.int .i64 (fI (t1.getD t12.toNat .undef) 3)]]⟩), ([1, 19], ⟨true, [], [AV.agg [AV.own [0, 0, 1, 125], AV.own [1, 0, 1, 125], AV.own [2, 0, 1, 125]]]⟩), ([1, 124], ⟨false, [.int .i64, .int .i64], [AV.agg [AV.int .i64 (fI (t1.getD t12.toNat .undef) 1), AV.int .i64 (fI (t1.getD t12.toNat .undef) 2)]]⟩), ([1, 135], ⟨false, [.int .i64, .int .i64], [AV.agg [AV.int .i64 (fI (t1.getD t12.toNat .undef) 1), AV.int .i64 (fI (t1.getD t12.toNat .undef) 2)]]⟩), ([1, 136], ⟨false, [.int .i64, .int .i64], h6 ++ ([AV.agg [AV.int .i64 (fI (t1.getD t12.toNat .undef) 1), AV.int .i64 (fI (t1.getD t12.toNat .undef) 2)]])⟩), ([2, 0, 1, 125], ⟨false, [.int .i64, .int .i64], (v35_2 h0 h1 h2 ([AV.agg [AV.int .i64 (fI (t1.getD t12.toNat .undef) 1), AV.int .i64 (fI (t1.getD t12.toNat .undef) 2)]]))⟩)]⟩
  else none)
  else none))
  else (bif decide (fI (t1.getD t12.toNat .undef) 0 = 3) then (bif q36 h0 h1 h2 (fI (t1.getD t12.toNat .undef) 1) (fI (t1.getD t12.toNat .undef) 2) then (bif !decide (h5_0 = 0) then (bif decide (h5_1 = fI (t1.getD t12.toNat .undef) 1) then (bif (v36_3 h0 h1 h2 (fI (t1.getD t12.toNat .undef) 1) (fI (t1.getD t12.toNat .undef) 2)) then (bif !(decide (fI (t1.getD t12.toNat .undef) 3 = 0)) then k .ret ⟨[(4, AV.ptr [0, 4] 0 0), (5, AV.int .i64 0), (6, AV.int .i64 0), (7, AV.bool false)], [([0, 0, 1, 146], ⟨false, [.int .i64], (v36_0 h0 h1 h2 (fI (t1.getD t12.toNat .undef) 1) (fI (t1.getD t12.toNat .undef) 2))⟩), ([0, 0, 8], ⟨false, [.int .i64], h0⟩), ([0, 1, 8], ⟨false, [.int .i64], h1⟩), ([0, 2, 8], ⟨false, [.int .i64, .int .i64], h2⟩), ([0, 4], ⟨true, [], [AV.agg [AV.snil, AV.snil, AV.snil]]⟩), ([0, 8], ⟨true, [], [AV.agg [AV.own [0, 0, 1, 146], AV.own [1, 0, 1, 146], AV.own [2, 0, 1, 146]]]⟩), ([0, 9], ⟨true, [], [AV.agg [AV.int .i64 0, AV.int .i64 0, AV.int .i64 0, AV.int .i64 0]]⟩), ([0, 10], ⟨false, [.int .i64, .int .i64], h6⟩), ([1, 0, 1, 146], ⟨false, [.int .i64], (v36_1 h0 h1 h2 (fI (t1.getD t12.toNat .undef) 1) (fI (t1.getD t12.toNat .undef) 2))⟩), ([1, 13], ⟨true, [], [AV.agg [AV.int .i64 (fI (t1.getD t12.toNat .undef) 0), AV.int .i64 (fI (t1.getD t12.toNat .undef) 1), AV.int .i64 (fI (t1.getD t12.toNat .undef) 2), AV.int .i64 (fI (t1.getD t12.toNat .undef) 3)]]⟩), ([1, 21], ⟨true, [], [AV.agg [AV.own [0, 0, 1, 146], AV.own [1, 0, 1, 146], AV.own [2, 0, 1, 146]]]⟩), ([2, 0, 1, 146], ⟨false, [.int .i64, .int .i64], (v36_2 h0 h1 h2 (fI (t1.getD t12.toNat .undef) 1) (fI (t1.getD t12.toNat .undef) 2))⟩)]⟩
  else next ⟨[(1, AV.sl [.int .i64, .int .i64, .int .i64, .int .i64] t1), (4, AV.ptr [0, 4] 0 0), (8, AV.ptr [0, 8] 0 0), (9, AV.ptr [0, 9] 0 0), (10, AV.own [0, 10]), (11, AV.int .i64 (IntKind.i64.wrap (t11 + 1))), (12, AV.int .i64 (IntKind.i64.wrap (t12 + 1)))], [([0, 0, 8], ⟨false, [.int .i64], (v36_0 h0 h1 h2 (fI (t1.getD t12.toNat .undef) 1) (fI (t1.getD t12.toNat .undef) 2))⟩), ([0, 1, 8], ⟨false, [.int .i64], (v36_1 h0 h1 h2 (fI (t1.getD t12.toNat .undef) 1) (fI (t1.getD t12.toNat .undef) 2))⟩), ([0, 2, 8], ⟨false, [.int .i64, .int .i64], (v36_2 h0 h1 h2 (fI (t1.getD t12.toNat .undef) 1) (fI (t1.getD t12.toNat .undef) 2))⟩), ([0, 4], ⟨true, [], [AV.agg [AV.snil, AV.snil, AV.snil]]⟩), ([0, 8], ⟨true, [], [AV.agg [AV.own [0, 0, 8], AV.own [0, 1, 8], AV.own [0, 2, 8]]]⟩), ([0, 9], ⟨true, [], [AV.agg [AV.int .i64 0, AV.int .i64 0, AV.int .i64 0, AV.int .i64 0]]⟩), ([0, 10], ⟨false, [.int .i64, .int .i64], h6⟩)]⟩)
  else k .ret ⟨[(4, AV.ptr [0, 4] 0 0), (5, AV.int .i64 0), (6, AV.int .i64 0), (7, AV.bool false)], [([0, 0, 1, 146], ⟨false, [.int .i64], (v36_0 h0 h1 h2 (fI (t1.getD t12.toNat .undef) 1) (fI (t1.getD t12.toNat .undef) 2))⟩), ([0, 0, 8], ⟨false, [.int .i64], h0⟩), ([0, 1, 8], ⟨false, [.int .i64], h1⟩), ([0, 2, 8], ⟨false, [.int .i64, .int .i64], h2⟩), ([0, 4], ⟨true, [], [AV.agg [AV.snil, AV.snil, AV.snil]]⟩), ([0, 8], ⟨true, [], [AV.agg [AV.own [0, 0, 1, 146], AV.own [1, 0, 1, 146], AV.own [2, 0, 1, 146]]]⟩), ([0, 9], ⟨true, [], [AV.agg [AV.int .i64 0, AV.int .i64 0, AV.int .i64 0, AV.int .i64 0]]⟩), ([0, 10], ⟨false, [.int .i64, .int .i64], h6⟩), ([1, 0, 1, 146], ⟨false, [.int .i64], (v36_1 h0 h1 h2 (fI (t1.getD t12.toNat .undef) 1) (fI (t1.getD t12.toNat .undef) 2))⟩), ([1, 13], ⟨true, [], [AV.agg [AV.int .i64 (fI (t1.getD t12.toNat .undef) 0), AV.int .i64 (fI (t1.getD t12.toNat .undef) 1), AV.int .i64 (fI (t1.getD t12.toNat .undef) 2), AV.int .i64 (fI (t1.getD t12.toNat .undef) 3)]]⟩), ([1, 21], ⟨true, [], [AV.agg [AV.own [0, 0, 1, 146], AV.own [1, 0, 1, 146], AV.own [2, 0, 1, 146]]]⟩), ([2, 0, 1, 146], ⟨false, [.int .i64, .int .i64], (v36_2 h0 h1 h2 (fI (t1.getD t12.toNat .undef) 1) (fI (t1.getD t12.toNat .undef) 2))⟩)]⟩)
  else k .ret ⟨[(4, AV.ptr [0, 4] 0 0), (5, AV.int .i64 0), (6, AV.int .i64 0), (7, AV.bool false)], [([0, 0, 1, 146], ⟨false, [.int .i64], (v36_0 h0 h1 h2 (fI (t1.getD t12.toNat .undef) 1) (fI (t1.getD t12.toNat .undef) 2))⟩), ([0, 0, 8], ⟨false, [.int .i64], h0⟩), ([0, 1, 8], ⟨false, [.int .i64], h1⟩), ([0, 2, 8], ⟨false, [.int .i64, .int .i64], h2⟩), ([0, 4], ⟨true, [], [AV.agg [AV.snil, AV.snil, AV.snil]]⟩), ([0, 8], ⟨true, [], [AV.agg [AV.own [0, 0, 1, 146], AV.own [1, 0, 1, 146], AV.own [2, 0, 1, 146]]]⟩), ([0, 9], ⟨true, [], [AV.agg [AV.int .i64 0, AV.int .i64 0, AV.int .i64 0, AV.int .i64 0]]⟩), ([0, 10], ⟨false, [.int .i64, .int .i64], h6⟩), ([1, 0, 1, 146], ⟨false, [.int .i64], (v36_1 h0 h1 h2 (fI (t1.getD t12.toNat .undef) 1) (fI (t1.getD t12.toNat .undef) 2))⟩), ([1, 13], ⟨true, [], [AV.agg [AV.int .i64 (fI (t1.getD t12.toNat .undef) 0), AV.int .i64 (fI (t1.getD t12.toNat .undef) 1), AV.int .i64 (fI (t1.getD t12.toNat .undef) 2), AV.int .i64 (fI (t1.getD t12.toNat .undef) 3)]]⟩), ([1, 21], ⟨true, [], [AV.agg [AV.own [0, 0, 1, 146], AV.own [1, 0, 1, 146], AV.own [2, 0, 1, 146]]]⟩), ([2, 0, 1, 146], ⟨false, [.int .i64, .int .i64], (v36_2 h0 h1 h2 (fI (t1.getD t12.toNat .undef) 1) (fI (t1.getD t12.toNat .undef) 2))⟩)]⟩)
  else k .ret ⟨[(4, AV.ptr [0, 4] 0 0), (5, AV.int .i64 0), (6, AV.int .i64 0), (7, AV.bool false)], [([0, 0, 1, 146], ⟨false, [.int .i64], (v36_0 h0 h1 h2 (fI (t1.getD t12.toNat .undef) 1) (fI (t1.getD t12.toNat .undef) 2))⟩), ([0, 0, 8], ⟨false, [.int .i64], h0⟩), ([0, 1, 8], ⟨false, [.int .i64], h1⟩), ([0, 2, 8], ⟨false, [.int .i64, .int .i64], h2⟩), ([0, 4], ⟨true, [], [AV.agg [AV.snil, AV.snil, AV.snil]]⟩), ([0, 8], ⟨true, [], [AV.agg [AV.own [0, 0, 1, 146], AV.own [1, 0, 1, 146], AV.own [2, 0, 1, 146]]]⟩), ([0, 9], ⟨true, [], [AV.agg [AV.int .i64 0, AV.int .i64 0, AV.int .i64 0, AV.int .i64 0]]⟩), ([0, 10], ⟨false, [.int .i64, .int .i64], h6⟩), ([1, 0, 1, 146], ⟨false, [.int .i64], (v36_1 h0 h1 h2 (fI (t1.getD t12.toNat .undef) 1) (fI (t1.getD t12.toNat .undef) 2))⟩), ([1, 13], ⟨true, [], [AV.agg [AV.int .i64 (fI (t1.getD t12.toNat .undef) 0), AV.int .i64 (fI (t1.getD t12.toNat .undef) 1), AV.int .i64 (fI (t1.getD t12.toNat .undef) 2), AV.int .i64 (fI (t1.getD t12.toNat .undef) 3)]]⟩), ([1, 21], ⟨true, [], [AV.agg [AV.own [0, 0, 1, 146], AV.own [1, 0, 1, 146], AV.own [2, 0, 1, 146]]]⟩), ([2, 0, 1, 146], ⟨false, [.int .i64, .int .i64], (v36_2 h0 h1 h2 (fI (t1.getD t12.toNat .undef) 1) (fI (t1.getD t12.toNat .undef) 2))⟩)]⟩)
  else none)
  else k .ret ⟨[(4, AV.ptr [0, 4] 0 0), (5, AV.int .i64 0), (6, AV.int .i64 0), (7, AV.bool false)], [([0, 0, 8], ⟨false, [.int .i64], h0⟩), ([0, 1, 8], ⟨false, [.int .i64], h1⟩), ([0, 2, 8], ⟨false, [.int .i64, .int .i64], h2⟩), ([0, 4], ⟨true, [], [AV.agg [AV.snil, AV.snil, AV.snil]]⟩), ([0, 8], ⟨true, [], [AV.agg [AV.own [0, 0, 8], AV.own [0, 1, 8], AV.own [0, 2, 8]]]⟩), ([0, 9], ⟨true, [], [AV.agg [AV.int .i64 h5_0, AV.int .i64 h5_1, AV.int .i64 h5_2, AV.int .i64 h5_3]]⟩), ([0, 10], ⟨false, [.int .i64, .int .i64], h6⟩), ([1, 13], ⟨true, [], [AV.agg [AV.int .i64 (fI (t1.getD t12.toNat .undef) 0), AV.int .i64 (fI (t1.getD t12.toNat .undef) 1), AV.int .i64 (fI (t1.getD t12.toNat .undef) 2), AV.int .i64 (fI (t1.getD t12.toNat .undef) 3)]]⟩)]⟩)))
  else none)
  else k (.exit 0) ⟨[(4, AV.ptr [0, 4] 0 0), (8, AV.ptr [0, 8] 0 0), (9, AV.ptr [0, 9] 0 0), (10, AV.own [0, 10]), (11, AV.int .i64 t11)], [([0, 0, 8], ⟨false, [.int .i64], h0⟩), ([0, 1, 8], ⟨false, [.int .i64], h1⟩), ([0, 2, 8], ⟨false, [.int .i64, .int .i64], h2⟩), ([0, 4], ⟨true, [], [AV.agg [AV.snil, AV.snil, AV.snil]]⟩), ([0, 8], ⟨true, [], [AV.agg [AV.own [0, 0, 8], AV.own [0, 1, 8], AV.own [0, 2, 8]]]⟩), ([0, 9], ⟨true, [], [AV.agg [AV.int .i64 h5_0, AV.int .i64 h5_1, AV.int .i64 h5_2, AV.int .i64 h5_3]]⟩), ([0, 10], ⟨false, [.int .i64, .int .i64], h6⟩)]⟩) := by kernel_rfl
theorem st29_0 (t1 : List AV) (ce : CallE) (k : Kont) (s : (Int × Int × (List AV) × (List AV) × (List AV) × Int × Int × Int × Int × (List AV))) (next : St → Option AV) : stepA (codeA c29 ce [] 29 0 (sub [1, 1, 1, 1, 1, 1, 0, 1, 0, 0] (body Try.f29))) (normA [] [1, 4, 8, 9, 10, 11, 12]) next ((fun s : Int × Int × (List AV) × (List AV) × (List AV) × Int × Int × Int × Int × (List AV) => ⟨[(1, AV.sl [.int .i64, .int .i64, .int .i64, .int .i64] t1), (4, AV.ptr [0, 4] 0 0), (8, AV.ptr [0, 8] 0 0), (9, AV.ptr [0, 9] 0 0), (10, AV.own [0, 10]), (11, AV.int .i64 s.1), (12, AV.int .i64 s.2.1)], [([0, 0, 8], ⟨false, [.int .i64], s.2.2.1⟩), ([0, 1, 8], ⟨false, [.int .i64], s.2.2.2.1⟩), ([0, 2, 8], ⟨false, [.int .i64, .int .i64], s.2.2.2.2.1⟩), ([0, 4], ⟨true, [], [AV.agg [AV.snil, AV.snil, AV.snil]]⟩), ([0, 8], ⟨true, [], [AV.agg [AV.own [0, 0, 8], AV.own [0, 1, 8], AV.own [0, 2, 8]]]⟩), ([0, 9], ⟨true, [], [AV.agg [AV.int .i64 s.2.2.2.2.2.1, AV.int .i64 s.2.2.2.2.2.2.1, AV.int .i64 s.2.2.2.2.2.2.2.1, AV.int .i64 s.2.2.2.2.2.2.2.2.1]]⟩), ([0, 10], ⟨false, [.int .i64, .int .i64], s.2.2.2.2.2.2.2.2.2⟩)]⟩) s) k = (R29_0 t1 s).el none (fun s => next ((fun s : Int × Int × (List AV) × (List AV) × (List AV) × Int × Int × Int × Int × (List AV) => ⟨[(1, AV.sl [.int .i64, .int .i64, .int .i64, .int .i64] t1), (4, AV.ptr [0, 4] 0 0), (8, AV.ptr [0, 8] 0 0), (9, AV.ptr [0, 9] 0 0), (10, AV.own [0, 10]), (11, AV.int .i64 s.1), (12, AV.int .i64 s.2.1)], [([0, 0, 8], ⟨false, [.int .i64], s.2.2.1⟩), ([0, 1, 8], ⟨false, [.int .i64], s.2.2.2.1⟩), ([0, 2, 8], ⟨false, [.int .i64, .int .i64], s.2.2.2.2.1⟩), ([0, 4], ⟨true, [], [AV.agg [AV.snil, AV.snil, AV.snil]]⟩), ([0, 8], ⟨true, [], [AV.agg [AV.own [0, 0, 8], AV.own [0, 1, 8], AV.own [0, 2, 8]]]⟩), ([0, 9], ⟨true, [], [AV.agg [AV.int .i64 s.2.2.2.2.2.1, AV.int .i64 s.2.2.2.2.2.2.1, AV.int .i64 s.2.2.2.2.2.2.2.1, AV.int .i64 s.2.2.2.2.2.2.2.2.1]]⟩), ([0, 10], ⟨false, [.int .i64, .int .i64], s.2.2.2.2.2.2.2.2.2⟩)]⟩) s)) (sumE (fun p : Int × (List AV) × (List AV) × (List AV) × Int × Int × Int × Int × (List AV) => k (.exit 0) ⟨[(4, AV.ptr [0, 4] 0 0), (8, AV.ptr [0, 8] 0 0), (9, AV.ptr [0, 9] 0 0), (10, AV.own [0, 10]), (11, AV.int .i64 p.1)], [([0, 0, 8], ⟨false, [.int .i64], p.2.1⟩), ([0, 1, 8], ⟨false, [.int .i64], p.2.2.1⟩), ([0, 2, 8], ⟨false, [.int .i64, .int .i64], p.2.2.2.1⟩), ([0, 4], ⟨true, [], [AV.agg [AV.snil, AV.snil, AV.snil]]⟩), ([0, 8], ⟨true, [], [AV.agg [AV.own [0, 0, 8], AV.own [0, 1, 8], AV.own [0, 2, 8]]]⟩), ([0, 9], ⟨true, [], [AV.agg [AV.int .i64 p.2.2.2.2.1, AV.int .i64 p.2.2.2.2.2.1, AV.int .i64 p.2.2.2.2.2.2.1, AV.int .i64 p.2.2.2.2.2.2.2.1]]⟩), ([0, 10], ⟨false, [.int .i64, .int .i64], p.2.2.2.2.2.2.2.2⟩)]⟩) (sumE (fun p : (List AV) × (List AV) × (List AV) × Int × Int × Int × Int × (List AV) × Int × Int × Int × Int => k .ret ⟨[(4, AV.ptr [0, 4] 0 0), (5, AV.int .i64 0), (6, AV.int .i64 0), (7, AV.bool false)], [([0, 0, 8], ⟨false, [.int .i64], p.1⟩), ([0, 1, 8], ⟨false, [.int .i64], p.2.1⟩), ([0, 2, 8], ⟨false, [.int .i64, .int .i64], p.2.2.1⟩), ([0, 4], ⟨true, [], [AV.agg [AV.snil, AV.snil, AV.snil]]⟩), ([0, 8], ⟨true, [], [AV.agg [AV.own [0, 0, 8], AV.own [0, 1, 8], AV.own [0, 2, 8]]]⟩), ([0, 9], ⟨true, [], [AV.agg [AV.int .i64 p.2.2.2.1, AV.int .i64 p.2.2.2.2.1, AV.int .i64 p.2.2.2.2.2.1, AV.int .i64 p.2.2.2.2.2.2.1]]⟩), ([0, 10], ⟨false, [.int .i64, .int .i64], p.2.2.2.2.2.2.2.1⟩), ([1, 13], ⟨true, [], [AV.agg [AV.int .i64 p.2.2.2.2.2.2.2.2.1, AV.int .i64 p.2.2.2.2.2.2.2.2.2.1, AV.int .i64 p.2.2.2.2.2.2.2.2.2.2.1, AV.int .i64 p.2.2.2.2.2.2.2.2.2.2.2]]⟩), ([1, 86], ⟨false, [.int .i64, .int .i64], ([] : List AV)⟩)]⟩) (sumE (fun p : (List AV) × (List AV) × (List AV) × (List AV) × Int × Int × Int × Int × (List AV) × Int × Int × Int × Int × (List AV) × (List AV) × (List AV) × (List AV) => k .ret ⟨[(4, AV.ptr [0, 4] 0 0), (5, AV.int .i64 0), (6, AV.int .i64 0), (7, AV.bool false)], [([0, 0, 1, 125], ⟨false, [.int .i64], p.1⟩), ([0, 0, 8], ⟨false, [.int .i64], p.2.1⟩), ([0, 1, 8], ⟨false, [.int .i64], p.2.2.1⟩), ([0, 2, 8], ⟨false, [.int .i64, .int .i64], p.2.2.2.1⟩), ([0, 4], ⟨true, [], [AV.agg [AV.snil, AV.snil, AV.snil]]⟩), ([0, 8], ⟨true, [], [AV.agg [AV.own [0, 0, 1, 125], AV.own [1, 0, 1, 125], AV.own [2, 0, 1, 125]]]⟩), ([0, 9], ⟨true, [], [AV.agg [AV.int .i64 p.2.2.2.2.1, AV.int .i64 p.2.2.2.2.2.1, AV.int .i64 p.2.2.2.2.2.2.1, AV.int .i64 p.2.2.2.2.2.2.2.1]]⟩), ([1, 0, 1, 125], ⟨false, [.int .i64], p.2.2.2.2.2.2.2.2.1⟩), ([1, 13], ⟨true, [], [AV.agg [AV.int .i64 p.2.2.2.2.2.2.2.2.2.1, AV.int .i64 p.2.2.2.2.2.2.2.2.2.2.1, AV.int .i64 p.2.2.2.2.2.2.2.2.2.2.2.1, AV.int .i64 p.2.2.2.2.2.2.2.2.2.2.2.2.1]]⟩), ([1, 19], ⟨true, [], [AV.agg [AV.own [0, 0, 1, 125], AV.own [1, 0, 1, 125], AV.own [2, 0, 1, 125]]]⟩), ([1, 124], ⟨false, [.int .i64, .int .i64], p.2.2.2.2.2.2.2.2.2.2.2.2.2.1⟩), ([1, 135], ⟨false, [.int .i64, .int .i64], p.2.2.2.2.2.2.2.2.2.2.2.2.2.2.1⟩), ([1, 136], ⟨false, [.int .i64, .int .i64], p.2.2.2.2.2.2.2.2.2.2.2.2.2.2.2.1⟩), ([2, 0, 1, 125], ⟨false, [.int .i64, .int .i64], p.2.2.2.2.2.2.2.2.2.2.2.2.2.2.2.2⟩)]⟩) (sumE (fun p : (List AV) × (List AV) × (List AV) × (List AV) × (List AV) × (List AV) × Int × Int × Int × Int × (List AV) => k .ret ⟨[(4, AV.ptr [0, 4] 0 0), (5, AV.int .i64 0), (6, AV.int .i64 0), (7, AV.bool false)], [([0, 0, 1, 146], ⟨false, [.int .i64], p.1⟩), ([0, 0, 8], ⟨false, [.int .i64], p.2.1⟩), ([0, 1, 8], ⟨false, [.int .i64], p.2.2.1⟩), ([0, 2, 8], ⟨false, [.int .i64, .int .i64], p.2.2.2.1⟩), ([0, 4], ⟨true, [], [AV.agg [AV.snil, AV.snil, AV.snil]]⟩), ([0, 8], ⟨true, [], [AV.agg [AV.own [0, 0, 1, 146], AV.own [1, 0, 1, 146], AV.own [2, 0, 1, 146]]]⟩), ([0, 9], ⟨true, [], [AV.agg [AV.int .i64 0, AV.int .i64 0, AV.int .i64 0, AV.int .i64 0]]⟩), ([0, 10], ⟨false, [.int .i64, .int .i64], p.2.2.2.2.1⟩), ([1, 0, 1, 146], ⟨false, [.int .i64], p.2.2.2.2.2.1⟩), ([1, 13], ⟨true, [], [AV.agg [AV.int .i64 p.2.2.2.2.2.2.1, AV.int .i64 p.2.2.2.2.2.2.2.1, AV.int .i64 p.2.2.2.2.2.2.2.2.1, AV.int .i64 p.2.2.2.2.2.2.2.2.2.1]]⟩), ([1, 21], ⟨true, [], [AV.agg [AV.own [0, 0, 1, 146], AV.own [1, 0, 1, 146], AV.own [2, 0, 1, 146]]]⟩), ([2, 0, 1, 146], ⟨false, [.int .i64, .int .i64], p.2.2.2.2.2.2.2.2.2.2⟩)]⟩) (fun p : (List AV) × (List AV) × (List AV) × Int × Int × Int × Int × (List AV) × Int × Int × Int × Int => k .ret ⟨[(4, AV.ptr [0, 4] 0 0), (5, AV.int .i64 0), (6, AV.int .i64 0), (7, AV.bool false)], [([0, 0, 8], ⟨false, [.int .i64], p.1⟩), ([0, 1, 8], ⟨false, [.int .i64], p.2.1⟩), ([0, 2, 8], ⟨false, [.int .i64, .int .i64], p.2.2.1⟩), ([0, 4], ⟨true, [], [AV.agg [AV.snil, AV.snil, AV.snil]]⟩), ([0, 8], ⟨true, [], [AV.agg [AV.own [0, 0, 8], AV.own [0, 1, 8], AV.own [0, 2, 8]]]⟩), ([0, 9], ⟨true, [], [AV.agg [AV.int .i64 p.2.2.2.1, AV.int .i64 p.2.2.2.2.1, AV.int .i64 p.2.2.2.2.2.1, AV.int .i64 p.2.2.2.2.2.2.1]]⟩), ([0, 10], ⟨false, [.int .i64, .int .i64], p.2.2.2.2.2.2.2.1⟩), ([1, 13], ⟨true, [], [AV.agg [AV.int .i64 p.2.2.2.2.2.2.2.2.1, AV.int .i64 p.2.2.2.2.2.2.2.2.2.1, AV.int .i64 p.2.2.2.2.2.2.2.2.2.2.1, AV.int .i64 p.2.2.2.2.2.2.2.2.2.2.2]]⟩)]⟩))))) := (s29_0 ce t1 s.1 s.2.1 s.2.2.1 s.2.2.2.1 s.2.2.2.2.1 s.2.2.2.2.2.1 s.2.2.2.2.2.2.1 s.2.2.2.2.2.2.2.1 s.2.2.2.2.2.2.2.2.1 s.2.2.2.2.2.2.2.2.2 next k).trans (by unfold R29_0; unfold F29_0; simp only [el_cond, el_ro, el_sum, el_fail, el_next, el_stop] <;> rfl)
theorem ok29_0 {ce : CallE} : LoopOK c29 ce [] 29 0 (sub [1, 1, 1, 1, 1, 1, 0, 1, 0, 0] (body Try.f29)) := by
  intro m hm st k r h
  obtain rfl : l29_0 = m := Option.some.inj hm
  unfold l29_0 at h
  split at h
  · rename_i g0 t1 g1 g2 g3 g4 g5 g6 g7 g8 g9 g10 t11 t12 g11 g12 h0 g13 g14 h1 g15 g16 h2 g17 g18 g19 g20 g21 g22 h5_0 h5_1 h5_2 h5_3 g23 g24 h6
    obtain ⟨hg, h⟩ := bif_some h
    simp only [Bool.and_eq_true] at hg
    obtain ⟨⟨⟨⟨⟨⟨⟨⟨⟨⟨⟨⟨⟨⟨⟨⟨⟨⟨⟨⟨⟨⟨⟨⟨q0, q1⟩, q2⟩, q3⟩, q4⟩, q5⟩, q6⟩, q7⟩, q8⟩, q9⟩, q10⟩, q11⟩, q12⟩, q13⟩, q14⟩, q15⟩, q16⟩, q17⟩, q18⟩, q19⟩, q20⟩, q21⟩, q22⟩, q23⟩, q24⟩ := hg
    obtain rfl := ctsEq_eq _ _ q0
    obtain rfl := (nmEq_iff _ _).1 q1
    obtain rfl := Nat.eq_of_beq_eq_true q2
    obtain rfl := Nat.eq_of_beq_eq_true q3
    obtain rfl := (nmEq_iff _ _).1 q4
    obtain rfl := Nat.eq_of_beq_eq_true q5
    obtain rfl := Nat.eq_of_beq_eq_true q6
    obtain rfl := (nmEq_iff _ _).1 q7
    obtain rfl := Nat.eq_of_beq_eq_true q8
    obtain rfl := Nat.eq_of_beq_eq_true q9
    obtain rfl := (nmEq_iff _ _).1 q10
    obtain rfl := (nmEq_iff _ _).1 q11
    obtain rfl := ctsEq_eq _ _ q12
    obtain rfl := (nmEq_iff _ _).1 q13
    obtain rfl := ctsEq_eq _ _ q14
    obtain rfl := (nmEq_iff _ _).1 q15
    obtain rfl := ctsEq_eq _ _ q16
    obtain rfl := (nmEq_iff _ _).1 q17
    obtain rfl := (nmEq_iff _ _).1 q18
    obtain rfl := (nmEq_iff _ _).1 q19
    obtain rfl := (nmEq_iff _ _).1 q20
    obtain rfl := (nmEq_iff _ _).1 q21
    obtain rfl := (nmEq_iff _ _).1 q22
    obtain rfl := (nmEq_iff _ _).1 q23
    obtain rfl := ctsEq_eq _ _ q24
    refine ⟨(((t1.length : Int) - t12).toNat + 1), ?_⟩
    rw [← h]
    exact loop_run (fun s : Int × Int × (List AV) × (List AV) × (List AV) × Int × Int × Int × Int × (List AV) => ⟨[(1, AV.sl [.int .i64, .int .i64, .int .i64, .int .i64] t1), (4, AV.ptr [0, 4] 0 0), (8, AV.ptr [0, 8] 0 0), (9, AV.ptr [0, 9] 0 0), (10, AV.own [0, 10]), (11, AV.int .i64 s.1), (12, AV.int .i64 s.2.1)], [([0, 0, 8], ⟨false, [.int .i64], s.2.2.1⟩), ([0, 1, 8], ⟨false, [.int .i64], s.2.2.2.1⟩), ([0, 2, 8], ⟨false, [.int .i64, .int .i64], s.2.2.2.2.1⟩), ([0, 4], ⟨true, [], [AV.agg [AV.snil, AV.snil, AV.snil]]⟩), ([0, 8], ⟨true, [], [AV.agg [AV.own [0, 0, 8], AV.own [0, 1, 8], AV.own [0, 2, 8]]]⟩), ([0, 9], ⟨true, [], [AV.agg [AV.int .i64 s.2.2.2.2.2.1, AV.int .i64 s.2.2.2.2.2.2.1, AV.int .i64 s.2.2.2.2.2.2.2.1, AV.int .i64 s.2.2.2.2.2.2.2.2.1]]⟩), ([0, 10], ⟨false, [.int .i64, .int .i64], s.2.2.2.2.2.2.2.2.2⟩)]⟩) (sumE (fun p : Int × (List AV) × (List AV) × (List AV) × Int × Int × Int × Int × (List AV) => k (.exit 0) ⟨[(4, AV.ptr [0, 4] 0 0), (8, AV.ptr [0, 8] 0 0), (9, AV.ptr [0, 9] 0 0), (10, AV.own [0, 10]), (11, AV.int .i64 p.1)], [([0, 0, 8], ⟨false, [.int .i64], p.2.1⟩), ([0, 1, 8], ⟨false, [.int .i64], p.2.2.1⟩), ([0, 2, 8], ⟨false, [.int .i64, .int .i64], p.2.2.2.1⟩), ([0, 4], ⟨true, [], [AV.agg [AV.snil, AV.snil, AV.snil]]⟩), ([0, 8], ⟨true, [], [AV.agg [AV.own [0, 0, 8], AV.own [0, 1, 8], AV.own [0, 2, 8]]]⟩), ([0, 9], ⟨true, [], [AV.agg [AV.int .i64 p.2.2.2.2.1, AV.int .i64 p.2.2.2.2.2.1, AV.int .i64 p.2.2.2.2.2.2.1, AV.int .i64 p.2.2.2.2.2.2.2.1]]⟩), ([0, 10], ⟨false, [.int .i64, .int .i64], p.2.2.2.2.2.2.2.2⟩)]⟩) (sumE (fun p : (List AV) × (List AV) × (List AV) × Int × Int × Int × Int × (List AV) × Int × Int × Int × Int => k .ret ⟨[(4, AV.ptr [0, 4] 0 0), (5, AV.int .i64 0), (6, AV.int .i64 0), (7, AV.bool false)], [([0, 0, 8], ⟨false, [.int .i64], p.1⟩), ([0, 1, 8], ⟨false, [.int .i64], p.2.1⟩), ([0, 2, 8], ⟨false, [.int .i64, .int .i64], p.2.2.1⟩), ([0, 4], ⟨true, [], [AV.agg [AV.snil, AV.snil, AV.snil]]⟩), ([0, 8], ⟨true, [], [AV.agg [AV.own [0, 0, 8], AV.own [0, 1, 8], AV.own [0, 2, 8]]]⟩), ([0, 9], ⟨true, [], [AV.agg [AV.int .i64 p.2.2.2.1, AV.int .i64 p.2.2.2.2.1, AV.int .i64 p.2.2.2.2.2.1, AV.int .i64 p.2.2.2.2.2.2.1]]⟩), ([0, 10], ⟨false, [.int .i64, .int .i64], p.2.2.2.2.2.2.2.1⟩), ([1, 13], ⟨true, [], [AV.agg [AV.int .i64 p.2.2.2.2.2.2.2.2.1, AV.int .i64 p.2.2.2.2.2.2.2.2.2.1, AV.int .i64 p.2.2.2.2.2.2.2.2.2.2.1, AV.int .i64 p.2.2.2.2.2.2.2.2.2.2.2]]⟩), ([1, 86], ⟨false, [.int .i64, .int .i64], ([] : List AV)⟩)]⟩) (sumE (fun p : (List AV) × (List AV) × (List AV) × (List AV) × Int × Int × Int × Int × (List AV) × Int × Int × Int × Int × (List AV) × (List AV) × (List AV) × (List AV) => k .ret ⟨[(4, AV.ptr [0, 4] 0 0), (5, AV.int .i64 0), (6, AV.int .i64 0), (7, AV.bool false)], [([0, 0, 1, 125], ⟨false, [.int .i64], p.1⟩), ([0, 0, 8], ⟨false, [.int .i64], p.2.1⟩), ([0, 1, 8], ⟨false, [.int .i64], p.2.2.1⟩), ([0, 2, 8], ⟨false, [.int .i64, .int .i64], p.2.2.2.1⟩), ([0, 4], ⟨true, [], [AV.agg [AV.snil, AV.snil, AV.snil]]⟩), ([0, 8], ⟨true, [], [AV.agg [AV.own [0, 0, 1, 125], AV.own [1, 0, 1, 125], AV.own [2, 0, 1, 125]]]⟩), ([0, 9], ⟨true, [], [AV.agg [AV.int .i64 p.2.2.2.2.1, AV.int .i64 p.2.2.2.2.2.1, AV.int .i64 p.2.2.2.2.2.2.1, AV.int .i64 p.2.2.2.2.2.2.2.1]]⟩), ([1, 0, 1, 125], ⟨false, [.int .i64], p.2.2.2.2.2.2.2.2.1⟩), ([1, 13], ⟨true, [], [AV.agg [AV.int .i64 p.2.2.2.2.2.2.2.2.2.1, AV.int .i64 p.2.2.2.2.2.2.2.2.2.2.1, AV.int .i64 p.2.2.2.2.2.2.2.2.2.2.2.1, AV.int .i64 p.2.2.2.2.2.2.2.2.2.2.2.2.1]]⟩), ([1, 19], ⟨true, [], [AV.agg [AV.own [0, 0, 1, 125], AV.own [1, 0, 1, 125], AV.own [2, 0, 1, 125]]]⟩), ([1, 124], ⟨false, [.int .i64, .int .i64], p.2.2.2.2.2.2.2.2.2.2.2.2.2.1⟩), ([1, 135], ⟨false, [.int .i64, .int .i64], p.2.2.2.2.2.2.2.2.2.2.2.2.2.2.1⟩), ([1, 136], ⟨false, [.int .i64, .int .i64], p.2.2.2.2.2.2.2.2.2.2.2.2.2.2.2.1⟩), ([2, 0, 1, 125], ⟨false, [.int .i64, .int .i64], p.2.2.2.2.2.2.2.2.2.2.2.2.2.2.2.2⟩)]⟩) (sumE (fun p : (List AV) × (List AV) × (List AV) × (List AV) × (List AV) × (List AV) × Int × Int × Int × Int × (List AV) => k .ret ⟨[(4, AV.ptr [0, 4] 0 0), (5, AV.int .i64 0), (6, AV.int .i64 0), (7, AV.bool false)], [([0, 0, 1, 146], ⟨false, [.int .i64], p.1⟩), ([0, 0, 8], ⟨false, [.int .i64], p.2.1⟩), ([0, 1, 8], ⟨false, [.int .i64], p.2.2.1⟩), ([0, 2, 8], ⟨false, [.int .i64, .int .i64], p.2.2.2.1⟩), ([0, 4], ⟨true, [], [AV.agg [AV.snil, AV.snil, AV.snil]]⟩), ([0, 8], ⟨true, [], [AV.agg [AV.own [0, 0, 1, 146], AV.own [1, 0, 1, 146], AV.own [2, 0, 1, 146]]]⟩), ([0, 9], ⟨true, [], [AV.agg [AV.int .i64 0, AV.int .i64 0, AV.int .i64 0, AV.int .i64 0]]⟩), ([0, 10], ⟨false, [.int .i64, .int .i64], p.2.2.2.2.1⟩), ([1, 0, 1, 146], ⟨false, [.int .i64], p.2.2.2.2.2.1⟩), ([1, 13], ⟨true, [], [AV.agg [AV.int .i64 p.2.2.2.2.2.2.1, AV.int .i64 p.2.2.2.2.2.2.2.1, AV.int .i64 p.2.2.2.2.2.2.2.2.1, AV.int .i64 p.2.2.2.2.2.2.2.2.2.1]]⟩), ([1, 21], ⟨true, [], [AV.agg [AV.own [0, 0, 1, 146], AV.own [1, 0, 1, 146], AV.own [2, 0, 1, 146]]]⟩), ([2, 0, 1, 146], ⟨false, [.int .i64, .int .i64], p.2.2.2.2.2.2.2.2.2.2⟩)]⟩) (fun p : (List AV) × (List AV) × (List AV) × Int × Int × Int × Int × (List AV) × Int × Int × Int × Int => k .ret ⟨[(4, AV.ptr [0, 4] 0 0), (5, AV.int .i64 0), (6, AV.int .i64 0), (7, AV.bool false)], [([0, 0, 8], ⟨false, [.int .i64], p.1⟩), ([0, 1, 8], ⟨false, [.int .i64], p.2.1⟩), ([0, 2, 8], ⟨false, [.int .i64, .int .i64], p.2.2.1⟩), ([0, 4], ⟨true, [], [AV.agg [AV.snil, AV.snil, AV.snil]]⟩), ([0, 8], ⟨true, [], [AV.agg [AV.own [0, 0, 8], AV.own [0, 1, 8], AV.own [0, 2, 8]]]⟩), ([0, 9], ⟨true, [], [AV.agg [AV.int .i64 p.2.2.2.1, AV.int .i64 p.2.2.2.2.1, AV.int .i64 p.2.2.2.2.2.1, AV.int .i64 p.2.2.2.2.2.2.1]]⟩), ([0, 10], ⟨false, [.int .i64, .int .i64], p.2.2.2.2.2.2.2.1⟩), ([1, 13], ⟨true, [], [AV.agg [AV.int .i64 p.2.2.2.2.2.2.2.2.1, AV.int .i64 p.2.2.2.2.2.2.2.2.2.1, AV.int .i64 p.2.2.2.2.2.2.2.2.2.2.1, AV.int .i64 p.2.2.2.2.2.2.2.2.2.2.2]]⟩)]⟩))))) (st29_0 t1 ce k) _ (t11, t12, h0, h1, h2, h5_0, h5_1, h5_2, h5_3, h6)
  · cases h
def q29 (a0 : List AV) (a1 : List AV) : Bool := (q46 a0 && (q47 a0 && (bif !(v47_0 a0) then true else (ro (runW (R29_0 a1) (((a1.length : Int) - 0).toNat + 1) (0, 0, (v46_0 a0), (v46_1 a0), (v46_2 a0), 0, 0, 0, 0, ([] : List AV))) false (sumE (fun p25 => (bif decide (p25.2.2.2.2.1 = 0) then true else q48 p25.2.1 p25.2.2.1 p25.2.2.2.1 p25.2.2.2.2.2.2.2.2)) (sumE (fun p27 => true) (sumE (fun p28 => true) (sumE (fun p29 => true) (fun p30 => true)))))))))
def v29_0 (a0 : List AV) (a1 : List AV) : List AV := (bif !(v47_0 a0) then ([] : List AV) else (ro (runW (R29_0 a1) (((a1.length : Int) - 0).toNat + 1) (0, 0, (v46_0 a0), (v46_1 a0), (v46_2 a0), 0, 0, 0, 0, ([] : List AV))) [] (sumE (fun p25 => (bif decide (p25.2.2.2.2.1 = 0) then p25.2.1 else (v48_0 p25.2.1 p25.2.2.1 p25.2.2.2.1 p25.2.2.2.2.2.2.2.2))) (sumE (fun p27 => ([] : List AV)) (sumE (fun p28 => ([] : List AV)) (sumE (fun p29 => ([] : List AV)) (fun p30 => ([] : List AV))))))))
def v29_1 (a0 : List AV) (a1 : List AV) : List AV := (bif !(v47_0 a0) then ([] : List AV) else (ro (runW (R29_0 a1) (((a1.length : Int) - 0).toNat + 1) (0, 0, (v46_0 a0), (v46_1 a0), (v46_2 a0), 0, 0, 0, 0, ([] : List AV))) [] (sumE (fun p25 => (bif decide (p25.2.2.2.2.1 = 0) then p25.2.2.1 else (v48_1 p25.2.1 p25.2.2.1 p25.2.2.2.1 p25.2.2.2.2.2.2.2.2))) (sumE (fun p27 => ([] : List AV)) (sumE (fun p28 => ([] : List AV)) (sumE (fun p29 => ([] : List AV)) (fun p30 => ([] : List AV))))))))
def v29_2 (a0 : List AV) (a1 : List AV) : List AV := (bif !(v47_0 a0) then ([] : List AV) else (ro (runW (R29_0 a1) (((a1.length : Int) - 0).toNat + 1) (0, 0, (v46_0 a0), (v46_1 a0), (v46_2 a0), 0, 0, 0, 0, ([] : List AV))) [] (sumE (fun p25 => (bif decide (p25.2.2.2.2.1 = 0) then p25.2.2.2.1 else (v48_2 p25.2.1 p25.2.2.1 p25.2.2.2.1 p25.2.2.2.2.2.2.2.2))) (sumE (fun p27 => ([] : List AV)) (sumE (fun p28 => ([] : List AV)) (sumE (fun p29 => ([] : List AV)) (fun p30 => ([] : List AV))))))))
def v29_3 (a0 : List AV) (a1 : List AV) : Int := (bif !(v47_0 a0) then 0 else (ro (runW (R29_0 a1) (((a1.length : Int) - 0).toNat + 1) (0, 0, (v46_0 a0), (v46_1 a0), (v46_2 a0), 0, 0, 0, 0, ([] : List AV))) 0 (sumE (fun p25 => p25.1) (sumE (fun p27 => 0) (sumE (fun p28 => 0) (sumE (fun p29 => 0) (fun p30 => 0)))))))
def v29_4 (a0 : List AV) (a1 : List AV) : Int := (bif !(v47_0 a0) then 0 else (ro (runW (R29_0 a1) (((a1.length : Int) - 0).toNat + 1) (0, 0, (v46_0 a0), (v46_1 a0), (v46_2 a0), 0, 0, 0, 0, ([] : List AV))) 0 (sumE (fun p25 => (bif decide (p25.2.2.2.2.1 = 0) then 0 else (p25.2.2.2.2.2.2.2.2.length : Int))) (sumE (fun p27 => 0) (sumE (fun p28 => 0) (sumE (fun p29 => 0) (fun p30 => 0)))))))
def v29_5 (a0 : List AV) (a1 : List AV) : Bool := (bif !(v47_0 a0) then false else (ro (runW (R29_0 a1) (((a1.length : Int) - 0).toNat + 1) (0, 0, (v46_0 a0), (v46_1 a0), (v46_2 a0), 0, 0, 0, 0, ([] : List AV))) false (sumE (fun p25 => true) (sumE (fun p27 => false) (sumE (fun p28 => false) (sumE (fun p29 => false) (fun p30 => false)))))))
theorem e29 (a0 : List AV) (a1 : List AV) : funA c29 0 29 [AV.sl [.int .i64] a0, AV.sl [.int .i64, .int .i64, .int .i64, .int .i64] a1] = (bif q46 a0 then (bif q47 a0 then (bif !(v47_0 a0) then some (AV.tup [AV.agg [AV.fl [.int .i64] ([] : List AV), AV.fl [.int .i64] ([] : List AV), AV.fl [.int .i64, .int .i64] ([] : List AV)], AV.int .i64 0, AV.int .i64 0, AV.bool false])
  else (ro (runW (R29_0 a1) (((a1.length : Int) - 0).toNat + 1) (0, 0, (v46_0 a0), (v46_1 a0), (v46_2 a0), 0, 0, 0, 0, ([] : List AV))) none (sumE (fun p25 => (bif decide (p25.2.2.2.2.1 = 0) then some (AV.tup [AV.agg [AV.fl [.int .i64] p25.2.1, AV.fl [.int .i64] p25.2.2.1, AV.fl [.int .i64, .int .i64] p25.2.2.2.1], AV.int .i64 p25.1, AV.int .i64 0, AV.bool true])
  else (bif q48 p25.2.1 p25.2.2.1 p25.2.2.2.1 p25.2.2.2.2.2.2.2.2 then some (AV.tup [AV.agg [AV.fl [.int .i64] (v48_0 p25.2.1 p25.2.2.1 p25.2.2.2.1 p25.2.2.2.2.2.2.2.2), AV.fl [.int .i64] (v48_1 p25.2.1 p25.2.2.1 p25.2.2.2.1 p25.2.2.2.2.2.2.2.2), AV.fl [.int .i64, .int .i64] (v48_2 p25.2.1 p25.2.2.1 p25.2.2.2.1 p25.2.2.2.2.2.2.2.2)], AV.int .i64 p25.1, AV.int .i64 (p25.2.2.2.2.2.2.2.2.length : Int), AV.bool true])
  else none))) (sumE (fun p27 => some (AV.tup [AV.agg [AV.fl [.int .i64] ([] : List AV), AV.fl [.int .i64] ([] : List AV), AV.fl [.int .i64, .int .i64] ([] : List AV)], AV.int .i64 0, AV.int .i64 0, AV.bool false])) (sumE (fun p28 => some (AV.tup [AV.agg [AV.fl [.int .i64] ([] : List AV), AV.fl [.int .i64] ([] : List AV), AV.fl [.int .i64, .int .i64] ([] : List AV)], AV.int .i64 0, AV.int .i64 0, AV.bool false])) (sumE (fun p29 => some (AV.tup [AV.agg [AV.fl [.int .i64] ([] : List AV), AV.fl [.int .i64] ([] : List AV), AV.fl [.int .i64, .int .i64] ([] : List AV)], AV.int .i64 0, AV.int .i64 0, AV.bool false])) (fun p30 => some (AV.tup [AV.agg [AV.fl [.int .i64] ([] : List AV), AV.fl [.int .i64] ([] : List AV), AV.fl [.int .i64, .int .i64] ([] : List AV)], AV.int .i64 0, AV.int .i64 0, AV.bool false]))))))))
  else none)
  else none) := by kernel_rfl
theorem r29 (a0 : List AV) (a1 : List AV) (h : q29 a0 a1 = true) : funA c29 0 29 [AV.sl [.int .i64] a0, AV.sl [.int .i64, .int .i64, .int .i64, .int .i64] a1] = some (AV.tup [AV.agg [AV.fl [.int .i64] (v29_0 a0 a1), AV.fl [.int .i64] (v29_1 a0 a1), AV.fl [.int .i64, .int .i64] (v29_2 a0 a1)], AV.int .i64 (v29_3 a0 a1), AV.int .i64 (v29_4 a0 a1), AV.bool (v29_5 a0 a1)]) := (e29 a0 a1).trans ((brL (brL (br (fun b => some (AV.tup [AV.agg [AV.fl [.int .i64] (bif b then ([] : List AV) else (ro (runW (R29_0 a1) (((a1.length : Int) - 0).toNat + 1) (0, 0, (v46_0 a0), (v46_1 a0), (v46_2 a0), 0, 0, 0, 0, ([] : List AV))) [] (sumE (fun p25 => (bif decide (p25.2.2.2.2.1 = 0) then p25.2.1 else (v48_0 p25.2.1 p25.2.2.1 p25.2.2.2.1 p25.2.2.2.2.2.2.2.2))) (sumE (fun p27 => ([] : List AV)) (sumE (fun p28 => ([] : List AV)) (sumE (fun p29 => ([] : List AV)) (fun p30 => ([] : List AV)))))))), AV.fl [.int .i64] (bif b then ([] : List AV) else (ro (runW (R29_0 a1) (((a1.length : Int) - 0).toNat + 1) (0, 0, (v46_0 a0), (v46_1 a0), (v46_2 a0), 0, 0, 0, 0, ([] : List AV))) [] (sumE (fun p25 => (bif decide (p25.2.2.2.2.1 = 0) then p25.2.2.1 else (v48_1 p25.2.1 p25.2.2.1 p25.2.2.2.1 p25.2.2.2.2.2.2.2.2))) (sumE (fun p27 => ([] : List AV)) (sumE (fun p28 => ([] : List AV)) (sumE (fun p29 => ([] : List AV)) (fun p30 => ([] : List AV)))))))), AV.fl [.int .i64, .int .i64] (bif b then ([] : List AV) else (ro (runW (R29_0 a1) (((a1.length : Int) - 0).toNat + 1) (0, 0, (v46_0 a0), (v46_1 a0), (v46_2 a0), 0, 0, 0, 0, ([] : List AV))) [] (sumE (fun p25 => (bif decide (p25.2.2.2.2.1 = 0) then p25.2.2.2.1 else (v48_2 p25.2.1 p25.2.2.1 p25.2.2.2.1 p25.2.2.2.2.2.2.2.2))) (sumE (fun p27 => ([] : List AV)) (sumE (fun p28 => ([] : List AV)) (sumE (fun p29 => ([] : List AV)) (fun p30 => ([] : List AV))))))))], AV.int .i64 (bif b then 0 else (ro (runW (R29_0 a1) (((a1.length : Int) - 0).toNat + 1) (0, 0, (v46_0 a0), (v46_1 a0), (v46_2 a0), 0, 0, 0, 0, ([] : List AV))) 0 (sumE (fun p25 => p25.1) (sumE (fun p27 => 0) (sumE (fun p28 => 0) (sumE (fun p29 => 0) (fun p30 => 0))))))), AV.int .i64 (bif b then 0 else (ro (runW (R29_0 a1) (((a1.length : Int) - 0).toNat + 1) (0, 0, (v46_0 a0), (v46_1 a0), (v46_2 a0), 0, 0, 0, 0, ([] : List AV))) 0 (sumE (fun p25 => (bif decide (p25.2.2.2.2.1 = 0) then 0 else (p25.2.2.2.2.2.2.2.2.length : Int))) (sumE (fun p27 => 0) (sumE (fun p28 => 0) (sumE (fun p29 => 0) (fun p30 => 0))))))), AV.bool (bif b then false else (ro (runW (R29_0 a1) (((a1.length : Int) - 0).toNat + 1) (0, 0, (v46_0 a0), (v46_1 a0), (v46_2 a0), 0, 0, 0, 0, ([] : List AV))) false (sumE (fun p25 => true) (sumE (fun p27 => false) (sumE (fun p28 => false) (sumE (fun p29 => false) (fun p30 => false)))))))])) (fun _ => rfl) (brO (fun o : Option ((Int × (List AV) × (List AV) × (List AV) × Int × Int × Int × Int × (List AV)) ⊕ ((List AV) × (List AV) × (List AV) × Int × Int × Int × Int × (List AV) × Int × Int × Int × Int) ⊕ ((List AV) × (List AV) × (List AV) × (List AV) × Int × Int × Int × Int × (List AV) × Int × Int × Int × Int × (List AV) × (List AV) × (List AV) × (List AV)) ⊕ ((List AV) × (List AV) × (List AV) × (List AV) × (List AV) × (List AV) × Int × Int × Int × Int × (List AV)) ⊕ ((List AV) × (List AV) × (List AV) × Int × Int × Int × Int × (List AV) × Int × Int × Int × Int)) => some (AV.tup [AV.agg [AV.fl [.int .i64] (ro o [] (sumE (fun p25 => (bif decide (p25.2.2.2.2.1 = 0) then p25.2.1 else (v48_0 p25.2.1 p25.2.2.1 p25.2.2.2.1 p25.2.2.2.2.2.2.2.2))) (sumE (fun p27 => ([] : List AV)) (sumE (fun p28 => ([] : List AV)) (sumE (fun p29 => ([] : List AV)) (fun p30 => ([] : List AV))))))), AV.fl [.int .i64] (ro o [] (sumE (fun p25 => (bif decide (p25.2.2.2.2.1 = 0) then p25.2.2.1 else (v48_1 p25.2.1 p25.2.2.1 p25.2.2.2.1 p25.2.2.2.2.2.2.2.2))) (sumE (fun p27 => ([] : List AV)) (sumE (fun p28 => ([] : List AV)) (sumE (fun p29 => ([] : List AV)) (fun p30 => ([] : List AV))))))), AV.fl [.int .i64, .int .i64] (ro o [] (sumE (fun p25 => (bif decide (p25.2.2.2.2.1 = 0) then p25.2.2.2.1 else (v48_2 p25.2.1 p25.2.2.1 p25.2.2.2.1 p25.2.2.2.2.2.2.2.2))) (sumE (fun p27 => ([] : List AV)) (sumE (fun p28 => ([] : List AV)) (sumE (fun p29 => ([] : List AV)) (fun p30 => ([] : List AV)))))))], AV.int .i64 (ro o 0 (sumE (fun p25 => p25.1) (sumE (fun p27 => 0) (sumE (fun p28 => 0) (sumE (fun p29 => 0) (fun p30 => 0)))))), AV.int .i64 (ro o 0 (sumE (fun p25 => (bif decide (p25.2.2.2.2.1 = 0) then 0 else (p25.2.2.2.2.2.2.2.2.length : Int))) (sumE (fun p27 => 0) (sumE (fun p28 => 0) (sumE (fun p29 => 0) (fun p30 => 0)))))), AV.bool (ro o false (sumE (fun p25 => true) (sumE (fun p27 => false) (sumE (fun p28 => false) (sumE (fun p29 => false) (fun p30 => false))))))])) (brS (fun o : (Int × (List AV) × (List AV) × (List AV) × Int × Int × Int × Int × (List AV)) ⊕ ((List AV) × (List AV) × (List AV) × Int × Int × Int × Int × (List AV) × Int × Int × Int × Int) ⊕ ((List AV) × (List AV) × (List AV) × (List AV) × Int × Int × Int × Int × (List AV) × Int × Int × Int × Int × (List AV) × (List AV) × (List AV) × (List AV)) ⊕ ((List AV) × (List AV) × (List AV) × (List AV) × (List AV) × (List AV) × Int × Int × Int × Int × (List AV)) ⊕ ((List AV) × (List AV) × (List AV) × Int × Int × Int × Int × (List AV) × Int × Int × Int × Int) => some (AV.tup [AV.agg [AV.fl [.int .i64] ((sumE (fun p25 => (bif decide (p25.2.2.2.2.1 = 0) then p25.2.1 else (v48_0 p25.2.1 p25.2.2.1 p25.2.2.2.1 p25.2.2.2.2.2.2.2.2))) (sumE (fun p27 => ([] : List AV)) (sumE (fun p28 => ([] : List AV)) (sumE (fun p29 => ([] : List AV)) (fun p30 => ([] : List AV)))))) o), AV.fl [.int .i64] ((sumE (fun p25 => (bif decide (p25.2.2.2.2.1 = 0) then p25.2.2.1 else (v48_1 p25.2.1 p25.2.2.1 p25.2.2.2.1 p25.2.2.2.2.2.2.2.2))) (sumE (fun p27 => ([] : List AV)) (sumE (fun p28 => ([] : List AV)) (sumE (fun p29 => ([] : List AV)) (fun p30 => ([] : List AV)))))) o), AV.fl [.int .i64, .int .i64] ((sumE (fun p25 => (bif decide (p25.2.2.2.2.1 = 0) then p25.2.2.2.1 else (v48_2 p25.2.1 p25.2.2.1 p25.2.2.2.1 p25.2.2.2.2.2.2.2.2))) (sumE (fun p27 => ([] : List AV)) (sumE (fun p28 => ([] : List AV)) (sumE (fun p29 => ([] : List AV)) (fun p30 => ([] : List AV)))))) o)], AV.int .i64 ((sumE (fun p25 => p25.1) (sumE (fun p27 => 0) (sumE (fun p28 => 0) (sumE (fun p29 => 0) (fun p30 => 0))))) o), AV.int .i64 ((sumE (fun p25 => (bif decide (p25.2.2.2.2.1 = 0) then 0 else (p25.2.2.2.2.2.2.2.2.length : Int))) (sumE (fun p27 => 0) (sumE (fun p28 => 0) (sumE (fun p29 => 0) (fun p30 => 0))))) o), AV.bool ((sumE (fun p25 => true) (sumE (fun p27 => false) (sumE (fun p28 => false) (sumE (fun p29 => false) (fun p30 => false))))) o)])) (fun p25 => (br (fun b => some (AV.tup [AV.agg [AV.fl [.int .i64] (bif b then p25.2.1 else (v48_0 p25.2.1 p25.2.2.1 p25.2.2.2.1 p25.2.2.2.2.2.2.2.2)), AV.fl [.int .i64] (bif b then p25.2.2.1 else (v48_1 p25.2.1 p25.2.2.1 p25.2.2.2.1 p25.2.2.2.2.2.2.2.2)), AV.fl [.int .i64, .int .i64] (bif b then p25.2.2.2.1 else (v48_2 p25.2.1 p25.2.2.1 p25.2.2.2.1 p25.2.2.2.2.2.2.2.2))], AV.int .i64 p25.1, AV.int .i64 (bif b then 0 else (p25.2.2.2.2.2.2.2.2.length : Int)), AV.bool true])) (fun _ => rfl) (brL1 (fun _ => rfl)))) (brS (fun o : ((List AV) × (List AV) × (List AV) × Int × Int × Int × Int × (List AV) × Int × Int × Int × Int) ⊕ ((List AV) × (List AV) × (List AV) × (List AV) × Int × Int × Int × Int × (List AV) × Int × Int × Int × Int × (List AV) × (List AV) × (List AV) × (List AV)) ⊕ ((List AV) × (List AV) × (List AV) × (List AV) × (List AV) × (List AV) × Int × Int × Int × Int × (List AV)) ⊕ ((List AV) × (List AV) × (List AV) × Int × Int × Int × Int × (List AV) × Int × Int × Int × Int) => some (AV.tup [AV.agg [AV.fl [.int .i64] ((sumE (fun p27 => ([] : List AV)) (sumE (fun p28 => ([] : List AV)) (sumE (fun p29 => ([] : List AV)) (fun p30 => ([] : List AV))))) o), AV.fl [.int .i64] ((sumE (fun p27 => ([] : List AV)) (sumE (fun p28 => ([] : List AV)) (sumE (fun p29 => ([] : List AV)) (fun p30 => ([] : List AV))))) o), AV.fl [.int .i64, .int .i64] ((sumE (fun p27 => ([] : List AV)) (sumE (fun p28 => ([] : List AV)) (sumE (fun p29 => ([] : List AV)) (fun p30 => ([] : List AV))))) o)], AV.int .i64 ((sumE (fun p27 => 0) (sumE (fun p28 => 0) (sumE (fun p29 => 0) (fun p30 => 0)))) o), AV.int .i64 ((sumE (fun p27 => 0) (sumE (fun p28 => 0) (sumE (fun p29 => 0) (fun p30 => 0)))) o), AV.bool ((sumE (fun p27 => false) (sumE (fun p28 => false) (sumE (fun p29 => false) (fun p30 => false)))) o)])) (fun p27 => (fun _ => rfl)) (brS (fun o : ((List AV) × (List AV) × (List AV) × (List AV) × Int × Int × Int × Int × (List AV) × Int × Int × Int × Int × (List AV) × (List AV) × (List AV) × (List AV)) ⊕ ((List AV) × (List AV) × (List AV) × (List AV) × (List AV) × (List AV) × Int × Int × Int × Int × (List AV)) ⊕ ((List AV) × (List AV) × (List AV) × Int × Int × Int × Int × (List AV) × Int × Int × Int × Int) => some (AV.tup [AV.agg [AV.fl [.int .i64] ((sumE (fun p28 => ([] : List AV)) (sumE (fun p29 => ([] : List AV)) (fun p30 => ([] : List AV)))) o), AV.fl [.int .i64] ((sumE (fun p28 => ([] : List AV)) (sumE (fun p29 => ([] : List AV)) (fun p30 => ([] : List AV)))) o), AV.fl [.int .i64, .int .i64] ((sumE (fun p28 => ([] : List AV)) (sumE (fun p29 => ([] : List AV)) (fun p30 => ([] : List AV)))) o)], AV.int .i64 ((sumE (fun p28 => 0) (sumE (fun p29 => 0) (fun p30 => 0))) o), AV.int .i64 ((sumE (fun p28 => 0) (sumE (fun p29 => 0) (fun p30 => 0))) o), AV.bool ((sumE (fun p28 => false) (sumE (fun p29 => false) (fun p30 => false))) o)])) (fun p28 => (fun _ => rfl)) (brS (fun o : ((List AV) × (List AV) × (List AV) × (List AV) × (List AV) × (List AV) × Int × Int × Int × Int × (List AV)) ⊕ ((List AV) × (List AV) × (List AV) × Int × Int × Int × Int × (List AV) × Int × Int × Int × Int) => some (AV.tup [AV.agg [AV.fl [.int .i64] ((sumE (fun p29 => ([] : List AV)) (fun p30 => ([] : List AV))) o), AV.fl [.int .i64] ((sumE (fun p29 => ([] : List AV)) (fun p30 => ([] : List AV))) o), AV.fl [.int .i64, .int .i64] ((sumE (fun p29 => ([] : List AV)) (fun p30 => ([] : List AV))) o)], AV.int .i64 ((sumE (fun p29 => 0) (fun p30 => 0)) o), AV.int .i64 ((sumE (fun p29 => 0) (fun p30 => 0)) o), AV.bool ((sumE (fun p29 => false) (fun p30 => false)) o)])) (fun p29 => (fun _ => rfl)) (fun p30 => (fun _ => rfl)))))))))) h)
def m29 : TModel
  | [.sl g0 a0, .sl g1 a1] => bif ctsEq g0 ([.int .i64]) && ctsEq g1 ([.int .i64, .int .i64, .int .i64, .int .i64]) then some (q29 a0 a1, AV.tup [AV.agg [AV.fl [.int .i64] (v29_0 a0 a1), AV.fl [.int .i64] (v29_1 a0 a1), AV.fl [.int .i64, .int .i64] (v29_2 a0 a1)], AV.int .i64 (v29_3 a0 a1), AV.int .i64 (v29_4 a0 a1), AV.bool (v29_5 a0 a1)]) else none
  | _ => none
theorem k29 : Known Try.prog 29 := ⟨Try.f29, Try.func29, by kernel_rfl, by kernel_rfl⟩
theorem meets29 : Meets Try.prog 29 m29 := by
  refine meet (f := Try.f29) (l := [(0, sub [1, 1, 1, 1, 1, 1, 0, 1, 0, 0] (body Try.f29))]) (hs := [(29, 0, [1, 4, 8, 9, 10, 11, 12]), (29, 999, [4, 5, 6, 7]), (29, 1000, [4, 8, 9, 10, 11]), (29, 1001, [1, 4, 8, 9, 10, 11, 12]), (29, 1002, [1, 4, 8, 9, 10, 11, 12, 14])]) (ts := [(28, m28), (32, m32), (33, m33), (35, m35), (36, m36), (46, m46), (47, m47), (48, m48)]) (ws := []) (is := []) (ls := [(29, 0, l29_0)]) (lvl := 0) mixed k29 Try.func29 (by kernel_rfl) (loops_cons ok29_0 noLoop) (allT_cons meets28 (allT_cons meets32 (allT_cons meets33 (allT_cons meets35 (allT_cons meets36 (allT_cons meets46 (allT_cons meets47 (allT_cons meets48 allT_nil)))))))) allM_nil noI fun w xs us r hl hv h => ?_
  unfold m29 at h
  split at h
  · rename_i g0 a0 g1 a1
    obtain ⟨hg, h⟩ := bif_pair h
    simp only [Bool.and_eq_true] at hg
    obtain ⟨q0, q1⟩ := hg
    obtain rfl := ctsEq_eq _ _ q0
    obtain rfl := ctsEq_eq _ _ q1
    obtain ⟨h1, rfl⟩ := pair_inj h
    exact r29 a0 a1 h1
  · cases h

/-! ### 16 loop.example/g01984/spec.CrashAfter -/
noncomputable def c16 : Cfg := cfg Try.prog [(16, 999, [6, 7])] [(28, m28), (29, m29)] [] [] []
def q16 (a0 : List AV) (a1 : List AV) (a2 : Int) : Bool := (bif !(v28_0 a2 0 (a1.length : Int)) then true else ((decide (0 ≤ 0) && decide (0 ≤ a2) && decide (a2 ≤ (a1.length : Int))) && q29 a0 ((a1.take (Int.toNat a2)).drop (Int.toNat 0))))
def v16_0 (a0 : List AV) (a1 : List AV) (a2 : Int) : List AV := (bif !(v28_0 a2 0 (a1.length : Int)) then ([] : List AV) else (v29_0 a0 ((a1.take (Int.toNat a2)).drop (Int.toNat 0))))
def v16_1 (a0 : List AV) (a1 : List AV) (a2 : Int) : List AV := (bif !(v28_0 a2 0 (a1.length : Int)) then ([] : List AV) else (v29_1 a0 ((a1.take (Int.toNat a2)).drop (Int.toNat 0))))
def v16_2 (a0 : List AV) (a1 : List AV) (a2 : Int) : List AV := (bif !(v28_0 a2 0 (a1.length : Int)) then ([] : List AV) else (v29_2 a0 ((a1.take (Int.toNat a2)).drop (Int.toNat 0))))
def v16_3 (a0 : List AV) (a1 : List AV) (a2 : Int) : Bool := (bif !(v28_0 a2 0 (a1.length : Int)) then false else (v29_5 a0 ((a1.take (Int.toNat a2)).drop (Int.toNat 0))))
theorem e16 (a0 : List AV) (a1 : List AV) (a2 : Int) : funA c16 0 16 [AV.sl [.int .i64] a0, AV.sl [.int .i64, .int .i64, .int .i64, .int .i64] a1, AV.int .i64 a2] = (bif !(v28_0 a2 0 (a1.length : Int)) then some (AV.tup [AV.agg [AV.fl [.int .i64] ([] : List AV), AV.fl [.int .i64] ([] : List AV), AV.fl [.int .i64, .int .i64] ([] : List AV)], AV.bool false])
  else (bif (decide (0 ≤ 0) && decide (0 ≤ a2) && decide (a2 ≤ (a1.length : Int))) then (bif q29 a0 ((a1.take (Int.toNat a2)).drop (Int.toNat 0)) then some (AV.tup [AV.agg [AV.fl [.int .i64] (v29_0 a0 ((a1.take (Int.toNat a2)).drop (Int.toNat 0))), AV.fl [.int .i64] (v29_1 a0 ((a1.take (Int.toNat a2)).drop (Int.toNat 0))), AV.fl [.int .i64, .int .i64] (v29_2 a0 ((a1.take (Int.toNat a2)).drop (Int.toNat 0)))], AV.bool (v29_5 a0 ((a1.take (Int.toNat a2)).drop (Int.toNat 0)))])
  else none)
  else none)) := by kernel_rfl
theorem r16 (a0 : List AV) (a1 : List AV) (a2 : Int) (h : q16 a0 a1 a2 = true) : funA c16 0 16 [AV.sl [.int .i64] a0, AV.sl [.int .i64, .int .i64, .int .i64, .int .i64] a1, AV.int .i64 a2] = some (AV.tup [AV.agg [AV.fl [.int .i64] (v16_0 a0 a1 a2), AV.fl [.int .i64] (v16_1 a0 a1 a2), AV.fl [.int .i64, .int .i64] (v16_2 a0 a1 a2)], AV.bool (v16_3 a0 a1 a2)]) := (e16 a0 a1 a2).trans ((br (fun b => some (AV.tup [AV.agg [AV.fl [.int .i64] (bif b then ([] : List AV) else (v29_0 a0 ((a1.take (Int.toNat a2)).drop (Int.toNat 0)))), AV.fl [.int .i64] (bif b then ([] : List AV) else (v29_1 a0 ((a1.take (Int.toNat a2)).drop (Int.toNat 0)))), AV.fl [.int .i64, .int .i64] (bif b then ([] : List AV) else (v29_2 a0 ((a1.take (Int.toNat a2)).drop (Int.toNat 0))))], AV.bool (bif b then false else (v29_5 a0 ((a1.take (Int.toNat a2)).drop (Int.toNat 0))))])) (fun _ => rfl) (brL (brL1 (fun _ => rfl)))) h)
def m16 : TModel
  | [.sl g0 a0, .sl g1 a1, .int .i64 a2] => bif ctsEq g0 ([.int .i64]) && ctsEq g1 ([.int .i64, .int .i64, .int .i64, .int .i64]) then some (q16 a0 a1 a2, AV.tup [AV.agg [AV.fl [.int .i64] (v16_0 a0 a1 a2), AV.fl [.int .i64] (v16_1 a0 a1 a2), AV.fl [.int .i64, .int .i64] (v16_2 a0 a1 a2)], AV.bool (v16_3 a0 a1 a2)]) else none
  | _ => none
theorem k16 : Known Try.prog 16 := ⟨Try.f16, Try.func16, by kernel_rfl, by kernel_rfl⟩
theorem meets16 : Meets Try.prog 16 m16 := by
  refine meet (f := Try.f16) (l := []) (hs := [(16, 999, [6, 7])]) (ts := [(28, m28), (29, m29)]) (ws := []) (is := []) (ls := []) (lvl := 0) mixed k16 Try.func16 (by kernel_rfl) noLoop (allT_cons meets28 (allT_cons meets29 allT_nil)) allM_nil noI fun w xs us r hl hv h => ?_
  unfold m16 at h
  split at h
  · rename_i g0 a0 g1 a1 a2
    obtain ⟨hg, h⟩ := bif_pair h
    simp only [Bool.and_eq_true] at hg
    obtain ⟨q0, q1⟩ := hg
    obtain rfl := ctsEq_eq _ _ q0
    obtain rfl := ctsEq_eq _ _ q1
    obtain ⟨h1, rfl⟩ := pair_inj h
    exact r16 a0 a1 a2 h1
  · cases h

/-! ### 17 loop.example/g01984/spec.l12History -/
def F17_0 (t0 : List AV) (t3 : Int) : Out (Int) (Unit ⊕ Unit) := (bif decide (t3 < (t0.length : Int)) then (bif (decide (0 ≤ t3) && decide (t3 < (t0.length : Int))) then (bif !(v28_0 (fI (t0.getD t3.toNat .undef) 0) (-1000) 1000) then .stop (.inr ())
  else .next (IntKind.i64.wrap (t3 + 1)))
  else .fail)
  else .stop (.inl ()))
def R17_0 (t0 : List AV) : (Int) → Out (Int) (Unit ⊕ Unit) := fun s : Int => F17_0 t0 s
def l17_0 : LModel := fun _ _ st k => match st with
  | ⟨[(0, .sl g0 t0), (3, .int .i64 t3)], []⟩ => bif ctsEq g0 ([.int .i64]) then ro (runW (R17_0 t0) (((t0.length : Int) - t3).toNat + 1) t3) none (sumE (fun _ : Unit => k (.exit 0) ⟨[(0, AV.sl [.int .i64] t0)], []⟩) (fun _ : Unit => k .ret ⟨[(2, AV.bool false)], []⟩)) else none
  | _ => none
noncomputable def c17 : Cfg := cfg Try.prog [(17, 0, [0, 3]), (17, 999, [2]), (17, 1000, [0]), (17, 1001, [0, 3])] [(28, m28)] [] [] [(17, 0, l17_0)]
theorem s17_0 (ce : CallE) (t0 : List AV) (t3 : Int) (next : St → Option AV) (k : Kont) : stepA (codeA c17 ce [] 17 0 (sub [1, 0, 1, 0, 0] (body Try.f17))) (normA [] [0, 3]) next ⟨[(0, AV.sl [.int .i64] t0), (3, AV.int .i64 t3)], []⟩ k = (bif decide (t3 < (t0.length : Int)) then (bif (decide (0 ≤ t3) && decide (t3 < (t0.length : Int))) then (bif !(v28_0 (fI (t0.getD t3.toNat .undef) 0) (-1000) 1000) then k .ret ⟨[(2, AV.bool false)], []⟩
  else next ⟨[(0, AV.sl [.int .i64] t0), (3, AV.int .i64 (IntKind.i64.wrap (t3 + 1)))], []⟩)
  else none)
  else k (.exit 0) ⟨[(0, AV.sl [.int .i64] t0)], []⟩) := by kernel_rfl
theorem st17_0 (t0 : List AV) (ce : CallE) (k : Kont) (s : Int) (next : St → Option AV) : stepA (codeA c17 ce [] 17 0 (sub [1, 0, 1, 0, 0] (body Try.f17))) (normA [] [0, 3]) next ((fun s : Int => ⟨[(0, AV.sl [.int .i64] t0), (3, AV.int .i64 s)], []⟩) s) k = (R17_0 t0 s).el none (fun s => next ((fun s : Int => ⟨[(0, AV.sl [.int .i64] t0), (3, AV.int .i64 s)], []⟩) s)) (sumE (fun _ : Unit => k (.exit 0) ⟨[(0, AV.sl [.int .i64] t0)], []⟩) (fun _ : Unit => k .ret ⟨[(2, AV.bool false)], []⟩)) := (s17_0 ce t0 s next k).trans (by unfold R17_0; unfold F17_0; simp only [el_cond, el_ro, el_sum, el_fail, el_next, el_stop] <;> rfl)
theorem ok17_0 {ce : CallE} : LoopOK c17 ce [] 17 0 (sub [1, 0, 1, 0, 0] (body Try.f17)) := by
  intro m hm st k r h
  obtain rfl : l17_0 = m := Option.some.inj hm
  unfold l17_0 at h
  split at h
  · rename_i g0 t0 t3
    obtain ⟨hg, h⟩ := bif_some h
    have q0 := hg
    obtain rfl := ctsEq_eq _ _ q0
    refine ⟨(((t0.length : Int) - t3).toNat + 1), ?_⟩
    rw [← h]
    exact loop_run (fun s : Int => ⟨[(0, AV.sl [.int .i64] t0), (3, AV.int .i64 s)], []⟩) (sumE (fun _ : Unit => k (.exit 0) ⟨[(0, AV.sl [.int .i64] t0)], []⟩) (fun _ : Unit => k .ret ⟨[(2, AV.bool false)], []⟩)) (st17_0 t0 ce k) _ t3
  · cases h
def q17 (a0 : List AV) : Bool := (ro (runW (R17_0 a0) (((a0.length : Int) - 0).toNat + 1) 0) false (sumE (fun _ => true) (fun _ => true)))
def v17_0 (a0 : List AV) : Bool := (ro (runW (R17_0 a0) (((a0.length : Int) - 0).toNat + 1) 0) false (sumE (fun _ => decide ((a0.length : Int) ≤ 60)) (fun _ => false)))
theorem e17 (a0 : List AV) : funA c17 0 17 [AV.sl [.int .i64] a0] = (ro (runW (R17_0 a0) (((a0.length : Int) - 0).toNat + 1) 0) none (sumE (fun _ => some (AV.bool (decide ((a0.length : Int) ≤ 60)))) (fun _ => some (AV.bool false)))) := by kernel_rfl
theorem r17 (a0 : List AV) (h : q17 a0 = true) : funA c17 0 17 [AV.sl [.int .i64] a0] = some (AV.bool (v17_0 a0)) := (e17 a0).trans ((brO (fun o : Option (Unit ⊕ Unit) => some (AV.bool (ro o false (sumE (fun _ => decide ((a0.length : Int) ≤ 60)) (fun _ => false))))) (brS (fun o : Unit ⊕ Unit => some (AV.bool ((sumE (fun _ => decide ((a0.length : Int) ≤ 60)) (fun _ => false)) o))) (fun _ => (fun _ => rfl)) (fun _ => (fun _ => rfl)))) h)
def m17 : TModel
  | [.sl g0 a0] => bif ctsEq g0 ([.int .i64]) then some (q17 a0, AV.bool (v17_0 a0)) else none
  | _ => none
theorem k17 : Known Try.prog 17 := ⟨Try.f17, Try.func17, by kernel_rfl, by kernel_rfl⟩
theorem meets17 : Meets Try.prog 17 m17 := by
  refine meet (f := Try.f17) (l := [(0, sub [1, 0, 1, 0, 0] (body Try.f17))]) (hs := [(17, 0, [0, 3]), (17, 999, [2]), (17, 1000, [0]), (17, 1001, [0, 3])]) (ts := [(28, m28)]) (ws := []) (is := []) (ls := [(17, 0, l17_0)]) (lvl := 0) mixed k17 Try.func17 (by kernel_rfl) (loops_cons ok17_0 noLoop) (allT_cons meets28 allT_nil) allM_nil noI fun w xs us r hl hv h => ?_
  unfold m17 at h
  split at h
  · rename_i g0 a0
    obtain ⟨hg, h⟩ := bif_pair h
    have q0 := hg
    obtain rfl := ctsEq_eq _ _ q0
    obtain ⟨h1, rfl⟩ := pair_inj h
    exact r17 a0 h1
  · cases h

/-! ### 34 loop.example/g01984/spec.Partition -/
def F34_0 (t0 : List AV) (t3 : Int) (t11 : Int) (t12 : Int) (h0 : List AV) : Out ((Int × Int × (List AV))) ((Int × (List AV))) := (bif decide (t11 ≤ t12) then (bif (decide (0 ≤ t11) && decide (t11 < (t0.length : Int))) then (bif decide (fI (t0.getD t11.toNat .undef) 0 < t3) then .next (IntKind.i64.wrap (t11 + 1), t12, h0)
  else (bif (decide (0 ≤ t12) && decide (t12 < (t0.length : Int))) then (bif decide (fI (t0.getD t12.toNat .undef) 0 ≥ t3) then .next (t11, IntKind.i64.wrap (t12 - 1), h0)
  else (bif (decide ((h0.length + ([AV.agg [AV.int .i64 t11, AV.int .i64 t12]]).length) * 16 ≤ 140737488355328) && decide ((h0.length + ([AV.agg [AV.int .i64 t11, AV.int .i64 t12]]).length) ≤ 140737488355328)) then .next (IntKind.i64.wrap (t11 + 1), IntKind.i64.wrap (t12 - 1), h0 ++ ([AV.agg [AV.int .i64 t11, AV.int .i64 t12]]))
  else .fail))
  else .fail))
  else .fail)
  else .stop (t11, h0))
def R34_0 (t0 : List AV) (t3 : Int) : ((Int × Int × (List AV))) → Out ((Int × Int × (List AV))) ((Int × (List AV))) := fun s : Int × Int × (List AV) => F34_0 t0 t3 s.1 s.2.1 s.2.2
def l34_0 : LModel := fun _ _ st k => match st with
  | ⟨[(0, .sl g0 t0), (3, .int .i64 t3), (10, .own g1), (11, .int .i64 t11), (12, .int .i64 t12)], [(g2, ⟨false, g3, h0⟩)]⟩ => bif ctsEq g0 ([.int .i64]) && nmEq g1 ([0, 10]) && nmEq g2 ([0, 10]) && ctsEq g3 ([.int .i64, .int .i64]) then ro (runW (R34_0 t0 t3) ((t12 - t11 + 1).toNat + 1) (t11, t12, h0)) none (fun p : Int × (List AV) => k (.exit 0) ⟨[(10, AV.own [0, 10]), (11, AV.int .i64 p.1)], [([0, 10], ⟨false, [.int .i64, .int .i64], p.2⟩)]⟩) else none
  | _ => none
noncomputable def c34 : Cfg := cfg Try.prog [(34, 0, [0, 3, 10, 11, 12]), (34, 999, [8, 9]), (34, 1000, [10, 11]), (34, 1001, [0, 3, 10, 11, 12]), (34, 1002, [0, 3, 10, 11, 12])] [(28, m28)] [] [] [(34, 0, l34_0)]
theorem s34_0 (ce : CallE) (t0 : List AV) (t3 : Int) (t11 : Int) (t12 : Int) (h0 : List AV) (next : St → Option AV) (k : Kont) : stepA (codeA c34 ce [] 34 0 (sub [1, 1, 1, 1, 1, 0, 0, 0] (body Try.f34))) (normA [] [0, 3, 10, 11, 12]) next ⟨[(0, AV.sl [.int .i64] t0), (3, AV.int .i64 t3), (10, AV.own [0, 10]), (11, AV.int .i64 t11), (12, AV.int .i64 t12)], [([0, 10], ⟨false, [.int .i64, .int .i64], h0⟩)]⟩ k = (bif decide (t11 ≤ t12) then (bif (decide (0 ≤ t11) && decide (t11 < (t0.length : Int))) then (bif decide (fI (t0.getD t11.toNat .undef) 0 < t3) then next ⟨[(0, AV.sl [.int .i64] t0), (3, AV.int .i64 t3), (10, AV.own [0, 10]), (11, AV.int .i64 (IntKind.i64.wrap (t11 + 1))), (12, AV.int .i64 t12)], [([0, 10], ⟨false, [.int .i64, .int .i64], h0⟩)]⟩
  else (bif (decide (0 ≤ t12) && decide (t12 < (t0.length : Int))) then (bif decide (fI (t0.getD t12.toNat .undef) 0 ≥ t3) then next ⟨[(0, AV.sl [.int .i64] t0), (3, AV.int .i64 t3), (10, AV.own [0, 10]), (11, AV.int .i64 t11), (12, AV.int .i64 (IntKind.i64.wrap (t12 - 1)))], [([0, 10], ⟨false, [.int .i64, .int .i64], h0⟩)]⟩
  else (bif (decide ((h0.length + ([AV.agg [AV.int .i64 t11, AV.int .i64 t12]]).length) * 16 ≤ 140737488355328) && decide ((h0.length + ([AV.agg [AV.int .i64 t11, AV.int .i64 t12]]).length) ≤ 140737488355328)) then next ⟨[(0, AV.sl [.int .i64] t0), (3, AV.int .i64 t3), (10, AV.own [0, 10]), (11, AV.int .i64 (IntKind.i64.wrap (t11 + 1))), (12, AV.int .i64 (IntKind.i64.wrap (t12 - 1)))], [([0, 10], ⟨false, [.int .i64, .int .i64], h0 ++ ([AV.agg [AV.int .i64 t11, AV.int .i64 t12]])⟩)]⟩
  else none))
  else none))
  else none)
  else k (.exit 0) ⟨[(10, AV.own [0, 10]), (11, AV.int .i64 t11)], [([0, 10], ⟨false, [.int .i64, .int .i64], h0⟩)]⟩) := by kernel_rfl
theorem st34_0 (t0 : List AV) (t3 : Int) (ce : CallE) (k : Kont) (s : (Int × Int × (List AV))) (next : St → Option AV) : stepA (codeA c34 ce [] 34 0 (sub [1, 1, 1, 1, 1, 0, 0, 0] (body Try.f34))) (normA [] [0, 3, 10, 11, 12]) next ((fun s : Int × Int × (List AV) => ⟨[(0, AV.sl [.int .i64] t0), (3, AV.int .i64 t3), (10, AV.own [0, 10]), (11, AV.int .i64 s.1), (12, AV.int .i64 s.2.1)], [([0, 10], ⟨false, [.int .i64, .int .i64], s.2.2⟩)]⟩) s) k = (R34_0 t0 t3 s).el none (fun s => next ((fun s : Int × Int × (List AV) => ⟨[(0, AV.sl [.int .i64] t0), (3, AV.int .i64 t3), (10, AV.own [0, 10]), (11, AV.int .i64 s.1), (12, AV.int .i64 s.2.1)], [([0, 10], ⟨false, [.int .i64, .int .i64], s.2.2⟩)]⟩) s)) (fun p : Int × (List AV) => k (.exit 0) ⟨[(10, AV.own [0, 10]), (11, AV.int .i64 p.1)], [([0, 10], ⟨false, [.int .i64, .int .i64], p.2⟩)]⟩) := (s34_0 ce t0 t3 s.1 s.2.1 s.2.2 next k).trans (by unfold R34_0; unfold F34_0; simp only [el_cond, el_ro, el_sum, el_fail, el_next, el_stop] <;> rfl)
theorem ok34_0 {ce : CallE} : LoopOK c34 ce [] 34 0 (sub [1, 1, 1, 1, 1, 0, 0, 0] (body Try.f34)) := by
  intro m hm st k r h
  obtain rfl : l34_0 = m := Option.some.inj hm
  unfold l34_0 at h
  split at h
  · rename_i g0 t0 t3 g1 t11 t12 g2 g3 h0
    obtain ⟨hg, h⟩ := bif_some h
    simp only [Bool.and_eq_true] at hg
    obtain ⟨⟨⟨q0, q1⟩, q2⟩, q3⟩ := hg
    obtain rfl := ctsEq_eq _ _ q0
    obtain rfl := (nmEq_iff _ _).1 q1
    obtain rfl := (nmEq_iff _ _).1 q2
    obtain rfl := ctsEq_eq _ _ q3
    refine ⟨((t12 - t11 + 1).toNat + 1), ?_⟩
    rw [← h]
    exact loop_run (fun s : Int × Int × (List AV) => ⟨[(0, AV.sl [.int .i64] t0), (3, AV.int .i64 t3), (10, AV.own [0, 10]), (11, AV.int .i64 s.1), (12, AV.int .i64 s.2.1)], [([0, 10], ⟨false, [.int .i64, .int .i64], s.2.2⟩)]⟩) (fun p : Int × (List AV) => k (.exit 0) ⟨[(10, AV.own [0, 10]), (11, AV.int .i64 p.1)], [([0, 10], ⟨false, [.int .i64, .int .i64], p.2⟩)]⟩) (st34_0 t0 t3 ce k) _ (t11, t12, h0)
  · cases h
def q34 (a0 : List AV) (a1 : Int) (a2 : Int) (a3 : Int) : Bool := (bif !(v28_0 a1 0 a2) then true else (bif decide (a2 > (a0.length : Int)) then true else (ro (runW (R34_0 a0 a3) (((IntKind.i64.wrap (a2 - 1)) - a1 + 1).toNat + 1) (a1, IntKind.i64.wrap (a2 - 1), ([] : List AV))) false (fun p33 => true))))
def v34_0 (a0 : List AV) (a1 : Int) (a2 : Int) (a3 : Int) : List AV := (bif !(v28_0 a1 0 a2) then ([] : List AV) else (bif decide (a2 > (a0.length : Int)) then ([] : List AV) else (ro (runW (R34_0 a0 a3) (((IntKind.i64.wrap (a2 - 1)) - a1 + 1).toNat + 1) (a1, IntKind.i64.wrap (a2 - 1), ([] : List AV))) [] (fun p33 => p33.2))))
def v34_1 (a0 : List AV) (a1 : Int) (a2 : Int) (a3 : Int) : Int := (bif !(v28_0 a1 0 a2) then 0 else (bif decide (a2 > (a0.length : Int)) then 0 else (ro (runW (R34_0 a0 a3) (((IntKind.i64.wrap (a2 - 1)) - a1 + 1).toNat + 1) (a1, IntKind.i64.wrap (a2 - 1), ([] : List AV))) 0 (fun p33 => p33.1))))
theorem e34 (a0 : List AV) (a1 : Int) (a2 : Int) (a3 : Int) : funA c34 0 34 [AV.sl [.int .i64] a0, AV.int .i64 a1, AV.int .i64 a2, AV.int .i64 a3] = (bif !(v28_0 a1 0 a2) then some (AV.tup [AV.fl [.int .i64, .int .i64] ([] : List AV), AV.int .i64 0])
  else (bif decide (a2 > (a0.length : Int)) then some (AV.tup [AV.fl [.int .i64, .int .i64] ([] : List AV), AV.int .i64 0])
  else (ro (runW (R34_0 a0 a3) (((IntKind.i64.wrap (a2 - 1)) - a1 + 1).toNat + 1) (a1, IntKind.i64.wrap (a2 - 1), ([] : List AV))) none (fun p33 => some (AV.tup [AV.fl [.int .i64, .int .i64] p33.2, AV.int .i64 p33.1]))))) := by kernel_rfl
theorem r34 (a0 : List AV) (a1 : Int) (a2 : Int) (a3 : Int) (h : q34 a0 a1 a2 a3 = true) : funA c34 0 34 [AV.sl [.int .i64] a0, AV.int .i64 a1, AV.int .i64 a2, AV.int .i64 a3] = some (AV.tup [AV.fl [.int .i64, .int .i64] (v34_0 a0 a1 a2 a3), AV.int .i64 (v34_1 a0 a1 a2 a3)]) := (e34 a0 a1 a2 a3).trans ((br (fun b => some (AV.tup [AV.fl [.int .i64, .int .i64] (bif b then ([] : List AV) else (bif decide (a2 > (a0.length : Int)) then ([] : List AV) else (ro (runW (R34_0 a0 a3) (((IntKind.i64.wrap (a2 - 1)) - a1 + 1).toNat + 1) (a1, IntKind.i64.wrap (a2 - 1), ([] : List AV))) [] (fun p33 => p33.2)))), AV.int .i64 (bif b then 0 else (bif decide (a2 > (a0.length : Int)) then 0 else (ro (runW (R34_0 a0 a3) (((IntKind.i64.wrap (a2 - 1)) - a1 + 1).toNat + 1) (a1, IntKind.i64.wrap (a2 - 1), ([] : List AV))) 0 (fun p33 => p33.1))))])) (fun _ => rfl) (br (fun b => some (AV.tup [AV.fl [.int .i64, .int .i64] (bif b then ([] : List AV) else (ro (runW (R34_0 a0 a3) (((IntKind.i64.wrap (a2 - 1)) - a1 + 1).toNat + 1) (a1, IntKind.i64.wrap (a2 - 1), ([] : List AV))) [] (fun p33 => p33.2))), AV.int .i64 (bif b then 0 else (ro (runW (R34_0 a0 a3) (((IntKind.i64.wrap (a2 - 1)) - a1 + 1).toNat + 1) (a1, IntKind.i64.wrap (a2 - 1), ([] : List AV))) 0 (fun p33 => p33.1)))])) (fun _ => rfl) (brO (fun o : Option ((Int × (List AV))) => some (AV.tup [AV.fl [.int .i64, .int .i64] (ro o [] (fun p33 => p33.2)), AV.int .i64 (ro o 0 (fun p33 => p33.1))])) (fun p33 => (fun _ => rfl))))) h)
def m34 : TModel
  | [.sl g0 a0, .int .i64 a1, .int .i64 a2, .int .i64 a3] => bif ctsEq g0 ([.int .i64]) then some (q34 a0 a1 a2 a3, AV.tup [AV.fl [.int .i64, .int .i64] (v34_0 a0 a1 a2 a3), AV.int .i64 (v34_1 a0 a1 a2 a3)]) else none
  | _ => none
theorem k34 : Known Try.prog 34 := ⟨Try.f34, Try.func34, by kernel_rfl, by kernel_rfl⟩
theorem meets34 : Meets Try.prog 34 m34 := by
  refine meet (f := Try.f34) (l := [(0, sub [1, 1, 1, 1, 1, 0, 0, 0] (body Try.f34))]) (hs := [(34, 0, [0, 3, 10, 11, 12]), (34, 999, [8, 9]), (34, 1000, [10, 11]), (34, 1001, [0, 3, 10, 11, 12]), (34, 1002, [0, 3, 10, 11, 12])]) (ts := [(28, m28)]) (ws := []) (is := []) (ls := [(34, 0, l34_0)]) (lvl := 0) mixed k34 Try.func34 (by kernel_rfl) (loops_cons ok34_0 noLoop) (allT_cons meets28 allT_nil) allM_nil noI fun w xs us r hl hv h => ?_
  unfold m34 at h
  split at h
  · rename_i g0 a0 a1 a2 a3
    obtain ⟨hg, h⟩ := bif_pair h
    have q0 := hg
    obtain rfl := ctsEq_eq _ _ q0
    obtain ⟨h1, rfl⟩ := pair_inj h
    exact r34 a0 a1 a2 a3 h1
  · cases h

/-! ### 18 loop.example/g01984/spec.CrackAt -/
noncomputable def c18 : Cfg := cfg Try.prog [(18, 999, [4, 5, 6])] [(28, m28), (30, m30), (31, m31), (32, m32), (33, m33), (34, m34), (35, m35), (36, m36)] [] [] []
def q18 (xa : List AV) (xb : List AV) (xc : List AV) (a1 : Int) : Bool := (q30 xa xb xc && (bif !(v30_0 xa xb xc) then q31 xa xb xc else (bif !(v28_0 a1 (-1000) 1000) then q31 xa xb xc else (q32 xa xb xc a1 && (bif (v32_1 xa xb xc a1) then q31 xa xb xc else (q33 xa xb xc a1 && (q34 xa (v33_0 xa xb xc a1) (v33_1 xa xb xc a1) a1 && (q35 xa xb xc (v34_0 xa (v33_0 xa xb xc a1) (v33_1 xa xb xc a1) a1) && q36 (v35_0 xa xb xc (v34_0 xa (v33_0 xa xb xc a1) (v33_1 xa xb xc a1) a1)) (v35_1 xa xb xc (v34_0 xa (v33_0 xa xb xc a1) (v33_1 xa xb xc a1) a1)) (v35_2 xa xb xc (v34_0 xa (v33_0 xa xb xc a1) (v33_1 xa xb xc a1) a1)) a1 (v34_1 xa (v33_0 xa xb xc a1) (v33_1 xa xb xc a1) a1)))))))))
def v18_0 (xa : List AV) (xb : List AV) (xc : List AV) (a1 : Int) : List AV := (bif !(v30_0 xa xb xc) then (v31_0 xa xb xc) else (bif !(v28_0 a1 (-1000) 1000) then (v31_0 xa xb xc) else (bif (v32_1 xa xb xc a1) then (v31_0 xa xb xc) else (v36_0 (v35_0 xa xb xc (v34_0 xa (v33_0 xa xb xc a1) (v33_1 xa xb xc a1) a1)) (v35_1 xa xb xc (v34_0 xa (v33_0 xa xb xc a1) (v33_1 xa xb xc a1) a1)) (v35_2 xa xb xc (v34_0 xa (v33_0 xa xb xc a1) (v33_1 xa xb xc a1) a1)) a1 (v34_1 xa (v33_0 xa xb xc a1) (v33_1 xa xb xc a1) a1)))))
def v18_1 (xa : List AV) (xb : List AV) (xc : List AV) (a1 : Int) : List AV := (bif !(v30_0 xa xb xc) then (v31_1 xa xb xc) else (bif !(v28_0 a1 (-1000) 1000) then (v31_1 xa xb xc) else (bif (v32_1 xa xb xc a1) then (v31_1 xa xb xc) else (v36_1 (v35_0 xa xb xc (v34_0 xa (v33_0 xa xb xc a1) (v33_1 xa xb xc a1) a1)) (v35_1 xa xb xc (v34_0 xa (v33_0 xa xb xc a1) (v33_1 xa xb xc a1) a1)) (v35_2 xa xb xc (v34_0 xa (v33_0 xa xb xc a1) (v33_1 xa xb xc a1) a1)) a1 (v34_1 xa (v33_0 xa xb xc a1) (v33_1 xa xb xc a1) a1)))))
def v18_2 (xa : List AV) (xb : List AV) (xc : List AV) (a1 : Int) : List AV := (bif !(v30_0 xa xb xc) then (v31_2 xa xb xc) else (bif !(v28_0 a1 (-1000) 1000) then (v31_2 xa xb xc) else (bif (v32_1 xa xb xc a1) then (v31_2 xa xb xc) else (v36_2 (v35_0 xa xb xc (v34_0 xa (v33_0 xa xb xc a1) (v33_1 xa xb xc a1) a1)) (v35_1 xa xb xc (v34_0 xa (v33_0 xa xb xc a1) (v33_1 xa xb xc a1) a1)) (v35_2 xa xb xc (v34_0 xa (v33_0 xa xb xc a1) (v33_1 xa xb xc a1) a1)) a1 (v34_1 xa (v33_0 xa xb xc a1) (v33_1 xa xb xc a1) a1)))))
def v18_3 (xa : List AV) (xb : List AV) (xc : List AV) (a1 : Int) : List AV := (bif !(v30_0 xa xb xc) then ([] : List AV) else (bif !(v28_0 a1 (-1000) 1000) then ([] : List AV) else (bif (v32_1 xa xb xc a1) then ([] : List AV) else (v34_0 xa (v33_0 xa xb xc a1) (v33_1 xa xb xc a1) a1))))
def v18_4 (xa : List AV) (xb : List AV) (xc : List AV) (a1 : Int) : Bool := (bif !(v30_0 xa xb xc) then false else (bif !(v28_0 a1 (-1000) 1000) then false else true))
theorem e18 (xa : List AV) (xb : List AV) (xc : List AV) (a1 : Int) : funA c18 0 18 [AV.agg [AV.sl [.int .i64] xa, AV.sl [.int .i64] xb, AV.sl [.int .i64, .int .i64] xc], AV.int .i64 a1] = (bif q30 xa xb xc then (bif !(v30_0 xa xb xc) then (bif q31 xa xb xc then some (AV.tup [AV.agg [AV.fl [.int .i64] (v31_0 xa xb xc), AV.fl [.int .i64] (v31_1 xa xb xc), AV.fl [.int .i64, .int .i64] (v31_2 xa xb xc)], AV.fl [.int .i64, .int .i64] ([] : List AV), AV.bool false])
  else none)
  else (bif !(v28_0 a1 (-1000) 1000) then (bif q31 xa xb xc then some (AV.tup [AV.agg [AV.fl [.int .i64] (v31_0 xa xb xc), AV.fl [.int .i64] (v31_1 xa xb xc), AV.fl [.int .i64, .int .i64] (v31_2 xa xb xc)], AV.fl [.int .i64, .int .i64] ([] : List AV), AV.bool false])
  else none)
  else (bif q32 xa xb xc a1 then (bif (v32_1 xa xb xc a1) then (bif q31 xa xb xc then some (AV.tup [AV.agg [AV.fl [.int .i64] (v31_0 xa xb xc), AV.fl [.int .i64] (v31_1 xa xb xc), AV.fl [.int .i64, .int .i64] (v31_2 xa xb xc)], AV.fl [.int .i64, .int .i64] ([] : List AV), AV.bool true])
  else none)
  else (bif q33 xa xb xc a1 then (bif q34 xa (v33_0 xa xb xc a1) (v33_1 xa xb xc a1) a1 then (bif q35 xa xb xc (v34_0 xa (v33_0 xa xb xc a1) (v33_1 xa xb xc a1) a1) then (bif q36 (v35_0 xa xb xc (v34_0 xa (v33_0 xa xb xc a1) (v33_1 xa xb xc a1) a1)) (v35_1 xa xb xc (v34_0 xa (v33_0 xa xb xc a1) (v33_1 xa xb xc a1) a1)) (v35_2 xa xb xc (v34_0 xa (v33_0 xa xb xc a1) (v33_1 xa xb xc a1) a1)) a1 (v34_1 xa (v33_0 xa xb xc a1) (v33_1 xa xb xc a1) a1) then some (AV.tup [AV.agg [AV.fl [.int .i64] (v36_0 (v35_0 xa xb xc (v34_0 xa (v33_0 xa xb xc a1) (v33_1 xa xb xc a1) a1)) (v35_1 xa xb xc (v34_0 xa (v33_0 xa xb xc a1) (v33_1 xa xb xc a1) a1)) (v35_2 xa xb xc (v34_0 xa (v33_0 xa xb xc a1) (v33_1 xa xb xc a1) a1)) a1 (v34_1 xa (v33_0 xa xb xc a1) (v33_1 xa xb xc a1) a1)), AV.fl [.int .i64] (v36_1 (v35_0 xa xb xc (v34_0 xa (v33_0 xa xb xc a1) (v33_1 xa xb xc a1) a1)) (v35_1 xa xb xc (v34_0 xa (v33_0 xa xb xc a1) (v33_1 xa xb xc a1) a1)) (v35_2 xa xb xc (v34_0 xa (v33_0 xa xb xc a1) (v33_1 xa xb xc a1) a1)) a1 (v34_1 xa (v33_0 xa xb xc a1) (v33_1 xa xb xc a1) a1)), AV.fl [.int .i64, .int .i64] (v36_2 (v35_0 xa xb xc (v34_0 xa (v33_0 xa xb xc a1) (v33_1 xa xb xc a1) a1)) (v35_1 xa xb xc (v34_0 xa (v33_0 xa xb xc a1) (v33_1 xa xb xc a1) a1)) (v35_2 xa xb xc (v34_0 xa (v33_0 xa xb xc a1) (v33_1 xa xb xc a1) a1)) a1 (v34_1 xa (v33_0 xa xb xc a1) (v33_1 xa xb xc a1) a1))], AV.fl [.int .i64, .int .i64] (v34_0 xa (v33_0 xa xb xc a1) (v33_1 xa xb xc a1) a1), AV.bool true])
  else none)
  else none)
  else none)
  else none))
  else none)))
  else none) := by kernel_rfl
theorem r18 (xa : List AV) (xb : List AV) (xc : List AV) (a1 : Int) (h : q18 xa xb xc a1 = true) : funA c18 0 18 [AV.agg [AV.sl [.int .i64] xa, AV.sl [.int .i64] xb, AV.sl [.int .i64, .int .i64] xc], AV.int .i64 a1] = some (AV.tup [AV.agg [AV.fl [.int .i64] (v18_0 xa xb xc a1), AV.fl [.int .i64] (v18_1 xa xb xc a1), AV.fl [.int .i64, .int .i64] (v18_2 xa xb xc a1)], AV.fl [.int .i64, .int .i64] (v18_3 xa xb xc a1), AV.bool (v18_4 xa xb xc a1)]) := (e18 xa xb xc a1).trans ((brL (br (fun b => some (AV.tup [AV.agg [AV.fl [.int .i64] (bif b then (v31_0 xa xb xc) else (bif !(v28_0 a1 (-1000) 1000) then (v31_0 xa xb xc) else (bif (v32_1 xa xb xc a1) then (v31_0 xa xb xc) else (v36_0 (v35_0 xa xb xc (v34_0 xa (v33_0 xa xb xc a1) (v33_1 xa xb xc a1) a1)) (v35_1 xa xb xc (v34_0 xa (v33_0 xa xb xc a1) (v33_1 xa xb xc a1) a1)) (v35_2 xa xb xc (v34_0 xa (v33_0 xa xb xc a1) (v33_1 xa xb xc a1) a1)) a1 (v34_1 xa (v33_0 xa xb xc a1) (v33_1 xa xb xc a1) a1))))), AV.fl [.int .i64] (bif b then (v31_1 xa xb xc) else (bif !(v28_0 a1 (-1000) 1000) then (v31_1 xa xb xc) else (bif (v32_1 xa xb xc a1) then (v31_1 xa xb xc) else (v36_1 (v35_0 xa xb xc (v34_0 xa (v33_0 xa xb xc a1) (v33_1 xa xb xc a1) a1)) (v35_1 xa xb xc (v34_0 xa (v33_0 xa xb xc a1) (v33_1 xa xb xc a1) a1)) (v35_2 xa xb xc (v34_0 xa (v33_0 xa xb xc a1) (v33_1 xa xb xc a1) a1)) a1 (v34_1 xa (v33_0 xa xb xc a1) (v33_1 xa xb xc a1) a1))))), AV.fl [.int .i64, .int .i64] (bif b then (v31_2 xa xb xc) else (bif !(v28_0 a1 (-1000) 1000) then (v31_2 xa xb xc) else (bif (v32_1 xa xb xc a1) then (v31_2 xa xb xc) else (v36_2 (v35_0 xa xb xc (v34_0 xa (v33_0 xa xb xc a1) (v33_1 xa xb xc a1) a1)) (v35_1 xa xb xc (v34_0 xa (v33_0 xa xb xc a1) (v33_1 xa xb xc a1) a1)) (v35_2 xa xb xc (v34_0 xa (v33_0 xa xb xc a1) (v33_1 xa xb xc a1) a1)) a1 (v34_1 xa (v33_0 xa xb xc a1) (v33_1 xa xb xc a1) a1)))))], AV.fl [.int .i64, .int .i64] (bif b then ([] : List AV) else (bif !(v28_0 a1 (-1000) 1000) then ([] : List AV) else (bif (v32_1 xa xb xc a1) then ([] : List AV) else (v34_0 xa (v33_0 xa xb xc a1) (v33_1 xa xb xc a1) a1)))), AV.bool (bif b then false else (bif !(v28_0 a1 (-1000) 1000) then false else true))])) (brL1 (fun _ => rfl)) (br (fun b => some (AV.tup [AV.agg [AV.fl [.int .i64] (bif b then (v31_0 xa xb xc) else (bif (v32_1 xa xb xc a1) then (v31_0 xa xb xc) else (v36_0 (v35_0 xa xb xc (v34_0 xa (v33_0 xa xb xc a1) (v33_1 xa xb xc a1) a1)) (v35_1 xa xb xc (v34_0 xa (v33_0 xa xb xc a1) (v33_1 xa xb xc a1) a1)) (v35_2 xa xb xc (v34_0 xa (v33_0 xa xb xc a1) (v33_1 xa xb xc a1) a1)) a1 (v34_1 xa (v33_0 xa xb xc a1) (v33_1 xa xb xc a1) a1)))), AV.fl [.int .i64] (bif b then (v31_1 xa xb xc) else (bif (v32_1 xa xb xc a1) then (v31_1 xa xb xc) else (v36_1 (v35_0 xa xb xc (v34_0 xa (v33_0 xa xb xc a1) (v33_1 xa xb xc a1) a1)) (v35_1 xa xb xc (v34_0 xa (v33_0 xa xb xc a1) (v33_1 xa xb xc a1) a1)) (v35_2 xa xb xc (v34_0 xa (v33_0 xa xb xc a1) (v33_1 xa xb xc a1) a1)) a1 (v34_1 xa (v33_0 xa xb xc a1) (v33_1 xa xb xc a1) a1)))), AV.fl [.int .i64, .int .i64] (bif b then (v31_2 xa xb xc) else (bif (v32_1 xa xb xc a1) then (v31_2 xa xb xc) else (v36_2 (v35_0 xa xb xc (v34_0 xa (v33_0 xa xb xc a1) (v33_1 xa xb xc a1) a1)) (v35_1 xa xb xc (v34_0 xa (v33_0 xa xb xc a1) (v33_1 xa xb xc a1) a1)) (v35_2 xa xb xc (v34_0 xa (v33_0 xa xb xc a1) (v33_1 xa xb xc a1) a1)) a1 (v34_1 xa (v33_0 xa xb xc a1) (v33_1 xa xb xc a1) a1))))], AV.fl [.int .i64, .int .i64] (bif b then ([] : List AV) else (bif (v32_1 xa xb xc a1) then ([] : List AV) else (v34_0 xa (v33_0 xa xb xc a1) (v33_1 xa xb xc a1) a1))), AV.bool (bif b then false else true)])) (brL1 (fun _ => rfl)) (brL (br (fun b => some (AV.tup [AV.agg [AV.fl [.int .i64] (bif b then (v31_0 xa xb xc) else (v36_0 (v35_0 xa xb xc (v34_0 xa (v33_0 xa xb xc a1) (v33_1 xa xb xc a1) a1)) (v35_1 xa xb xc (v34_0 xa (v33_0 xa xb xc a1) (v33_1 xa xb xc a1) a1)) (v35_2 xa xb xc (v34_0 xa (v33_0 xa xb xc a1) (v33_1 xa xb xc a1) a1)) a1 (v34_1 xa (v33_0 xa xb xc a1) (v33_1 xa xb xc a1) a1))), AV.fl [.int .i64] (bif b then (v31_1 xa xb xc) else (v36_1 (v35_0 xa xb xc (v34_0 xa (v33_0 xa xb xc a1) (v33_1 xa xb xc a1) a1)) (v35_1 xa xb xc (v34_0 xa (v33_0 xa xb xc a1) (v33_1 xa xb xc a1) a1)) (v35_2 xa xb xc (v34_0 xa (v33_0 xa xb xc a1) (v33_1 xa xb xc a1) a1)) a1 (v34_1 xa (v33_0 xa xb xc a1) (v33_1 xa xb xc a1) a1))), AV.fl [.int .i64, .int .i64] (bif b then (v31_2 xa xb xc) else (v36_2 (v35_0 xa xb xc (v34_0 xa (v33_0 xa xb xc a1) (v33_1 xa xb xc a1) a1)) (v35_1 xa xb xc (v34_0 xa (v33_0 xa xb xc a1) (v33_1 xa xb xc a1) a1)) (v35_2 xa xb xc (v34_0 xa (v33_0 xa xb xc a1) (v33_1 xa xb xc a1) a1)) a1 (v34_1 xa (v33_0 xa xb xc a1) (v33_1 xa xb xc a1) a1)))], AV.fl [.int .i64, .int .i64] (bif b then ([] : List AV) else (v34_0 xa (v33_0 xa xb xc a1) (v33_1 xa xb xc a1) a1)), AV.bool true])) (brL1 (fun _ => rfl)) (brL (brL (brL (brL1 (fun _ => rfl)))))))))) h)
def m18 : TModel
  | [.agg [.sl g0 xa, .sl g1 xb, .sl g2 xc], .int .i64 a1] => bif ctsEq g0 ([.int .i64]) && ctsEq g1 ([.int .i64]) && ctsEq g2 ([.int .i64, .int .i64]) then some (q18 xa xb xc a1, AV.tup [AV.agg [AV.fl [.int .i64] (v18_0 xa xb xc a1), AV.fl [.int .i64] (v18_1 xa xb xc a1), AV.fl [.int .i64, .int .i64] (v18_2 xa xb xc a1)], AV.fl [.int .i64, .int .i64] (v18_3 xa xb xc a1), AV.bool (v18_4 xa xb xc a1)]) else none
  | _ => none
theorem k18 : Known Try.prog 18 := ⟨Try.f18, Try.func18, by kernel_rfl, by kernel_rfl⟩
theorem meets18 : Meets Try.prog 18 m18 := by
  refine meet (f := Try.f18) (l := []) (hs := [(18, 999, [4, 5, 6])]) (ts := [(28, m28), (30, m30), (31, m31), (32, m32), (33, m33), (34, m34), (35, m35), (36, m36)]) (ws := []) (is := []) (ls := []) (lvl := 0) mixed k18 Try.func18 (by kernel_rfl) noLoop (allT_cons meets28 (allT_cons meets30 (allT_cons meets31 (allT_cons meets32 (allT_cons meets33 (allT_cons meets34 (allT_cons meets35 (allT_cons meets36 allT_nil)))))))) allM_nil noI fun w xs us r hl hv h => ?_
  unfold m18 at h
  split at h
  · rename_i g0 xa g1 xb g2 xc a1
    obtain ⟨hg, h⟩ := bif_pair h
    simp only [Bool.and_eq_true] at hg
    obtain ⟨⟨q0, q1⟩, q2⟩ := hg
    obtain rfl := ctsEq_eq _ _ q0
    obtain rfl := ctsEq_eq _ _ q1
    obtain rfl := ctsEq_eq _ _ q2
    obtain ⟨h1, rfl⟩ := pair_inj h
    exact r18 xa xb xc a1 h1
  · cases h

/-! ### 5 loop.example/g01984/spec.ResumeWork -/
def F5_0 (t3 : List AV) (t12 : Int) (h0 : List AV) (h1 : List AV) (h2 : List AV) : Out ((Int × (List AV) × (List AV) × (List AV))) (((List AV) × (List AV) × (List AV))) := (bif decide (t12 < (t3.length : Int)) then (bif (decide (0 ≤ t12) && decide (t12 < (t3.length : Int))) then (bif q18 h0 h1 h2 (fI (t3.getD t12.toNat .undef) 0) then .next (IntKind.i64.wrap (t12 + 1), (v18_0 h0 h1 h2 (fI (t3.getD t12.toNat .undef) 0)), (v18_1 h0 h1 h2 (fI (t3.getD t12.toNat .undef) 0)), (v18_2 h0 h1 h2 (fI (t3.getD t12.toNat .undef) 0)))
  else .fail)
  else .fail)
  else .stop (h0, h1, h2))
def R5_0 (t3 : List AV) : ((Int × (List AV) × (List AV) × (List AV))) → Out ((Int × (List AV) × (List AV) × (List AV))) (((List AV) × (List AV) × (List AV))) := fun s : Int × (List AV) × (List AV) × (List AV) => F5_0 t3 s.1 s.2.1 s.2.2.1 s.2.2.2
def l5_0 : LModel := fun _ _ st k => match st with
  | ⟨[(3, .sl g0 t3), (8, .ptr g1 g2 g3), (10, .ptr g4 g5 g6), (12, .int .i64 t12)], [(g7, ⟨false, g8, h0⟩), (g9, ⟨false, g10, h1⟩), (g11, ⟨false, g12, h2⟩), (g13, ⟨true, [], [.agg [.snil, .snil, .snil]]⟩), (g14, ⟨true, [], [.agg [.own g15, .own g16, .own g17]]⟩)]⟩ => bif ctsEq g0 ([.int .i64]) && nmEq g1 ([0, 8]) && Nat.beq g2 0 && Nat.beq g3 0 && nmEq g4 ([0, 10]) && Nat.beq g5 0 && Nat.beq g6 0 && nmEq g7 ([0, 0, 10]) && ctsEq g8 ([.int .i64]) && nmEq g9 ([0, 1, 10]) && ctsEq g10 ([.int .i64]) && nmEq g11 ([0, 2, 10]) && ctsEq g12 ([.int .i64, .int .i64]) && nmEq g13 ([0, 8]) && nmEq g14 ([0, 10]) && nmEq g15 ([0, 0, 10]) && nmEq g16 ([0, 1, 10]) && nmEq g17 ([0, 2, 10]) then ro (runW (R5_0 t3) (((t3.length : Int) - t12).toNat + 1) (t12, h0, h1, h2)) none (fun p : (List AV) × (List AV) × (List AV) => k (.exit 0) ⟨[(8, AV.ptr [0, 8] 0 0), (10, AV.ptr [0, 10] 0 0)], [([0, 0, 10], ⟨false, [.int .i64], p.1⟩), ([0, 1, 10], ⟨false, [.int .i64], p.2.1⟩), ([0, 2, 10], ⟨false, [.int .i64, .int .i64], p.2.2⟩), ([0, 8], ⟨true, [], [AV.agg [AV.snil, AV.snil, AV.snil]]⟩), ([0, 10], ⟨true, [], [AV.agg [AV.own [0, 0, 10], AV.own [0, 1, 10], AV.own [0, 2, 10]]]⟩)]⟩) else none
  | _ => none
noncomputable def c5 : Cfg := cfg Try.prog [(5, 0, [3, 8, 10, 12]), (5, 999, [8, 9]), (5, 1000, [8, 10]), (5, 1001, [3, 8, 10, 12])] [(16, m16), (17, m17), (18, m18)] [] [] [(5, 0, l5_0)]
theorem s5_0 (ce : CallE) (t3 : List AV) (t12 : Int) (h0 : List AV) (h1 : List AV) (h2 : List AV) (next : St → Option AV) (k : Kont) : stepA (codeA c5 ce [] 5 0 (sub [1, 1, 1, 0, 1, 0, 0] (body Try.f5))) (normA [] [3, 8, 10, 12]) next ⟨[(3, AV.sl [.int .i64] t3), (8, AV.ptr [0, 8] 0 0), (10, AV.ptr [0, 10] 0 0), (12, AV.int .i64 t12)], [([0, 0, 10], ⟨false, [.int .i64], h0⟩), ([0, 1, 10], ⟨false, [.int .i64], h1⟩), ([0, 2, 10], ⟨false, [.int .i64, .int .i64], h2⟩), ([0, 8], ⟨true, [], [AV.agg [AV.snil, AV.snil, AV.snil]]⟩), ([0, 10], ⟨true, [], [AV.agg [AV.own [0, 0, 10], AV.own [0, 1, 10], AV.own [0, 2, 10]]]⟩)]⟩ k = (bif decide (t12 < (t3.length : Int)) then (bif (decide (0 ≤ t12) && decide (t12 < (t3.length : Int))) then (bif q18 h0 h1 h2 (fI (t3.getD t12.toNat .undef) 0) then next ⟨[(3, AV.sl [.int .i64] t3), (8, AV.ptr [0, 8] 0 0), (10, AV.ptr [0, 10] 0 0), (12, AV.int .i64 (IntKind.i64.wrap (t12 + 1)))], [([0, 0, 10], ⟨false, [.int .i64], (v18_0 h0 h1 h2 (fI (t3.getD t12.toNat .undef) 0))⟩), ([0, 1, 10], ⟨false, [.int .i64], (v18_1 h0 h1 h2 (fI (t3.getD t12.toNat .undef) 0))⟩), ([0, 2, 10], ⟨false, [.int .i64, .int .i64], (v18_2 h0 h1 h2 (fI (t3.getD t12.toNat .undef) 0))⟩), ([0, 8], ⟨true, [], [AV.agg [AV.snil, AV.snil, AV.snil]]⟩), ([0, 10], ⟨true, [], [AV.agg [AV.own [0, 0, 10], AV.own [0, 1, 10], AV.own [0, 2, 10]]]⟩)]⟩
  else none)
  else none)
  else k (.exit 0) ⟨[(8, AV.ptr [0, 8] 0 0), (10, AV.ptr [0, 10] 0 0)], [([0, 0, 10], ⟨false, [.int .i64], h0⟩), ([0, 1, 10], ⟨false, [.int .i64], h1⟩), ([0, 2, 10], ⟨false, [.int .i64, .int .i64], h2⟩), ([0, 8], ⟨true, [], [AV.agg [AV.snil, AV.snil, AV.snil]]⟩), ([0, 10], ⟨true, [], [AV.agg [AV.own [0, 0, 10], AV.own [0, 1, 10], AV.own [0, 2, 10]]]⟩)]⟩) := by kernel_rfl
theorem st5_0 (t3 : List AV) (ce : CallE) (k : Kont) (s : (Int × (List AV) × (List AV) × (List AV))) (next : St → Option AV) : stepA (codeA c5 ce [] 5 0 (sub [1, 1, 1, 0, 1, 0, 0] (body Try.f5))) (normA [] [3, 8, 10, 12]) next ((fun s : Int × (List AV) × (List AV) × (List AV) => ⟨[(3, AV.sl [.int .i64] t3), (8, AV.ptr [0, 8] 0 0), (10, AV.ptr [0, 10] 0 0), (12, AV.int .i64 s.1)], [([0, 0, 10], ⟨false, [.int .i64], s.2.1⟩), ([0, 1, 10], ⟨false, [.int .i64], s.2.2.1⟩), ([0, 2, 10], ⟨false, [.int .i64, .int .i64], s.2.2.2⟩), ([0, 8], ⟨true, [], [AV.agg [AV.snil, AV.snil, AV.snil]]⟩), ([0, 10], ⟨true, [], [AV.agg [AV.own [0, 0, 10], AV.own [0, 1, 10], AV.own [0, 2, 10]]]⟩)]⟩) s) k = (R5_0 t3 s).el none (fun s => next ((fun s : Int × (List AV) × (List AV) × (List AV) => ⟨[(3, AV.sl [.int .i64] t3), (8, AV.ptr [0, 8] 0 0), (10, AV.ptr [0, 10] 0 0), (12, AV.int .i64 s.1)], [([0, 0, 10], ⟨false, [.int .i64], s.2.1⟩), ([0, 1, 10], ⟨false, [.int .i64], s.2.2.1⟩), ([0, 2, 10], ⟨false, [.int .i64, .int .i64], s.2.2.2⟩), ([0, 8], ⟨true, [], [AV.agg [AV.snil, AV.snil, AV.snil]]⟩), ([0, 10], ⟨true, [], [AV.agg [AV.own [0, 0, 10], AV.own [0, 1, 10], AV.own [0, 2, 10]]]⟩)]⟩) s)) (fun p : (List AV) × (List AV) × (List AV) => k (.exit 0) ⟨[(8, AV.ptr [0, 8] 0 0), (10, AV.ptr [0, 10] 0 0)], [([0, 0, 10], ⟨false, [.int .i64], p.1⟩), ([0, 1, 10], ⟨false, [.int .i64], p.2.1⟩), ([0, 2, 10], ⟨false, [.int .i64, .int .i64], p.2.2⟩), ([0, 8], ⟨true, [], [AV.agg [AV.snil, AV.snil, AV.snil]]⟩), ([0, 10], ⟨true, [], [AV.agg [AV.own [0, 0, 10], AV.own [0, 1, 10], AV.own [0, 2, 10]]]⟩)]⟩) := (s5_0 ce t3 s.1 s.2.1 s.2.2.1 s.2.2.2 next k).trans (by unfold R5_0; unfold F5_0; simp only [el_cond, el_ro, el_sum, el_fail, el_next, el_stop] <;> rfl)
theorem ok5_0 {ce : CallE} : LoopOK c5 ce [] 5 0 (sub [1, 1, 1, 0, 1, 0, 0] (body Try.f5)) := by
  intro m hm st k r h
  obtain rfl : l5_0 = m := Option.some.inj hm
  unfold l5_0 at h
  split at h
  · rename_i g0 t3 g1 g2 g3 g4 g5 g6 t12 g7 g8 h0 g9 g10 h1 g11 g12 h2 g13 g14 g15 g16 g17
    obtain ⟨hg, h⟩ := bif_some h
    simp only [Bool.and_eq_true] at hg
    obtain ⟨⟨⟨⟨⟨⟨⟨⟨⟨⟨⟨⟨⟨⟨⟨⟨⟨q0, q1⟩, q2⟩, q3⟩, q4⟩, q5⟩, q6⟩, q7⟩, q8⟩, q9⟩, q10⟩, q11⟩, q12⟩, q13⟩, q14⟩, q15⟩, q16⟩, q17⟩ := hg
    obtain rfl := ctsEq_eq _ _ q0
    obtain rfl := (nmEq_iff _ _).1 q1
    obtain rfl := Nat.eq_of_beq_eq_true q2
    obtain rfl := Nat.eq_of_beq_eq_true q3
    obtain rfl := (nmEq_iff _ _).1 q4
    obtain rfl := Nat.eq_of_beq_eq_true q5
    obtain rfl := Nat.eq_of_beq_eq_true q6
    obtain rfl := (nmEq_iff _ _).1 q7
    obtain rfl := ctsEq_eq _ _ q8
    obtain rfl := (nmEq_iff _ _).1 q9
    obtain rfl := ctsEq_eq _ _ q10
    obtain rfl := (nmEq_iff _ _).1 q11
    obtain rfl := ctsEq_eq _ _ q12
    obtain rfl := (nmEq_iff _ _).1 q13
    obtain rfl := (nmEq_iff _ _).1 q14
    obtain rfl := (nmEq_iff _ _).1 q15
    obtain rfl := (nmEq_iff _ _).1 q16
    obtain rfl := (nmEq_iff _ _).1 q17
    refine ⟨(((t3.length : Int) - t12).toNat + 1), ?_⟩
    rw [← h]
    exact loop_run (fun s : Int × (List AV) × (List AV) × (List AV) => ⟨[(3, AV.sl [.int .i64] t3), (8, AV.ptr [0, 8] 0 0), (10, AV.ptr [0, 10] 0 0), (12, AV.int .i64 s.1)], [([0, 0, 10], ⟨false, [.int .i64], s.2.1⟩), ([0, 1, 10], ⟨false, [.int .i64], s.2.2.1⟩), ([0, 2, 10], ⟨false, [.int .i64, .int .i64], s.2.2.2⟩), ([0, 8], ⟨true, [], [AV.agg [AV.snil, AV.snil, AV.snil]]⟩), ([0, 10], ⟨true, [], [AV.agg [AV.own [0, 0, 10], AV.own [0, 1, 10], AV.own [0, 2, 10]]]⟩)]⟩) (fun p : (List AV) × (List AV) × (List AV) => k (.exit 0) ⟨[(8, AV.ptr [0, 8] 0 0), (10, AV.ptr [0, 10] 0 0)], [([0, 0, 10], ⟨false, [.int .i64], p.1⟩), ([0, 1, 10], ⟨false, [.int .i64], p.2.1⟩), ([0, 2, 10], ⟨false, [.int .i64, .int .i64], p.2.2⟩), ([0, 8], ⟨true, [], [AV.agg [AV.snil, AV.snil, AV.snil]]⟩), ([0, 10], ⟨true, [], [AV.agg [AV.own [0, 0, 10], AV.own [0, 1, 10], AV.own [0, 2, 10]]]⟩)]⟩) (st5_0 t3 ce k) _ (t12, h0, h1, h2)
  · cases h
def q5 (a0 : List AV) (a1 : List AV) (a2 : Int) (a3 : List AV) : Bool := (q16 a0 a1 a2 && (bif !(v16_3 a0 a1 a2) then true else (q17 a3 && (bif !(v17_0 a3) then true else (ro (runW (R5_0 a3) (((a3.length : Int) - 0).toNat + 1) (0, (v16_0 a0 a1 a2), (v16_1 a0 a1 a2), (v16_2 a0 a1 a2))) false (fun p34 => true))))))
def v5_0 (a0 : List AV) (a1 : List AV) (a2 : Int) (a3 : List AV) : List AV := (bif !(v16_3 a0 a1 a2) then ([] : List AV) else (bif !(v17_0 a3) then ([] : List AV) else (ro (runW (R5_0 a3) (((a3.length : Int) - 0).toNat + 1) (0, (v16_0 a0 a1 a2), (v16_1 a0 a1 a2), (v16_2 a0 a1 a2))) [] (fun p34 => p34.1))))
def v5_1 (a0 : List AV) (a1 : List AV) (a2 : Int) (a3 : List AV) : List AV := (bif !(v16_3 a0 a1 a2) then ([] : List AV) else (bif !(v17_0 a3) then ([] : List AV) else (ro (runW (R5_0 a3) (((a3.length : Int) - 0).toNat + 1) (0, (v16_0 a0 a1 a2), (v16_1 a0 a1 a2), (v16_2 a0 a1 a2))) [] (fun p34 => p34.2.1))))
def v5_2 (a0 : List AV) (a1 : List AV) (a2 : Int) (a3 : List AV) : List AV := (bif !(v16_3 a0 a1 a2) then ([] : List AV) else (bif !(v17_0 a3) then ([] : List AV) else (ro (runW (R5_0 a3) (((a3.length : Int) - 0).toNat + 1) (0, (v16_0 a0 a1 a2), (v16_1 a0 a1 a2), (v16_2 a0 a1 a2))) [] (fun p34 => p34.2.2))))
def v5_3 (a0 : List AV) (a1 : List AV) (a2 : Int) (a3 : List AV) : Bool := (bif !(v16_3 a0 a1 a2) then false else (bif !(v17_0 a3) then false else true))
theorem e5 (a0 : List AV) (a1 : List AV) (a2 : Int) (a3 : List AV) : funA c5 0 5 [AV.sl [.int .i64] a0, AV.sl [.int .i64, .int .i64, .int .i64, .int .i64] a1, AV.int .i64 a2, AV.sl [.int .i64] a3] = (bif q16 a0 a1 a2 then (bif !(v16_3 a0 a1 a2) then some (AV.tup [AV.agg [AV.fl [.int .i64] ([] : List AV), AV.fl [.int .i64] ([] : List AV), AV.fl [.int .i64, .int .i64] ([] : List AV)], AV.bool false])
  else (bif q17 a3 then (bif !(v17_0 a3) then some (AV.tup [AV.agg [AV.fl [.int .i64] ([] : List AV), AV.fl [.int .i64] ([] : List AV), AV.fl [.int .i64, .int .i64] ([] : List AV)], AV.bool false])
  else (ro (runW (R5_0 a3) (((a3.length : Int) - 0).toNat + 1) (0, (v16_0 a0 a1 a2), (v16_1 a0 a1 a2), (v16_2 a0 a1 a2))) none (fun p34 => some (AV.tup [AV.agg [AV.fl [.int .i64] p34.1, AV.fl [.int .i64] p34.2.1, AV.fl [.int .i64, .int .i64] p34.2.2], AV.bool true]))))
  else none))
  else none) := by kernel_rfl
theorem r5 (a0 : List AV) (a1 : List AV) (a2 : Int) (a3 : List AV) (h : q5 a0 a1 a2 a3 = true) : funA c5 0 5 [AV.sl [.int .i64] a0, AV.sl [.int .i64, .int .i64, .int .i64, .int .i64] a1, AV.int .i64 a2, AV.sl [.int .i64] a3] = some (AV.tup [AV.agg [AV.fl [.int .i64] (v5_0 a0 a1 a2 a3), AV.fl [.int .i64] (v5_1 a0 a1 a2 a3), AV.fl [.int .i64, .int .i64] (v5_2 a0 a1 a2 a3)], AV.bool (v5_3 a0 a1 a2 a3)]) := (e5 a0 a1 a2 a3).trans ((brL (br (fun b => some (AV.tup [AV.agg [AV.fl [.int .i64] (bif b then ([] : List AV) else (bif !(v17_0 a3) then ([] : List AV) else (ro (runW (R5_0 a3) (((a3.length : Int) - 0).toNat + 1) (0, (v16_0 a0 a1 a2), (v16_1 a0 a1 a2), (v16_2 a0 a1 a2))) [] (fun p34 => p34.1)))), AV.fl [.int .i64] (bif b then ([] : List AV) else (bif !(v17_0 a3) then ([] : List AV) else (ro (runW (R5_0 a3) (((a3.length : Int) - 0).toNat + 1) (0, (v16_0 a0 a1 a2), (v16_1 a0 a1 a2), (v16_2 a0 a1 a2))) [] (fun p34 => p34.2.1)))), AV.fl [.int .i64, .int .i64] (bif b then ([] : List AV) else (bif !(v17_0 a3) then ([] : List AV) else (ro (runW (R5_0 a3) (((a3.length : Int) - 0).toNat + 1) (0, (v16_0 a0 a1 a2), (v16_1 a0 a1 a2), (v16_2 a0 a1 a2))) [] (fun p34 => p34.2.2))))], AV.bool (bif b then false else (bif !(v17_0 a3) then false else true))])) (fun _ => rfl) (brL (br (fun b => some (AV.tup [AV.agg [AV.fl [.int .i64] (bif b then ([] : List AV) else (ro (runW (R5_0 a3) (((a3.length : Int) - 0).toNat + 1) (0, (v16_0 a0 a1 a2), (v16_1 a0 a1 a2), (v16_2 a0 a1 a2))) [] (fun p34 => p34.1))), AV.fl [.int .i64] (bif b then ([] : List AV) else (ro (runW (R5_0 a3) (((a3.length : Int) - 0).toNat + 1) (0, (v16_0 a0 a1 a2), (v16_1 a0 a1 a2), (v16_2 a0 a1 a2))) [] (fun p34 => p34.2.1))), AV.fl [.int .i64, .int .i64] (bif b then ([] : List AV) else (ro (runW (R5_0 a3) (((a3.length : Int) - 0).toNat + 1) (0, (v16_0 a0 a1 a2), (v16_1 a0 a1 a2), (v16_2 a0 a1 a2))) [] (fun p34 => p34.2.2)))], AV.bool (bif b then false else true)])) (fun _ => rfl) (brO (fun o : Option (((List AV) × (List AV) × (List AV))) => some (AV.tup [AV.agg [AV.fl [.int .i64] (ro o [] (fun p34 => p34.1)), AV.fl [.int .i64] (ro o [] (fun p34 => p34.2.1)), AV.fl [.int .i64, .int .i64] (ro o [] (fun p34 => p34.2.2))], AV.bool true])) (fun p34 => (fun _ => rfl))))))) h)
def m5 : TModel
  | [.sl g0 a0, .sl g1 a1, .int .i64 a2, .sl g2 a3] => bif ctsEq g0 ([.int .i64]) && ctsEq g1 ([.int .i64, .int .i64, .int .i64, .int .i64]) && ctsEq g2 ([.int .i64]) then some (q5 a0 a1 a2 a3, AV.tup [AV.agg [AV.fl [.int .i64] (v5_0 a0 a1 a2 a3), AV.fl [.int .i64] (v5_1 a0 a1 a2 a3), AV.fl [.int .i64, .int .i64] (v5_2 a0 a1 a2 a3)], AV.bool (v5_3 a0 a1 a2 a3)]) else none
  | _ => none
theorem k5 : Known Try.prog 5 := ⟨Try.f5, Try.func5, by kernel_rfl, by kernel_rfl⟩
theorem meets5 : Meets Try.prog 5 m5 := by
  refine meet (f := Try.f5) (l := [(0, sub [1, 1, 1, 0, 1, 0, 0] (body Try.f5))]) (hs := [(5, 0, [3, 8, 10, 12]), (5, 999, [8, 9]), (5, 1000, [8, 10]), (5, 1001, [3, 8, 10, 12])]) (ts := [(16, m16), (17, m17), (18, m18)]) (ws := []) (is := []) (ls := [(5, 0, l5_0)]) (lvl := 0) mixed k5 Try.func5 (by kernel_rfl) (loops_cons ok5_0 noLoop) (allT_cons meets16 (allT_cons meets17 (allT_cons meets18 allT_nil))) allM_nil noI fun w xs us r hl hv h => ?_
  unfold m5 at h
  split at h
  · rename_i g0 a0 g1 a1 a2 g2 a3
    obtain ⟨hg, h⟩ := bif_pair h
    simp only [Bool.and_eq_true] at hg
    obtain ⟨⟨q0, q1⟩, q2⟩ := hg
    obtain rfl := ctsEq_eq _ _ q0
    obtain rfl := ctsEq_eq _ _ q1
    obtain rfl := ctsEq_eq _ _ q2
    obtain ⟨h1, rfl⟩ := pair_inj h
    exact r5 a0 a1 a2 a3 h1
  · cases h

/-! ### 58 loop.example/g01984/impl.within$1 -/
noncomputable def c58 : Cfg := cfg Try.prog [(58, 999, [4])] [] [] [] []
def q58 (a0 : Int) (a1 : AV) (a2 : AV) : Bool := true
def v58_0 (a0 : Int) (a1 : AV) (a2 : AV) : Bool := (bif decide (a0 < fI a1 0) then true else decide (a0 > fI a2 0))
theorem e58 (a0 : Int) (a1 : AV) (a2 : AV) : funA c58 0 58 [AV.int .i64 a0, AV.rptr [.int .i64] a1 0, AV.rptr [.int .i64] a2 0] = (bif decide (a0 < fI a1 0) then some (AV.bool true)
  else some (AV.bool (decide (a0 > fI a2 0)))) := by kernel_rfl
theorem r58 (a0 : Int) (a1 : AV) (a2 : AV) : funA c58 0 58 [AV.int .i64 a0, AV.rptr [.int .i64] a1 0, AV.rptr [.int .i64] a2 0] = some (AV.bool (v58_0 a0 a1 a2)) := (e58 a0 a1 a2).trans (of_tt (brT (fun b => some (AV.bool (bif b then true else decide (a0 > fI a2 0)))) (fun _ => rfl) (fun _ => rfl)))
def m58 : TModel
  | [.int .i64 a0, .rptr g0 a1 g1, .rptr g2 a2 g3] => bif ctsEq g0 ([.int .i64]) && Nat.beq g1 0 && ctsEq g2 ([.int .i64]) && Nat.beq g3 0 then some (true, AV.bool (v58_0 a0 a1 a2)) else none
  | _ => none
theorem k58 : Known Try.prog 58 := ⟨Try.f58, Try.func58, by kernel_rfl, by kernel_rfl⟩
theorem meets58 : Meets Try.prog 58 m58 := by
  refine meet (f := Try.f58) (l := []) (hs := [(58, 999, [4])]) (ts := []) (ws := []) (is := []) (ls := []) (lvl := 0) mixed k58 Try.func58 (by kernel_rfl) noLoop allT_nil allM_nil noI fun w xs us r hl hv h => ?_
  unfold m58 at h
  split at h
  · rename_i a0 g0 a1 g1 g2 a2 g3
    obtain ⟨hg, h⟩ := bif_pair h
    simp only [Bool.and_eq_true] at hg
    obtain ⟨⟨⟨q0, q1⟩, q2⟩, q3⟩ := hg
    obtain rfl := ctsEq_eq _ _ q0
    obtain rfl := Nat.eq_of_beq_eq_true q1
    obtain rfl := ctsEq_eq _ _ q2
    obtain rfl := Nat.eq_of_beq_eq_true q3
    obtain ⟨h1, rfl⟩ := pair_inj h
    exact r58 a0 a1 a2
  · cases h

/-! ### 70 slices.IndexFunc[[]int,int] -/
def F70_0 (t0 : List AV) (t1_0 : AV) (t1_1 : AV) (t7 : Int) (t8 : Int) : Out (Int) (Unit ⊕ Int) := (bif decide (t8 < t7) then (bif (decide (0 ≤ t8) && decide (t8 < (t0.length : Int))) then (bif (v58_0 (fI (t0.getD t8.toNat .undef) 0) t1_0 t1_1) then .stop (.inr t8)
  else .next (IntKind.i64.wrap (t8 + 1)))
  else .fail)
  else .stop (.inl ()))
def R70_0 (t0 : List AV) (t1_0 : AV) (t1_1 : AV) (t7 : Int) : (Int) → Out (Int) (Unit ⊕ Int) := fun s : Int => F70_0 t0 t1_0 t1_1 t7 s
def l70_0 : LModel := fun _ _ st k => match st with
  | ⟨[(0, .sl g0 t0), (1, .fn g1 [.rptr g2 t1_0 g3, .rptr g4 t1_1 g5]), (7, .int .i64 t7), (8, .int .i64 t8)], []⟩ => bif ctsEq g0 ([.int .i64]) && Nat.beq g1 58 && ctsEq g2 ([.int .i64]) && Nat.beq g3 0 && ctsEq g4 ([.int .i64]) && Nat.beq g5 0 then ro (runW (R70_0 t0 t1_0 t1_1 t7) ((t7 - t8).toNat + 1) t8) none (sumE (fun _ : Unit => k (.exit 0) ⟨[], []⟩) (fun p : Int => k .ret ⟨[(4, AV.int .i64 p)], []⟩)) else none
  | _ => none
noncomputable def c70 : Cfg := cfg Try.prog [(70, 0, [0, 1, 7, 8]), (70, 999, [4]), (70, 1000, []), (70, 1001, [0, 1, 7, 8])] [(58, m58)] [] [] [(70, 0, l70_0)]
theorem s70_0 (ce : CallE) (t0 : List AV) (t1_0 : AV) (t1_1 : AV) (t7 : Int) (t8 : Int) (next : St → Option AV) (k : Kont) : stepA (codeA c70 ce [] 70 0 (sub [1, 0, 1, 0, 0] (body Try.f70))) (normA [] [0, 1, 7, 8]) next ⟨[(0, AV.sl [.int .i64] t0), (1, AV.fn 58 [AV.rptr [.int .i64] t1_0 0, AV.rptr [.int .i64] t1_1 0]), (7, AV.int .i64 t7), (8, AV.int .i64 t8)], []⟩ k = (bif decide (t8 < t7) then (bif (decide (0 ≤ t8) && decide (t8 < (t0.length : Int))) then (bif (v58_0 (fI (t0.getD t8.toNat .undef) 0) t1_0 t1_1) then k .ret ⟨[(4, AV.int .i64 t8)], []⟩
  else next ⟨[(0, AV.sl [.int .i64] t0), (1, AV.fn 58 [AV.rptr [.int .i64] t1_0 0, AV.rptr [.int .i64] t1_1 0]), (7, AV.int .i64 t7), (8, AV.int .i64 (IntKind.i64.wrap (t8 + 1)))], []⟩)
  else none)
  else k (.exit 0) ⟨[], []⟩) := by kernel_rfl
theorem st70_0 (t0 : List AV) (t1_0 : AV) (t1_1 : AV) (t7 : Int) (ce : CallE) (k : Kont) (s : Int) (next : St → Option AV) : stepA (codeA c70 ce [] 70 0 (sub [1, 0, 1, 0, 0] (body Try.f70))) (normA [] [0, 1, 7, 8]) next ((fun s : Int => ⟨[(0, AV.sl [.int .i64] t0), (1, AV.fn 58 [AV.rptr [.int .i64] t1_0 0, AV.rptr [.int .i64] t1_1 0]), (7, AV.int .i64 t7), (8, AV.int .i64 s)], []⟩) s) k = (R70_0 t0 t1_0 t1_1 t7 s).el none (fun s => next ((fun s : Int => ⟨[(0, AV.sl [.int .i64] t0), (1, AV.fn 58 [AV.rptr [.int .i64] t1_0 0, AV.rptr [.int .i64] t1_1 0]), (7, AV.int .i64 t7), (8, AV.int .i64 s)], []⟩) s)) (sumE (fun _ : Unit => k (.exit 0) ⟨[], []⟩) (fun p : Int => k .ret ⟨[(4, AV.int .i64 p)], []⟩)) := (s70_0 ce t0 t1_0 t1_1 t7 s next k).trans (by unfold R70_0; unfold F70_0; simp only [el_cond, el_ro, el_sum, el_fail, el_next, el_stop] <;> rfl)
theorem ok70_0 {ce : CallE} : LoopOK c70 ce [] 70 0 (sub [1, 0, 1, 0, 0] (body Try.f70)) := by
  intro m hm st k r h
  obtain rfl : l70_0 = m := Option.some.inj hm
  unfold l70_0 at h
  split at h
  · rename_i g0 t0 g1 g2 t1_0 g3 g4 t1_1 g5 t7 t8
    obtain ⟨hg, h⟩ := bif_some h
    simp only [Bool.and_eq_true] at hg
    obtain ⟨⟨⟨⟨⟨q0, q1⟩, q2⟩, q3⟩, q4⟩, q5⟩ := hg
    obtain rfl := ctsEq_eq _ _ q0
    obtain rfl := Nat.eq_of_beq_eq_true q1
    obtain rfl := ctsEq_eq _ _ q2
    obtain rfl := Nat.eq_of_beq_eq_true q3
    obtain rfl := ctsEq_eq _ _ q4
    obtain rfl := Nat.eq_of_beq_eq_true q5
    refine ⟨((t7 - t8).toNat + 1), ?_⟩
    rw [← h]
    exact loop_run (fun s : Int => ⟨[(0, AV.sl [.int .i64] t0), (1, AV.fn 58 [AV.rptr [.int .i64] t1_0 0, AV.rptr [.int .i64] t1_1 0]), (7, AV.int .i64 t7), (8, AV.int .i64 s)], []⟩) (sumE (fun _ : Unit => k (.exit 0) ⟨[], []⟩) (fun p : Int => k .ret ⟨[(4, AV.int .i64 p)], []⟩)) (st70_0 t0 t1_0 t1_1 t7 ce k) _ t8
  · cases h
def q70 (a0 : List AV) (ya : AV) (yb : AV) : Bool := (ro (runW (R70_0 a0 ya yb (a0.length : Int)) (((a0.length : Int) - 0).toNat + 1) 0) false (sumE (fun _ => true) (fun p36 => true)))
def v70_0 (a0 : List AV) (ya : AV) (yb : AV) : Int := (ro (runW (R70_0 a0 ya yb (a0.length : Int)) (((a0.length : Int) - 0).toNat + 1) 0) 0 (sumE (fun _ => (-1)) (fun p36 => p36)))
theorem e70 (a0 : List AV) (ya : AV) (yb : AV) : funA c70 0 70 [AV.sl [.int .i64] a0, AV.fn 58 [AV.rptr [.int .i64] ya 0, AV.rptr [.int .i64] yb 0]] = (ro (runW (R70_0 a0 ya yb (a0.length : Int)) (((a0.length : Int) - 0).toNat + 1) 0) none (sumE (fun _ => some (AV.int .i64 (-1))) (fun p36 => some (AV.int .i64 p36)))) := by kernel_rfl
theorem r70 (a0 : List AV) (ya : AV) (yb : AV) (h : q70 a0 ya yb = true) : funA c70 0 70 [AV.sl [.int .i64] a0, AV.fn 58 [AV.rptr [.int .i64] ya 0, AV.rptr [.int .i64] yb 0]] = some (AV.int .i64 (v70_0 a0 ya yb)) := (e70 a0 ya yb).trans ((brO (fun o : Option (Unit ⊕ Int) => some (AV.int .i64 (ro o 0 (sumE (fun _ => (-1)) (fun p36 => p36))))) (brS (fun o : Unit ⊕ Int => some (AV.int .i64 ((sumE (fun _ => (-1)) (fun p36 => p36)) o))) (fun _ => (fun _ => rfl)) (fun p36 => (fun _ => rfl)))) h)
def m70 : TModel
  | [.sl g0 a0, .fn g1 [.rptr g2 ya g3, .rptr g4 yb g5]] => bif ctsEq g0 ([.int .i64]) && Nat.beq g1 58 && ctsEq g2 ([.int .i64]) && Nat.beq g3 0 && ctsEq g4 ([.int .i64]) && Nat.beq g5 0 then some (q70 a0 ya yb, AV.int .i64 (v70_0 a0 ya yb)) else none
  | _ => none
theorem k70 : Known Try.prog 70 := ⟨Try.f70, Try.func70, by kernel_rfl, by kernel_rfl⟩
theorem meets70 : Meets Try.prog 70 m70 := by
  refine meet (f := Try.f70) (l := [(0, sub [1, 0, 1, 0, 0] (body Try.f70))]) (hs := [(70, 0, [0, 1, 7, 8]), (70, 999, [4]), (70, 1000, []), (70, 1001, [0, 1, 7, 8])]) (ts := [(58, m58)]) (ws := []) (is := []) (ls := [(70, 0, l70_0)]) (lvl := 0) mixed k70 Try.func70 (by kernel_rfl) (loops_cons ok70_0 noLoop) (allT_cons meets58 allT_nil) allM_nil noI fun w xs us r hl hv h => ?_
  unfold m70 at h
  split at h
  · rename_i g0 a0 g1 g2 ya g3 g4 yb g5
    obtain ⟨hg, h⟩ := bif_pair h
    simp only [Bool.and_eq_true] at hg
    obtain ⟨⟨⟨⟨⟨q0, q1⟩, q2⟩, q3⟩, q4⟩, q5⟩ := hg
    obtain rfl := ctsEq_eq _ _ q0
    obtain rfl := Nat.eq_of_beq_eq_true q1
    obtain rfl := ctsEq_eq _ _ q2
    obtain rfl := Nat.eq_of_beq_eq_true q3
    obtain rfl := ctsEq_eq _ _ q4
    obtain rfl := Nat.eq_of_beq_eq_true q5
    obtain ⟨h1, rfl⟩ := pair_inj h
    exact r70 a0 ya yb h1
  · cases h

/-! ### 57 slices.ContainsFunc[[]int,int] -/
noncomputable def c57 : Cfg := cfg Try.prog [(57, 999, [4])] [(70, m70)] [] [] []
def q57 (a0 : List AV) (ya : AV) (yb : AV) : Bool := q70 a0 ya yb
def v57_0 (a0 : List AV) (ya : AV) (yb : AV) : Bool := decide ((v70_0 a0 ya yb) ≥ 0)
theorem e57 (a0 : List AV) (ya : AV) (yb : AV) : funA c57 0 57 [AV.sl [.int .i64] a0, AV.fn 58 [AV.rptr [.int .i64] ya 0, AV.rptr [.int .i64] yb 0]] = (bif q70 a0 ya yb then some (AV.bool (decide ((v70_0 a0 ya yb) ≥ 0)))
  else none) := by kernel_rfl
theorem r57 (a0 : List AV) (ya : AV) (yb : AV) (h : q57 a0 ya yb = true) : funA c57 0 57 [AV.sl [.int .i64] a0, AV.fn 58 [AV.rptr [.int .i64] ya 0, AV.rptr [.int .i64] yb 0]] = some (AV.bool (v57_0 a0 ya yb)) := (e57 a0 ya yb).trans ((brL1 (fun _ => rfl)) h)
def m57 : TModel
  | [.sl g0 a0, .fn g1 [.rptr g2 ya g3, .rptr g4 yb g5]] => bif ctsEq g0 ([.int .i64]) && Nat.beq g1 58 && ctsEq g2 ([.int .i64]) && Nat.beq g3 0 && ctsEq g4 ([.int .i64]) && Nat.beq g5 0 then some (q57 a0 ya yb, AV.bool (v57_0 a0 ya yb)) else none
  | _ => none
theorem k57 : Known Try.prog 57 := ⟨Try.f57, Try.func57, by kernel_rfl, by kernel_rfl⟩
theorem meets57 : Meets Try.prog 57 m57 := by
  refine meet (f := Try.f57) (l := []) (hs := [(57, 999, [4])]) (ts := [(70, m70)]) (ws := []) (is := []) (ls := []) (lvl := 0) mixed k57 Try.func57 (by kernel_rfl) noLoop (allT_cons meets70 allT_nil) allM_nil noI fun w xs us r hl hv h => ?_
  unfold m57 at h
  split at h
  · rename_i g0 a0 g1 g2 ya g3 g4 yb g5
    obtain ⟨hg, h⟩ := bif_pair h
    simp only [Bool.and_eq_true] at hg
    obtain ⟨⟨⟨⟨⟨q0, q1⟩, q2⟩, q3⟩, q4⟩, q5⟩ := hg
    obtain rfl := ctsEq_eq _ _ q0
    obtain rfl := Nat.eq_of_beq_eq_true q1
    obtain rfl := ctsEq_eq _ _ q2
    obtain rfl := Nat.eq_of_beq_eq_true q3
    obtain rfl := ctsEq_eq _ _ q4
    obtain rfl := Nat.eq_of_beq_eq_true q5
    obtain ⟨h1, rfl⟩ := pair_inj h
    exact r57 a0 ya yb h1
  · cases h

/-! ### 38 loop.example/g01984/impl.within -/
noncomputable def c38 : Cfg := cfg Try.prog [(38, 999, [6])] [(57, m57)] [] [] []
def q38 (a0 : List AV) (a1 : Int) (a2 : Int) : Bool := q57 a0 (AV.int .i64 a1) (AV.int .i64 a2)
def v38_0 (a0 : List AV) (a1 : Int) (a2 : Int) : Bool := !(v57_0 a0 (AV.int .i64 a1) (AV.int .i64 a2))
theorem e38 (a0 : List AV) (a1 : Int) (a2 : Int) : funA c38 0 38 [AV.sl [.int .i64] a0, AV.int .i64 a1, AV.int .i64 a2] = (bif q57 a0 (AV.int .i64 a1) (AV.int .i64 a2) then some (AV.bool (!(v57_0 a0 (AV.int .i64 a1) (AV.int .i64 a2))))
  else none) := by kernel_rfl
theorem r38 (a0 : List AV) (a1 : Int) (a2 : Int) (h : q38 a0 a1 a2 = true) : funA c38 0 38 [AV.sl [.int .i64] a0, AV.int .i64 a1, AV.int .i64 a2] = some (AV.bool (v38_0 a0 a1 a2)) := (e38 a0 a1 a2).trans ((brL1 (fun _ => rfl)) h)
def m38 : TModel
  | [.sl g0 a0, .int .i64 a1, .int .i64 a2] => bif ctsEq g0 ([.int .i64]) then some (q38 a0 a1 a2, AV.bool (v38_0 a0 a1 a2)) else none
  | _ => none
theorem k38 : Known Try.prog 38 := ⟨Try.f38, Try.func38, by kernel_rfl, by kernel_rfl⟩
theorem meets38 : Meets Try.prog 38 m38 := by
  refine meet (f := Try.f38) (l := []) (hs := [(38, 999, [6])]) (ts := [(57, m57)]) (ws := []) (is := []) (ls := []) (lvl := 0) mixed k38 Try.func38 (by kernel_rfl) noLoop (allT_cons meets57 allT_nil) allM_nil noI fun w xs us r hl hv h => ?_
  unfold m38 at h
  split at h
  · rename_i g0 a0 a1 a2
    obtain ⟨hg, h⟩ := bif_pair h
    have q0 := hg
    obtain rfl := ctsEq_eq _ _ q0
    obtain ⟨h1, rfl⟩ := pair_inj h
    exact r38 a0 a1 a2 h1
  · cases h

/-! ### 53 loop.example/g01984/impl.AreValues -/
noncomputable def c53 : Cfg := cfg Try.prog [(53, 999, [2])] [(38, m38)] [] [] []
def q53 (a0 : List AV) : Bool := (bif decide ((a0.length : Int) ≤ 64) then q38 a0 (-999) 999 else true)
def v53_0 (a0 : List AV) : Bool := (bif decide ((a0.length : Int) ≤ 64) then (v38_0 a0 (-999) 999) else false)
theorem e53 (a0 : List AV) : funA c53 0 53 [AV.sl [.int .i64] a0] = (bif decide ((a0.length : Int) ≤ 64) then (bif q38 a0 (-999) 999 then some (AV.bool (v38_0 a0 (-999) 999))
  else none)
  else some (AV.bool false)) := by kernel_rfl
theorem r53 (a0 : List AV) (h : q53 a0 = true) : funA c53 0 53 [AV.sl [.int .i64] a0] = some (AV.bool (v53_0 a0)) := (e53 a0).trans ((br (fun b => some (AV.bool (bif b then (v38_0 a0 (-999) 999) else false))) (brL1 (fun _ => rfl)) (fun _ => rfl)) h)
def m53 : TModel
  | [.sl g0 a0] => bif ctsEq g0 ([.int .i64]) then some (q53 a0, AV.bool (v53_0 a0)) else none
  | _ => none
theorem k53 : Known Try.prog 53 := ⟨Try.f53, Try.func53, by kernel_rfl, by kernel_rfl⟩
theorem meets53 : Meets Try.prog 53 m53 := by
  refine meet (f := Try.f53) (l := []) (hs := [(53, 999, [2])]) (ts := [(38, m38)]) (ws := []) (is := []) (ls := []) (lvl := 0) mixed k53 Try.func53 (by kernel_rfl) noLoop (allT_cons meets38 allT_nil) allM_nil noI fun w xs us r hl hv h => ?_
  unfold m53 at h
  split at h
  · rename_i g0 a0
    obtain ⟨hg, h⟩ := bif_pair h
    have q0 := hg
    obtain rfl := ctsEq_eq _ _ q0
    obtain ⟨h1, rfl⟩ := pair_inj h
    exact r53 a0 h1
  · cases h

/-! ### 60 slices.Clone[[]int,int] -/
noncomputable def c60 : Cfg := cfg Try.prog [(60, 999, [2])] [] [] [] []
def q60 (a0 : List AV) : Bool := decide (a0.length * 8 ≤ 140737488355328) && decide (a0.length ≤ 140737488355328)
def v60_0 (a0 : List AV) : List AV := a0
theorem e60 (a0 : List AV) : funA c60 0 60 [AV.sl [.int .i64] a0] = (bif decide (0 < a0.length) then (bif (decide ((([] : List AV).length + a0.length) * 8 ≤ 140737488355328) && decide ((([] : List AV).length + a0.length) ≤ 140737488355328)) then some (AV.fl [.int .i64] (([] : List AV) ++ a0))
  else none)
  else none) := by kernel_rfl
theorem e60n (b : Bool) : funA c60 0 60 [AV.sle b [.int .i64]] = some (AV.fl [.int .i64] []) := by cases b <;> kernel_rfl
def m60 : TModel
  | [.sl g0 a0] => bif ctsEq g0 [.int .i64] then some (q60 a0, AV.fl [.int .i64] (v60_0 a0)) else none
  | _ => none
theorem k60 : Known Try.prog 60 := ⟨Try.f60, Try.func60, by kernel_rfl, by kernel_rfl⟩
theorem meets60 : Meets Try.prog 60 m60 := by
  refine meet_nil (f := Try.f60) (l := []) (hs := [(60, 999, [2])]) (ts := []) (ws := []) (is := []) (ls := []) (lvl := 0) (tys := [.int .i64]) mixed k60 Try.func60 (by kernel_rfl) noLoop allT_nil allM_nil noI (fun xs r h => ?_) (fun b r h => ?_) (fun ys r h0 h => ?_)
  · unfold m60 at h
    split at h
    · rename_i g0 a0
      obtain ⟨hg, h⟩ := bif_pair h
      obtain rfl := ctsEq_eq _ _ hg
      exact ⟨a0, rfl⟩
    · cases h
  · obtain ⟨hg, h⟩ := bif_pair (g := ctsEq [.int .i64] [.int .i64]) h
    obtain ⟨_, rfl⟩ := pair_inj h
    exact e60n b
  · obtain ⟨hg, h⟩ := bif_pair (g := ctsEq [.int .i64] [.int .i64]) h
    obtain ⟨hq, rfl⟩ := pair_inj h
    refine (e60 ys).trans ?_
    unfold q60 at hq
    have e : ([] : List AV).length + ys.length = ys.length := by simp
    rw [e, hq, decide_eq_true h0]
    rfl

/-! ### 54 loop.example/g01984/impl.NewCracker -/
def F54_0_s0 (t13 : Int) (h0 : List AV) (t14 : Int) : Out (Int ⊕ (Int × (List AV))) (Unit ⊕ ((List AV))) := (bif decide (t14 < t13) then (bif (decide ((([AV.int .i64 t14]).length) * 8 ≤ 140737488355328) && decide ((([AV.int .i64 t14]).length) ≤ 140737488355328)) then .next (.inr (IntKind.i64.wrap (t14 + 1), [AV.int .i64 t14]))
  else .fail)
  else .stop (.inl ()))
def F54_0_s1 (t13 : Int) (h0 : List AV) (t14 : Int) (h1 : List AV) : Out (Int ⊕ (Int × (List AV))) (Unit ⊕ ((List AV))) := (bif decide (t14 < t13) then (bif (decide ((h1.length + ([AV.int .i64 t14]).length) * 8 ≤ 140737488355328) && decide ((h1.length + ([AV.int .i64 t14]).length) ≤ 140737488355328)) then .next (.inr (IntKind.i64.wrap (t14 + 1), h1 ++ ([AV.int .i64 t14])))
  else .fail)
  else .stop (.inr h1))
def R54_0 (t13 : Int) (h0 : List AV) : (Int ⊕ (Int × (List AV))) → Out (Int ⊕ (Int × (List AV))) (Unit ⊕ ((List AV))) := sumE (fun s : Int => F54_0_s0 t13 h0 s) (fun s : Int × (List AV) => F54_0_s1 t13 h0 s.1 s.2)
def l54_0 : LModel := fun _ _ st k => match st with
  | ⟨[(2, .ptr g0 g1 g2), (3, .ptr g3 g4 g5), (13, .int .i64 t13), (14, .int .i64 t14)], [(g6, ⟨false, g7, h0⟩), (g8, ⟨true, [], [.agg [.snil, .snil, .snil]]⟩), (g9, ⟨true, [], [.agg [.own g10, .snil, .snil]]⟩)]⟩ => bif nmEq g0 ([0, 2]) && Nat.beq g1 0 && Nat.beq g2 0 && nmEq g3 ([0, 3]) && Nat.beq g4 0 && Nat.beq g5 0 && nmEq g6 ([0, 0, 3]) && ctsEq g7 ([.int .i64]) && nmEq g8 ([0, 2]) && nmEq g9 ([0, 3]) && nmEq g10 ([0, 0, 3]) then ro (runW (R54_0 t13 h0) ((t13 - t14).toNat + 1) (.inl t14)) none (sumE (fun _ : Unit => k (.exit 0) ⟨[(2, AV.ptr [0, 2] 0 0), (3, AV.ptr [0, 3] 0 0)], [([0, 0, 3], ⟨false, [.int .i64], h0⟩), ([0, 2], ⟨true, [], [AV.agg [AV.snil, AV.snil, AV.snil]]⟩), ([0, 3], ⟨true, [], [AV.agg [AV.own [0, 0, 3], AV.snil, AV.snil]]⟩)]⟩) (fun p : (List AV) => k (.exit 0) ⟨[(2, AV.ptr [0, 2] 0 0), (3, AV.ptr [0, 3] 0 0)], [([0, 0, 3], ⟨false, [.int .i64], h0⟩), ([0, 1, 3], ⟨false, [.int .i64], p⟩), ([0, 2], ⟨true, [], [AV.agg [AV.snil, AV.snil, AV.snil]]⟩), ([0, 3], ⟨true, [], [AV.agg [AV.own [0, 0, 3], AV.own [0, 1, 3], AV.snil]]⟩)]⟩)) else none
  | ⟨[(2, .ptr g0 g1 g2), (3, .ptr g3 g4 g5), (13, .int .i64 t13), (14, .int .i64 t14)], [(g6, ⟨false, g7, h0⟩), (g8, ⟨false, g9, h1⟩), (g10, ⟨true, [], [.agg [.snil, .snil, .snil]]⟩), (g11, ⟨true, [], [.agg [.own g12, .own g13, .snil]]⟩)]⟩ => bif nmEq g0 ([0, 2]) && Nat.beq g1 0 && Nat.beq g2 0 && nmEq g3 ([0, 3]) && Nat.beq g4 0 && Nat.beq g5 0 && nmEq g6 ([0, 0, 3]) && ctsEq g7 ([.int .i64]) && nmEq g8 ([0, 1, 3]) && ctsEq g9 ([.int .i64]) && nmEq g10 ([0, 2]) && nmEq g11 ([0, 3]) && nmEq g12 ([0, 0, 3]) && nmEq g13 ([0, 1, 3]) then ro (runW (R54_0 t13 h0) ((t13 - t14).toNat + 1) (.inr (t14, h1))) none (sumE (fun _ : Unit => k (.exit 0) ⟨[(2, AV.ptr [0, 2] 0 0), (3, AV.ptr [0, 3] 0 0)], [([0, 0, 3], ⟨false, [.int .i64], h0⟩), ([0, 2], ⟨true, [], [AV.agg [AV.snil, AV.snil, AV.snil]]⟩), ([0, 3], ⟨true, [], [AV.agg [AV.own [0, 0, 3], AV.snil, AV.snil]]⟩)]⟩) (fun p : (List AV) => k (.exit 0) ⟨[(2, AV.ptr [0, 2] 0 0), (3, AV.ptr [0, 3] 0 0)], [([0, 0, 3], ⟨false, [.int .i64], h0⟩), ([0, 1, 3], ⟨false, [.int .i64], p⟩), ([0, 2], ⟨true, [], [AV.agg [AV.snil, AV.snil, AV.snil]]⟩), ([0, 3], ⟨true, [], [AV.agg [AV.own [0, 0, 3], AV.own [0, 1, 3], AV.snil]]⟩)]⟩)) else none
  | _ => none
noncomputable def c54 : Cfg := cfg Try.prog [(54, 0, [2, 3, 13, 14]), (54, 999, [2]), (54, 1000, [2, 3]), (54, 1001, [2, 3, 13, 14])] [(53, m53), (60, m60)] [] [] [(54, 0, l54_0)]
theorem s54_0_s0 (ce : CallE) (t13 : Int) (t14 : Int) (h0 : List AV) (next : St → Option AV) (k : Kont) : stepA (codeA c54 ce [] 54 0 (sub [1, 1, 1, 0, 1, 0, 0] (body Try.f54))) (normA [] [2, 3, 13, 14]) next ⟨[(2, AV.ptr [0, 2] 0 0), (3, AV.ptr [0, 3] 0 0), (13, AV.int .i64 t13), (14, AV.int .i64 t14)], [([0, 0, 3], ⟨false, [.int .i64], h0⟩), ([0, 2], ⟨true, [], [AV.agg [AV.snil, AV.snil, AV.snil]]⟩), ([0, 3], ⟨true, [], [AV.agg [AV.own [0, 0, 3], AV.snil, AV.snil]]⟩)]⟩ k = (bif decide (t14 < t13) then (bif (decide ((([AV.int .i64 t14]).length) * 8 ≤ 140737488355328) && decide ((([AV.int .i64 t14]).length) ≤ 140737488355328)) then next ⟨[(2, AV.ptr [0, 2] 0 0), (3, AV.ptr [0, 3] 0 0), (13, AV.int .i64 t13), (14, AV.int .i64 (IntKind.i64.wrap (t14 + 1)))], [([0, 0, 3], ⟨false, [.int .i64], h0⟩), ([0, 1, 3], ⟨false, [.int .i64], [AV.int .i64 t14]⟩), ([0, 2], ⟨true, [], [AV.agg [AV.snil, AV.snil, AV.snil]]⟩), ([0, 3], ⟨true, [], [AV.agg [AV.own [0, 0, 3], AV.own [0, 1, 3], AV.snil]]⟩)]⟩
  else none)
  else k (.exit 0) ⟨[(2, AV.ptr [0, 2] 0 0), (3, AV.ptr [0, 3] 0 0)], [([0, 0, 3], ⟨false, [.int .i64], h0⟩), ([0, 2], ⟨true, [], [AV.agg [AV.snil, AV.snil, AV.snil]]⟩), ([0, 3], ⟨true, [], [AV.agg [AV.own [0, 0, 3], AV.snil, AV.snil]]⟩)]⟩) := by kernel_rfl
theorem s54_0_s1 (ce : CallE) (t13 : Int) (t14 : Int) (h0 : List AV) (h1 : List AV) (next : St → Option AV) (k : Kont) : stepA (codeA c54 ce [] 54 0 (sub [1, 1, 1, 0, 1, 0, 0] (body Try.f54))) (normA [] [2, 3, 13, 14]) next ⟨[(2, AV.ptr [0, 2] 0 0), (3, AV.ptr [0, 3] 0 0), (13, AV.int .i64 t13), (14, AV.int .i64 t14)], [([0, 0, 3], ⟨false, [.int .i64], h0⟩), ([0, 1, 3], ⟨false, [.int .i64], h1⟩), ([0, 2], ⟨true, [], [AV.agg [AV.snil, AV.snil, AV.snil]]⟩), ([0, 3], ⟨true, [], [AV.agg [AV.own [0, 0, 3], AV.own [0, 1, 3], AV.snil]]⟩)]⟩ k = (bif decide (t14 < t13) then (bif (decide ((h1.length + ([AV.int .i64 t14]).length) * 8 ≤ 140737488355328) && decide ((h1.length + ([AV.int .i64 t14]).length) ≤ 140737488355328)) then next ⟨[(2, AV.ptr [0, 2] 0 0), (3, AV.ptr [0, 3] 0 0), (13, AV.int .i64 t13), (14, AV.int .i64 (IntKind.i64.wrap (t14 + 1)))], [([0, 0, 3], ⟨false, [.int .i64], h0⟩), ([0, 1, 3], ⟨false, [.int .i64], h1 ++ ([AV.int .i64 t14])⟩), ([0, 2], ⟨true, [], [AV.agg [AV.snil, AV.snil, AV.snil]]⟩), ([0, 3], ⟨true, [], [AV.agg [AV.own [0, 0, 3], AV.own [0, 1, 3], AV.snil]]⟩)]⟩
  else none)
  else k (.exit 0) ⟨[(2, AV.ptr [0, 2] 0 0), (3, AV.ptr [0, 3] 0 0)], [([0, 0, 3], ⟨false, [.int .i64], h0⟩), ([0, 1, 3], ⟨false, [.int .i64], h1⟩), ([0, 2], ⟨true, [], [AV.agg [AV.snil, AV.snil, AV.snil]]⟩), ([0, 3], ⟨true, [], [AV.agg [AV.own [0, 0, 3], AV.own [0, 1, 3], AV.snil]]⟩)]⟩) := by kernel_rfl
theorem st54_0 (t13 : Int) (h0 : List AV) (ce : CallE) (k : Kont) (s : Int ⊕ (Int × (List AV))) (next : St → Option AV) : stepA (codeA c54 ce [] 54 0 (sub [1, 1, 1, 0, 1, 0, 0] (body Try.f54))) (normA [] [2, 3, 13, 14]) next ((sumE (fun s : Int => ⟨[(2, AV.ptr [0, 2] 0 0), (3, AV.ptr [0, 3] 0 0), (13, AV.int .i64 t13), (14, AV.int .i64 s)], [([0, 0, 3], ⟨false, [.int .i64], h0⟩), ([0, 2], ⟨true, [], [AV.agg [AV.snil, AV.snil, AV.snil]]⟩), ([0, 3], ⟨true, [], [AV.agg [AV.own [0, 0, 3], AV.snil, AV.snil]]⟩)]⟩) (fun s : Int × (List AV) => ⟨[(2, AV.ptr [0, 2] 0 0), (3, AV.ptr [0, 3] 0 0), (13, AV.int .i64 t13), (14, AV.int .i64 s.1)], [([0, 0, 3], ⟨false, [.int .i64], h0⟩), ([0, 1, 3], ⟨false, [.int .i64], s.2⟩), ([0, 2], ⟨true, [], [AV.agg [AV.snil, AV.snil, AV.snil]]⟩), ([0, 3], ⟨true, [], [AV.agg [AV.own [0, 0, 3], AV.own [0, 1, 3], AV.snil]]⟩)]⟩)) s) k = (R54_0 t13 h0 s).el none (fun s => next ((sumE (fun s : Int => ⟨[(2, AV.ptr [0, 2] 0 0), (3, AV.ptr [0, 3] 0 0), (13, AV.int .i64 t13), (14, AV.int .i64 s)], [([0, 0, 3], ⟨false, [.int .i64], h0⟩), ([0, 2], ⟨true, [], [AV.agg [AV.snil, AV.snil, AV.snil]]⟩), ([0, 3], ⟨true, [], [AV.agg [AV.own [0, 0, 3], AV.snil, AV.snil]]⟩)]⟩) (fun s : Int × (List AV) => ⟨[(2, AV.ptr [0, 2] 0 0), (3, AV.ptr [0, 3] 0 0), (13, AV.int .i64 t13), (14, AV.int .i64 s.1)], [([0, 0, 3], ⟨false, [.int .i64], h0⟩), ([0, 1, 3], ⟨false, [.int .i64], s.2⟩), ([0, 2], ⟨true, [], [AV.agg [AV.snil, AV.snil, AV.snil]]⟩), ([0, 3], ⟨true, [], [AV.agg [AV.own [0, 0, 3], AV.own [0, 1, 3], AV.snil]]⟩)]⟩)) s)) (sumE (fun _ : Unit => k (.exit 0) ⟨[(2, AV.ptr [0, 2] 0 0), (3, AV.ptr [0, 3] 0 0)], [([0, 0, 3], ⟨false, [.int .i64], h0⟩), ([0, 2], ⟨true, [], [AV.agg [AV.snil, AV.snil, AV.snil]]⟩), ([0, 3], ⟨true, [], [AV.agg [AV.own [0, 0, 3], AV.snil, AV.snil]]⟩)]⟩) (fun p : (List AV) => k (.exit 0) ⟨[(2, AV.ptr [0, 2] 0 0), (3, AV.ptr [0, 3] 0 0)], [([0, 0, 3], ⟨false, [.int .i64], h0⟩), ([0, 1, 3], ⟨false, [.int .i64], p⟩), ([0, 2], ⟨true, [], [AV.agg [AV.snil, AV.snil, AV.snil]]⟩), ([0, 3], ⟨true, [], [AV.agg [AV.own [0, 0, 3], AV.own [0, 1, 3], AV.snil]]⟩)]⟩)) := (match s with | .inl s => (s54_0_s0 ce t13 s h0 next k).trans (by unfold R54_0; unfold F54_0_s0; simp only [el_cond, el_ro, el_sum, el_fail, el_next, el_stop] <;> rfl) | .inr s => (s54_0_s1 ce t13 s.1 h0 s.2 next k).trans (by unfold R54_0; unfold F54_0_s1; simp only [el_cond, el_ro, el_sum, el_fail, el_next, el_stop] <;> rfl))
theorem ok54_0 {ce : CallE} : LoopOK c54 ce [] 54 0 (sub [1, 1, 1, 0, 1, 0, 0] (body Try.f54)) := by
  intro m hm st k r h
  obtain rfl : l54_0 = m := Option.some.inj hm
  unfold l54_0 at h
  split at h
  · rename_i g0 g1 g2 g3 g4 g5 t13 t14 g6 g7 h0 g8 g9 g10
    obtain ⟨hg, h⟩ := bif_some h
    simp only [Bool.and_eq_true] at hg
    obtain ⟨⟨⟨⟨⟨⟨⟨⟨⟨⟨q0, q1⟩, q2⟩, q3⟩, q4⟩, q5⟩, q6⟩, q7⟩, q8⟩, q9⟩, q10⟩ := hg
    obtain rfl := (nmEq_iff _ _).1 q0
    obtain rfl := Nat.eq_of_beq_eq_true q1
    obtain rfl := Nat.eq_of_beq_eq_true q2
    obtain rfl := (nmEq_iff _ _).1 q3
    obtain rfl := Nat.eq_of_beq_eq_true q4
    obtain rfl := Nat.eq_of_beq_eq_true q5
    obtain rfl := (nmEq_iff _ _).1 q6
    obtain rfl := ctsEq_eq _ _ q7
    obtain rfl := (nmEq_iff _ _).1 q8
    obtain rfl := (nmEq_iff _ _).1 q9
    obtain rfl := (nmEq_iff _ _).1 q10
    refine ⟨((t13 - t14).toNat + 1), ?_⟩
    rw [← h]
    exact loop_run (sumE (fun s : Int => ⟨[(2, AV.ptr [0, 2] 0 0), (3, AV.ptr [0, 3] 0 0), (13, AV.int .i64 t13), (14, AV.int .i64 s)], [([0, 0, 3], ⟨false, [.int .i64], h0⟩), ([0, 2], ⟨true, [], [AV.agg [AV.snil, AV.snil, AV.snil]]⟩), ([0, 3], ⟨true, [], [AV.agg [AV.own [0, 0, 3], AV.snil, AV.snil]]⟩)]⟩) (fun s : Int × (List AV) => ⟨[(2, AV.ptr [0, 2] 0 0), (3, AV.ptr [0, 3] 0 0), (13, AV.int .i64 t13), (14, AV.int .i64 s.1)], [([0, 0, 3], ⟨false, [.int .i64], h0⟩), ([0, 1, 3], ⟨false, [.int .i64], s.2⟩), ([0, 2], ⟨true, [], [AV.agg [AV.snil, AV.snil, AV.snil]]⟩), ([0, 3], ⟨true, [], [AV.agg [AV.own [0, 0, 3], AV.own [0, 1, 3], AV.snil]]⟩)]⟩)) (sumE (fun _ : Unit => k (.exit 0) ⟨[(2, AV.ptr [0, 2] 0 0), (3, AV.ptr [0, 3] 0 0)], [([0, 0, 3], ⟨false, [.int .i64], h0⟩), ([0, 2], ⟨true, [], [AV.agg [AV.snil, AV.snil, AV.snil]]⟩), ([0, 3], ⟨true, [], [AV.agg [AV.own [0, 0, 3], AV.snil, AV.snil]]⟩)]⟩) (fun p : (List AV) => k (.exit 0) ⟨[(2, AV.ptr [0, 2] 0 0), (3, AV.ptr [0, 3] 0 0)], [([0, 0, 3], ⟨false, [.int .i64], h0⟩), ([0, 1, 3], ⟨false, [.int .i64], p⟩), ([0, 2], ⟨true, [], [AV.agg [AV.snil, AV.snil, AV.snil]]⟩), ([0, 3], ⟨true, [], [AV.agg [AV.own [0, 0, 3], AV.own [0, 1, 3], AV.snil]]⟩)]⟩)) (st54_0 t13 h0 ce k) _ (.inl t14)
  · rename_i g0 g1 g2 g3 g4 g5 t13 t14 g6 g7 h0 g8 g9 h1 g10 g11 g12 g13
    obtain ⟨hg, h⟩ := bif_some h
    simp only [Bool.and_eq_true] at hg
    obtain ⟨⟨⟨⟨⟨⟨⟨⟨⟨⟨⟨⟨⟨q0, q1⟩, q2⟩, q3⟩, q4⟩, q5⟩, q6⟩, q7⟩, q8⟩, q9⟩, q10⟩, q11⟩, q12⟩, q13⟩ := hg
    obtain rfl := (nmEq_iff _ _).1 q0
    obtain rfl := Nat.eq_of_beq_eq_true q1
    obtain rfl := Nat.eq_of_beq_eq_true q2
    obtain rfl := (nmEq_iff _ _).1 q3
    obtain rfl := Nat.eq_of_beq_eq_true q4
    obtain rfl := Nat.eq_of_beq_eq_true q5
    obtain rfl := (nmEq_iff _ _).1 q6
    obtain rfl := ctsEq_eq _ _ q7
    obtain rfl := (nmEq_iff _ _).1 q8
    obtain rfl := ctsEq_eq _ _ q9
    obtain rfl := (nmEq_iff _ _).1 q10
    obtain rfl := (nmEq_iff _ _).1 q11
    obtain rfl := (nmEq_iff _ _).1 q12
    obtain rfl := (nmEq_iff _ _).1 q13
    refine ⟨((t13 - t14).toNat + 1), ?_⟩
    rw [← h]
    exact loop_run (sumE (fun s : Int => ⟨[(2, AV.ptr [0, 2] 0 0), (3, AV.ptr [0, 3] 0 0), (13, AV.int .i64 t13), (14, AV.int .i64 s)], [([0, 0, 3], ⟨false, [.int .i64], h0⟩), ([0, 2], ⟨true, [], [AV.agg [AV.snil, AV.snil, AV.snil]]⟩), ([0, 3], ⟨true, [], [AV.agg [AV.own [0, 0, 3], AV.snil, AV.snil]]⟩)]⟩) (fun s : Int × (List AV) => ⟨[(2, AV.ptr [0, 2] 0 0), (3, AV.ptr [0, 3] 0 0), (13, AV.int .i64 t13), (14, AV.int .i64 s.1)], [([0, 0, 3], ⟨false, [.int .i64], h0⟩), ([0, 1, 3], ⟨false, [.int .i64], s.2⟩), ([0, 2], ⟨true, [], [AV.agg [AV.snil, AV.snil, AV.snil]]⟩), ([0, 3], ⟨true, [], [AV.agg [AV.own [0, 0, 3], AV.own [0, 1, 3], AV.snil]]⟩)]⟩)) (sumE (fun _ : Unit => k (.exit 0) ⟨[(2, AV.ptr [0, 2] 0 0), (3, AV.ptr [0, 3] 0 0)], [([0, 0, 3], ⟨false, [.int .i64], h0⟩), ([0, 2], ⟨true, [], [AV.agg [AV.snil, AV.snil, AV.snil]]⟩), ([0, 3], ⟨true, [], [AV.agg [AV.own [0, 0, 3], AV.snil, AV.snil]]⟩)]⟩) (fun p : (List AV) => k (.exit 0) ⟨[(2, AV.ptr [0, 2] 0 0), (3, AV.ptr [0, 3] 0 0)], [([0, 0, 3], ⟨false, [.int .i64], h0⟩), ([0, 1, 3], ⟨false, [.int .i64], p⟩), ([0, 2], ⟨true, [], [AV.agg [AV.snil, AV.snil, AV.snil]]⟩), ([0, 3], ⟨true, [], [AV.agg [AV.own [0, 0, 3], AV.own [0, 1, 3], AV.snil]]⟩)]⟩)) (st54_0 t13 h0 ce k) _ (.inr (t14, h1))
  · cases h
def q54 (a0 : List AV) : Bool := (q53 a0 && (bif !(v53_0 a0) then true else (q60 a0 && (ro (runW (R54_0 (a0.length : Int) (v60_0 a0)) (((a0.length : Int) - 0).toNat + 1) (.inl 0)) false (sumE (fun _ => true) (fun p38 => true))))))
def v54_0 (a0 : List AV) : List AV := (bif !(v53_0 a0) then ([] : List AV) else (v60_0 a0))
def v54_1 (a0 : List AV) : List AV := (bif !(v53_0 a0) then ([] : List AV) else (ro (runW (R54_0 (a0.length : Int) (v60_0 a0)) (((a0.length : Int) - 0).toNat + 1) (.inl 0)) [] (sumE (fun _ => ([] : List AV)) (fun p38 => p38))))
def v54_2 (a0 : List AV) : List AV := ([] : List AV)
theorem e54 (a0 : List AV) : funA c54 0 54 [AV.sl [.int .i64] a0] = (bif q53 a0 then (bif !(v53_0 a0) then some (AV.agg [AV.fl [.int .i64] ([] : List AV), AV.fl [.int .i64] ([] : List AV), AV.fl [.int .i64, .int .i64] ([] : List AV)])
  else (bif q60 a0 then (ro (runW (R54_0 (a0.length : Int) (v60_0 a0)) (((a0.length : Int) - 0).toNat + 1) (.inl 0)) none (sumE (fun _ => some (AV.agg [AV.fl [.int .i64] (v60_0 a0), AV.fl [.int .i64] ([] : List AV), AV.fl [.int .i64, .int .i64] ([] : List AV)])) (fun p38 => some (AV.agg [AV.fl [.int .i64] (v60_0 a0), AV.fl [.int .i64] p38, AV.fl [.int .i64, .int .i64] ([] : List AV)]))))
  else none))
  else none) := by kernel_rfl
theorem r54 (a0 : List AV) (h : q54 a0 = true) : funA c54 0 54 [AV.sl [.int .i64] a0] = some (AV.agg [AV.fl [.int .i64] (v54_0 a0), AV.fl [.int .i64] (v54_1 a0), AV.fl [.int .i64, .int .i64] (v54_2 a0)]) := (e54 a0).trans ((brL (br (fun b => some (AV.agg [AV.fl [.int .i64] (bif b then ([] : List AV) else (v60_0 a0)), AV.fl [.int .i64] (bif b then ([] : List AV) else (ro (runW (R54_0 (a0.length : Int) (v60_0 a0)) (((a0.length : Int) - 0).toNat + 1) (.inl 0)) [] (sumE (fun _ => ([] : List AV)) (fun p38 => p38)))), AV.fl [.int .i64, .int .i64] ([] : List AV)])) (fun _ => rfl) (brL (brO (fun o : Option (Unit ⊕ ((List AV))) => some (AV.agg [AV.fl [.int .i64] (v60_0 a0), AV.fl [.int .i64] (ro o [] (sumE (fun _ => ([] : List AV)) (fun p38 => p38))), AV.fl [.int .i64, .int .i64] ([] : List AV)])) (brS (fun o : Unit ⊕ ((List AV)) => some (AV.agg [AV.fl [.int .i64] (v60_0 a0), AV.fl [.int .i64] ((sumE (fun _ => ([] : List AV)) (fun p38 => p38)) o), AV.fl [.int .i64, .int .i64] ([] : List AV)])) (fun _ => (fun _ => rfl)) (fun p38 => (fun _ => rfl))))))) h)
def m54 : TModel
  | [.sl g0 a0] => bif ctsEq g0 ([.int .i64]) then some (q54 a0, AV.agg [AV.fl [.int .i64] (v54_0 a0), AV.fl [.int .i64] (v54_1 a0), AV.fl [.int .i64, .int .i64] (v54_2 a0)]) else none
  | _ => none
theorem k54 : Known Try.prog 54 := ⟨Try.f54, Try.func54, by kernel_rfl, by kernel_rfl⟩
theorem meets54 : Meets Try.prog 54 m54 := by
  refine meet (f := Try.f54) (l := [(0, sub [1, 1, 1, 0, 1, 0, 0] (body Try.f54))]) (hs := [(54, 0, [2, 3, 13, 14]), (54, 999, [2]), (54, 1000, [2, 3]), (54, 1001, [2, 3, 13, 14])]) (ts := [(53, m53), (60, m60)]) (ws := []) (is := []) (ls := [(54, 0, l54_0)]) (lvl := 0) mixed k54 Try.func54 (by kernel_rfl) (loops_cons ok54_0 noLoop) (allT_cons meets53 (allT_cons meets60 allT_nil)) allM_nil noI fun w xs us r hl hv h => ?_
  unfold m54 at h
  split at h
  · rename_i g0 a0
    obtain ⟨hg, h⟩ := bif_pair h
    have q0 := hg
    obtain rfl := ctsEq_eq _ _ q0
    obtain ⟨h1, rfl⟩ := pair_inj h
    exact r54 a0 h1
  · cases h

/-! ### 66 loop.example/g01984/impl.bound -/
noncomputable def c66 : Cfg := cfg Try.prog [(66, 999, [2])] [] [] [] []
def q66 (a0 : Int) : Bool := true
def v66_0 (a0 : Int) : Bool := (bif decide (a0 ≥ (-1000)) then decide (a0 ≤ 1000) else false)
theorem e66 (a0 : Int) : funA c66 0 66 [AV.int .i64 a0] = (bif decide (a0 ≥ (-1000)) then some (AV.bool (decide (a0 ≤ 1000)))
  else some (AV.bool false)) := by kernel_rfl
theorem r66 (a0 : Int) : funA c66 0 66 [AV.int .i64 a0] = some (AV.bool (v66_0 a0)) := (e66 a0).trans (of_tt (brT (fun b => some (AV.bool (bif b then decide (a0 ≤ 1000) else false))) (fun _ => rfl) (fun _ => rfl)))
def m66 : TModel
  | [.int .i64 a0] => some (true, AV.bool (v66_0 a0))
  | _ => none
theorem k66 : Known Try.prog 66 := ⟨Try.f66, Try.func66, by kernel_rfl, by kernel_rfl⟩
theorem meets66 : Meets Try.prog 66 m66 := by
  refine meet (f := Try.f66) (l := []) (hs := [(66, 999, [2])]) (ts := []) (ws := []) (is := []) (ls := []) (lvl := 0) mixed k66 Try.func66 (by kernel_rfl) noLoop allT_nil allM_nil noI fun w xs us r hl hv h => ?_
  unfold m66 at h
  split at h
  · rename_i a0
    obtain ⟨h1, rfl⟩ := pair_inj h
    exact r66 a0
  · cases h

/-! ### 59 loop.example/g01984/impl.FindPivot -/
def F59_0 (t1 : Int) (t9 : List AV) (t10 : Int) (t11 : Int) : Out (Int) (Unit ⊕ (Int × Int × Int)) := (bif decide (t11 < t10) then (bif (decide (0 ≤ t11) && decide (t11 < (t9.length : Int))) then (bif decide (fI (t9.getD t11.toNat .undef) 0 = t1) then .stop (.inr (fI (t9.getD t11.toNat .undef) 1, fI (t9.getD t11.toNat .undef) 0, fI (t9.getD t11.toNat .undef) 1))
  else .next (IntKind.i64.wrap (t11 + 1)))
  else .fail)
  else .stop (.inl ()))
def R59_0 (t1 : Int) (t9 : List AV) (t10 : Int) : (Int) → Out (Int) (Unit ⊕ (Int × Int × Int)) := fun s : Int => F59_0 t1 t9 t10 s
def l59_0 : LModel := fun _ _ st k => match st with
  | ⟨[(1, .int .i64 t1), (9, .sl g0 t9), (10, .int .i64 t10), (11, .int .i64 t11)], []⟩ => bif ctsEq g0 ([.int .i64, .int .i64]) then ro (runW (R59_0 t1 t9 t10) ((t10 - t11).toNat + 1) t11) none (sumE (fun _ : Unit => k (.exit 0) ⟨[], []⟩) (fun p : Int × Int × Int => k .ret ⟨[(4, AV.int .i64 p.1), (5, AV.bool true)], [([1, 7], ⟨true, [], [AV.agg [AV.int .i64 p.2.1, AV.int .i64 p.2.2]]⟩)]⟩)) else none
  | _ => none
noncomputable def c59 : Cfg := cfg Try.prog [(59, 0, [1, 9, 10, 11]), (59, 999, [4, 5]), (59, 1000, []), (59, 1001, [1, 9, 10, 11])] [] [] [] [(59, 0, l59_0)]
theorem s59_0 (ce : CallE) (t1 : Int) (t9 : List AV) (t10 : Int) (t11 : Int) (next : St → Option AV) (k : Kont) : stepA (codeA c59 ce [] 59 0 (sub [1, 0, 1, 0, 0] (body Try.f59))) (normA [] [1, 9, 10, 11]) next ⟨[(1, AV.int .i64 t1), (9, AV.sl [.int .i64, .int .i64] t9), (10, AV.int .i64 t10), (11, AV.int .i64 t11)], []⟩ k = (bif decide (t11 < t10) then (bif (decide (0 ≤ t11) && decide (t11 < (t9.length : Int))) then (bif decide (fI (t9.getD t11.toNat .undef) 0 = t1) then k .ret ⟨[(4, AV.int .i64 (fI (t9.getD t11.toNat .undef) 1)), (5, AV.bool true)], [([1, 7], ⟨true, [], [AV.agg [AV.int .i64 (fI (t9.getD t11.toNat .undef) 0), AV.int .i64 (fI (t9.getD t11.toNat .undef) 1)]]⟩)]⟩
  else next ⟨[(1, AV.int .i64 t1), (9, AV.sl [.int .i64, .int .i64] t9), (10, AV.int .i64 t10), (11, AV.int .i64 (IntKind.i64.wrap (t11 + 1)))], []⟩)
  else none)
  else k (.exit 0) ⟨[], []⟩) := by kernel_rfl
theorem st59_0 (t1 : Int) (t9 : List AV) (t10 : Int) (ce : CallE) (k : Kont) (s : Int) (next : St → Option AV) : stepA (codeA c59 ce [] 59 0 (sub [1, 0, 1, 0, 0] (body Try.f59))) (normA [] [1, 9, 10, 11]) next ((fun s : Int => ⟨[(1, AV.int .i64 t1), (9, AV.sl [.int .i64, .int .i64] t9), (10, AV.int .i64 t10), (11, AV.int .i64 s)], []⟩) s) k = (R59_0 t1 t9 t10 s).el none (fun s => next ((fun s : Int => ⟨[(1, AV.int .i64 t1), (9, AV.sl [.int .i64, .int .i64] t9), (10, AV.int .i64 t10), (11, AV.int .i64 s)], []⟩) s)) (sumE (fun _ : Unit => k (.exit 0) ⟨[], []⟩) (fun p : Int × Int × Int => k .ret ⟨[(4, AV.int .i64 p.1), (5, AV.bool true)], [([1, 7], ⟨true, [], [AV.agg [AV.int .i64 p.2.1, AV.int .i64 p.2.2]]⟩)]⟩)) := (s59_0 ce t1 t9 t10 s next k).trans (by unfold R59_0; unfold F59_0; simp only [el_cond, el_ro, el_sum, el_fail, el_next, el_stop] <;> rfl)
theorem ok59_0 {ce : CallE} : LoopOK c59 ce [] 59 0 (sub [1, 0, 1, 0, 0] (body Try.f59)) := by
  intro m hm st k r h
  obtain rfl : l59_0 = m := Option.some.inj hm
  unfold l59_0 at h
  split at h
  · rename_i t1 g0 t9 t10 t11
    obtain ⟨hg, h⟩ := bif_some h
    have q0 := hg
    obtain rfl := ctsEq_eq _ _ q0
    refine ⟨((t10 - t11).toNat + 1), ?_⟩
    rw [← h]
    exact loop_run (fun s : Int => ⟨[(1, AV.int .i64 t1), (9, AV.sl [.int .i64, .int .i64] t9), (10, AV.int .i64 t10), (11, AV.int .i64 s)], []⟩) (sumE (fun _ : Unit => k (.exit 0) ⟨[], []⟩) (fun p : Int × Int × Int => k .ret ⟨[(4, AV.int .i64 p.1), (5, AV.bool true)], [([1, 7], ⟨true, [], [AV.agg [AV.int .i64 p.2.1, AV.int .i64 p.2.2]]⟩)]⟩)) (st59_0 t1 t9 t10 ce k) _ t11
  · cases h
def q59 (xa : List AV) (xb : List AV) (xc : List AV) (a1 : Int) : Bool := (ro (runW (R59_0 a1 xc (xc.length : Int)) (((xc.length : Int) - 0).toNat + 1) 0) false (sumE (fun _ => true) (fun p40 => true)))
def v59_0 (xa : List AV) (xb : List AV) (xc : List AV) (a1 : Int) : Int := (ro (runW (R59_0 a1 xc (xc.length : Int)) (((xc.length : Int) - 0).toNat + 1) 0) 0 (sumE (fun _ => 0) (fun p40 => p40.1)))
def v59_1 (xa : List AV) (xb : List AV) (xc : List AV) (a1 : Int) : Bool := (ro (runW (R59_0 a1 xc (xc.length : Int)) (((xc.length : Int) - 0).toNat + 1) 0) false (sumE (fun _ => false) (fun p40 => true)))
theorem e59 (xa : List AV) (xb : List AV) (xc : List AV) (a1 : Int) : funA c59 0 59 [AV.agg [AV.sl [.int .i64] xa, AV.sl [.int .i64] xb, AV.sl [.int .i64, .int .i64] xc], AV.int .i64 a1] = (ro (runW (R59_0 a1 xc (xc.length : Int)) (((xc.length : Int) - 0).toNat + 1) 0) none (sumE (fun _ => some (AV.tup [AV.int .i64 0, AV.bool false])) (fun p40 => some (AV.tup [AV.int .i64 p40.1, AV.bool true])))) := by kernel_rfl
theorem r59 (xa : List AV) (xb : List AV) (xc : List AV) (a1 : Int) (h : q59 xa xb xc a1 = true) : funA c59 0 59 [AV.agg [AV.sl [.int .i64] xa, AV.sl [.int .i64] xb, AV.sl [.int .i64, .int .i64] xc], AV.int .i64 a1] = some (AV.tup [AV.int .i64 (v59_0 xa xb xc a1), AV.bool (v59_1 xa xb xc a1)]) := (e59 xa xb xc a1).trans ((brO (fun o : Option (Unit ⊕ (Int × Int × Int)) => some (AV.tup [AV.int .i64 (ro o 0 (sumE (fun _ => 0) (fun p40 => p40.1))), AV.bool (ro o false (sumE (fun _ => false) (fun p40 => true)))])) (brS (fun o : Unit ⊕ (Int × Int × Int) => some (AV.tup [AV.int .i64 ((sumE (fun _ => 0) (fun p40 => p40.1)) o), AV.bool ((sumE (fun _ => false) (fun p40 => true)) o)])) (fun _ => (fun _ => rfl)) (fun p40 => (fun _ => rfl)))) h)
def m59 : TModel
  | [.agg [.sl g0 xa, .sl g1 xb, .sl g2 xc], .int .i64 a1] => bif ctsEq g0 ([.int .i64]) && ctsEq g1 ([.int .i64]) && ctsEq g2 ([.int .i64, .int .i64]) then some (q59 xa xb xc a1, AV.tup [AV.int .i64 (v59_0 xa xb xc a1), AV.bool (v59_1 xa xb xc a1)]) else none
  | _ => none
theorem k59 : Known Try.prog 59 := ⟨Try.f59, Try.func59, by kernel_rfl, by kernel_rfl⟩
theorem meets59 : Meets Try.prog 59 m59 := by
  refine meet (f := Try.f59) (l := [(0, sub [1, 0, 1, 0, 0] (body Try.f59))]) (hs := [(59, 0, [1, 9, 10, 11]), (59, 999, [4, 5]), (59, 1000, []), (59, 1001, [1, 9, 10, 11])]) (ts := []) (ws := []) (is := []) (ls := [(59, 0, l59_0)]) (lvl := 0) mixed k59 Try.func59 (by kernel_rfl) (loops_cons ok59_0 noLoop) allT_nil allM_nil noI fun w xs us r hl hv h => ?_
  unfold m59 at h
  split at h
  · rename_i g0 xa g1 xb g2 xc a1
    obtain ⟨hg, h⟩ := bif_pair h
    simp only [Bool.and_eq_true] at hg
    obtain ⟨⟨q0, q1⟩, q2⟩ := hg
    obtain rfl := ctsEq_eq _ _ q0
    obtain rfl := ctsEq_eq _ _ q1
    obtain rfl := ctsEq_eq _ _ q2
    obtain ⟨h1, rfl⟩ := pair_inj h
    exact r59 xa xb xc a1 h1
  · cases h

/-! ### 39 loop.example/g01984/impl.isPivot -/
noncomputable def c39 : Cfg := cfg Try.prog [(39, 999, [4])] [(59, m59)] [] [] []
def q39 (xa : List AV) (xb : List AV) (xc : List AV) (a1 : Int) : Bool := q59 xa xb xc a1
def v39_0 (xa : List AV) (xb : List AV) (xc : List AV) (a1 : Int) : Bool := (v59_1 xa xb xc a1)
theorem e39 (xa : List AV) (xb : List AV) (xc : List AV) (a1 : Int) : funA c39 0 39 [AV.agg [AV.sl [.int .i64] xa, AV.sl [.int .i64] xb, AV.sl [.int .i64, .int .i64] xc], AV.int .i64 a1] = (bif q59 xa xb xc a1 then some (AV.bool (v59_1 xa xb xc a1))
  else none) := by kernel_rfl
theorem r39 (xa : List AV) (xb : List AV) (xc : List AV) (a1 : Int) (h : q39 xa xb xc a1 = true) : funA c39 0 39 [AV.agg [AV.sl [.int .i64] xa, AV.sl [.int .i64] xb, AV.sl [.int .i64, .int .i64] xc], AV.int .i64 a1] = some (AV.bool (v39_0 xa xb xc a1)) := (e39 xa xb xc a1).trans ((brL1 (fun _ => rfl)) h)
def m39 : TModel
  | [.agg [.sl g0 xa, .sl g1 xb, .sl g2 xc], .int .i64 a1] => bif ctsEq g0 ([.int .i64]) && ctsEq g1 ([.int .i64]) && ctsEq g2 ([.int .i64, .int .i64]) then some (q39 xa xb xc a1, AV.bool (v39_0 xa xb xc a1)) else none
  | _ => none
theorem k39 : Known Try.prog 39 := ⟨Try.f39, Try.func39, by kernel_rfl, by kernel_rfl⟩
theorem meets39 : Meets Try.prog 39 m39 := by
  refine meet (f := Try.f39) (l := []) (hs := [(39, 999, [4])]) (ts := [(59, m59)]) (ws := []) (is := []) (ls := []) (lvl := 0) mixed k39 Try.func39 (by kernel_rfl) noLoop (allT_cons meets59 allT_nil) allM_nil noI fun w xs us r hl hv h => ?_
  unfold m39 at h
  split at h
  · rename_i g0 xa g1 xb g2 xc a1
    obtain ⟨hg, h⟩ := bif_pair h
    simp only [Bool.and_eq_true] at hg
    obtain ⟨⟨q0, q1⟩, q2⟩ := hg
    obtain rfl := ctsEq_eq _ _ q0
    obtain rfl := ctsEq_eq _ _ q1
    obtain rfl := ctsEq_eq _ _ q2
    obtain ⟨h1, rfl⟩ := pair_inj h
    exact r39 xa xb xc a1 h1
  · cases h

/-! ### 41 loop.example/g01984/impl.piece -/
def F41_0 (t1 : Int) (t7 : Int) (t14 : List AV) (t15 : Int) (t6 : Int) (t16 : Int) : Out ((Int × Int)) (Int ⊕ (Int × Int × Int × Int)) := (bif decide (t16 < t15) then (bif (decide (0 ≤ t16) && decide (t16 < (t14.length : Int))) then (bif decide (fI (t14.getD t16.toNat .undef) 0 ≤ t1) then (bif decide (fI (t14.getD t16.toNat .undef) 0 ≥ t1) then .stop (.inr (fI (t14.getD t16.toNat .undef) 1, fI (t14.getD t16.toNat .undef) 1, fI (t14.getD t16.toNat .undef) 0, fI (t14.getD t16.toNat .undef) 1))
  else .next (fI (t14.getD t16.toNat .undef) 1, IntKind.i64.wrap (t16 + 1)))
  else (bif decide (fI (t14.getD t16.toNat .undef) 0 ≥ t1) then .stop (.inr (t6, fI (t14.getD t16.toNat .undef) 1, fI (t14.getD t16.toNat .undef) 0, fI (t14.getD t16.toNat .undef) 1))
  else .next (t6, IntKind.i64.wrap (t16 + 1))))
  else .fail)
  else .stop (.inl t6))
def R41_0 (t1 : Int) (t7 : Int) (t14 : List AV) (t15 : Int) : ((Int × Int)) → Out ((Int × Int)) (Int ⊕ (Int × Int × Int × Int)) := fun s : Int × Int => F41_0 t1 t7 t14 t15 s.1 s.2
def l41_0 : LModel := fun _ _ st k => match st with
  | ⟨[(1, .int .i64 t1), (6, .int .i64 t6), (7, .int .i64 t7), (14, .sl g0 t14), (15, .int .i64 t15), (16, .int .i64 t16)], []⟩ => bif ctsEq g0 ([.int .i64, .int .i64]) then ro (runW (R41_0 t1 t7 t14 t15) ((t15 - t16).toNat + 1) (t6, t16)) none (sumE (fun p : Int => k (.exit 0) ⟨[(6, AV.int .i64 p), (7, AV.int .i64 t7)], []⟩) (fun p : Int × Int × Int × Int => k .ret ⟨[(4, AV.int .i64 p.1), (5, AV.int .i64 p.2.1)], [([1, 9], ⟨true, [], [AV.agg [AV.int .i64 p.2.2.1, AV.int .i64 p.2.2.2]]⟩)]⟩)) else none
  | _ => none
noncomputable def c41 : Cfg := cfg Try.prog [(41, 0, [1, 6, 7, 14, 15, 16]), (41, 999, [4, 5]), (41, 1000, [6, 7]), (41, 1001, [1, 6, 7, 14, 15, 16])] [] [] [] [(41, 0, l41_0)]
theorem s41_0 (ce : CallE) (t1 : Int) (t6 : Int) (t7 : Int) (t14 : List AV) (t15 : Int) (t16 : Int) (next : St → Option AV) (k : Kont) : stepA (codeA c41 ce [] 41 0 (sub [1, 1, 0, 1, 0, 0] (body Try.f41))) (normA [] [1, 6, 7, 14, 15, 16]) next ⟨[(1, AV.int .i64 t1), (6, AV.int .i64 t6), (7, AV.int .i64 t7), (14, AV.sl [.int .i64, .int .i64] t14), (15, AV.int .i64 t15), (16, AV.int .i64 t16)], []⟩ k = (bif decide (t16 < t15) then (bif (decide (0 ≤ t16) && decide (t16 < (t14.length : Int))) then (bif decide (fI (t14.getD t16.toNat .undef) 0 ≤ t1) then (bif decide (fI (t14.getD t16.toNat .undef) 0 ≥ t1) then k .ret ⟨[(4, AV.int .i64 (fI (t14.getD t16.toNat .undef) 1)), (5, AV.int .i64 (fI (t14.getD t16.toNat .undef) 1))], [([1, 9], ⟨true, [], [AV.agg [AV.int .i64 (fI (t14.getD t16.toNat .undef) 0), AV.int .i64 (fI (t14.getD t16.toNat .undef) 1)]]⟩)]⟩
  else next ⟨[(1, AV.int .i64 t1), (6, AV.int .i64 (fI (t14.getD t16.toNat .undef) 1)), (7, AV.int .i64 t7), (14, AV.sl [.int .i64, .int .i64] t14), (15, AV.int .i64 t15), (16, AV.int .i64 (IntKind.i64.wrap (t16 + 1)))], []⟩)
  else (bif decide (fI (t14.getD t16.toNat .undef) 0 ≥ t1) then k .ret ⟨[(4, AV.int .i64 t6), (5, AV.int .i64 (fI (t14.getD t16.toNat .undef) 1))], [([1, 9], ⟨true, [], [AV.agg [AV.int .i64 (fI (t14.getD t16.toNat .undef) 0), AV.int .i64 (fI (t14.getD t16.toNat .undef) 1)]]⟩)]⟩
  else next ⟨[(1, AV.int .i64 t1), (6, AV.int .i64 t6), (7, AV.int .i64 t7), (14, AV.sl [.int .i64, .int .i64] t14), (15, AV.int .i64 t15), (16, AV.int .i64 (IntKind.i64.wrap (t16 + 1)))], []⟩))
  else none)
  else k (.exit 0) ⟨[(6, AV.int .i64 t6), (7, AV.int .i64 t7)], []⟩) := by kernel_rfl
theorem st41_0 (t1 : Int) (t7 : Int) (t14 : List AV) (t15 : Int) (ce : CallE) (k : Kont) (s : (Int × Int)) (next : St → Option AV) : stepA (codeA c41 ce [] 41 0 (sub [1, 1, 0, 1, 0, 0] (body Try.f41))) (normA [] [1, 6, 7, 14, 15, 16]) next ((fun s : Int × Int => ⟨[(1, AV.int .i64 t1), (6, AV.int .i64 s.1), (7, AV.int .i64 t7), (14, AV.sl [.int .i64, .int .i64] t14), (15, AV.int .i64 t15), (16, AV.int .i64 s.2)], []⟩) s) k = (R41_0 t1 t7 t14 t15 s).el none (fun s => next ((fun s : Int × Int => ⟨[(1, AV.int .i64 t1), (6, AV.int .i64 s.1), (7, AV.int .i64 t7), (14, AV.sl [.int .i64, .int .i64] t14), (15, AV.int .i64 t15), (16, AV.int .i64 s.2)], []⟩) s)) (sumE (fun p : Int => k (.exit 0) ⟨[(6, AV.int .i64 p), (7, AV.int .i64 t7)], []⟩) (fun p : Int × Int × Int × Int => k .ret ⟨[(4, AV.int .i64 p.1), (5, AV.int .i64 p.2.1)], [([1, 9], ⟨true, [], [AV.agg [AV.int .i64 p.2.2.1, AV.int .i64 p.2.2.2]]⟩)]⟩)) := (s41_0 ce t1 s.1 t7 t14 t15 s.2 next k).trans (by unfold R41_0; unfold F41_0; simp only [el_cond, el_ro, el_sum, el_fail, el_next, el_stop] <;> rfl)
theorem ok41_0 {ce : CallE} : LoopOK c41 ce [] 41 0 (sub [1, 1, 0, 1, 0, 0] (body Try.f41)) := by
  intro m hm st k r h
  obtain rfl : l41_0 = m := Option.some.inj hm
  unfold l41_0 at h
  split at h
  · rename_i t1 t6 t7 g0 t14 t15 t16
    obtain ⟨hg, h⟩ := bif_some h
    have q0 := hg
    obtain rfl := ctsEq_eq _ _ q0
    refine ⟨((t15 - t16).toNat + 1), ?_⟩
    rw [← h]
    exact loop_run (fun s : Int × Int => ⟨[(1, AV.int .i64 t1), (6, AV.int .i64 s.1), (7, AV.int .i64 t7), (14, AV.sl [.int .i64, .int .i64] t14), (15, AV.int .i64 t15), (16, AV.int .i64 s.2)], []⟩) (sumE (fun p : Int => k (.exit 0) ⟨[(6, AV.int .i64 p), (7, AV.int .i64 t7)], []⟩) (fun p : Int × Int × Int × Int => k .ret ⟨[(4, AV.int .i64 p.1), (5, AV.int .i64 p.2.1)], [([1, 9], ⟨true, [], [AV.agg [AV.int .i64 p.2.2.1, AV.int .i64 p.2.2.2]]⟩)]⟩)) (st41_0 t1 t7 t14 t15 ce k) _ (t6, t16)
  · cases h
def q41 (xa : List AV) (xb : List AV) (xc : List AV) (a1 : Int) : Bool := (ro (runW (R41_0 a1 (xa.length : Int) xc (xc.length : Int)) (((xc.length : Int) - 0).toNat + 1) (0, 0)) false (sumE (fun p41 => true) (fun p42 => true)))
def v41_0 (xa : List AV) (xb : List AV) (xc : List AV) (a1 : Int) : Int := (ro (runW (R41_0 a1 (xa.length : Int) xc (xc.length : Int)) (((xc.length : Int) - 0).toNat + 1) (0, 0)) 0 (sumE (fun p41 => p41) (fun p42 => p42.1)))
def v41_1 (xa : List AV) (xb : List AV) (xc : List AV) (a1 : Int) : Int := (ro (runW (R41_0 a1 (xa.length : Int) xc (xc.length : Int)) (((xc.length : Int) - 0).toNat + 1) (0, 0)) 0 (sumE (fun p41 => (xa.length : Int)) (fun p42 => p42.2.1)))
theorem e41 (xa : List AV) (xb : List AV) (xc : List AV) (a1 : Int) : funA c41 0 41 [AV.agg [AV.sl [.int .i64] xa, AV.sl [.int .i64] xb, AV.sl [.int .i64, .int .i64] xc], AV.int .i64 a1] = (ro (runW (R41_0 a1 (xa.length : Int) xc (xc.length : Int)) (((xc.length : Int) - 0).toNat + 1) (0, 0)) none (sumE (fun p41 => some (AV.tup [AV.int .i64 p41, AV.int .i64 (xa.length : Int)])) (fun p42 => some (AV.tup [AV.int .i64 p42.1, AV.int .i64 p42.2.1])))) := by kernel_rfl
theorem r41 (xa : List AV) (xb : List AV) (xc : List AV) (a1 : Int) (h : q41 xa xb xc a1 = true) : funA c41 0 41 [AV.agg [AV.sl [.int .i64] xa, AV.sl [.int .i64] xb, AV.sl [.int .i64, .int .i64] xc], AV.int .i64 a1] = some (AV.tup [AV.int .i64 (v41_0 xa xb xc a1), AV.int .i64 (v41_1 xa xb xc a1)]) := (e41 xa xb xc a1).trans ((brO (fun o : Option (Int ⊕ (Int × Int × Int × Int)) => some (AV.tup [AV.int .i64 (ro o 0 (sumE (fun p41 => p41) (fun p42 => p42.1))), AV.int .i64 (ro o 0 (sumE (fun p41 => (xa.length : Int)) (fun p42 => p42.2.1)))])) (brS (fun o : Int ⊕ (Int × Int × Int × Int) => some (AV.tup [AV.int .i64 ((sumE (fun p41 => p41) (fun p42 => p42.1)) o), AV.int .i64 ((sumE (fun p41 => (xa.length : Int)) (fun p42 => p42.2.1)) o)])) (fun p41 => (fun _ => rfl)) (fun p42 => (fun _ => rfl)))) h)
def m41 : TModel
  | [.agg [.sl g0 xa, .sl g1 xb, .sl g2 xc], .int .i64 a1] => bif ctsEq g0 ([.int .i64]) && ctsEq g1 ([.int .i64]) && ctsEq g2 ([.int .i64, .int .i64]) then some (q41 xa xb xc a1, AV.tup [AV.int .i64 (v41_0 xa xb xc a1), AV.int .i64 (v41_1 xa xb xc a1)]) else none
  | _ => none
theorem k41 : Known Try.prog 41 := ⟨Try.f41, Try.func41, by kernel_rfl, by kernel_rfl⟩
theorem meets41 : Meets Try.prog 41 m41 := by
  refine meet (f := Try.f41) (l := [(0, sub [1, 1, 0, 1, 0, 0] (body Try.f41))]) (hs := [(41, 0, [1, 6, 7, 14, 15, 16]), (41, 999, [4, 5]), (41, 1000, [6, 7]), (41, 1001, [1, 6, 7, 14, 15, 16])]) (ts := []) (ws := []) (is := []) (ls := [(41, 0, l41_0)]) (lvl := 0) mixed k41 Try.func41 (by kernel_rfl) (loops_cons ok41_0 noLoop) allT_nil allM_nil noI fun w xs us r hl hv h => ?_
  unfold m41 at h
  split at h
  · rename_i g0 xa g1 xb g2 xc a1
    obtain ⟨hg, h⟩ := bif_pair h
    simp only [Bool.and_eq_true] at hg
    obtain ⟨⟨q0, q1⟩, q2⟩ := hg
    obtain rfl := ctsEq_eq _ _ q0
    obtain rfl := ctsEq_eq _ _ q1
    obtain rfl := ctsEq_eq _ _ q2
    obtain ⟨h1, rfl⟩ := pair_inj h
    exact r41 xa xb xc a1 h1
  · cases h

/-! ### 61 slices.Clone[[]loop.example/g01984/impl.Pivot,loop.example/g01984/impl.Pivot] -/
noncomputable def c61 : Cfg := cfg Try.prog [(61, 999, [2])] [] [] [] []
def q61 (a0 : List AV) : Bool := decide (a0.length * 16 ≤ 140737488355328) && decide (a0.length ≤ 140737488355328)
def v61_0 (a0 : List AV) : List AV := a0
theorem e61 (a0 : List AV) : funA c61 0 61 [AV.sl [.int .i64, .int .i64] a0] = (bif decide (0 < a0.length) then (bif (decide ((([] : List AV).length + a0.length) * 16 ≤ 140737488355328) && decide ((([] : List AV).length + a0.length) ≤ 140737488355328)) then some (AV.fl [.int .i64, .int .i64] (([] : List AV) ++ a0))
  else none)
  else none) := by kernel_rfl
theorem e61n (b : Bool) : funA c61 0 61 [AV.sle b [.int .i64, .int .i64]] = some (AV.fl [.int .i64, .int .i64] []) := by cases b <;> kernel_rfl
def m61 : TModel
  | [.sl g0 a0] => bif ctsEq g0 [.int .i64, .int .i64] then some (q61 a0, AV.fl [.int .i64, .int .i64] (v61_0 a0)) else none
  | _ => none
theorem k61 : Known Try.prog 61 := ⟨Try.f61, Try.func61, by kernel_rfl, by kernel_rfl⟩
theorem meets61 : Meets Try.prog 61 m61 := by
  refine meet_nil (f := Try.f61) (l := []) (hs := [(61, 999, [2])]) (ts := []) (ws := []) (is := []) (ls := []) (lvl := 0) (tys := [.int .i64, .int .i64]) mixed k61 Try.func61 (by kernel_rfl) noLoop allT_nil allM_nil noI (fun xs r h => ?_) (fun b r h => ?_) (fun ys r h0 h => ?_)
  · unfold m61 at h
    split at h
    · rename_i g0 a0
      obtain ⟨hg, h⟩ := bif_pair h
      obtain rfl := ctsEq_eq _ _ hg
      exact ⟨a0, rfl⟩
    · cases h
  · obtain ⟨hg, h⟩ := bif_pair (g := ctsEq [.int .i64, .int .i64] [.int .i64, .int .i64]) h
    obtain ⟨_, rfl⟩ := pair_inj h
    exact e61n b
  · obtain ⟨hg, h⟩ := bif_pair (g := ctsEq [.int .i64, .int .i64] [.int .i64, .int .i64]) h
    obtain ⟨hq, rfl⟩ := pair_inj h
    refine (e61 ys).trans ?_
    unfold q61 at hq
    have e : ([] : List AV).length + ys.length = ys.length := by simp
    rw [e, hq, decide_eq_true h0]
    rfl

/-! ### 40 loop.example/g01984/impl.copyCracker -/
noncomputable def c40 : Cfg := cfg Try.prog [(40, 999, [2])] [(60, m60), (61, m61)] [] [] []
def q40 (xa : List AV) (xb : List AV) (xc : List AV) : Bool := (q60 xa && (q60 xb && q61 xc))
def v40_0 (xa : List AV) (xb : List AV) (xc : List AV) : List AV := (v60_0 xa)
def v40_1 (xa : List AV) (xb : List AV) (xc : List AV) : List AV := (v60_0 xb)
def v40_2 (xa : List AV) (xb : List AV) (xc : List AV) : List AV := (v61_0 xc)
theorem e40 (xa : List AV) (xb : List AV) (xc : List AV) : funA c40 0 40 [AV.agg [AV.sl [.int .i64] xa, AV.sl [.int .i64] xb, AV.sl [.int .i64, .int .i64] xc]] = (bif q60 xa then (bif q60 xb then (bif q61 xc then some (AV.agg [AV.fl [.int .i64] (v60_0 xa), AV.fl [.int .i64] (v60_0 xb), AV.fl [.int .i64, .int .i64] (v61_0 xc)])
  else none)
  else none)
  else none) := by kernel_rfl
theorem r40 (xa : List AV) (xb : List AV) (xc : List AV) (h : q40 xa xb xc = true) : funA c40 0 40 [AV.agg [AV.sl [.int .i64] xa, AV.sl [.int .i64] xb, AV.sl [.int .i64, .int .i64] xc]] = some (AV.agg [AV.fl [.int .i64] (v40_0 xa xb xc), AV.fl [.int .i64] (v40_1 xa xb xc), AV.fl [.int .i64, .int .i64] (v40_2 xa xb xc)]) := (e40 xa xb xc).trans ((brL (brL (brL1 (fun _ => rfl)))) h)
def m40 : TModel
  | [.agg [.sl g0 xa, .sl g1 xb, .sl g2 xc]] => bif ctsEq g0 ([.int .i64]) && ctsEq g1 ([.int .i64]) && ctsEq g2 ([.int .i64, .int .i64]) then some (q40 xa xb xc, AV.agg [AV.fl [.int .i64] (v40_0 xa xb xc), AV.fl [.int .i64] (v40_1 xa xb xc), AV.fl [.int .i64, .int .i64] (v40_2 xa xb xc)]) else none
  | _ => none
theorem k40 : Known Try.prog 40 := ⟨Try.f40, Try.func40, by kernel_rfl, by kernel_rfl⟩
theorem meets40 : Meets Try.prog 40 m40 := by
  refine meet (f := Try.f40) (l := []) (hs := [(40, 999, [2])]) (ts := [(60, m60), (61, m61)]) (ws := []) (is := []) (ls := []) (lvl := 0) mixed k40 Try.func40 (by kernel_rfl) noLoop (allT_cons meets60 (allT_cons meets61 allT_nil)) allM_nil noI fun w xs us r hl hv h => ?_
  unfold m40 at h
  split at h
  · rename_i g0 xa g1 xb g2 xc
    obtain ⟨hg, h⟩ := bif_pair h
    simp only [Bool.and_eq_true] at hg
    obtain ⟨⟨q0, q1⟩, q2⟩ := hg
    obtain rfl := ctsEq_eq _ _ q0
    obtain rfl := ctsEq_eq _ _ q1
    obtain rfl := ctsEq_eq _ _ q2
    obtain ⟨h1, rfl⟩ := pair_inj h
    exact r40 xa xb xc h1
  · cases h

/-! ### 43 loop.example/g01984/impl.ApplySwaps -/
def F43_0 (t7 : Int) (t21 : List AV) (t22 : Int) (h2_0 : List AV) (h2_1 : List AV) (h2_2 : List AV) (h3 : List AV) (t23 : Int) (h0 : List AV) (h1 : List AV) : Out ((Int × (List AV) × (List AV))) (((List AV) × (List AV)) ⊕ ((List AV) × (List AV) × (List AV) × (List AV) × Int × Int × (List AV))) := (bif decide (t23 < t22) then (bif (decide (0 ≤ t23) && decide (t23 < (t21.length : Int))) then (bif decide (fI (t21.getD t23.toNat .undef) 0 < 0) then (bif q40 h2_0 h2_1 h2_2 then .stop (.inr (h0, h1, (v40_0 h2_0 h2_1 h2_2), (v40_1 h2_0 h2_1 h2_2), fI (t21.getD t23.toNat .undef) 0, fI (t21.getD t23.toNat .undef) 1, (v40_2 h2_0 h2_1 h2_2)))
  else .fail)
  else (bif decide (fI (t21.getD t23.toNat .undef) 0 ≥ t7) then (bif q40 h2_0 h2_1 h2_2 then .stop (.inr (h0, h1, (v40_0 h2_0 h2_1 h2_2), (v40_1 h2_0 h2_1 h2_2), fI (t21.getD t23.toNat .undef) 0, fI (t21.getD t23.toNat .undef) 1, (v40_2 h2_0 h2_1 h2_2)))
  else .fail)
  else (bif decide (fI (t21.getD t23.toNat .undef) 1 < 0) then (bif q40 h2_0 h2_1 h2_2 then .stop (.inr (h0, h1, (v40_0 h2_0 h2_1 h2_2), (v40_1 h2_0 h2_1 h2_2), fI (t21.getD t23.toNat .undef) 0, fI (t21.getD t23.toNat .undef) 1, (v40_2 h2_0 h2_1 h2_2)))
  else .fail)
  else (bif decide (fI (t21.getD t23.toNat .undef) 1 ≥ t7) then (bif q40 h2_0 h2_1 h2_2 then .stop (.inr (h0, h1, (v40_0 h2_0 h2_1 h2_2), (v40_1 h2_0 h2_1 h2_2), fI (t21.getD t23.toNat .undef) 0, fI (t21.getD t23.toNat .undef) 1, (v40_2 h2_0 h2_1 h2_2)))
  else .fail)
  else (bif (decide (0 ≤ fI (t21.getD t23.toNat .undef) 1) && decide (fI (t21.getD t23.toNat .undef) 1 < (h0.length : Int))) then (bif (decide (0 ≤ fI (t21.getD t23.toNat .undef) 0) && decide (fI (t21.getD t23.toNat .undef) 0 < (h0.length : Int))) then (bif (decide (0 ≤ fI (t21.getD t23.toNat .undef) 0) && decide (fI (t21.getD t23.toNat .undef) 0 < (h0.length : Int))) then (bif (decide (0 ≤ fI (t21.getD t23.toNat .undef) 1) && decide (fI (t21.getD t23.toNat .undef) 1 < ((h0.set (fI (t21.getD t23.toNat .undef) 0).toNat (AV.agg [AV.int .i64 (fI (h0.getD (fI (t21.getD t23.toNat .undef) 1).toNat .undef) 0)])).length : Int))) then (bif (decide (0 ≤ fI (t21.getD t23.toNat .undef) 1) && decide (fI (t21.getD t23.toNat .undef) 1 < (h1.length : Int))) then (bif (decide (0 ≤ fI (t21.getD t23.toNat .undef) 0) && decide (fI (t21.getD t23.toNat .undef) 0 < (h1.length : Int))) then (bif (decide (0 ≤ fI (t21.getD t23.toNat .undef) 0) && decide (fI (t21.getD t23.toNat .undef) 0 < (h1.length : Int))) then (bif (decide (0 ≤ fI (t21.getD t23.toNat .undef) 1) && decide (fI (t21.getD t23.toNat .undef) 1 < ((h1.set (fI (t21.getD t23.toNat .undef) 0).toNat (AV.agg [AV.int .i64 (fI (h1.getD (fI (t21.getD t23.toNat .undef) 1).toNat .undef) 0)])).length : Int))) then .next (IntKind.i64.wrap (t23 + 1), (h0.set (fI (t21.getD t23.toNat .undef) 0).toNat (AV.agg [AV.int .i64 (fI (h0.getD (fI (t21.getD t23.toNat .undef) 1).toNat .undef) 0)])).set (fI (t21.getD t23.toNat .undef) 1).toNat (AV.agg [AV.int .i64 (fI (h0.getD (fI (t21.getD t23.toNat .undef) 0).toNat .undef) 0)]), (h1.set (fI (t21.getD t23.toNat .undef) 0).toNat (AV.agg [AV.int .i64 (fI (h1.getD (fI (t21.getD t23.toNat .undef) 1).toNat .undef) 0)])).set (fI (t21.getD t23.toNat .undef) 1).toNat (AV.agg [AV.int .i64 (fI (h1.getD (fI (t21.getD t23.toNat .undef) 0).toNat .undef) 0)]))
  else .fail)
  else .fail)
  else .fail)
  else .fail)
  else .fail)
  else .fail)
  else .fail)
  else .fail)))))
  else .fail)
  else .stop (.inl (h0, h1)))
def R43_0 (t7 : Int) (t21 : List AV) (t22 : Int) (h2_0 : List AV) (h2_1 : List AV) (h2_2 : List AV) (h3 : List AV) : ((Int × (List AV) × (List AV))) → Out ((Int × (List AV) × (List AV))) (((List AV) × (List AV)) ⊕ ((List AV) × (List AV) × (List AV) × (List AV) × Int × Int × (List AV))) := fun s : Int × (List AV) × (List AV) => F43_0 t7 t21 t22 h2_0 h2_1 h2_2 h3 s.1 s.2.1 s.2.2
def l43_0 : LModel := fun _ _ st k => match st with
  | ⟨[(2, .ptr g0 g1 g2), (4, .ptr g3 g4 g5), (6, .ptr g6 g7 g8), (7, .int .i64 t7), (21, .sl g9 t21), (22, .int .i64 t22), (23, .int .i64 t23)], [(g10, ⟨false, g11, h0⟩), (g12, ⟨false, g13, h1⟩), (g14, ⟨true, [], [.agg [.sl g15 h2_0, .sl g16 h2_1, .sl g17 h2_2]]⟩), (g18, ⟨false, g19, h3⟩), (g20, ⟨true, [], [.agg [.snil, .snil, .snil]]⟩), (g21, ⟨true, [], [.agg [.own g22, .own g23, .own g24]]⟩)]⟩ => bif nmEq g0 ([0, 2]) && Nat.beq g1 0 && Nat.beq g2 0 && nmEq g3 ([0, 4]) && Nat.beq g4 0 && Nat.beq g5 0 && nmEq g6 ([0, 6]) && Nat.beq g7 0 && Nat.beq g8 0 && ctsEq g9 ([.int .i64, .int .i64]) && nmEq g10 ([0, 0, 6]) && ctsEq g11 ([.int .i64]) && nmEq g12 ([0, 1, 6]) && ctsEq g13 ([.int .i64]) && nmEq g14 ([0, 2]) && ctsEq g15 ([.int .i64]) && ctsEq g16 ([.int .i64]) && ctsEq g17 ([.int .i64, .int .i64]) && nmEq g18 ([0, 2, 6]) && ctsEq g19 ([.int .i64, .int .i64]) && nmEq g20 ([0, 4]) && nmEq g21 ([0, 6]) && nmEq g22 ([0, 0, 6]) && nmEq g23 ([0, 1, 6]) && nmEq g24 ([0, 2, 6]) then ro (runW (R43_0 t7 t21 t22 h2_0 h2_1 h2_2 h3) ((t22 - t23).toNat + 1) (t23, h0, h1)) none (sumE (fun p : (List AV) × (List AV) => k (.exit 0) ⟨[(4, AV.ptr [0, 4] 0 0), (6, AV.ptr [0, 6] 0 0)], [([0, 0, 6], ⟨false, [.int .i64], p.1⟩), ([0, 1, 6], ⟨false, [.int .i64], p.2⟩), ([0, 2], ⟨true, [], [AV.agg [AV.sl [.int .i64] h2_0, AV.sl [.int .i64] h2_1, AV.sl [.int .i64, .int .i64] h2_2]]⟩), ([0, 2, 6], ⟨false, [.int .i64, .int .i64], h3⟩), ([0, 4], ⟨true, [], [AV.agg [AV.snil, AV.snil, AV.snil]]⟩), ([0, 6], ⟨true, [], [AV.agg [AV.own [0, 0, 6], AV.own [0, 1, 6], AV.own [0, 2, 6]]]⟩)]⟩) (fun p : (List AV) × (List AV) × (List AV) × (List AV) × Int × Int × (List AV) => k .ret ⟨[(4, AV.ptr [0, 4] 0 0), (5, AV.bool false)], [([0, 0, 6], ⟨false, [.int .i64], p.1⟩), ([0, 1, 6], ⟨false, [.int .i64], p.2.1⟩), ([0, 1, 48], ⟨false, [.int .i64], p.2.2.1⟩), ([0, 2], ⟨true, [], [AV.agg [AV.sl [.int .i64] h2_0, AV.sl [.int .i64] h2_1, AV.sl [.int .i64, .int .i64] h2_2]]⟩), ([0, 2, 6], ⟨false, [.int .i64, .int .i64], h3⟩), ([0, 4], ⟨true, [], [AV.agg [AV.own [0, 1, 48], AV.own [1, 1, 48], AV.own [2, 1, 48]]]⟩), ([0, 6], ⟨true, [], [AV.agg [AV.own [0, 0, 6], AV.own [0, 1, 6], AV.own [0, 2, 6]]]⟩), ([1, 1, 48], ⟨false, [.int .i64], p.2.2.2.1⟩), ([1, 9], ⟨true, [], [AV.agg [AV.int .i64 p.2.2.2.2.1, AV.int .i64 p.2.2.2.2.2.1]]⟩), ([2, 1, 48], ⟨false, [.int .i64, .int .i64], p.2.2.2.2.2.2⟩)]⟩)) else none
  | _ => none
noncomputable def c43 : Cfg := cfg Try.prog [(43, 0, [2, 4, 6, 7, 21, 22, 23]), (43, 999, [4, 5]), (43, 1000, [4, 6]), (43, 1001, [2, 4, 6, 7, 21, 22, 23])] [(40, m40)] [] [] [(43, 0, l43_0)]
theorem s43_0 (ce : CallE) (t7 : Int) (t21 : List AV) (t22 : Int) (t23 : Int) (h0 : List AV) (h1 : List AV) (h2_0 : List AV) (h2_1 : List AV) (h2_2 : List AV) (h3 : List AV) (next : St → Option AV) (k : Kont) : stepA (codeA c43 ce [] 43 0 (sub [1, 1, 1, 0, 1, 0, 0] (body Try.f43))) (normA [] [2, 4, 6, 7, 21, 22, 23]) next ⟨[(2, AV.ptr [0, 2] 0 0), (4, AV.ptr [0, 4] 0 0), (6, AV.ptr [0, 6] 0 0), (7, AV.int .i64 t7), (21, AV.sl [.int .i64, .int .i64] t21), (22, AV.int .i64 t22), (23, AV.int .i64 t23)], [([0, 0, 6], ⟨false, [.int .i64], h0⟩), ([0, 1, 6], ⟨false, [.int .i64], h1⟩), ([0, 2], ⟨true, [], [AV.agg [AV.sl [.int .i64] h2_0, AV.sl [.int .i64] h2_1, AV.sl [.int .i64, .int .i64] h2_2]]⟩), ([0, 2, 6], ⟨false, [.int .i64, .int .i64], h3⟩), ([0, 4], ⟨true, [], [AV.agg [AV.snil, AV.snil, AV.snil]]⟩), ([0, 6], ⟨true, [], [AV.agg [AV.own [0, 0, 6], AV.own [0, 1, 6], AV.own [0, 2, 6]]]⟩)]⟩ k = (bif decide (t23 < t22) then (bif (decide (0 ≤ t23) && decide (t23 < (t21.length : Int))) then (bif decide (fI (t21.getD t23.toNat .undef) 0 < 0) then (bif q40 h2_0 h2_1 h2_2 then k .ret ⟨[(4, AV.ptr [0, 4] 0 0), (5, AV.bool false)], [([0, 0, 6], ⟨false, [.int .i64], h0⟩), ([0, 1, 6], ⟨false, [.int .i64], h1⟩), ([0, 1, 48], ⟨false, [.int .i64], (v40_0 h2_0 h2_1 h2_2)⟩), ([0, 2], ⟨true, [], [AV.agg [AV.sl [.int .i64] h2_0, AV.sl [.int .i64] h2_1, AV.sl [.int .i64, .int .i64] h2_2]]⟩), ([0, 2, 6], ⟨false, [.int .i64, .int .i64], h3⟩), ([0, 4], ⟨true, [], [AV.agg [AV.own [0, 1, 48], AV.own [1, 1, 48], AV.own [2, 1, 48]]]⟩), ([0, 6], ⟨true, [], [AV.agg [AV.own [0, 0, 6], AV.own [0, 1, 6], AV.own [0, 2, 6]]]⟩), ([1, 1, 48], ⟨false, [.int .i64], (v40_1 h2_0 h2_1 h2_2)⟩), ([1, 9], ⟨true, [], [AV.agg [AV.int .i64 (fI (t21.getD t23.toNat .undef) 0), AV.int .i64 (fI (t21.getD t23.toNat .undef) 1)]]⟩), ([2, 1, 48], ⟨false, [.int .i64, .int .i64], (v40_2 h2_0 h2_1 h2_2)⟩)]⟩
  else none)
  else (bif decide (fI (t21.getD t23.toNat .undef) 0 ≥ t7) then (bif q40 h2_0 h2_1 h2_2 then k .ret ⟨[(4, AV.ptr [0, 4] 0 0), (5, AV.bool false)], [([0, 0, 6], ⟨false, [.int .i64], h0⟩), ([0, 1, 6], ⟨false, [.int .i64], h1⟩), ([0, 1, 48], ⟨false, [.int .i64], (v40_0 h2_0 h2_1 h2_2)⟩), ([0, 2], ⟨true, [], [AV.agg [AV.sl [.int .i64] h2_0, AV.sl [.int .i64] h2_1, AV.sl [.int .i64, .int .i64] h2_2]]⟩), ([0, 2, 6], ⟨false, [.int .i64, .int .i64], h3⟩), ([0, 4], ⟨true, [], [AV.agg [AV.own [0, 1, 48], AV.own [1, 1, 48], AV.own [2, 1, 48]]]⟩), ([0, 6], ⟨true, [], [AV.agg [AV.own [0, 0, 6], AV.own [0, 1, 6], AV.own [0, 2, 6]]]⟩), ([1, 1, 48], ⟨false, [.int .i64], (v40_1 h2_0 h2_1 h2_2)⟩), ([1, 9], ⟨true, [], [AV.agg [AV.int .i64 (fI (t21.getD t23.toNat .undef) 0), AV.int .i64 (fI (t21.getD t23.toNat .undef) 1)]]⟩), ([2, 1, 48], ⟨false, [.int .i64, .int .i64], (v40_2 h2_0 h2_1 h2_2)⟩)]⟩
  else none)
  else (bif decide (fI (t21.getD t23.toNat .undef) 1 < 0) then (bif q40 h2_0 h2_1 h2_2 then k .ret ⟨[(4, AV.ptr [0, 4] 0 0), (5, AV.bool false)], [([0, 0, 6], ⟨false, [.int .i64], h0⟩), ([0, 1, 6], ⟨false, [.int .i64], h1⟩), ([0, 1, 48], ⟨false, [.int .i64], (v40_0 h2_0 h2_1 h2_2)⟩), ([0, 2], ⟨true, [], [AV.agg [AV.sl [.int .i64] h2_0, AV.sl [.int .i64] h2_1, AV.sl [.int .i64, .int .i64] h2_2]]⟩), ([0, 2, 6], ⟨false, [.int .i64, .int .i64], h3⟩), ([0, 4], ⟨true, [], [AV.agg [AV.own [0, 1, 48], AV.own [1, 1, 48], AV.own [2, 1, 48]]]⟩), ([0, 6], ⟨true, [], [AV.agg [AV.own [0, 0, 6], AV.own [0, 1, 6], AV.own [0, 2, 6]]]⟩), ([1, 1, 48], ⟨false, [.int .i64], (v40_1 h2_0 h2_1 h2_2)⟩), ([1, 9], ⟨true, [], [AV.agg [AV.int .i64 (fI (t21.getD t23.toNat .undef) 0), AV.int .i64 (fI (t21.getD t23.toNat .undef) 1)]]⟩), ([2, 1, 48], ⟨false, [.int .i64, .int .i64], (v40_2 h2_0 h2_1 h2_2)⟩)]⟩
  else none)
  else (bif decide (fI (t21.getD t23.toNat .undef) 1 ≥ t7) then (bif q40 h2_0 h2_1 h2_2 then k .ret ⟨[(4, AV.ptr [0, 4] 0 0), (5, AV.bool false)], [([0, 0, 6], ⟨false, [.int .i64], h0⟩), ([0, 1, 6], ⟨false, [.int .i64], h1⟩), ([0, 1, 48], ⟨false, [.int .i64], (v40_0 h2_0 h2_1 h2_2)⟩), ([0, 2], ⟨true, [], [AV.agg [AV.sl [.int .i64] h2_0, AV.sl [.int .i64] h2_1, AV.sl [.int .i64, .int .i64] h2_2]]⟩), ([0, 2, 6], ⟨false, [.int .i64, .int .i64], h3⟩), ([0, 4], ⟨true, [], [AV.agg [AV.own [0, 1, 48], AV.own [1, 1, 48], AV.own [2, 1, 48]]]⟩), ([0, 6], ⟨true, [], [AV.agg [AV.own [0, 0, 6], AV.own [0, 1, 6], AV.own [0, 2, 6]]]⟩), ([1, 1, 48], ⟨false, [.int .i64], (v40_1 h2_0 h2_1 h2_2)⟩), ([1, 9], ⟨true, [], [AV.agg [AV.int .i64 (fI (t21.getD t23.toNat .undef) 0), AV.int .i64 (fI (t21.getD t23.toNat .undef) 1)]]⟩), ([2, 1, 48], ⟨false, [.int .i64, .int .i64], (v40_2 h2_0 h2_1 h2_2)⟩)]⟩
  else none)
  else (bif (decide (0 ≤ fI (t21.getD t23.toNat .undef) 1) && decide (fI (t21.getD t23.toNat .undef) 1 < (h0.length : Int))) then (bif (decide (0 ≤ fI (t21.getD t23.toNat .undef) 0) && decide (fI (t21.getD t23.toNat .undef) 0 < (h0.length : Int))) then (bif (decide (0 ≤ fI (t21.getD t23.toNat .undef) 0) && decide (fI (t21.getD t23.toNat .undef) 0 < (h0.length : Int))) then (bif (decide (0 ≤ fI (t21.getD t23.toNat .undef) 1) && decide (fI (t21.getD t23.toNat .undef) 1 < ((h0.set (fI (t21.getD t23.toNat .undef) 0).toNat (AV.agg [AV.int .i64 (fI (h0.getD (fI (t21.getD t23.toNat .undef) 1).toNat .undef) 0)])).length : Int))) then (bif (decide (0 ≤ fI (t21.getD t23.toNat .undef) 1) && decide (fI (t21.getD t23.toNat .undef) 1 < (h1.length : Int))) then (bif (decide (0 ≤ fI (t21.getD t23.toNat .undef) 0) && decide (fI (t21.getD t23.toNat .undef) 0 < (h1.length : Int))) then (bif (decide (0 ≤ fI (t21.getD t23.toNat .undef) 0) && decide (fI (t21.getD t23.toNat .undef) 0 < (h1.length : Int))) then (bif (decide (0 ≤ fI (t21.getD t23.toNat .undef) 1) && decide (fI (t21.getD t23.toNat .undef) 1 < ((h1.set (fI (t21.getD t23.toNat .undef) 0).toNat (AV.agg [AV.int .i64 (fI (h1.getD (fI (t21.getD t23.toNat .undef) 1).toNat .undef) 0)])).length : Int))) then next ⟨[(2, AV.ptr [0, 2] 0 0), (4, AV.ptr [0, 4] 0 0), (6, AV.ptr [0, 6] 0 0), (7, AV.int .i64 t7), (21, AV.sl [.int .i64, .int .i64] t21), (22, AV.int .i64 t22), (23, AV.int .i64 (IntKind.i64.wrap (t23 + 1)))], [([0, 0, 6], ⟨false, [.int .i64], (h0.set (fI (t21.getD t23.toNat .undef) 0).toNat (AV.agg [AV.int .i64 (fI (h0.getD (fI (t21.getD t23.toNat .undef) 1).toNat .undef) 0)])).set (fI (t21.getD t23.toNat .undef) 1).toNat (AV.agg [AV.int .i64 (fI (h0.getD (fI (t21.getD t23.toNat .undef) 0).toNat .undef) 0)])⟩), ([0, 1, 6], ⟨false, [.int .i64], (h1.set (fI (t21.getD t23.toNat .undef) 0).toNat (AV.agg [AV.int .i64 (fI (h1.getD (fI (t21.getD t23.toNat .undef) 1).toNat .undef) 0)])).set (fI (t21.getD t23.toNat .undef) 1).toNat (AV.agg [AV.int .i64 (fI (h1.getD (fI (t21.getD t23.toNat .undef) 0).toNat .undef) 0)])⟩), ([0, 2], ⟨true, [], [AV.agg [AV.sl [.int .i64] h2_0, AV.sl [.int .i64] h2_1, AV.sl [.int .i64, .int .i64] h2_2]]⟩), ([0, 2, 6], ⟨false, [.int .i64, .int .i64], h3⟩), ([0, 4], ⟨true, [], [AV.agg [AV.snil, AV.snil, AV.snil]]⟩), ([0, 6], ⟨true, [], [AV.agg [AV.own [0, 0, 6], AV.own [0, 1, 6], AV.own [0, 2, 6]]]⟩)]⟩
  else none)
  else none)
  else none)
  else none)
  else none)
  else none)
  else none)
  else none)))))
  else none)
  else k (.exit 0) ⟨[(4, AV.ptr [0, 4] 0 0), (6, AV.ptr [0, 6] 0 0)], [([0, 0, 6], ⟨false, [.int .i64], h0⟩), ([0, 1, 6], ⟨false, [.int .i64], h1⟩), ([0, 2], ⟨true, [], [AV.agg [AV.sl [.int .i64] h2_0, AV.sl [.int .i64] h2_1, AV.sl [.int .i64, .int .i64] h2_2]]⟩), ([0, 2, 6], ⟨false, [.int .i64, .int .i64], h3⟩), ([0, 4], ⟨true, [], [AV.agg [AV.snil, AV.snil, AV.snil]]⟩), ([0, 6], ⟨true, [], [AV.agg [AV.own [0, 0, 6], AV.own [0, 1, 6], AV.own [0, 2, 6]]]⟩)]⟩) := by kernel_rfl
theorem st43_0 (t7 : Int) (t21 : List AV) (t22 : Int) (h2_0 : List AV) (h2_1 : List AV) (h2_2 : List AV) (h3 : List AV) (ce : CallE) (k : Kont) (s : (Int × (List AV) × (List AV))) (next : St → Option AV) : stepA (codeA c43 ce [] 43 0 (sub [1, 1, 1, 0, 1, 0, 0] (body Try.f43))) (normA [] [2, 4, 6, 7, 21, 22, 23]) next ((fun s : Int × (List AV) × (List AV) => ⟨[(2, AV.ptr [0, 2] 0 0), (4, AV.ptr [0, 4] 0 0), (6, AV.ptr [0, 6] 0 0), (7, AV.int .i64 t7), (21, AV.sl [.int .i64, .int .i64] t21), (22, AV.int .i64 t22), (23, AV.int .i64 s.1)], [([0, 0, 6], ⟨false, [.int .i64], s.2.1⟩), ([0, 1, 6], ⟨false, [.int .i64], s.2.2⟩), ([0, 2], ⟨true, [], [AV.agg [AV.sl [.int .i64] h2_0, AV.sl [.int .i64] h2_1, AV.sl [.int .i64, .int .i64] h2_2]]⟩), ([0, 2, 6], ⟨false, [.int .i64, .int .i64], h3⟩), ([0, 4], ⟨true, [], [AV.agg [AV.snil, AV.snil, AV.snil]]⟩), ([0, 6], ⟨true, [], [AV.agg [AV.own [0, 0, 6], AV.own [0, 1, 6], AV.own [0, 2, 6]]]⟩)]⟩) s) k = (R43_0 t7 t21 t22 h2_0 h2_1 h2_2 h3 s).el none (fun s => next ((fun s : Int × (List AV) × (List AV) => ⟨[(2, AV.ptr [0, 2] 0 0), (4, AV.ptr [0, 4] 0 0), (6, AV.ptr [0, 6] 0 0), (7, AV.int .i64 t7), (21, AV.sl [.int .i64, .int .i64] t21), (22, AV.int .i64 t22), (23, AV.int .i64 s.1)], [([0, 0, 6], ⟨false, [.int .i64], s.2.1⟩), ([0, 1, 6], ⟨false, [.int .i64], s.2.2⟩), ([0, 2], ⟨true, [], [AV.agg [AV.sl [.int .i64] h2_0, AV.sl [.int .i64] h2_1, AV.sl [.int .i64, .int .i64] h2_2]]⟩), ([0, 2, 6], ⟨false, [.int .i64, .int .i64], h3⟩), ([0, 4], ⟨true, [], [AV.agg [AV.snil, AV.snil, AV.snil]]⟩), ([0, 6], ⟨true, [], [AV.agg [AV.own [0, 0, 6], AV.own [0, 1, 6], AV.own [0, 2, 6]]]⟩)]⟩) s)) (sumE (fun p : (List AV) × (List AV) => k (.exit 0) ⟨[(4, AV.ptr [0, 4] 0 0), (6, AV.ptr [0, 6] 0 0)], [([0, 0, 6], ⟨false, [.int .i64], p.1⟩), ([0, 1, 6], ⟨false, [.int .i64], p.2⟩), ([0, 2], ⟨true, [], [AV.agg [AV.sl [.int .i64] h2_0, AV.sl [.int .i64] h2_1, AV.sl [.int .i64, .int .i64] h2_2]]⟩), ([0, 2, 6], ⟨false, [.int .i64, .int .i64], h3⟩), ([0, 4], ⟨true, [], [AV.agg [AV.snil, AV.snil, AV.snil]]⟩), ([0, 6], ⟨true, [], [AV.agg [AV.own [0, 0, 6], AV.own [0, 1, 6], AV.own [0, 2, 6]]]⟩)]⟩) (fun p : (List AV) × (List AV) × (List AV) × (List AV) × Int × Int × (List AV) => k .ret ⟨[(4, AV.ptr [0, 4] 0 0), (5, AV.bool false)], [([0, 0, 6], ⟨false, [.int .i64], p.1⟩), ([0, 1, 6], ⟨false, [.int .i64], p.2.1⟩), ([0, 1, 48], ⟨false, [.int .i64], p.2.2.1⟩), ([0, 2], ⟨true, [], [AV.agg [AV.sl [.int .i64] h2_0, AV.sl [.int .i64] h2_1, AV.sl [.int .i64, .int .i64] h2_2]]⟩), ([0, 2, 6], ⟨false, [.int .i64, .int .i64], h3⟩), ([0, 4], ⟨true, [], [AV.agg [AV.own [0, 1, 48], AV.own [1, 1, 48], AV.own [2, 1, 48]]]⟩), ([0, 6], ⟨true, [], [AV.agg [AV.own [0, 0, 6], AV.own [0, 1, 6], AV.own [0, 2, 6]]]⟩), ([1, 1, 48], ⟨false, [.int .i64], p.2.2.2.1⟩), ([1, 9], ⟨true, [], [AV.agg [AV.int .i64 p.2.2.2.2.1, AV.int .i64 p.2.2.2.2.2.1]]⟩), ([2, 1, 48], ⟨false, [.int .i64, .int .i64], p.2.2.2.2.2.2⟩)]⟩)) := (s43_0 ce t7 t21 t22 s.1 s.2.1 s.2.2 h2_0 h2_1 h2_2 h3 next k).trans (by unfold R43_0; unfold F43_0; simp only [el_cond, el_ro, el_sum, el_fail, el_next, el_stop] <;> rfl)
theorem ok43_0 {ce : CallE} : LoopOK c43 ce [] 43 0 (sub [1, 1, 1, 0, 1, 0, 0] (body Try.f43)) := by
  intro m hm st k r h
  obtain rfl : l43_0 = m := Option.some.inj hm
  unfold l43_0 at h
  split at h
  · rename_i g0 g1 g2 g3 g4 g5 g6 g7 g8 t7 g9 t21 t22 t23 g10 g11 h0 g12 g13 h1 g14 g15 h2_0 g16 h2_1 g17 h2_2 g18 g19 h3 g20 g21 g22 g23 g24
    obtain ⟨hg, h⟩ := bif_some h
    simp only [Bool.and_eq_true] at hg
    obtain ⟨⟨⟨⟨⟨⟨⟨⟨⟨⟨⟨⟨⟨⟨⟨⟨⟨⟨⟨⟨⟨⟨⟨⟨q0, q1⟩, q2⟩, q3⟩, q4⟩, q5⟩, q6⟩, q7⟩, q8⟩, q9⟩, q10⟩, q11⟩, q12⟩, q13⟩, q14⟩, q15⟩, q16⟩, q17⟩, q18⟩, q19⟩, q20⟩, q21⟩, q22⟩, q23⟩, q24⟩ := hg
    obtain rfl := (nmEq_iff _ _).1 q0
    obtain rfl := Nat.eq_of_beq_eq_true q1
    obtain rfl := Nat.eq_of_beq_eq_true q2
    obtain rfl := (nmEq_iff _ _).1 q3
    obtain rfl := Nat.eq_of_beq_eq_true q4
    obtain rfl := Nat.eq_of_beq_eq_true q5
    obtain rfl := (nmEq_iff _ _).1 q6
    obtain rfl := Nat.eq_of_beq_eq_true q7
    obtain rfl := Nat.eq_of_beq_eq_true q8
    obtain rfl := ctsEq_eq _ _ q9
    obtain rfl := (nmEq_iff _ _).1 q10
    obtain rfl := ctsEq_eq _ _ q11
    obtain rfl := (nmEq_iff _ _).1 q12
    obtain rfl := ctsEq_eq _ _ q13
    obtain rfl := (nmEq_iff _ _).1 q14
    obtain rfl := ctsEq_eq _ _ q15
    obtain rfl := ctsEq_eq _ _ q16
    obtain rfl := ctsEq_eq _ _ q17
    obtain rfl := (nmEq_iff _ _).1 q18
    obtain rfl := ctsEq_eq _ _ q19
    obtain rfl := (nmEq_iff _ _).1 q20
    obtain rfl := (nmEq_iff _ _).1 q21
    obtain rfl := (nmEq_iff _ _).1 q22
    obtain rfl := (nmEq_iff _ _).1 q23
    obtain rfl := (nmEq_iff _ _).1 q24
    refine ⟨((t22 - t23).toNat + 1), ?_⟩
    rw [← h]
    exact loop_run (fun s : Int × (List AV) × (List AV) => ⟨[(2, AV.ptr [0, 2] 0 0), (4, AV.ptr [0, 4] 0 0), (6, AV.ptr [0, 6] 0 0), (7, AV.int .i64 t7), (21, AV.sl [.int .i64, .int .i64] t21), (22, AV.int .i64 t22), (23, AV.int .i64 s.1)], [([0, 0, 6], ⟨false, [.int .i64], s.2.1⟩), ([0, 1, 6], ⟨false, [.int .i64], s.2.2⟩), ([0, 2], ⟨true, [], [AV.agg [AV.sl [.int .i64] h2_0, AV.sl [.int .i64] h2_1, AV.sl [.int .i64, .int .i64] h2_2]]⟩), ([0, 2, 6], ⟨false, [.int .i64, .int .i64], h3⟩), ([0, 4], ⟨true, [], [AV.agg [AV.snil, AV.snil, AV.snil]]⟩), ([0, 6], ⟨true, [], [AV.agg [AV.own [0, 0, 6], AV.own [0, 1, 6], AV.own [0, 2, 6]]]⟩)]⟩) (sumE (fun p : (List AV) × (List AV) => k (.exit 0) ⟨[(4, AV.ptr [0, 4] 0 0), (6, AV.ptr [0, 6] 0 0)], [([0, 0, 6], ⟨false, [.int .i64], p.1⟩), ([0, 1, 6], ⟨false, [.int .i64], p.2⟩), ([0, 2], ⟨true, [], [AV.agg [AV.sl [.int .i64] h2_0, AV.sl [.int .i64] h2_1, AV.sl [.int .i64, .int .i64] h2_2]]⟩), ([0, 2, 6], ⟨false, [.int .i64, .int .i64], h3⟩), ([0, 4], ⟨true, [], [AV.agg [AV.snil, AV.snil, AV.snil]]⟩), ([0, 6], ⟨true, [], [AV.agg [AV.own [0, 0, 6], AV.own [0, 1, 6], AV.own [0, 2, 6]]]⟩)]⟩) (fun p : (List AV) × (List AV) × (List AV) × (List AV) × Int × Int × (List AV) => k .ret ⟨[(4, AV.ptr [0, 4] 0 0), (5, AV.bool false)], [([0, 0, 6], ⟨false, [.int .i64], p.1⟩), ([0, 1, 6], ⟨false, [.int .i64], p.2.1⟩), ([0, 1, 48], ⟨false, [.int .i64], p.2.2.1⟩), ([0, 2], ⟨true, [], [AV.agg [AV.sl [.int .i64] h2_0, AV.sl [.int .i64] h2_1, AV.sl [.int .i64, .int .i64] h2_2]]⟩), ([0, 2, 6], ⟨false, [.int .i64, .int .i64], h3⟩), ([0, 4], ⟨true, [], [AV.agg [AV.own [0, 1, 48], AV.own [1, 1, 48], AV.own [2, 1, 48]]]⟩), ([0, 6], ⟨true, [], [AV.agg [AV.own [0, 0, 6], AV.own [0, 1, 6], AV.own [0, 2, 6]]]⟩), ([1, 1, 48], ⟨false, [.int .i64], p.2.2.2.1⟩), ([1, 9], ⟨true, [], [AV.agg [AV.int .i64 p.2.2.2.2.1, AV.int .i64 p.2.2.2.2.2.1]]⟩), ([2, 1, 48], ⟨false, [.int .i64, .int .i64], p.2.2.2.2.2.2⟩)]⟩)) (st43_0 t7 t21 t22 h2_0 h2_1 h2_2 h3 ce k) _ (t23, h0, h1)
  · cases h
def q43 (xa : List AV) (xb : List AV) (xc : List AV) (a1 : List AV) : Bool := (q40 xa xb xc && (bif !decide ((xb.length : Int) = (xa.length : Int)) then true else (ro (runW (R43_0 (xa.length : Int) a1 (a1.length : Int) xa xb xc (v40_2 xa xb xc)) (((a1.length : Int) - 0).toNat + 1) (0, (v40_0 xa xb xc), (v40_1 xa xb xc))) false (sumE (fun p43 => true) (fun p44 => true)))))
def v43_0 (xa : List AV) (xb : List AV) (xc : List AV) (a1 : List AV) : List AV := (bif !decide ((xb.length : Int) = (xa.length : Int)) then (v40_0 xa xb xc) else (ro (runW (R43_0 (xa.length : Int) a1 (a1.length : Int) xa xb xc (v40_2 xa xb xc)) (((a1.length : Int) - 0).toNat + 1) (0, (v40_0 xa xb xc), (v40_1 xa xb xc))) [] (sumE (fun p43 => p43.1) (fun p44 => p44.2.2.1))))
def v43_1 (xa : List AV) (xb : List AV) (xc : List AV) (a1 : List AV) : List AV := (bif !decide ((xb.length : Int) = (xa.length : Int)) then (v40_1 xa xb xc) else (ro (runW (R43_0 (xa.length : Int) a1 (a1.length : Int) xa xb xc (v40_2 xa xb xc)) (((a1.length : Int) - 0).toNat + 1) (0, (v40_0 xa xb xc), (v40_1 xa xb xc))) [] (sumE (fun p43 => p43.2) (fun p44 => p44.2.2.2.1))))
def v43_2 (xa : List AV) (xb : List AV) (xc : List AV) (a1 : List AV) : List AV := (bif !decide ((xb.length : Int) = (xa.length : Int)) then (v40_2 xa xb xc) else (ro (runW (R43_0 (xa.length : Int) a1 (a1.length : Int) xa xb xc (v40_2 xa xb xc)) (((a1.length : Int) - 0).toNat + 1) (0, (v40_0 xa xb xc), (v40_1 xa xb xc))) [] (sumE (fun p43 => (v40_2 xa xb xc)) (fun p44 => p44.2.2.2.2.2.2))))
def v43_3 (xa : List AV) (xb : List AV) (xc : List AV) (a1 : List AV) : Bool := (bif !decide ((xb.length : Int) = (xa.length : Int)) then false else (ro (runW (R43_0 (xa.length : Int) a1 (a1.length : Int) xa xb xc (v40_2 xa xb xc)) (((a1.length : Int) - 0).toNat + 1) (0, (v40_0 xa xb xc), (v40_1 xa xb xc))) false (sumE (fun p43 => true) (fun p44 => false))))
theorem e43 (xa : List AV) (xb : List AV) (xc : List AV) (a1 : List AV) : funA c43 0 43 [AV.agg [AV.sl [.int .i64] xa, AV.sl [.int .i64] xb, AV.sl [.int .i64, .int .i64] xc], AV.sl [.int .i64, .int .i64] a1] = (bif q40 xa xb xc then (bif !decide ((xb.length : Int) = (xa.length : Int)) then some (AV.tup [AV.agg [AV.fl [.int .i64] (v40_0 xa xb xc), AV.fl [.int .i64] (v40_1 xa xb xc), AV.fl [.int .i64, .int .i64] (v40_2 xa xb xc)], AV.bool false])
  else (ro (runW (R43_0 (xa.length : Int) a1 (a1.length : Int) xa xb xc (v40_2 xa xb xc)) (((a1.length : Int) - 0).toNat + 1) (0, (v40_0 xa xb xc), (v40_1 xa xb xc))) none (sumE (fun p43 => some (AV.tup [AV.agg [AV.fl [.int .i64] p43.1, AV.fl [.int .i64] p43.2, AV.fl [.int .i64, .int .i64] (v40_2 xa xb xc)], AV.bool true])) (fun p44 => some (AV.tup [AV.agg [AV.fl [.int .i64] p44.2.2.1, AV.fl [.int .i64] p44.2.2.2.1, AV.fl [.int .i64, .int .i64] p44.2.2.2.2.2.2], AV.bool false])))))
  else none) := by kernel_rfl
theorem r43 (xa : List AV) (xb : List AV) (xc : List AV) (a1 : List AV) (h : q43 xa xb xc a1 = true) : funA c43 0 43 [AV.agg [AV.sl [.int .i64] xa, AV.sl [.int .i64] xb, AV.sl [.int .i64, .int .i64] xc], AV.sl [.int .i64, .int .i64] a1] = some (AV.tup [AV.agg [AV.fl [.int .i64] (v43_0 xa xb xc a1), AV.fl [.int .i64] (v43_1 xa xb xc a1), AV.fl [.int .i64, .int .i64] (v43_2 xa xb xc a1)], AV.bool (v43_3 xa xb xc a1)]) := (e43 xa xb xc a1).trans ((brL (br (fun b => some (AV.tup [AV.agg [AV.fl [.int .i64] (bif b then (v40_0 xa xb xc) else (ro (runW (R43_0 (xa.length : Int) a1 (a1.length : Int) xa xb xc (v40_2 xa xb xc)) (((a1.length : Int) - 0).toNat + 1) (0, (v40_0 xa xb xc), (v40_1 xa xb xc))) [] (sumE (fun p43 => p43.1) (fun p44 => p44.2.2.1)))), AV.fl [.int .i64] (bif b then (v40_1 xa xb xc) else (ro (runW (R43_0 (xa.length : Int) a1 (a1.length : Int) xa xb xc (v40_2 xa xb xc)) (((a1.length : Int) - 0).toNat + 1) (0, (v40_0 xa xb xc), (v40_1 xa xb xc))) [] (sumE (fun p43 => p43.2) (fun p44 => p44.2.2.2.1)))), AV.fl [.int .i64, .int .i64] (bif b then (v40_2 xa xb xc) else (ro (runW (R43_0 (xa.length : Int) a1 (a1.length : Int) xa xb xc (v40_2 xa xb xc)) (((a1.length : Int) - 0).toNat + 1) (0, (v40_0 xa xb xc), (v40_1 xa xb xc))) [] (sumE (fun p43 => (v40_2 xa xb xc)) (fun p44 => p44.2.2.2.2.2.2))))], AV.bool (bif b then false else (ro (runW (R43_0 (xa.length : Int) a1 (a1.length : Int) xa xb xc (v40_2 xa xb xc)) (((a1.length : Int) - 0).toNat + 1) (0, (v40_0 xa xb xc), (v40_1 xa xb xc))) false (sumE (fun p43 => true) (fun p44 => false))))])) (fun _ => rfl) (brO (fun o : Option (((List AV) × (List AV)) ⊕ ((List AV) × (List AV) × (List AV) × (List AV) × Int × Int × (List AV))) => some (AV.tup [AV.agg [AV.fl [.int .i64] (ro o [] (sumE (fun p43 => p43.1) (fun p44 => p44.2.2.1))), AV.fl [.int .i64] (ro o [] (sumE (fun p43 => p43.2) (fun p44 => p44.2.2.2.1))), AV.fl [.int .i64, .int .i64] (ro o [] (sumE (fun p43 => (v40_2 xa xb xc)) (fun p44 => p44.2.2.2.2.2.2)))], AV.bool (ro o false (sumE (fun p43 => true) (fun p44 => false)))])) (brS (fun o : ((List AV) × (List AV)) ⊕ ((List AV) × (List AV) × (List AV) × (List AV) × Int × Int × (List AV)) => some (AV.tup [AV.agg [AV.fl [.int .i64] ((sumE (fun p43 => p43.1) (fun p44 => p44.2.2.1)) o), AV.fl [.int .i64] ((sumE (fun p43 => p43.2) (fun p44 => p44.2.2.2.1)) o), AV.fl [.int .i64, .int .i64] ((sumE (fun p43 => (v40_2 xa xb xc)) (fun p44 => p44.2.2.2.2.2.2)) o)], AV.bool ((sumE (fun p43 => true) (fun p44 => false)) o)])) (fun p43 => (fun _ => rfl)) (fun p44 => (fun _ => rfl)))))) h)
def m43 : TModel
  | [.agg [.sl g0 xa, .sl g1 xb, .sl g2 xc], .sl g3 a1] => bif ctsEq g0 ([.int .i64]) && ctsEq g1 ([.int .i64]) && ctsEq g2 ([.int .i64, .int .i64]) && ctsEq g3 ([.int .i64, .int .i64]) then some (q43 xa xb xc a1, AV.tup [AV.agg [AV.fl [.int .i64] (v43_0 xa xb xc a1), AV.fl [.int .i64] (v43_1 xa xb xc a1), AV.fl [.int .i64, .int .i64] (v43_2 xa xb xc a1)], AV.bool (v43_3 xa xb xc a1)]) else none
  | _ => none
theorem k43 : Known Try.prog 43 := ⟨Try.f43, Try.func43, by kernel_rfl, by kernel_rfl⟩
theorem meets43 : Meets Try.prog 43 m43 := by
  refine meet (f := Try.f43) (l := [(0, sub [1, 1, 1, 0, 1, 0, 0] (body Try.f43))]) (hs := [(43, 0, [2, 4, 6, 7, 21, 22, 23]), (43, 999, [4, 5]), (43, 1000, [4, 6]), (43, 1001, [2, 4, 6, 7, 21, 22, 23])]) (ts := [(40, m40)]) (ws := []) (is := []) (ls := [(43, 0, l43_0)]) (lvl := 0) mixed k43 Try.func43 (by kernel_rfl) (loops_cons ok43_0 noLoop) (allT_cons meets40 allT_nil) allM_nil noI fun w xs us r hl hv h => ?_
  unfold m43 at h
  split at h
  · rename_i g0 xa g1 xb g2 xc g3 a1
    obtain ⟨hg, h⟩ := bif_pair h
    simp only [Bool.and_eq_true] at hg
    obtain ⟨⟨⟨q0, q1⟩, q2⟩, q3⟩ := hg
    obtain rfl := ctsEq_eq _ _ q0
    obtain rfl := ctsEq_eq _ _ q1
    obtain rfl := ctsEq_eq _ _ q2
    obtain rfl := ctsEq_eq _ _ q3
    obtain ⟨h1, rfl⟩ := pair_inj h
    exact r43 xa xb xc a1 h1
  · cases h

/-! ### 64 loop.example/g01984/impl.withPivot$1 -/
noncomputable def c64 : Cfg := cfg Try.prog [(64, 999, [3])] [] [] [] []
def q64 (xa : Int) (xb : Int) (a1 : AV) : Bool := true
def v64_0 (xa : Int) (xb : Int) (a1 : AV) : Bool := decide (xa > fI a1 0)
theorem e64 (xa : Int) (xb : Int) (a1 : AV) : funA c64 0 64 [AV.agg [AV.int .i64 xa, AV.int .i64 xb], AV.rptr [.int .i64, .int .i64] a1 0] = some (AV.bool (decide (xa > fI a1 0))) := by kernel_rfl
theorem r64 (xa : Int) (xb : Int) (a1 : AV) : funA c64 0 64 [AV.agg [AV.int .i64 xa, AV.int .i64 xb], AV.rptr [.int .i64, .int .i64] a1 0] = some (AV.bool (v64_0 xa xb a1)) := (e64 xa xb a1).trans (of_tt (fun _ => rfl))
def m64 : TModel
  | [.agg [.int .i64 xa, .int .i64 xb], .rptr g0 a1 g1] => bif ctsEq g0 ([.int .i64, .int .i64]) && Nat.beq g1 0 then some (true, AV.bool (v64_0 xa xb a1)) else none
  | _ => none
theorem k64 : Known Try.prog 64 := ⟨Try.f64, Try.func64, by kernel_rfl, by kernel_rfl⟩
theorem meets64 : Meets Try.prog 64 m64 := by
  refine meet (f := Try.f64) (l := []) (hs := [(64, 999, [3])]) (ts := []) (ws := []) (is := []) (ls := []) (lvl := 0) mixed k64 Try.func64 (by kernel_rfl) noLoop allT_nil allM_nil noI fun w xs us r hl hv h => ?_
  unfold m64 at h
  split at h
  · rename_i xa xb g0 a1 g1
    obtain ⟨hg, h⟩ := bif_pair h
    simp only [Bool.and_eq_true] at hg
    obtain ⟨q0, q1⟩ := hg
    obtain rfl := ctsEq_eq _ _ q0
    obtain rfl := Nat.eq_of_beq_eq_true q1
    obtain ⟨h1, rfl⟩ := pair_inj h
    exact r64 xa xb a1
  · cases h

/-! ### 63 slices.IndexFunc[[]loop.example/g01984/impl.Pivot,loop.example/g01984/impl.Pivot] -/
def F63_0 (t0 : List AV) (t1 : AV) (t7 : Int) (t8 : Int) : Out (Int) (Unit ⊕ Int) := (bif decide (t8 < t7) then (bif (decide (0 ≤ t8) && decide (t8 < (t0.length : Int))) then (bif (v64_0 (fI (t0.getD t8.toNat .undef) 0) (fI (t0.getD t8.toNat .undef) 1) t1) then .stop (.inr t8)
  else .next (IntKind.i64.wrap (t8 + 1)))
  else .fail)
  else .stop (.inl ()))
def R63_0 (t0 : List AV) (t1 : AV) (t7 : Int) : (Int) → Out (Int) (Unit ⊕ Int) := fun s : Int => F63_0 t0 t1 t7 s
def l63_0 : LModel := fun _ _ st k => match st with
  | ⟨[(0, .sl g0 t0), (1, .fn g1 [.rptr g2 t1 g3]), (7, .int .i64 t7), (8, .int .i64 t8)], []⟩ => bif ctsEq g0 ([.int .i64, .int .i64]) && Nat.beq g1 64 && ctsEq g2 ([.int .i64, .int .i64]) && Nat.beq g3 0 then ro (runW (R63_0 t0 t1 t7) ((t7 - t8).toNat + 1) t8) none (sumE (fun _ : Unit => k (.exit 0) ⟨[], []⟩) (fun p : Int => k .ret ⟨[(4, AV.int .i64 p)], []⟩)) else none
  | _ => none
noncomputable def c63 : Cfg := cfg Try.prog [(63, 0, [0, 1, 7, 8]), (63, 999, [4]), (63, 1000, []), (63, 1001, [0, 1, 7, 8])] [(64, m64)] [] [] [(63, 0, l63_0)]
theorem s63_0 (ce : CallE) (t0 : List AV) (t1 : AV) (t7 : Int) (t8 : Int) (next : St → Option AV) (k : Kont) : stepA (codeA c63 ce [] 63 0 (sub [1, 0, 1, 0, 0] (body Try.f63))) (normA [] [0, 1, 7, 8]) next ⟨[(0, AV.sl [.int .i64, .int .i64] t0), (1, AV.fn 64 [AV.rptr [.int .i64, .int .i64] t1 0]), (7, AV.int .i64 t7), (8, AV.int .i64 t8)], []⟩ k = (bif decide (t8 < t7) then (bif (decide (0 ≤ t8) && decide (t8 < (t0.length : Int))) then (bif (v64_0 (fI (t0.getD t8.toNat .undef) 0) (fI (t0.getD t8.toNat .undef) 1) t1) then k .ret ⟨[(4, AV.int .i64 t8)], []⟩
  else next ⟨[(0, AV.sl [.int .i64, .int .i64] t0), (1, AV.fn 64 [AV.rptr [.int .i64, .int .i64] t1 0]), (7, AV.int .i64 t7), (8, AV.int .i64 (IntKind.i64.wrap (t8 + 1)))], []⟩)
  else none)
  else k (.exit 0) ⟨[], []⟩) := by kernel_rfl
theorem st63_0 (t0 : List AV) (t1 : AV) (t7 : Int) (ce : CallE) (k : Kont) (s : Int) (next : St → Option AV) : stepA (codeA c63 ce [] 63 0 (sub [1, 0, 1, 0, 0] (body Try.f63))) (normA [] [0, 1, 7, 8]) next ((fun s : Int => ⟨[(0, AV.sl [.int .i64, .int .i64] t0), (1, AV.fn 64 [AV.rptr [.int .i64, .int .i64] t1 0]), (7, AV.int .i64 t7), (8, AV.int .i64 s)], []⟩) s) k = (R63_0 t0 t1 t7 s).el none (fun s => next ((fun s : Int => ⟨[(0, AV.sl [.int .i64, .int .i64] t0), (1, AV.fn 64 [AV.rptr [.int .i64, .int .i64] t1 0]), (7, AV.int .i64 t7), (8, AV.int .i64 s)], []⟩) s)) (sumE (fun _ : Unit => k (.exit 0) ⟨[], []⟩) (fun p : Int => k .ret ⟨[(4, AV.int .i64 p)], []⟩)) := (s63_0 ce t0 t1 t7 s next k).trans (by unfold R63_0; unfold F63_0; simp only [el_cond, el_ro, el_sum, el_fail, el_next, el_stop] <;> rfl)
theorem ok63_0 {ce : CallE} : LoopOK c63 ce [] 63 0 (sub [1, 0, 1, 0, 0] (body Try.f63)) := by
  intro m hm st k r h
  obtain rfl : l63_0 = m := Option.some.inj hm
  unfold l63_0 at h
  split at h
  · rename_i g0 t0 g1 g2 t1 g3 t7 t8
    obtain ⟨hg, h⟩ := bif_some h
    simp only [Bool.and_eq_true] at hg
    obtain ⟨⟨⟨q0, q1⟩, q2⟩, q3⟩ := hg
    obtain rfl := ctsEq_eq _ _ q0
    obtain rfl := Nat.eq_of_beq_eq_true q1
    obtain rfl := ctsEq_eq _ _ q2
    obtain rfl := Nat.eq_of_beq_eq_true q3
    refine ⟨((t7 - t8).toNat + 1), ?_⟩
    rw [← h]
    exact loop_run (fun s : Int => ⟨[(0, AV.sl [.int .i64, .int .i64] t0), (1, AV.fn 64 [AV.rptr [.int .i64, .int .i64] t1 0]), (7, AV.int .i64 t7), (8, AV.int .i64 s)], []⟩) (sumE (fun _ : Unit => k (.exit 0) ⟨[], []⟩) (fun p : Int => k .ret ⟨[(4, AV.int .i64 p)], []⟩)) (st63_0 t0 t1 t7 ce k) _ t8
  · cases h
def q63 (a0 : List AV) (a1 : AV) : Bool := (ro (runW (R63_0 a0 a1 (a0.length : Int)) (((a0.length : Int) - 0).toNat + 1) 0) false (sumE (fun _ => true) (fun p46 => true)))
def v63_0 (a0 : List AV) (a1 : AV) : Int := (ro (runW (R63_0 a0 a1 (a0.length : Int)) (((a0.length : Int) - 0).toNat + 1) 0) 0 (sumE (fun _ => (-1)) (fun p46 => p46)))
theorem e63 (a0 : List AV) (a1 : AV) : funA c63 0 63 [AV.sl [.int .i64, .int .i64] a0, AV.fn 64 [AV.rptr [.int .i64, .int .i64] a1 0]] = (ro (runW (R63_0 a0 a1 (a0.length : Int)) (((a0.length : Int) - 0).toNat + 1) 0) none (sumE (fun _ => some (AV.int .i64 (-1))) (fun p46 => some (AV.int .i64 p46)))) := by kernel_rfl
theorem r63 (a0 : List AV) (a1 : AV) (h : q63 a0 a1 = true) : funA c63 0 63 [AV.sl [.int .i64, .int .i64] a0, AV.fn 64 [AV.rptr [.int .i64, .int .i64] a1 0]] = some (AV.int .i64 (v63_0 a0 a1)) := (e63 a0 a1).trans ((brO (fun o : Option (Unit ⊕ Int) => some (AV.int .i64 (ro o 0 (sumE (fun _ => (-1)) (fun p46 => p46))))) (brS (fun o : Unit ⊕ Int => some (AV.int .i64 ((sumE (fun _ => (-1)) (fun p46 => p46)) o))) (fun _ => (fun _ => rfl)) (fun p46 => (fun _ => rfl)))) h)
def m63 : TModel
  | [.sl g0 a0, .fn g1 [.rptr g2 a1 g3]] => bif ctsEq g0 ([.int .i64, .int .i64]) && Nat.beq g1 64 && ctsEq g2 ([.int .i64, .int .i64]) && Nat.beq g3 0 then some (q63 a0 a1, AV.int .i64 (v63_0 a0 a1)) else none
  | _ => none
theorem k63 : Known Try.prog 63 := ⟨Try.f63, Try.func63, by kernel_rfl, by kernel_rfl⟩
theorem meets63 : Meets Try.prog 63 m63 := by
  refine meet (f := Try.f63) (l := [(0, sub [1, 0, 1, 0, 0] (body Try.f63))]) (hs := [(63, 0, [0, 1, 7, 8]), (63, 999, [4]), (63, 1000, []), (63, 1001, [0, 1, 7, 8])]) (ts := [(64, m64)]) (ws := []) (is := []) (ls := [(63, 0, l63_0)]) (lvl := 0) mixed k63 Try.func63 (by kernel_rfl) (loops_cons ok63_0 noLoop) (allT_cons meets64 allT_nil) allM_nil noI fun w xs us r hl hv h => ?_
  unfold m63 at h
  split at h
  · rename_i g0 a0 g1 g2 a1 g3
    obtain ⟨hg, h⟩ := bif_pair h
    simp only [Bool.and_eq_true] at hg
    obtain ⟨⟨⟨q0, q1⟩, q2⟩, q3⟩ := hg
    obtain rfl := ctsEq_eq _ _ q0
    obtain rfl := Nat.eq_of_beq_eq_true q1
    obtain rfl := ctsEq_eq _ _ q2
    obtain rfl := Nat.eq_of_beq_eq_true q3
    obtain ⟨h1, rfl⟩ := pair_inj h
    exact r63 a0 a1 h1
  · cases h

/-! ### 44 loop.example/g01984/impl.withPivot -/
noncomputable def c44 : Cfg := cfg Try.prog [(44, 999, [4]), (65, 999, [6])] [(40, m40), (63, m63)] [] [65] [] [(65, insA Try.prog 25)]
def q44 (xa : List AV) (xb : List AV) (xc : List AV) (ya : Int) (yb : Int) : Bool := (q40 xa xb xc && (q63 (v40_2 xa xb xc) (AV.agg [AV.int .i64 ya, AV.int .i64 yb]) && (bif decide ((v63_0 (v40_2 xa xb xc) (AV.agg [AV.int .i64 ya, AV.int .i64 yb])) < 0) then (decide (0 ≤ ((v40_2 xa xb xc).length : Int)) && decide (((v40_2 xa xb xc).length : Int) ≤ ((v40_2 xa xb xc).length : Int)) && decide (((v40_2 xa xb xc).length + 1) * 16 ≤ 140737488355328)) else (decide (0 ≤ (v63_0 (v40_2 xa xb xc) (AV.agg [AV.int .i64 ya, AV.int .i64 yb]))) && decide ((v63_0 (v40_2 xa xb xc) (AV.agg [AV.int .i64 ya, AV.int .i64 yb])) ≤ ((v40_2 xa xb xc).length : Int)) && decide (((v40_2 xa xb xc).length + 1) * 16 ≤ 140737488355328)))))
def v44_0 (xa : List AV) (xb : List AV) (xc : List AV) (ya : Int) (yb : Int) : List AV := (v40_0 xa xb xc)
def v44_1 (xa : List AV) (xb : List AV) (xc : List AV) (ya : Int) (yb : Int) : List AV := (v40_1 xa xb xc)
def v44_2 (xa : List AV) (xb : List AV) (xc : List AV) (ya : Int) (yb : Int) : List AV := (bif decide ((v63_0 (v40_2 xa xb xc) (AV.agg [AV.int .i64 ya, AV.int .i64 yb])) < 0) then (v40_2 xa xb xc).take (Int.toNat ((v40_2 xa xb xc).length : Int)) ++ ([AV.agg [AV.int .i64 ya, AV.int .i64 yb]]) ++ (v40_2 xa xb xc).drop (Int.toNat ((v40_2 xa xb xc).length : Int)) else (v40_2 xa xb xc).take (Int.toNat (v63_0 (v40_2 xa xb xc) (AV.agg [AV.int .i64 ya, AV.int .i64 yb]))) ++ ([AV.agg [AV.int .i64 ya, AV.int .i64 yb]]) ++ (v40_2 xa xb xc).drop (Int.toNat (v63_0 (v40_2 xa xb xc) (AV.agg [AV.int .i64 ya, AV.int .i64 yb]))))
theorem e44 (xa : List AV) (xb : List AV) (xc : List AV) (ya : Int) (yb : Int) : funA c44 1 44 [AV.agg [AV.sl [.int .i64] xa, AV.sl [.int .i64] xb, AV.sl [.int .i64, .int .i64] xc], AV.agg [AV.int .i64 ya, AV.int .i64 yb]] = (bif q40 xa xb xc then (bif q63 (v40_2 xa xb xc) (AV.agg [AV.int .i64 ya, AV.int .i64 yb]) then (bif decide ((v63_0 (v40_2 xa xb xc) (AV.agg [AV.int .i64 ya, AV.int .i64 yb])) < 0) then (bif (decide (0 ≤ ((v40_2 xa xb xc).length : Int)) && decide (((v40_2 xa xb xc).length : Int) ≤ ((v40_2 xa xb xc).length : Int)) && decide (((v40_2 xa xb xc).length + 1) * 16 ≤ 140737488355328)) then some (AV.agg [AV.fl [.int .i64] (v40_0 xa xb xc), AV.fl [.int .i64] (v40_1 xa xb xc), AV.fl [.int .i64, .int .i64] ((v40_2 xa xb xc).take (Int.toNat ((v40_2 xa xb xc).length : Int)) ++ ([AV.agg [AV.int .i64 ya, AV.int .i64 yb]]) ++ (v40_2 xa xb xc).drop (Int.toNat ((v40_2 xa xb xc).length : Int)))])
  else none)
  else (bif (decide (0 ≤ (v63_0 (v40_2 xa xb xc) (AV.agg [AV.int .i64 ya, AV.int .i64 yb]))) && decide ((v63_0 (v40_2 xa xb xc) (AV.agg [AV.int .i64 ya, AV.int .i64 yb])) ≤ ((v40_2 xa xb xc).length : Int)) && decide (((v40_2 xa xb xc).length + 1) * 16 ≤ 140737488355328)) then some (AV.agg [AV.fl [.int .i64] (v40_0 xa xb xc), AV.fl [.int .i64] (v40_1 xa xb xc), AV.fl [.int .i64, .int .i64] ((v40_2 xa xb xc).take (Int.toNat (v63_0 (v40_2 xa xb xc) (AV.agg [AV.int .i64 ya, AV.int .i64 yb]))) ++ ([AV.agg [AV.int .i64 ya, AV.int .i64 yb]]) ++ (v40_2 xa xb xc).drop (Int.toNat (v63_0 (v40_2 xa xb xc) (AV.agg [AV.int .i64 ya, AV.int .i64 yb]))))])
  else none))
  else none)
  else none) := by kernel_rfl
theorem r44 (xa : List AV) (xb : List AV) (xc : List AV) (ya : Int) (yb : Int) (h : q44 xa xb xc ya yb = true) : funA c44 1 44 [AV.agg [AV.sl [.int .i64] xa, AV.sl [.int .i64] xb, AV.sl [.int .i64, .int .i64] xc], AV.agg [AV.int .i64 ya, AV.int .i64 yb]] = some (AV.agg [AV.fl [.int .i64] (v44_0 xa xb xc ya yb), AV.fl [.int .i64] (v44_1 xa xb xc ya yb), AV.fl [.int .i64, .int .i64] (v44_2 xa xb xc ya yb)]) := (e44 xa xb xc ya yb).trans ((brL (brL (br (fun b => some (AV.agg [AV.fl [.int .i64] (v40_0 xa xb xc), AV.fl [.int .i64] (v40_1 xa xb xc), AV.fl [.int .i64, .int .i64] (bif b then (v40_2 xa xb xc).take (Int.toNat ((v40_2 xa xb xc).length : Int)) ++ ([AV.agg [AV.int .i64 ya, AV.int .i64 yb]]) ++ (v40_2 xa xb xc).drop (Int.toNat ((v40_2 xa xb xc).length : Int)) else (v40_2 xa xb xc).take (Int.toNat (v63_0 (v40_2 xa xb xc) (AV.agg [AV.int .i64 ya, AV.int .i64 yb]))) ++ ([AV.agg [AV.int .i64 ya, AV.int .i64 yb]]) ++ (v40_2 xa xb xc).drop (Int.toNat (v63_0 (v40_2 xa xb xc) (AV.agg [AV.int .i64 ya, AV.int .i64 yb]))))])) (brL1 (fun _ => rfl)) (brL1 (fun _ => rfl))))) h)
def m44 : TModel
  | [.agg [.sl g0 xa, .sl g1 xb, .sl g2 xc], .agg [.int .i64 ya, .int .i64 yb]] => bif ctsEq g0 ([.int .i64]) && ctsEq g1 ([.int .i64]) && ctsEq g2 ([.int .i64, .int .i64]) then some (q44 xa xb xc ya yb, AV.agg [AV.fl [.int .i64] (v44_0 xa xb xc ya yb), AV.fl [.int .i64] (v44_1 xa xb xc ya yb), AV.fl [.int .i64, .int .i64] (v44_2 xa xb xc ya yb)]) else none
  | _ => none
theorem k44 : Known Try.prog 44 := ⟨Try.f44, Try.func44, by kernel_rfl, by kernel_rfl⟩
theorem i44_65 : InlK Try.prog [(44, 999, [4]), (65, 999, [6])] [(40, m40), (63, m63)] [] [65] [] 65 [(65, insA Try.prog 25)] := ⟨⟨Try.f65, Try.func65, by kernel_rfl, by kernel_rfl⟩, Try.f65, [], Try.func65, by kernel_rfl, fun _ _ => noLoop⟩
theorem meets44 : Meets Try.prog 44 m44 := by
  refine meet (f := Try.f44) (l := []) (hs := [(44, 999, [4]), (65, 999, [6])]) (ts := [(40, m40), (63, m63)]) (ws := []) (is := [65]) (ls := []) (sp := [(65, insA Try.prog 25)]) (hS := (allS_cons ins65 allS_nil)) (lvl := 1) mixed k44 Try.func44 (by kernel_rfl) noLoop (allT_cons meets40 (allT_cons meets63 allT_nil)) allM_nil (allI_cons i44_65 noI) fun w xs us r hl hv h => ?_
  unfold m44 at h
  split at h
  · rename_i g0 xa g1 xb g2 xc ya yb
    obtain ⟨hg, h⟩ := bif_pair h
    simp only [Bool.and_eq_true] at hg
    obtain ⟨⟨q0, q1⟩, q2⟩ := hg
    obtain rfl := ctsEq_eq _ _ q0
    obtain rfl := ctsEq_eq _ _ q1
    obtain rfl := ctsEq_eq _ _ q2
    obtain ⟨h1, rfl⟩ := pair_inj h
    exact r44 xa xb xc ya yb h1
  · cases h
end Go.Proofs.Ytmlhhemflhiinaa
