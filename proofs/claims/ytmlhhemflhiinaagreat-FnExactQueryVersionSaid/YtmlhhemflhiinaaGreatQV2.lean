/- The walk of what this claim reaches: printed by a program, each equation checked by the kernel. -/
import Derived.Test.YtmlhhemflhiinaaGreatQV1
import Derived.Test.YtmlhhemflhiinaaGreatProg
import Derived.KernelRfl
namespace Go.Proofs.YtmlhhemflhiinaaGreat
open Go Go.Proofs.VE
set_option linter.unusedVariables false
set_option linter.unusedSimpArgs false
set_option maxRecDepth 100000
set_option maxHeartbeats 4000000
/-! ### 92 loop.example/g01984/spec.SortInts -/
def F92_2 (t4 : Int) (t5 : Int) (h0 : List AV) : Out ((Int × (List AV))) (((List AV))) := (bif decide (t5 > 0) then (bif (decide (0 ≤ IntKind.i64.wrap (t5 - 1)) && decide (IntKind.i64.wrap (t5 - 1) < (h0.length : Int))) then (bif (decide (0 ≤ t5) && decide (t5 < (h0.length : Int))) then (bif decide (fI (h0.getD (IntKind.i64.wrap (t5 - 1)).toNat AV.undef) 0 > fI (h0.getD t5.toNat AV.undef) 0) then (bif q111 (IntKind.i64.wrap (t5 - 1)) t5 h0 then .next (IntKind.i64.wrap (t5 - 1), (v111_0 (IntKind.i64.wrap (t5 - 1)) t5 h0))
  else .fail)
  else .stop h0)
  else .fail)
  else .fail)
  else .stop h0)
def R92_2 (t4 : Int) : ((Int × (List AV))) → Out ((Int × (List AV))) (((List AV))) := fun s : Int × (List AV) => F92_2 t4 s.1 s.2
def l92_2 : LModel := fun _ _ st k => match st with
  | ⟨[(3, .own g0), (4, .int .i64 t4), (5, .int .i64 t5)], [(g1, ⟨false, g2, h0⟩)]⟩ => bif nmEq g0 ([0, 3]) && nmEq g1 ([0, 3]) && ctsEq g2 ([.int .i64]) then ro (runW (R92_2 t4) ((t5 - 0).toNat + 1) (t5, h0)) none (fun p : (List AV) => k (.exit 2) ⟨[(3, AV.own [0, 3]), (4, AV.int .i64 t4)], [([0, 3], ⟨false, [.int .i64], p⟩)]⟩) else none
  | _ => none
def F92_0 (t4 : Int) (h0 : List AV) : Out ((Int × (List AV))) (((List AV))) := (bif decide (t4 < (h0.length : Int)) then (ro (runW (R92_2 t4) ((t4 - 0).toNat + 1) (t4, h0)) .fail (fun p29 => .next (IntKind.i64.wrap (t4 + 1), p29)))
  else .stop h0)
def R92_0 : ((Int × (List AV))) → Out ((Int × (List AV))) (((List AV))) := fun s : Int × (List AV) => F92_0 s.1 s.2
def l92_0 : LModel := fun _ _ st k => match st with
  | ⟨[(3, .own g0), (4, .int .i64 t4)], [(g1, ⟨false, g2, h0⟩)]⟩ => bif nmEq g0 ([0, 3]) && nmEq g1 ([0, 3]) && ctsEq g2 ([.int .i64]) then ro (runW (R92_0) (((h0.length : Int) - t4).toNat + 1) (t4, h0)) none (fun p : (List AV) => k (.exit 0) ⟨[(3, AV.own [0, 3])], [([0, 3], ⟨false, [.int .i64], p⟩)]⟩) else none
  | _ => none
noncomputable def c92 : Cfg := cfg Tryz.prog [(92, 0, [3, 4]), (92, 2, [3, 4, 5]), (92, 999, [2]), (92, 1000, [3]), (92, 1001, [3, 4]), (92, 1002, [3, 4]), (92, 1003, [3, 4, 5])] [] [(111, m111)] [] [(92, 0, l92_0), (92, 2, l92_2)]
theorem s92_2 (ce : CallE) (t4 : Int) (t5 : Int) (h0 : List AV) (next : St → Option AV) (k : Kont) : stepA (codeA c92 ce [] 92 2 (sub [1, 1, 0, 1, 0, 0, 1, 0, 0, 1, 0, 0] (body Tryz.f92))) (normA [] [3, 4, 5]) next ⟨[(3, AV.own [0, 3]), (4, AV.int .i64 t4), (5, AV.int .i64 t5)], [([0, 3], ⟨false, [.int .i64], h0⟩)]⟩ k = (bif decide (t5 > 0) then (bif (decide (0 ≤ IntKind.i64.wrap (t5 - 1)) && decide (IntKind.i64.wrap (t5 - 1) < (h0.length : Int))) then (bif (decide (0 ≤ t5) && decide (t5 < (h0.length : Int))) then (bif decide (fI (h0.getD (IntKind.i64.wrap (t5 - 1)).toNat AV.undef) 0 > fI (h0.getD t5.toNat AV.undef) 0) then (bif q111 (IntKind.i64.wrap (t5 - 1)) t5 h0 then next ⟨[(3, AV.own [0, 3]), (4, AV.int .i64 t4), (5, AV.int .i64 (IntKind.i64.wrap (t5 - 1)))], [([0, 3], ⟨false, [.int .i64], (v111_0 (IntKind.i64.wrap (t5 - 1)) t5 h0)⟩)]⟩
  else none)
  else k (.exit 2) ⟨[(3, AV.own [0, 3]), (4, AV.int .i64 t4)], [([0, 3], ⟨false, [.int .i64], h0⟩)]⟩)
  else none)
  else none)
  else k (.exit 2) ⟨[(3, AV.own [0, 3]), (4, AV.int .i64 t4)], [([0, 3], ⟨false, [.int .i64], h0⟩)]⟩) := by kernel_rfl
theorem st92_2 (t4 : Int) (ce : CallE) (k : Kont) (s : (Int × (List AV))) (next : St → Option AV) : stepA (codeA c92 ce [] 92 2 (sub [1, 1, 0, 1, 0, 0, 1, 0, 0, 1, 0, 0] (body Tryz.f92))) (normA [] [3, 4, 5]) next ((fun s : Int × (List AV) => ⟨[(3, AV.own [0, 3]), (4, AV.int .i64 t4), (5, AV.int .i64 s.1)], [([0, 3], ⟨false, [.int .i64], s.2⟩)]⟩) s) k = (R92_2 t4 s).el none (fun s => next ((fun s : Int × (List AV) => ⟨[(3, AV.own [0, 3]), (4, AV.int .i64 t4), (5, AV.int .i64 s.1)], [([0, 3], ⟨false, [.int .i64], s.2⟩)]⟩) s)) (fun p : (List AV) => k (.exit 2) ⟨[(3, AV.own [0, 3]), (4, AV.int .i64 t4)], [([0, 3], ⟨false, [.int .i64], p⟩)]⟩) := (s92_2 ce t4 s.1 s.2 next k).trans (by unfold R92_2; unfold F92_2; simp only [el_cond, el_ro, el_sum, el_fail, el_next, el_stop] <;> rfl)
theorem ok92_2 {ce : CallE} : LoopOK c92 ce [] 92 2 (sub [1, 1, 0, 1, 0, 0, 1, 0, 0, 1, 0, 0] (body Tryz.f92)) := by
  intro m hm st k r h
  obtain rfl : l92_2 = m := Option.some.inj hm
  unfold l92_2 at h
  split at h
  · rename_i g0 t4 t5 g1 g2 h0
    obtain ⟨hg, h⟩ := bif_some h
    simp only [Bool.and_eq_true] at hg
    obtain ⟨⟨q0, q1⟩, q2⟩ := hg
    obtain rfl := (nmEq_iff _ _).1 q0
    obtain rfl := (nmEq_iff _ _).1 q1
    obtain rfl := ctsEq_eq _ _ q2
    refine ⟨((t5 - 0).toNat + 1), ?_⟩
    rw [← h]
    exact loop_run (fun s : Int × (List AV) => ⟨[(3, AV.own [0, 3]), (4, AV.int .i64 t4), (5, AV.int .i64 s.1)], [([0, 3], ⟨false, [.int .i64], s.2⟩)]⟩) (fun p : (List AV) => k (.exit 2) ⟨[(3, AV.own [0, 3]), (4, AV.int .i64 t4)], [([0, 3], ⟨false, [.int .i64], p⟩)]⟩) (st92_2 t4 ce k) _ (t5, h0)
  · cases h
theorem s92_0 (ce : CallE) (t4 : Int) (h0 : List AV) (next : St → Option AV) (k : Kont) : stepA (codeA c92 ce [] 92 0 (sub [1, 1, 0, 1, 0, 0] (body Tryz.f92))) (normA [] [3, 4]) next ⟨[(3, AV.own [0, 3]), (4, AV.int .i64 t4)], [([0, 3], ⟨false, [.int .i64], h0⟩)]⟩ k = (bif decide (t4 < (h0.length : Int)) then (ro (runW (R92_2 t4) ((t4 - 0).toNat + 1) (t4, h0)) none (fun p29 => next ⟨[(3, AV.own [0, 3]), (4, AV.int .i64 (IntKind.i64.wrap (t4 + 1)))], [([0, 3], ⟨false, [.int .i64], p29⟩)]⟩))
  else k (.exit 0) ⟨[(3, AV.own [0, 3])], [([0, 3], ⟨false, [.int .i64], h0⟩)]⟩) := by kernel_rfl
theorem st92_0 (ce : CallE) (k : Kont) (s : (Int × (List AV))) (next : St → Option AV) : stepA (codeA c92 ce [] 92 0 (sub [1, 1, 0, 1, 0, 0] (body Tryz.f92))) (normA [] [3, 4]) next ((fun s : Int × (List AV) => ⟨[(3, AV.own [0, 3]), (4, AV.int .i64 s.1)], [([0, 3], ⟨false, [.int .i64], s.2⟩)]⟩) s) k = (R92_0 s).el none (fun s => next ((fun s : Int × (List AV) => ⟨[(3, AV.own [0, 3]), (4, AV.int .i64 s.1)], [([0, 3], ⟨false, [.int .i64], s.2⟩)]⟩) s)) (fun p : (List AV) => k (.exit 0) ⟨[(3, AV.own [0, 3])], [([0, 3], ⟨false, [.int .i64], p⟩)]⟩) := (s92_0 ce s.1 s.2 next k).trans (by unfold R92_0; unfold F92_0; simp only [el_cond, el_ro, el_sum, el_fail, el_next, el_stop] <;> rfl)
theorem ok92_0 {ce : CallE} : LoopOK c92 ce [] 92 0 (sub [1, 1, 0, 1, 0, 0] (body Tryz.f92)) := by
  intro m hm st k r h
  obtain rfl : l92_0 = m := Option.some.inj hm
  unfold l92_0 at h
  split at h
  · rename_i g0 t4 g1 g2 h0
    obtain ⟨hg, h⟩ := bif_some h
    simp only [Bool.and_eq_true] at hg
    obtain ⟨⟨q0, q1⟩, q2⟩ := hg
    obtain rfl := (nmEq_iff _ _).1 q0
    obtain rfl := (nmEq_iff _ _).1 q1
    obtain rfl := ctsEq_eq _ _ q2
    refine ⟨(((h0.length : Int) - t4).toNat + 1), ?_⟩
    rw [← h]
    exact loop_run (fun s : Int × (List AV) => ⟨[(3, AV.own [0, 3]), (4, AV.int .i64 s.1)], [([0, 3], ⟨false, [.int .i64], s.2⟩)]⟩) (fun p : (List AV) => k (.exit 0) ⟨[(3, AV.own [0, 3])], [([0, 3], ⟨false, [.int .i64], p⟩)]⟩) (st92_0 ce k) _ (t4, h0)
  · cases h
def q92 (a0 : List AV) : Bool := ((decide ((([] : List AV).length + a0.length) * 8 ≤ 140737488355328) && decide ((([] : List AV).length + a0.length) ≤ 140737488355328)) && (ro (runW (R92_0) ((((([] : List AV) ++ a0).length : Int) - 1).toNat + 1) (1, ([] : List AV) ++ a0)) false (fun p30 => true)))
def v92_0 (a0 : List AV) : List AV := (ro (runW (R92_0) ((((([] : List AV) ++ a0).length : Int) - 1).toNat + 1) (1, ([] : List AV) ++ a0)) [] (fun p30 => p30))
theorem e92 (a0 : List AV) : funA c92 0 92 [AV.sl [.int .i64] a0] = (bif (decide ((([] : List AV).length + a0.length) * 8 ≤ 140737488355328) && decide ((([] : List AV).length + a0.length) ≤ 140737488355328)) then (ro (runW (R92_0) ((((([] : List AV) ++ a0).length : Int) - 1).toNat + 1) (1, ([] : List AV) ++ a0)) none (fun p30 => some (AV.fl [.int .i64] p30)))
  else none) := by kernel_rfl
theorem r92 (a0 : List AV) (h : q92 a0 = true) : funA c92 0 92 [AV.sl [.int .i64] a0] = some (AV.fl [.int .i64] (v92_0 a0)) := (e92 a0).trans ((brL (brO (fun o : Option (((List AV))) => some (AV.fl [.int .i64] (ro o [] (fun p30 => p30)))) (fun p30 => (fun _ => rfl)))) h)
def m92 : TModel
  | [.sl g0 a0] => bif ctsEq g0 ([.int .i64]) then some (q92 a0, AV.fl [.int .i64] (v92_0 a0)) else none
  | _ => none
theorem k92 : Known Tryz.prog 92 := ⟨Tryz.f92, Tryz.func92, by kernel_rfl, by kernel_rfl⟩
theorem meets92 : Meets Tryz.prog 92 m92 := by
  refine meet (f := Tryz.f92) (l := [(0, sub [1, 1, 0, 1, 0, 0] (body Tryz.f92)), (2, sub [1, 1, 0, 1, 0, 0, 1, 0, 0, 1, 0, 0] (body Tryz.f92))]) (hs := [(92, 0, [3, 4]), (92, 2, [3, 4, 5]), (92, 999, [2]), (92, 1000, [3]), (92, 1001, [3, 4]), (92, 1002, [3, 4]), (92, 1003, [3, 4, 5])]) (ts := []) (ws := [(111, m111)]) (is := []) (ls := [(92, 0, l92_0), (92, 2, l92_2)]) (lvl := 0) mixed k92 Tryz.func92 (by kernel_rfl) (loops_cons ok92_0 (loops_cons ok92_2 noLoop)) allT_nil (allM_cons meets111 allM_nil) noI fun w xs us r hl hv h => ?_
  unfold m92 at h
  split at h
  · rename_i g0 a0
    obtain ⟨hg, h⟩ := bif_pair h
    have q0 := hg
    obtain rfl := ctsEq_eq _ _ q0
    obtain ⟨h1, rfl⟩ := pair_inj h
    exact r92 a0 h1
  · cases h

/-! ### 68 loop.example/g01984/spec.RowsBetween -/
noncomputable def c68 : Cfg := cfg Tryz.prog [(68, 999, [6])] [(23, m23), (65, m65), (92, m92)] [] [] []
def q68 (a0_0 : List AV) (a0_1 : List AV) (a0_2 : List AV) (a1 : Int) (a2 : Int) : Bool := (q65 a0_0 a0_1 a0_2 && (bif !(v65_0 a0_0 a0_1 a0_2) then true else (bif !(v23_0 a1 0 a2) then true else (bif decide (a2 > (a0_1.length : Int)) then true else ((decide (0 ≤ a1) && decide (a1 ≤ a2) && decide (a2 ≤ (a0_1.length : Int))) && q92 ((a0_1.take (Int.toNat a2)).drop (Int.toNat a1)))))))
def v68_0 (a0_0 : List AV) (a0_1 : List AV) (a0_2 : List AV) (a1 : Int) (a2 : Int) : List AV := (bif !(v65_0 a0_0 a0_1 a0_2) then ([] : List AV) else (bif !(v23_0 a1 0 a2) then ([] : List AV) else (bif decide (a2 > (a0_1.length : Int)) then ([] : List AV) else (v92_0 ((a0_1.take (Int.toNat a2)).drop (Int.toNat a1))))))
theorem e68 (a0_0 : List AV) (a0_1 : List AV) (a0_2 : List AV) (a1 : Int) (a2 : Int) : funA c68 0 68 [AV.agg [AV.sl [.int .i64] a0_0, AV.sl [.int .i64] a0_1, AV.sl [.int .i64, .int .i64] a0_2], AV.int .i64 a1, AV.int .i64 a2] = (bif q65 a0_0 a0_1 a0_2 then (bif !(v65_0 a0_0 a0_1 a0_2) then some (AV.fl [.int .i64] ([] : List AV))
  else (bif !(v23_0 a1 0 a2) then some (AV.fl [.int .i64] ([] : List AV))
  else (bif decide (a2 > (a0_1.length : Int)) then some (AV.fl [.int .i64] ([] : List AV))
  else (bif (decide (0 ≤ a1) && decide (a1 ≤ a2) && decide (a2 ≤ (a0_1.length : Int))) then (bif q92 ((a0_1.take (Int.toNat a2)).drop (Int.toNat a1)) then some (AV.fl [.int .i64] (v92_0 ((a0_1.take (Int.toNat a2)).drop (Int.toNat a1))))
  else none)
  else none))))
  else none) := by kernel_rfl
theorem r68 (a0_0 : List AV) (a0_1 : List AV) (a0_2 : List AV) (a1 : Int) (a2 : Int) (h : q68 a0_0 a0_1 a0_2 a1 a2 = true) : funA c68 0 68 [AV.agg [AV.sl [.int .i64] a0_0, AV.sl [.int .i64] a0_1, AV.sl [.int .i64, .int .i64] a0_2], AV.int .i64 a1, AV.int .i64 a2] = some (AV.fl [.int .i64] (v68_0 a0_0 a0_1 a0_2 a1 a2)) := (e68 a0_0 a0_1 a0_2 a1 a2).trans ((brL (br (fun b => some (AV.fl [.int .i64] (bif b then ([] : List AV) else (bif !(v23_0 a1 0 a2) then ([] : List AV) else (bif decide (a2 > (a0_1.length : Int)) then ([] : List AV) else (v92_0 ((a0_1.take (Int.toNat a2)).drop (Int.toNat a1)))))))) (fun _ => rfl) (br (fun b => some (AV.fl [.int .i64] (bif b then ([] : List AV) else (bif decide (a2 > (a0_1.length : Int)) then ([] : List AV) else (v92_0 ((a0_1.take (Int.toNat a2)).drop (Int.toNat a1))))))) (fun _ => rfl) (br (fun b => some (AV.fl [.int .i64] (bif b then ([] : List AV) else (v92_0 ((a0_1.take (Int.toNat a2)).drop (Int.toNat a1)))))) (fun _ => rfl) (brL (brL1 (fun _ => rfl))))))) h)
def m68 : TModel
  | [.agg [.sl g0 a0_0, .sl g1 a0_1, .sl g2 a0_2], .int .i64 a1, .int .i64 a2] => bif ctsEq g0 ([.int .i64]) && ctsEq g1 ([.int .i64]) && ctsEq g2 ([.int .i64, .int .i64]) then some (q68 a0_0 a0_1 a0_2 a1 a2, AV.fl [.int .i64] (v68_0 a0_0 a0_1 a0_2 a1 a2)) else none
  | _ => none
theorem k68 : Known Tryz.prog 68 := ⟨Tryz.f68, Tryz.func68, by kernel_rfl, by kernel_rfl⟩
theorem meets68 : Meets Tryz.prog 68 m68 := by
  refine meet (f := Tryz.f68) (l := []) (hs := [(68, 999, [6])]) (ts := [(23, m23), (65, m65), (92, m92)]) (ws := []) (is := []) (ls := []) (lvl := 0) mixed k68 Tryz.func68 (by kernel_rfl) noLoop (allT_cons meets23 (allT_cons meets65 (allT_cons meets92 allT_nil))) allM_nil noI fun w xs us r hl hv h => ?_
  unfold m68 at h
  split at h
  · rename_i g0 a0_0 g1 a0_1 g2 a0_2 a1 a2
    obtain ⟨hg, h⟩ := bif_pair h
    simp only [Bool.and_eq_true] at hg
    obtain ⟨⟨q0, q1⟩, q2⟩ := hg
    obtain rfl := ctsEq_eq _ _ q0
    obtain rfl := ctsEq_eq _ _ q1
    obtain rfl := ctsEq_eq _ _ q2
    obtain ⟨h1, rfl⟩ := pair_inj h
    exact r68 a0_0 a0_1 a0_2 a1 a2 h1
  · cases h

/-! ### 35 loop.example/g01984/spec.AnswerRange -/
noncomputable def c35 : Cfg := cfg Tryz.prog [(35, 999, [4, 5])] [(67, m67), (68, m68)] [] [] []
def q35 (a0_0 : List AV) (a0_1 : List AV) (a0_2 : List AV) (a1_0 : Int) (a1_1 : Int) : Bool := (q67 a0_0 a0_1 a0_2 a1_0 a1_1 && q68 (v67_0 a0_0 a0_1 a0_2 a1_0 a1_1) (v67_1 a0_0 a0_1 a0_2 a1_0 a1_1) (v67_2 a0_0 a0_1 a0_2 a1_0 a1_1) (v67_3 a0_0 a0_1 a0_2 a1_0 a1_1) (v67_4 a0_0 a0_1 a0_2 a1_0 a1_1))
def v35_0 (a0_0 : List AV) (a0_1 : List AV) (a0_2 : List AV) (a1_0 : Int) (a1_1 : Int) : List AV := (v67_0 a0_0 a0_1 a0_2 a1_0 a1_1)
def v35_1 (a0_0 : List AV) (a0_1 : List AV) (a0_2 : List AV) (a1_0 : Int) (a1_1 : Int) : List AV := (v67_1 a0_0 a0_1 a0_2 a1_0 a1_1)
def v35_2 (a0_0 : List AV) (a0_1 : List AV) (a0_2 : List AV) (a1_0 : Int) (a1_1 : Int) : List AV := (v67_2 a0_0 a0_1 a0_2 a1_0 a1_1)
def v35_3 (a0_0 : List AV) (a0_1 : List AV) (a0_2 : List AV) (a1_0 : Int) (a1_1 : Int) : List AV := (v68_0 (v67_0 a0_0 a0_1 a0_2 a1_0 a1_1) (v67_1 a0_0 a0_1 a0_2 a1_0 a1_1) (v67_2 a0_0 a0_1 a0_2 a1_0 a1_1) (v67_3 a0_0 a0_1 a0_2 a1_0 a1_1) (v67_4 a0_0 a0_1 a0_2 a1_0 a1_1))
theorem e35 (a0_0 : List AV) (a0_1 : List AV) (a0_2 : List AV) (a1_0 : Int) (a1_1 : Int) : funA c35 0 35 [AV.agg [AV.sl [.int .i64] a0_0, AV.sl [.int .i64] a0_1, AV.sl [.int .i64, .int .i64] a0_2], AV.agg [AV.int .i64 a1_0, AV.int .i64 a1_1]] = (bif q67 a0_0 a0_1 a0_2 a1_0 a1_1 then (bif q68 (v67_0 a0_0 a0_1 a0_2 a1_0 a1_1) (v67_1 a0_0 a0_1 a0_2 a1_0 a1_1) (v67_2 a0_0 a0_1 a0_2 a1_0 a1_1) (v67_3 a0_0 a0_1 a0_2 a1_0 a1_1) (v67_4 a0_0 a0_1 a0_2 a1_0 a1_1) then some (AV.tup [AV.agg [AV.fl [.int .i64] (v67_0 a0_0 a0_1 a0_2 a1_0 a1_1), AV.fl [.int .i64] (v67_1 a0_0 a0_1 a0_2 a1_0 a1_1), AV.fl [.int .i64, .int .i64] (v67_2 a0_0 a0_1 a0_2 a1_0 a1_1)], AV.fl [.int .i64] (v68_0 (v67_0 a0_0 a0_1 a0_2 a1_0 a1_1) (v67_1 a0_0 a0_1 a0_2 a1_0 a1_1) (v67_2 a0_0 a0_1 a0_2 a1_0 a1_1) (v67_3 a0_0 a0_1 a0_2 a1_0 a1_1) (v67_4 a0_0 a0_1 a0_2 a1_0 a1_1))])
  else none)
  else none) := by kernel_rfl
theorem r35 (a0_0 : List AV) (a0_1 : List AV) (a0_2 : List AV) (a1_0 : Int) (a1_1 : Int) (h : q35 a0_0 a0_1 a0_2 a1_0 a1_1 = true) : funA c35 0 35 [AV.agg [AV.sl [.int .i64] a0_0, AV.sl [.int .i64] a0_1, AV.sl [.int .i64, .int .i64] a0_2], AV.agg [AV.int .i64 a1_0, AV.int .i64 a1_1]] = some (AV.tup [AV.agg [AV.fl [.int .i64] (v35_0 a0_0 a0_1 a0_2 a1_0 a1_1), AV.fl [.int .i64] (v35_1 a0_0 a0_1 a0_2 a1_0 a1_1), AV.fl [.int .i64, .int .i64] (v35_2 a0_0 a0_1 a0_2 a1_0 a1_1)], AV.fl [.int .i64] (v35_3 a0_0 a0_1 a0_2 a1_0 a1_1)]) := (e35 a0_0 a0_1 a0_2 a1_0 a1_1).trans ((brL (brL1 (fun _ => rfl))) h)
def m35 : TModel
  | [.agg [.sl g0 a0_0, .sl g1 a0_1, .sl g2 a0_2], .agg [.int .i64 a1_0, .int .i64 a1_1]] => bif ctsEq g0 ([.int .i64]) && ctsEq g1 ([.int .i64]) && ctsEq g2 ([.int .i64, .int .i64]) then some (q35 a0_0 a0_1 a0_2 a1_0 a1_1, AV.tup [AV.agg [AV.fl [.int .i64] (v35_0 a0_0 a0_1 a0_2 a1_0 a1_1), AV.fl [.int .i64] (v35_1 a0_0 a0_1 a0_2 a1_0 a1_1), AV.fl [.int .i64, .int .i64] (v35_2 a0_0 a0_1 a0_2 a1_0 a1_1)], AV.fl [.int .i64] (v35_3 a0_0 a0_1 a0_2 a1_0 a1_1)]) else none
  | _ => none
theorem k35 : Known Tryz.prog 35 := ⟨Tryz.f35, Tryz.func35, by kernel_rfl, by kernel_rfl⟩
theorem meets35 : Meets Tryz.prog 35 m35 := by
  refine meet (f := Tryz.f35) (l := []) (hs := [(35, 999, [4, 5])]) (ts := [(67, m67), (68, m68)]) (ws := []) (is := []) (ls := []) (lvl := 0) mixed k35 Tryz.func35 (by kernel_rfl) noLoop (allT_cons meets67 (allT_cons meets68 allT_nil)) allM_nil noI fun w xs us r hl hv h => ?_
  unfold m35 at h
  split at h
  · rename_i g0 a0_0 g1 a0_1 g2 a0_2 a1_0 a1_1
    obtain ⟨hg, h⟩ := bif_pair h
    simp only [Bool.and_eq_true] at hg
    obtain ⟨⟨q0, q1⟩, q2⟩ := hg
    obtain rfl := ctsEq_eq _ _ q0
    obtain rfl := ctsEq_eq _ _ q1
    obtain rfl := ctsEq_eq _ _ q2
    obtain ⟨h1, rfl⟩ := pair_inj h
    exact r35 a0_0 a0_1 a0_2 a1_0 a1_1 h1
  · cases h

/-! ### 37 loop.example/g01984/spec.LivesAt -/
noncomputable def c37 : Cfg := cfg Tryz.prog [(37, 999, [4])] [] [] [] []
def q37 (a0_0 : Int) (a0_1 : Int) (a0_2 : Int) (a0_3 : Int) (a1 : Int) : Bool := true
def v37_0 (a0_0 : Int) (a0_1 : Int) (a0_2 : Int) (a0_3 : Int) (a1 : Int) : Bool := (bif decide (a0_2 ≤ a1) then (bif decide (a0_3 = (-1)) then true else decide (a1 < a0_3)) else false)
theorem e37 (a0_0 : Int) (a0_1 : Int) (a0_2 : Int) (a0_3 : Int) (a1 : Int) : funA c37 0 37 [AV.agg [AV.int .i64 a0_0, AV.int .i64 a0_1, AV.int .i64 a0_2, AV.int .i64 a0_3], AV.int .i64 a1] = (bif decide (a0_2 ≤ a1) then (bif decide (a0_3 = (-1)) then some (AV.bool true)
  else some (AV.bool (decide (a1 < a0_3))))
  else some (AV.bool false)) := by kernel_rfl
theorem r37 (a0_0 : Int) (a0_1 : Int) (a0_2 : Int) (a0_3 : Int) (a1 : Int) : funA c37 0 37 [AV.agg [AV.int .i64 a0_0, AV.int .i64 a0_1, AV.int .i64 a0_2, AV.int .i64 a0_3], AV.int .i64 a1] = some (AV.bool (v37_0 a0_0 a0_1 a0_2 a0_3 a1)) := (e37 a0_0 a0_1 a0_2 a0_3 a1).trans (of_tt (brT (fun b => some (AV.bool (bif b then (bif decide (a0_3 = (-1)) then true else decide (a1 < a0_3)) else false))) (brT (fun b => some (AV.bool (bif b then true else decide (a1 < a0_3)))) (fun _ => rfl) (fun _ => rfl)) (fun _ => rfl)))
def m37 : TModel
  | [.agg [.int .i64 a0_0, .int .i64 a0_1, .int .i64 a0_2, .int .i64 a0_3], .int .i64 a1] => some (true, AV.bool (v37_0 a0_0 a0_1 a0_2 a0_3 a1))
  | _ => none
theorem k37 : Known Tryz.prog 37 := ⟨Tryz.f37, Tryz.func37, by kernel_rfl, by kernel_rfl⟩
theorem meets37 : Meets Tryz.prog 37 m37 := by
  refine meet (f := Tryz.f37) (l := []) (hs := [(37, 999, [4])]) (ts := []) (ws := []) (is := []) (ls := []) (lvl := 0) mixed k37 Tryz.func37 (by kernel_rfl) noLoop allT_nil allM_nil noI fun w xs us r hl hv h => ?_
  unfold m37 at h
  split at h
  · rename_i a0_0 a0_1 a0_2 a0_3 a1
    obtain ⟨h1, rfl⟩ := pair_inj h
    exact r37 a0_0 a0_1 a0_2 a0_3 a1
  · cases h

/-! ### 13 loop.example/g01984/spec.QueryVersion -/
def F13_0 (t1 : Int) (h0 : List AV) (h1 : List AV) (h2_0 : List AV) (h2_1 : Int) (h2_2 : List AV) (h2_3 : List AV) (h2_4 : List AV) (h3 : List AV) (h4 : List AV) (h5 : Int) (h6 : Int) (h7 : List AV) (t13 : Int) (h8 : List AV) : Out ((Int × (List AV))) (((List AV))) := (bif decide (t13 < (h2_0.length : Int)) then (bif (decide (0 ≤ t13) && decide (t13 < (h2_0.length : Int))) then (bif q36 h7 (fI (h2_0.getD t13.toNat AV.undef) 1) then (bif (v36_0 h7 (fI (h2_0.getD t13.toNat AV.undef) 1)) then (bif (decide (0 ≤ t13) && decide (t13 < (h2_0.length : Int))) then (bif (v37_0 (fI (h2_0.getD t13.toNat AV.undef) 0) (fI (h2_0.getD t13.toNat AV.undef) 1) (fI (h2_0.getD t13.toNat AV.undef) 2) (fI (h2_0.getD t13.toNat AV.undef) 3) t1) then (bif (decide (0 ≤ t13) && decide (t13 < (h2_0.length : Int))) then (bif (decide ((h8.length + ([AV.int .i64 (fI (h2_0.getD t13.toNat AV.undef) 1)]).length) * 8 ≤ 140737488355328) && decide ((h8.length + ([AV.int .i64 (fI (h2_0.getD t13.toNat AV.undef) 1)]).length) ≤ 140737488355328)) then .next (IntKind.i64.wrap (t13 + 1), h8 ++ ([AV.int .i64 (fI (h2_0.getD t13.toNat AV.undef) 1)]))
  else .fail)
  else .fail)
  else .next (IntKind.i64.wrap (t13 + 1), h8))
  else .fail)
  else .next (IntKind.i64.wrap (t13 + 1), h8))
  else .fail)
  else .fail)
  else .stop h8)
def R13_0 (t1 : Int) (h0 : List AV) (h1 : List AV) (h2_0 : List AV) (h2_1 : Int) (h2_2 : List AV) (h2_3 : List AV) (h2_4 : List AV) (h3 : List AV) (h4 : List AV) (h5 : Int) (h6 : Int) (h7 : List AV) : ((Int × (List AV))) → Out ((Int × (List AV))) (((List AV))) := fun s : Int × (List AV) => F13_0 t1 h0 h1 h2_0 h2_1 h2_2 h2_3 h2_4 h3 h4 h5 h6 h7 s.1 s.2
def l13_0 : LModel := fun _ _ st k => match st with
  | ⟨[(1, .int .i64 t1), (3, .ptr g0 g1 g2), (6, .ptr g3 g4 g5), (9, .ptr g6 g7 g8), (11, .own g9), (12, .own g10), (13, .int .i64 t13)], [(g11, ⟨false, g12, h0⟩), (g13, ⟨false, g14, h1⟩), (g15, ⟨true, [], [.agg [.sl g16 h2_0, .int .i64 h2_1, .sl g17 h2_2, .sl g18 h2_3, .sl g19 h2_4]]⟩), (g20, ⟨false, g21, h3⟩), (g22, ⟨false, g23, h4⟩), (g24, ⟨true, [], [.agg [.snil, .int .i64 h5, .snil, .snil, .snil]]⟩), (g25, ⟨true, [], [.agg [.own g26, .int .i64 h6, .own g27, .own g28, .own g29]]⟩), (g30, ⟨false, g31, h7⟩), (g32, ⟨false, g33, h8⟩)]⟩ => bif nmEq g0 ([0, 3]) && Nat.beq g1 0 && Nat.beq g2 0 && nmEq g3 ([0, 6]) && Nat.beq g4 0 && Nat.beq g5 0 && nmEq g6 ([0, 9]) && Nat.beq g7 0 && Nat.beq g8 0 && nmEq g9 ([0, 11]) && nmEq g10 ([0, 12]) && nmEq g11 ([0, 0, 9]) && ctsEq g12 ([.int .i64, .int .i64, .int .i64, .int .i64]) && nmEq g13 ([0, 2, 9]) && ctsEq g14 ([.int .i64]) && nmEq g15 ([0, 3]) && ctsEq g16 ([.int .i64, .int .i64, .int .i64, .int .i64]) && ctsEq g17 ([.int .i64]) && ctsEq g18 ([.int .i64]) && ctsEq g19 ([.int .i64, .int .i64]) && nmEq g20 ([0, 3, 9]) && ctsEq g21 ([.int .i64]) && nmEq g22 ([0, 4, 9]) && ctsEq g23 ([.int .i64, .int .i64]) && nmEq g24 ([0, 6]) && nmEq g25 ([0, 9]) && nmEq g26 ([0, 0, 9]) && nmEq g27 ([0, 2, 9]) && nmEq g28 ([0, 3, 9]) && nmEq g29 ([0, 4, 9]) && nmEq g30 ([0, 11]) && ctsEq g31 ([.int .i64]) && nmEq g32 ([0, 12]) && ctsEq g33 ([.int .i64]) then ro (runW (R13_0 t1 h0 h1 h2_0 h2_1 h2_2 h2_3 h2_4 h3 h4 h5 h6 h7) (((h2_0.length : Int) - t13).toNat + 1) (t13, h8)) none (fun p : (List AV) => k (.exit 0) ⟨[(6, AV.ptr [0, 6] 0 0), (9, AV.ptr [0, 9] 0 0), (12, AV.own [0, 12])], [([0, 0, 9], ⟨false, [.int .i64, .int .i64, .int .i64, .int .i64], h0⟩), ([0, 2, 9], ⟨false, [.int .i64], h1⟩), ([0, 3], ⟨true, [], [AV.agg [AV.sl [.int .i64, .int .i64, .int .i64, .int .i64] h2_0, AV.int .i64 h2_1, AV.sl [.int .i64] h2_2, AV.sl [.int .i64] h2_3, AV.sl [.int .i64, .int .i64] h2_4]]⟩), ([0, 3, 9], ⟨false, [.int .i64], h3⟩), ([0, 4, 9], ⟨false, [.int .i64, .int .i64], h4⟩), ([0, 6], ⟨true, [], [AV.agg [AV.snil, AV.int .i64 h5, AV.snil, AV.snil, AV.snil]]⟩), ([0, 9], ⟨true, [], [AV.agg [AV.own [0, 0, 9], AV.int .i64 h6, AV.own [0, 2, 9], AV.own [0, 3, 9], AV.own [0, 4, 9]]]⟩), ([0, 11], ⟨false, [.int .i64], h7⟩), ([0, 12], ⟨false, [.int .i64], p⟩)]⟩) else none
  | _ => none
noncomputable def c13 : Cfg := cfg Tryz.prog [(13, 0, [1, 3, 6, 9, 11, 12, 13]), (13, 999, [6, 7, 8]), (13, 1000, [6, 9, 12]), (13, 1001, [1, 3, 6, 9, 11, 12, 13])] [(23, m23), (32, m32), (33, m33), (34, m34), (35, m35), (36, m36), (37, m37)] [] [] [(13, 0, l13_0)]
theorem s13_0 (ce : CallE) (t1 : Int) (t13 : Int) (h0 : List AV) (h1 : List AV) (h2_0 : List AV) (h2_1 : Int) (h2_2 : List AV) (h2_3 : List AV) (h2_4 : List AV) (h3 : List AV) (h4 : List AV) (h5 : Int) (h6 : Int) (h7 : List AV) (h8 : List AV) (next : St → Option AV) (k : Kont) : stepA (codeA c13 ce [] 13 0 (sub [1, 1, 1, 1, 1, 1, 0, 1, 0, 0] (body Tryz.f13))) (normA [] [1, 3, 6, 9, 11, 12, 13]) next ⟨[(1, AV.int .i64 t1), (3, AV.ptr [0, 3] 0 0), (6, AV.ptr [0, 6] 0 0), (9, AV.ptr [0, 9] 0 0), (11, AV.own [0, 11]), (12, AV.own [0, 12]), (13, AV.int .i64 t13)], [([0, 0, 9], ⟨false, [.int .i64, .int .i64, .int .i64, .int .i64], h0⟩), ([0, 2, 9], ⟨false, [.int .i64], h1⟩), ([0, 3], ⟨true, [], [AV.agg [AV.sl [.int .i64, .int .i64, .int .i64, .int .i64] h2_0, AV.int .i64 h2_1, AV.sl [.int .i64] h2_2, AV.sl [.int .i64] h2_3, AV.sl [.int .i64, .int .i64] h2_4]]⟩), ([0, 3, 9], ⟨false, [.int .i64], h3⟩), ([0, 4, 9], ⟨false, [.int .i64, .int .i64], h4⟩), ([0, 6], ⟨true, [], [AV.agg [AV.snil, AV.int .i64 h5, AV.snil, AV.snil, AV.snil]]⟩), ([0, 9], ⟨true, [], [AV.agg [AV.own [0, 0, 9], AV.int .i64 h6, AV.own [0, 2, 9], AV.own [0, 3, 9], AV.own [0, 4, 9]]]⟩), ([0, 11], ⟨false, [.int .i64], h7⟩), ([0, 12], ⟨false, [.int .i64], h8⟩)]⟩ k = (bif decide (t13 < (h2_0.length : Int)) then (bif (decide (0 ≤ t13) && decide (t13 < (h2_0.length : Int))) then (bif q36 h7 (fI (h2_0.getD t13.toNat AV.undef) 1) then (bif (v36_0 h7 (fI (h2_0.getD t13.toNat AV.undef) 1)) then (bif (decide (0 ≤ t13) && decide (t13 < (h2_0.length : Int))) then (bif (v37_0 (fI (h2_0.getD t13.toNat AV.undef) 0) (fI (h2_0.getD t13.toNat AV.undef) 1) (fI (h2_0.getD t13.toNat AV.undef) 2) (fI (h2_0.getD t13.toNat AV.undef) 3) t1) then (bif (decide (0 ≤ t13) && decide (t13 < (h2_0.length : Int))) then (bif (decide ((h8.length + ([AV.int .i64 (fI (h2_0.getD t13.toNat AV.undef) 1)]).length) * 8 ≤ 140737488355328) && decide ((h8.length + ([AV.int .i64 (fI (h2_0.getD t13.toNat AV.undef) 1)]).length) ≤ 140737488355328)) then next ⟨[(1, AV.int .i64 t1), (3, AV.ptr [0, 3] 0 0), (6, AV.ptr [0, 6] 0 0), (9, AV.ptr [0, 9] 0 0), (11, AV.own [0, 11]), (12, AV.own [0, 12]), (13, AV.int .i64 (IntKind.i64.wrap (t13 + 1)))], [([0, 0, 9], ⟨false, [.int .i64, .int .i64, .int .i64, .int .i64], h0⟩), ([0, 2, 9], ⟨false, [.int .i64], h1⟩), ([0, 3], ⟨true, [], [AV.agg [AV.sl [.int .i64, .int .i64, .int .i64, .int .i64] h2_0, AV.int .i64 h2_1, AV.sl [.int .i64] h2_2, AV.sl [.int .i64] h2_3, AV.sl [.int .i64, .int .i64] h2_4]]⟩), ([0, 3, 9], ⟨false, [.int .i64], h3⟩), ([0, 4, 9], ⟨false, [.int .i64, .int .i64], h4⟩), ([0, 6], ⟨true, [], [AV.agg [AV.snil, AV.int .i64 h5, AV.snil, AV.snil, AV.snil]]⟩), ([0, 9], ⟨true, [], [AV.agg [AV.own [0, 0, 9], AV.int .i64 h6, AV.own [0, 2, 9], AV.own [0, 3, 9], AV.own [0, 4, 9]]]⟩), ([0, 11], ⟨false, [.int .i64], h7⟩), ([0, 12], ⟨false, [.int .i64], h8 ++ ([AV.int .i64 (fI (h2_0.getD t13.toNat AV.undef) 1)])⟩)]⟩
  else none)
  else none)
  else next ⟨[(1, AV.int .i64 t1), (3, AV.ptr [0, 3] 0 0), (6, AV.ptr [0, 6] 0 0), (9, AV.ptr [0, 9] 0 0), (11, AV.own [0, 11]), (12, AV.own [0, 12]), (13, AV.int .i64 (IntKind.i64.wrap (t13 + 1)))], [([0, 0, 9], ⟨false, [.int .i64, .int .i64, .int .i64, .int .i64], h0⟩), ([0, 2, 9], ⟨false, [.int .i64], h1⟩), ([0, 3], ⟨true, [], [AV.agg [AV.sl [.int .i64, .int .i64, .int .i64, .int .i64] h2_0, AV.int .i64 h2_1, AV.sl [.int .i64] h2_2, AV.sl [.int .i64] h2_3, AV.sl [.int .i64, .int .i64] h2_4]]⟩), ([0, 3, 9], ⟨false, [.int .i64], h3⟩), ([0, 4, 9], ⟨false, [.int .i64, .int .i64], h4⟩), ([0, 6], ⟨true, [], [AV.agg [AV.snil, AV.int .i64 h5, AV.snil, AV.snil, AV.snil]]⟩), ([0, 9], ⟨true, [], [AV.agg [AV.own [0, 0, 9], AV.int .i64 h6, AV.own [0, 2, 9], AV.own [0, 3, 9], AV.own [0, 4, 9]]]⟩), ([0, 11], ⟨false, [.int .i64], h7⟩), ([0, 12], ⟨false, [.int .i64], h8⟩)]⟩)
  else none)
  else next ⟨[(1, AV.int .i64 t1), (3, AV.ptr [0, 3] 0 0), (6, AV.ptr [0, 6] 0 0), (9, AV.ptr [0, 9] 0 0), (11, AV.own [0, 11]), (12, AV.own [0, 12]), (13, AV.int .i64 (IntKind.i64.wrap (t13 + 1)))], [([0, 0, 9], ⟨false, [.int .i64, .int .i64, .int .i64, .int .i64], h0⟩), ([0, 2, 9], ⟨false, [.int .i64], h1⟩), ([0, 3], ⟨true, [], [AV.agg [AV.sl [.int .i64, .int .i64, .int .i64, .int .i64] h2_0, AV.int .i64 h2_1, AV.sl [.int .i64] h2_2, AV.sl [.int .i64] h2_3, AV.sl [.int .i64, .int .i64] h2_4]]⟩), ([0, 3, 9], ⟨false, [.int .i64], h3⟩), ([0, 4, 9], ⟨false, [.int .i64, .int .i64], h4⟩), ([0, 6], ⟨true, [], [AV.agg [AV.snil, AV.int .i64 h5, AV.snil, AV.snil, AV.snil]]⟩), ([0, 9], ⟨true, [], [AV.agg [AV.own [0, 0, 9], AV.int .i64 h6, AV.own [0, 2, 9], AV.own [0, 3, 9], AV.own [0, 4, 9]]]⟩), ([0, 11], ⟨false, [.int .i64], h7⟩), ([0, 12], ⟨false, [.int .i64], h8⟩)]⟩)
  else none)
  else none)
  else k (.exit 0) ⟨[(6, AV.ptr [0, 6] 0 0), (9, AV.ptr [0, 9] 0 0), (12, AV.own [0, 12])], [([0, 0, 9], ⟨false, [.int .i64, .int .i64, .int .i64, .int .i64], h0⟩), ([0, 2, 9], ⟨false, [.int .i64], h1⟩), ([0, 3], ⟨true, [], [AV.agg [AV.sl [.int .i64, .int .i64, .int .i64, .int .i64] h2_0, AV.int .i64 h2_1, AV.sl [.int .i64] h2_2, AV.sl [.int .i64] h2_3, AV.sl [.int .i64, .int .i64] h2_4]]⟩), ([0, 3, 9], ⟨false, [.int .i64], h3⟩), ([0, 4, 9], ⟨false, [.int .i64, .int .i64], h4⟩), ([0, 6], ⟨true, [], [AV.agg [AV.snil, AV.int .i64 h5, AV.snil, AV.snil, AV.snil]]⟩), ([0, 9], ⟨true, [], [AV.agg [AV.own [0, 0, 9], AV.int .i64 h6, AV.own [0, 2, 9], AV.own [0, 3, 9], AV.own [0, 4, 9]]]⟩), ([0, 11], ⟨false, [.int .i64], h7⟩), ([0, 12], ⟨false, [.int .i64], h8⟩)]⟩) := by kernel_rfl
theorem st13_0 (t1 : Int) (h0 : List AV) (h1 : List AV) (h2_0 : List AV) (h2_1 : Int) (h2_2 : List AV) (h2_3 : List AV) (h2_4 : List AV) (h3 : List AV) (h4 : List AV) (h5 : Int) (h6 : Int) (h7 : List AV) (ce : CallE) (k : Kont) (s : (Int × (List AV))) (next : St → Option AV) : stepA (codeA c13 ce [] 13 0 (sub [1, 1, 1, 1, 1, 1, 0, 1, 0, 0] (body Tryz.f13))) (normA [] [1, 3, 6, 9, 11, 12, 13]) next ((fun s : Int × (List AV) => ⟨[(1, AV.int .i64 t1), (3, AV.ptr [0, 3] 0 0), (6, AV.ptr [0, 6] 0 0), (9, AV.ptr [0, 9] 0 0), (11, AV.own [0, 11]), (12, AV.own [0, 12]), (13, AV.int .i64 s.1)], [([0, 0, 9], ⟨false, [.int .i64, .int .i64, .int .i64, .int .i64], h0⟩), ([0, 2, 9], ⟨false, [.int .i64], h1⟩), ([0, 3], ⟨true, [], [AV.agg [AV.sl [.int .i64, .int .i64, .int .i64, .int .i64] h2_0, AV.int .i64 h2_1, AV.sl [.int .i64] h2_2, AV.sl [.int .i64] h2_3, AV.sl [.int .i64, .int .i64] h2_4]]⟩), ([0, 3, 9], ⟨false, [.int .i64], h3⟩), ([0, 4, 9], ⟨false, [.int .i64, .int .i64], h4⟩), ([0, 6], ⟨true, [], [AV.agg [AV.snil, AV.int .i64 h5, AV.snil, AV.snil, AV.snil]]⟩), ([0, 9], ⟨true, [], [AV.agg [AV.own [0, 0, 9], AV.int .i64 h6, AV.own [0, 2, 9], AV.own [0, 3, 9], AV.own [0, 4, 9]]]⟩), ([0, 11], ⟨false, [.int .i64], h7⟩), ([0, 12], ⟨false, [.int .i64], s.2⟩)]⟩) s) k = (R13_0 t1 h0 h1 h2_0 h2_1 h2_2 h2_3 h2_4 h3 h4 h5 h6 h7 s).el none (fun s => next ((fun s : Int × (List AV) => ⟨[(1, AV.int .i64 t1), (3, AV.ptr [0, 3] 0 0), (6, AV.ptr [0, 6] 0 0), (9, AV.ptr [0, 9] 0 0), (11, AV.own [0, 11]), (12, AV.own [0, 12]), (13, AV.int .i64 s.1)], [([0, 0, 9], ⟨false, [.int .i64, .int .i64, .int .i64, .int .i64], h0⟩), ([0, 2, 9], ⟨false, [.int .i64], h1⟩), ([0, 3], ⟨true, [], [AV.agg [AV.sl [.int .i64, .int .i64, .int .i64, .int .i64] h2_0, AV.int .i64 h2_1, AV.sl [.int .i64] h2_2, AV.sl [.int .i64] h2_3, AV.sl [.int .i64, .int .i64] h2_4]]⟩), ([0, 3, 9], ⟨false, [.int .i64], h3⟩), ([0, 4, 9], ⟨false, [.int .i64, .int .i64], h4⟩), ([0, 6], ⟨true, [], [AV.agg [AV.snil, AV.int .i64 h5, AV.snil, AV.snil, AV.snil]]⟩), ([0, 9], ⟨true, [], [AV.agg [AV.own [0, 0, 9], AV.int .i64 h6, AV.own [0, 2, 9], AV.own [0, 3, 9], AV.own [0, 4, 9]]]⟩), ([0, 11], ⟨false, [.int .i64], h7⟩), ([0, 12], ⟨false, [.int .i64], s.2⟩)]⟩) s)) (fun p : (List AV) => k (.exit 0) ⟨[(6, AV.ptr [0, 6] 0 0), (9, AV.ptr [0, 9] 0 0), (12, AV.own [0, 12])], [([0, 0, 9], ⟨false, [.int .i64, .int .i64, .int .i64, .int .i64], h0⟩), ([0, 2, 9], ⟨false, [.int .i64], h1⟩), ([0, 3], ⟨true, [], [AV.agg [AV.sl [.int .i64, .int .i64, .int .i64, .int .i64] h2_0, AV.int .i64 h2_1, AV.sl [.int .i64] h2_2, AV.sl [.int .i64] h2_3, AV.sl [.int .i64, .int .i64] h2_4]]⟩), ([0, 3, 9], ⟨false, [.int .i64], h3⟩), ([0, 4, 9], ⟨false, [.int .i64, .int .i64], h4⟩), ([0, 6], ⟨true, [], [AV.agg [AV.snil, AV.int .i64 h5, AV.snil, AV.snil, AV.snil]]⟩), ([0, 9], ⟨true, [], [AV.agg [AV.own [0, 0, 9], AV.int .i64 h6, AV.own [0, 2, 9], AV.own [0, 3, 9], AV.own [0, 4, 9]]]⟩), ([0, 11], ⟨false, [.int .i64], h7⟩), ([0, 12], ⟨false, [.int .i64], p⟩)]⟩) := (s13_0 ce t1 s.1 h0 h1 h2_0 h2_1 h2_2 h2_3 h2_4 h3 h4 h5 h6 h7 s.2 next k).trans (by unfold R13_0; unfold F13_0; simp only [el_cond, el_ro, el_sum, el_fail, el_next, el_stop] <;> rfl)
theorem ok13_0 {ce : CallE} : LoopOK c13 ce [] 13 0 (sub [1, 1, 1, 1, 1, 1, 0, 1, 0, 0] (body Tryz.f13)) := by
  intro m hm st k r h
  obtain rfl : l13_0 = m := Option.some.inj hm
  unfold l13_0 at h
  split at h
  · rename_i t1 g0 g1 g2 g3 g4 g5 g6 g7 g8 g9 g10 t13 g11 g12 h0 g13 g14 h1 g15 g16 h2_0 h2_1 g17 h2_2 g18 h2_3 g19 h2_4 g20 g21 h3 g22 g23 h4 g24 h5 g25 g26 h6 g27 g28 g29 g30 g31 h7 g32 g33 h8
    obtain ⟨hg, h⟩ := bif_some h
    simp only [Bool.and_eq_true] at hg
    obtain ⟨⟨⟨⟨⟨⟨⟨⟨⟨⟨⟨⟨⟨⟨⟨⟨⟨⟨⟨⟨⟨⟨⟨⟨⟨⟨⟨⟨⟨⟨⟨⟨⟨q0, q1⟩, q2⟩, q3⟩, q4⟩, q5⟩, q6⟩, q7⟩, q8⟩, q9⟩, q10⟩, q11⟩, q12⟩, q13⟩, q14⟩, q15⟩, q16⟩, q17⟩, q18⟩, q19⟩, q20⟩, q21⟩, q22⟩, q23⟩, q24⟩, q25⟩, q26⟩, q27⟩, q28⟩, q29⟩, q30⟩, q31⟩, q32⟩, q33⟩ := hg
    obtain rfl := (nmEq_iff _ _).1 q0
    obtain rfl := Nat.eq_of_beq_eq_true q1
    obtain rfl := Nat.eq_of_beq_eq_true q2
    obtain rfl := (nmEq_iff _ _).1 q3
    obtain rfl := Nat.eq_of_beq_eq_true q4
    obtain rfl := Nat.eq_of_beq_eq_true q5
    obtain rfl := (nmEq_iff _ _).1 q6
    obtain rfl := Nat.eq_of_beq_eq_true q7
    obtain rfl := Nat.eq_of_beq_eq_true q8
    obtain rfl := (nmEq_iff _ _).1 q9
    obtain rfl := (nmEq_iff _ _).1 q10
    obtain rfl := (nmEq_iff _ _).1 q11
    obtain rfl := ctsEq_eq _ _ q12
    obtain rfl := (nmEq_iff _ _).1 q13
    obtain rfl := ctsEq_eq _ _ q14
    obtain rfl := (nmEq_iff _ _).1 q15
    obtain rfl := ctsEq_eq _ _ q16
    obtain rfl := ctsEq_eq _ _ q17
    obtain rfl := ctsEq_eq _ _ q18
    obtain rfl := ctsEq_eq _ _ q19
    obtain rfl := (nmEq_iff _ _).1 q20
    obtain rfl := ctsEq_eq _ _ q21
    obtain rfl := (nmEq_iff _ _).1 q22
    obtain rfl := ctsEq_eq _ _ q23
    obtain rfl := (nmEq_iff _ _).1 q24
    obtain rfl := (nmEq_iff _ _).1 q25
    obtain rfl := (nmEq_iff _ _).1 q26
    obtain rfl := (nmEq_iff _ _).1 q27
    obtain rfl := (nmEq_iff _ _).1 q28
    obtain rfl := (nmEq_iff _ _).1 q29
    obtain rfl := (nmEq_iff _ _).1 q30
    obtain rfl := ctsEq_eq _ _ q31
    obtain rfl := (nmEq_iff _ _).1 q32
    obtain rfl := ctsEq_eq _ _ q33
    refine ⟨(((h2_0.length : Int) - t13).toNat + 1), ?_⟩
    rw [← h]
    exact loop_run (fun s : Int × (List AV) => ⟨[(1, AV.int .i64 t1), (3, AV.ptr [0, 3] 0 0), (6, AV.ptr [0, 6] 0 0), (9, AV.ptr [0, 9] 0 0), (11, AV.own [0, 11]), (12, AV.own [0, 12]), (13, AV.int .i64 s.1)], [([0, 0, 9], ⟨false, [.int .i64, .int .i64, .int .i64, .int .i64], h0⟩), ([0, 2, 9], ⟨false, [.int .i64], h1⟩), ([0, 3], ⟨true, [], [AV.agg [AV.sl [.int .i64, .int .i64, .int .i64, .int .i64] h2_0, AV.int .i64 h2_1, AV.sl [.int .i64] h2_2, AV.sl [.int .i64] h2_3, AV.sl [.int .i64, .int .i64] h2_4]]⟩), ([0, 3, 9], ⟨false, [.int .i64], h3⟩), ([0, 4, 9], ⟨false, [.int .i64, .int .i64], h4⟩), ([0, 6], ⟨true, [], [AV.agg [AV.snil, AV.int .i64 h5, AV.snil, AV.snil, AV.snil]]⟩), ([0, 9], ⟨true, [], [AV.agg [AV.own [0, 0, 9], AV.int .i64 h6, AV.own [0, 2, 9], AV.own [0, 3, 9], AV.own [0, 4, 9]]]⟩), ([0, 11], ⟨false, [.int .i64], h7⟩), ([0, 12], ⟨false, [.int .i64], s.2⟩)]⟩) (fun p : (List AV) => k (.exit 0) ⟨[(6, AV.ptr [0, 6] 0 0), (9, AV.ptr [0, 9] 0 0), (12, AV.own [0, 12])], [([0, 0, 9], ⟨false, [.int .i64, .int .i64, .int .i64, .int .i64], h0⟩), ([0, 2, 9], ⟨false, [.int .i64], h1⟩), ([0, 3], ⟨true, [], [AV.agg [AV.sl [.int .i64, .int .i64, .int .i64, .int .i64] h2_0, AV.int .i64 h2_1, AV.sl [.int .i64] h2_2, AV.sl [.int .i64] h2_3, AV.sl [.int .i64, .int .i64] h2_4]]⟩), ([0, 3, 9], ⟨false, [.int .i64], h3⟩), ([0, 4, 9], ⟨false, [.int .i64, .int .i64], h4⟩), ([0, 6], ⟨true, [], [AV.agg [AV.snil, AV.int .i64 h5, AV.snil, AV.snil, AV.snil]]⟩), ([0, 9], ⟨true, [], [AV.agg [AV.own [0, 0, 9], AV.int .i64 h6, AV.own [0, 2, 9], AV.own [0, 3, 9], AV.own [0, 4, 9]]]⟩), ([0, 11], ⟨false, [.int .i64], h7⟩), ([0, 12], ⟨false, [.int .i64], p⟩)]⟩) (st13_0 t1 h0 h1 h2_0 h2_1 h2_2 h2_3 h2_4 h3 h4 h5 h6 h7 ce k) _ (t13, h8)
  · cases h
def q13 (a0_0 : List AV) (a0_1 : Int) (a0_2 : List AV) (a0_3 : List AV) (a0_4 : List AV) (a1 : Int) (a2_0 : Int) (a2_1 : Int) : Bool := (q32 a0_0 a0_1 a0_2 a0_3 a0_4 && (q33 a0_0 a0_1 a0_2 a0_3 a0_4 && (bif !(v33_0 a0_0 a0_1 a0_2 a0_3 a0_4) then true else (bif !(v34_0 a2_0 a2_1) then true else (bif !(v23_0 a1 0 a0_1) then true else (q35 a0_2 a0_3 a0_4 a2_0 a2_1 && (ro (runW (R13_0 a1 (v32_0 a0_0 a0_1 a0_2 a0_3 a0_4) (v35_0 a0_2 a0_3 a0_4 a2_0 a2_1) a0_0 a0_1 a0_2 a0_3 a0_4 (v35_1 a0_2 a0_3 a0_4 a2_0 a2_1) (v35_2 a0_2 a0_3 a0_4 a2_0 a2_1) 0 (v32_1 a0_0 a0_1 a0_2 a0_3 a0_4) (v35_3 a0_2 a0_3 a0_4 a2_0 a2_1)) (((a0_0.length : Int) - 0).toNat + 1) (0, ([] : List AV))) false (fun p31 => true))))))))
def v13_0 (a0_0 : List AV) (a0_1 : Int) (a0_2 : List AV) (a0_3 : List AV) (a0_4 : List AV) (a1 : Int) (a2_0 : Int) (a2_1 : Int) : List AV := (v32_0 a0_0 a0_1 a0_2 a0_3 a0_4)
def v13_1 (a0_0 : List AV) (a0_1 : Int) (a0_2 : List AV) (a0_3 : List AV) (a0_4 : List AV) (a1 : Int) (a2_0 : Int) (a2_1 : Int) : Int := (v32_1 a0_0 a0_1 a0_2 a0_3 a0_4)
def v13_2 (a0_0 : List AV) (a0_1 : Int) (a0_2 : List AV) (a0_3 : List AV) (a0_4 : List AV) (a1 : Int) (a2_0 : Int) (a2_1 : Int) : List AV := (bif !(v33_0 a0_0 a0_1 a0_2 a0_3 a0_4) then (v32_2 a0_0 a0_1 a0_2 a0_3 a0_4) else (bif !(v34_0 a2_0 a2_1) then (v32_2 a0_0 a0_1 a0_2 a0_3 a0_4) else (bif !(v23_0 a1 0 a0_1) then (v32_2 a0_0 a0_1 a0_2 a0_3 a0_4) else (v35_0 a0_2 a0_3 a0_4 a2_0 a2_1))))
def v13_3 (a0_0 : List AV) (a0_1 : Int) (a0_2 : List AV) (a0_3 : List AV) (a0_4 : List AV) (a1 : Int) (a2_0 : Int) (a2_1 : Int) : List AV := (bif !(v33_0 a0_0 a0_1 a0_2 a0_3 a0_4) then (v32_3 a0_0 a0_1 a0_2 a0_3 a0_4) else (bif !(v34_0 a2_0 a2_1) then (v32_3 a0_0 a0_1 a0_2 a0_3 a0_4) else (bif !(v23_0 a1 0 a0_1) then (v32_3 a0_0 a0_1 a0_2 a0_3 a0_4) else (v35_1 a0_2 a0_3 a0_4 a2_0 a2_1))))
def v13_4 (a0_0 : List AV) (a0_1 : Int) (a0_2 : List AV) (a0_3 : List AV) (a0_4 : List AV) (a1 : Int) (a2_0 : Int) (a2_1 : Int) : List AV := (bif !(v33_0 a0_0 a0_1 a0_2 a0_3 a0_4) then (v32_4 a0_0 a0_1 a0_2 a0_3 a0_4) else (bif !(v34_0 a2_0 a2_1) then (v32_4 a0_0 a0_1 a0_2 a0_3 a0_4) else (bif !(v23_0 a1 0 a0_1) then (v32_4 a0_0 a0_1 a0_2 a0_3 a0_4) else (v35_2 a0_2 a0_3 a0_4 a2_0 a2_1))))
def v13_5 (a0_0 : List AV) (a0_1 : Int) (a0_2 : List AV) (a0_3 : List AV) (a0_4 : List AV) (a1 : Int) (a2_0 : Int) (a2_1 : Int) : List AV := (bif !(v33_0 a0_0 a0_1 a0_2 a0_3 a0_4) then ([] : List AV) else (bif !(v34_0 a2_0 a2_1) then ([] : List AV) else (bif !(v23_0 a1 0 a0_1) then ([] : List AV) else (ro (runW (R13_0 a1 (v32_0 a0_0 a0_1 a0_2 a0_3 a0_4) (v35_0 a0_2 a0_3 a0_4 a2_0 a2_1) a0_0 a0_1 a0_2 a0_3 a0_4 (v35_1 a0_2 a0_3 a0_4 a2_0 a2_1) (v35_2 a0_2 a0_3 a0_4 a2_0 a2_1) 0 (v32_1 a0_0 a0_1 a0_2 a0_3 a0_4) (v35_3 a0_2 a0_3 a0_4 a2_0 a2_1)) (((a0_0.length : Int) - 0).toNat + 1) (0, ([] : List AV))) [] (fun p31 => p31)))))
def v13_6 (a0_0 : List AV) (a0_1 : Int) (a0_2 : List AV) (a0_3 : List AV) (a0_4 : List AV) (a1 : Int) (a2_0 : Int) (a2_1 : Int) : Bool := (bif !(v33_0 a0_0 a0_1 a0_2 a0_3 a0_4) then false else (bif !(v34_0 a2_0 a2_1) then false else (bif !(v23_0 a1 0 a0_1) then false else true)))
theorem e13 (a0_0 : List AV) (a0_1 : Int) (a0_2 : List AV) (a0_3 : List AV) (a0_4 : List AV) (a1 : Int) (a2_0 : Int) (a2_1 : Int) : funA c13 0 13 [AV.agg [AV.sl [.int .i64, .int .i64, .int .i64, .int .i64] a0_0, AV.int .i64 a0_1, AV.sl [.int .i64] a0_2, AV.sl [.int .i64] a0_3, AV.sl [.int .i64, .int .i64] a0_4], AV.int .i64 a1, AV.agg [AV.int .i64 a2_0, AV.int .i64 a2_1]] = (bif q32 a0_0 a0_1 a0_2 a0_3 a0_4 then (bif q33 a0_0 a0_1 a0_2 a0_3 a0_4 then (bif !(v33_0 a0_0 a0_1 a0_2 a0_3 a0_4) then some (AV.tup [AV.agg [AV.fl [.int .i64, .int .i64, .int .i64, .int .i64] (v32_0 a0_0 a0_1 a0_2 a0_3 a0_4), AV.int .i64 (v32_1 a0_0 a0_1 a0_2 a0_3 a0_4), AV.fl [.int .i64] (v32_2 a0_0 a0_1 a0_2 a0_3 a0_4), AV.fl [.int .i64] (v32_3 a0_0 a0_1 a0_2 a0_3 a0_4), AV.fl [.int .i64, .int .i64] (v32_4 a0_0 a0_1 a0_2 a0_3 a0_4)], AV.fl [.int .i64] ([] : List AV), AV.bool false])
  else (bif !(v34_0 a2_0 a2_1) then some (AV.tup [AV.agg [AV.fl [.int .i64, .int .i64, .int .i64, .int .i64] (v32_0 a0_0 a0_1 a0_2 a0_3 a0_4), AV.int .i64 (v32_1 a0_0 a0_1 a0_2 a0_3 a0_4), AV.fl [.int .i64] (v32_2 a0_0 a0_1 a0_2 a0_3 a0_4), AV.fl [.int .i64] (v32_3 a0_0 a0_1 a0_2 a0_3 a0_4), AV.fl [.int .i64, .int .i64] (v32_4 a0_0 a0_1 a0_2 a0_3 a0_4)], AV.fl [.int .i64] ([] : List AV), AV.bool false])
  else (bif !(v23_0 a1 0 a0_1) then some (AV.tup [AV.agg [AV.fl [.int .i64, .int .i64, .int .i64, .int .i64] (v32_0 a0_0 a0_1 a0_2 a0_3 a0_4), AV.int .i64 (v32_1 a0_0 a0_1 a0_2 a0_3 a0_4), AV.fl [.int .i64] (v32_2 a0_0 a0_1 a0_2 a0_3 a0_4), AV.fl [.int .i64] (v32_3 a0_0 a0_1 a0_2 a0_3 a0_4), AV.fl [.int .i64, .int .i64] (v32_4 a0_0 a0_1 a0_2 a0_3 a0_4)], AV.fl [.int .i64] ([] : List AV), AV.bool false])
  else (bif q35 a0_2 a0_3 a0_4 a2_0 a2_1 then (ro (runW (R13_0 a1 (v32_0 a0_0 a0_1 a0_2 a0_3 a0_4) (v35_0 a0_2 a0_3 a0_4 a2_0 a2_1) a0_0 a0_1 a0_2 a0_3 a0_4 (v35_1 a0_2 a0_3 a0_4 a2_0 a2_1) (v35_2 a0_2 a0_3 a0_4 a2_0 a2_1) 0 (v32_1 a0_0 a0_1 a0_2 a0_3 a0_4) (v35_3 a0_2 a0_3 a0_4 a2_0 a2_1)) (((a0_0.length : Int) - 0).toNat + 1) (0, ([] : List AV))) none (fun p31 => some (AV.tup [AV.agg [AV.fl [.int .i64, .int .i64, .int .i64, .int .i64] (v32_0 a0_0 a0_1 a0_2 a0_3 a0_4), AV.int .i64 (v32_1 a0_0 a0_1 a0_2 a0_3 a0_4), AV.fl [.int .i64] (v35_0 a0_2 a0_3 a0_4 a2_0 a2_1), AV.fl [.int .i64] (v35_1 a0_2 a0_3 a0_4 a2_0 a2_1), AV.fl [.int .i64, .int .i64] (v35_2 a0_2 a0_3 a0_4 a2_0 a2_1)], AV.fl [.int .i64] p31, AV.bool true])))
  else none))))
  else none)
  else none) := by kernel_rfl
theorem r13 (a0_0 : List AV) (a0_1 : Int) (a0_2 : List AV) (a0_3 : List AV) (a0_4 : List AV) (a1 : Int) (a2_0 : Int) (a2_1 : Int) (h : q13 a0_0 a0_1 a0_2 a0_3 a0_4 a1 a2_0 a2_1 = true) : funA c13 0 13 [AV.agg [AV.sl [.int .i64, .int .i64, .int .i64, .int .i64] a0_0, AV.int .i64 a0_1, AV.sl [.int .i64] a0_2, AV.sl [.int .i64] a0_3, AV.sl [.int .i64, .int .i64] a0_4], AV.int .i64 a1, AV.agg [AV.int .i64 a2_0, AV.int .i64 a2_1]] = some (AV.tup [AV.agg [AV.fl [.int .i64, .int .i64, .int .i64, .int .i64] (v13_0 a0_0 a0_1 a0_2 a0_3 a0_4 a1 a2_0 a2_1), AV.int .i64 (v13_1 a0_0 a0_1 a0_2 a0_3 a0_4 a1 a2_0 a2_1), AV.fl [.int .i64] (v13_2 a0_0 a0_1 a0_2 a0_3 a0_4 a1 a2_0 a2_1), AV.fl [.int .i64] (v13_3 a0_0 a0_1 a0_2 a0_3 a0_4 a1 a2_0 a2_1), AV.fl [.int .i64, .int .i64] (v13_4 a0_0 a0_1 a0_2 a0_3 a0_4 a1 a2_0 a2_1)], AV.fl [.int .i64] (v13_5 a0_0 a0_1 a0_2 a0_3 a0_4 a1 a2_0 a2_1), AV.bool (v13_6 a0_0 a0_1 a0_2 a0_3 a0_4 a1 a2_0 a2_1)]) := (e13 a0_0 a0_1 a0_2 a0_3 a0_4 a1 a2_0 a2_1).trans ((brL (brL (br (fun b => some (AV.tup [AV.agg [AV.fl [.int .i64, .int .i64, .int .i64, .int .i64] (v32_0 a0_0 a0_1 a0_2 a0_3 a0_4), AV.int .i64 (v32_1 a0_0 a0_1 a0_2 a0_3 a0_4), AV.fl [.int .i64] (bif b then (v32_2 a0_0 a0_1 a0_2 a0_3 a0_4) else (bif !(v34_0 a2_0 a2_1) then (v32_2 a0_0 a0_1 a0_2 a0_3 a0_4) else (bif !(v23_0 a1 0 a0_1) then (v32_2 a0_0 a0_1 a0_2 a0_3 a0_4) else (v35_0 a0_2 a0_3 a0_4 a2_0 a2_1)))), AV.fl [.int .i64] (bif b then (v32_3 a0_0 a0_1 a0_2 a0_3 a0_4) else (bif !(v34_0 a2_0 a2_1) then (v32_3 a0_0 a0_1 a0_2 a0_3 a0_4) else (bif !(v23_0 a1 0 a0_1) then (v32_3 a0_0 a0_1 a0_2 a0_3 a0_4) else (v35_1 a0_2 a0_3 a0_4 a2_0 a2_1)))), AV.fl [.int .i64, .int .i64] (bif b then (v32_4 a0_0 a0_1 a0_2 a0_3 a0_4) else (bif !(v34_0 a2_0 a2_1) then (v32_4 a0_0 a0_1 a0_2 a0_3 a0_4) else (bif !(v23_0 a1 0 a0_1) then (v32_4 a0_0 a0_1 a0_2 a0_3 a0_4) else (v35_2 a0_2 a0_3 a0_4 a2_0 a2_1))))], AV.fl [.int .i64] (bif b then ([] : List AV) else (bif !(v34_0 a2_0 a2_1) then ([] : List AV) else (bif !(v23_0 a1 0 a0_1) then ([] : List AV) else (ro (runW (R13_0 a1 (v32_0 a0_0 a0_1 a0_2 a0_3 a0_4) (v35_0 a0_2 a0_3 a0_4 a2_0 a2_1) a0_0 a0_1 a0_2 a0_3 a0_4 (v35_1 a0_2 a0_3 a0_4 a2_0 a2_1) (v35_2 a0_2 a0_3 a0_4 a2_0 a2_1) 0 (v32_1 a0_0 a0_1 a0_2 a0_3 a0_4) (v35_3 a0_2 a0_3 a0_4 a2_0 a2_1)) (((a0_0.length : Int) - 0).toNat + 1) (0, ([] : List AV))) [] (fun p31 => p31))))), AV.bool (bif b then false else (bif !(v34_0 a2_0 a2_1) then false else (bif !(v23_0 a1 0 a0_1) then false else true)))])) (fun _ => rfl) (br (fun b => some (AV.tup [AV.agg [AV.fl [.int .i64, .int .i64, .int .i64, .int .i64] (v32_0 a0_0 a0_1 a0_2 a0_3 a0_4), AV.int .i64 (v32_1 a0_0 a0_1 a0_2 a0_3 a0_4), AV.fl [.int .i64] (bif b then (v32_2 a0_0 a0_1 a0_2 a0_3 a0_4) else (bif !(v23_0 a1 0 a0_1) then (v32_2 a0_0 a0_1 a0_2 a0_3 a0_4) else (v35_0 a0_2 a0_3 a0_4 a2_0 a2_1))), AV.fl [.int .i64] (bif b then (v32_3 a0_0 a0_1 a0_2 a0_3 a0_4) else (bif !(v23_0 a1 0 a0_1) then (v32_3 a0_0 a0_1 a0_2 a0_3 a0_4) else (v35_1 a0_2 a0_3 a0_4 a2_0 a2_1))), AV.fl [.int .i64, .int .i64] (bif b then (v32_4 a0_0 a0_1 a0_2 a0_3 a0_4) else (bif !(v23_0 a1 0 a0_1) then (v32_4 a0_0 a0_1 a0_2 a0_3 a0_4) else (v35_2 a0_2 a0_3 a0_4 a2_0 a2_1)))], AV.fl [.int .i64] (bif b then ([] : List AV) else (bif !(v23_0 a1 0 a0_1) then ([] : List AV) else (ro (runW (R13_0 a1 (v32_0 a0_0 a0_1 a0_2 a0_3 a0_4) (v35_0 a0_2 a0_3 a0_4 a2_0 a2_1) a0_0 a0_1 a0_2 a0_3 a0_4 (v35_1 a0_2 a0_3 a0_4 a2_0 a2_1) (v35_2 a0_2 a0_3 a0_4 a2_0 a2_1) 0 (v32_1 a0_0 a0_1 a0_2 a0_3 a0_4) (v35_3 a0_2 a0_3 a0_4 a2_0 a2_1)) (((a0_0.length : Int) - 0).toNat + 1) (0, ([] : List AV))) [] (fun p31 => p31)))), AV.bool (bif b then false else (bif !(v23_0 a1 0 a0_1) then false else true))])) (fun _ => rfl) (br (fun b => some (AV.tup [AV.agg [AV.fl [.int .i64, .int .i64, .int .i64, .int .i64] (v32_0 a0_0 a0_1 a0_2 a0_3 a0_4), AV.int .i64 (v32_1 a0_0 a0_1 a0_2 a0_3 a0_4), AV.fl [.int .i64] (bif b then (v32_2 a0_0 a0_1 a0_2 a0_3 a0_4) else (v35_0 a0_2 a0_3 a0_4 a2_0 a2_1)), AV.fl [.int .i64] (bif b then (v32_3 a0_0 a0_1 a0_2 a0_3 a0_4) else (v35_1 a0_2 a0_3 a0_4 a2_0 a2_1)), AV.fl [.int .i64, .int .i64] (bif b then (v32_4 a0_0 a0_1 a0_2 a0_3 a0_4) else (v35_2 a0_2 a0_3 a0_4 a2_0 a2_1))], AV.fl [.int .i64] (bif b then ([] : List AV) else (ro (runW (R13_0 a1 (v32_0 a0_0 a0_1 a0_2 a0_3 a0_4) (v35_0 a0_2 a0_3 a0_4 a2_0 a2_1) a0_0 a0_1 a0_2 a0_3 a0_4 (v35_1 a0_2 a0_3 a0_4 a2_0 a2_1) (v35_2 a0_2 a0_3 a0_4 a2_0 a2_1) 0 (v32_1 a0_0 a0_1 a0_2 a0_3 a0_4) (v35_3 a0_2 a0_3 a0_4 a2_0 a2_1)) (((a0_0.length : Int) - 0).toNat + 1) (0, ([] : List AV))) [] (fun p31 => p31))), AV.bool (bif b then false else true)])) (fun _ => rfl) (brL (brO (fun o : Option (((List AV))) => some (AV.tup [AV.agg [AV.fl [.int .i64, .int .i64, .int .i64, .int .i64] (v32_0 a0_0 a0_1 a0_2 a0_3 a0_4), AV.int .i64 (v32_1 a0_0 a0_1 a0_2 a0_3 a0_4), AV.fl [.int .i64] (v35_0 a0_2 a0_3 a0_4 a2_0 a2_1), AV.fl [.int .i64] (v35_1 a0_2 a0_3 a0_4 a2_0 a2_1), AV.fl [.int .i64, .int .i64] (v35_2 a0_2 a0_3 a0_4 a2_0 a2_1)], AV.fl [.int .i64] (ro o [] (fun p31 => p31)), AV.bool true])) (fun p31 => (fun _ => rfl))))))))) h)
def m13 : TModel
  | [.agg [.sl g0 a0_0, .int .i64 a0_1, .sl g1 a0_2, .sl g2 a0_3, .sl g3 a0_4], .int .i64 a1, .agg [.int .i64 a2_0, .int .i64 a2_1]] => bif ctsEq g0 ([.int .i64, .int .i64, .int .i64, .int .i64]) && ctsEq g1 ([.int .i64]) && ctsEq g2 ([.int .i64]) && ctsEq g3 ([.int .i64, .int .i64]) then some (q13 a0_0 a0_1 a0_2 a0_3 a0_4 a1 a2_0 a2_1, AV.tup [AV.agg [AV.fl [.int .i64, .int .i64, .int .i64, .int .i64] (v13_0 a0_0 a0_1 a0_2 a0_3 a0_4 a1 a2_0 a2_1), AV.int .i64 (v13_1 a0_0 a0_1 a0_2 a0_3 a0_4 a1 a2_0 a2_1), AV.fl [.int .i64] (v13_2 a0_0 a0_1 a0_2 a0_3 a0_4 a1 a2_0 a2_1), AV.fl [.int .i64] (v13_3 a0_0 a0_1 a0_2 a0_3 a0_4 a1 a2_0 a2_1), AV.fl [.int .i64, .int .i64] (v13_4 a0_0 a0_1 a0_2 a0_3 a0_4 a1 a2_0 a2_1)], AV.fl [.int .i64] (v13_5 a0_0 a0_1 a0_2 a0_3 a0_4 a1 a2_0 a2_1), AV.bool (v13_6 a0_0 a0_1 a0_2 a0_3 a0_4 a1 a2_0 a2_1)]) else none
  | _ => none
theorem k13 : Known Tryz.prog 13 := ⟨Tryz.f13, Tryz.func13, by kernel_rfl, by kernel_rfl⟩
theorem meets13 : Meets Tryz.prog 13 m13 := by
  refine meet (f := Tryz.f13) (l := [(0, sub [1, 1, 1, 1, 1, 1, 0, 1, 0, 0] (body Tryz.f13))]) (hs := [(13, 0, [1, 3, 6, 9, 11, 12, 13]), (13, 999, [6, 7, 8]), (13, 1000, [6, 9, 12]), (13, 1001, [1, 3, 6, 9, 11, 12, 13])]) (ts := [(23, m23), (32, m32), (33, m33), (34, m34), (35, m35), (36, m36), (37, m37)]) (ws := []) (is := []) (ls := [(13, 0, l13_0)]) (lvl := 0) mixed k13 Tryz.func13 (by kernel_rfl) (loops_cons ok13_0 noLoop) (allT_cons meets23 (allT_cons meets32 (allT_cons meets33 (allT_cons meets34 (allT_cons meets35 (allT_cons meets36 (allT_cons meets37 allT_nil))))))) allM_nil noI fun w xs us r hl hv h => ?_
  unfold m13 at h
  split at h
  · rename_i g0 a0_0 a0_1 g1 a0_2 g2 a0_3 g3 a0_4 a1 a2_0 a2_1
    obtain ⟨hg, h⟩ := bif_pair h
    simp only [Bool.and_eq_true] at hg
    obtain ⟨⟨⟨q0, q1⟩, q2⟩, q3⟩ := hg
    obtain rfl := ctsEq_eq _ _ q0
    obtain rfl := ctsEq_eq _ _ q1
    obtain rfl := ctsEq_eq _ _ q2
    obtain rfl := ctsEq_eq _ _ q3
    obtain ⟨h1, rfl⟩ := pair_inj h
    exact r13 a0_0 a0_1 a0_2 a0_3 a0_4 a1 a2_0 a2_1 h1
  · cases h

/-! ### 71 slices.Clone[[]loop.example/g01984/impl.Stamp,loop.example/g01984/impl.Stamp] -/
noncomputable def c71 : Cfg := cfg Tryz.prog [(71, 999, [2])] [] [] [] []
def q71 (a0 : List AV) : Bool := decide (a0.length * 32 ≤ 140737488355328) && decide (a0.length ≤ 140737488355328)
def v71_0 (a0 : List AV) : List AV := a0
theorem e71 (a0 : List AV) : funA c71 0 71 [AV.sl [.int .i64, .int .i64, .int .i64, .int .i64] a0] = (bif decide (0 < a0.length) then (bif (decide ((([] : List AV).length + a0.length) * 32 ≤ 140737488355328) && decide ((([] : List AV).length + a0.length) ≤ 140737488355328)) then some (AV.fl [.int .i64, .int .i64, .int .i64, .int .i64] (([] : List AV) ++ a0))
  else none)
  else none) := by kernel_rfl
theorem e71n (b : Bool) : funA c71 0 71 [AV.sle b [.int .i64, .int .i64, .int .i64, .int .i64]] = some (AV.fl [.int .i64, .int .i64, .int .i64, .int .i64] []) := by cases b <;> kernel_rfl
def m71 : TModel
  | [.sl g0 a0] => bif ctsEq g0 [.int .i64, .int .i64, .int .i64, .int .i64] then some (q71 a0, AV.fl [.int .i64, .int .i64, .int .i64, .int .i64] (v71_0 a0)) else none
  | _ => none
theorem k71 : Known Tryz.prog 71 := ⟨Tryz.f71, Tryz.func71, by kernel_rfl, by kernel_rfl⟩
theorem meets71 : Meets Tryz.prog 71 m71 := by
  refine meet_nil (f := Tryz.f71) (l := []) (hs := [(71, 999, [2])]) (ts := []) (ws := []) (is := []) (ls := []) (lvl := 0) (tys := [.int .i64, .int .i64, .int .i64, .int .i64]) mixed k71 Tryz.func71 (by kernel_rfl) noLoop allT_nil allM_nil noI (fun xs r h => ?_) (fun b r h => ?_) (fun ys r h0 h => ?_)
  · unfold m71 at h
    split at h
    · rename_i g0 a0
      obtain ⟨hg, h⟩ := bif_pair h
      obtain rfl := ctsEq_eq _ _ hg
      exact ⟨a0, rfl⟩
    · cases h
  · obtain ⟨hg, h⟩ := bif_pair (g := ctsEq [.int .i64, .int .i64, .int .i64, .int .i64] [.int .i64, .int .i64, .int .i64, .int .i64]) h
    obtain ⟨_, rfl⟩ := pair_inj h
    exact e71n b
  · obtain ⟨hg, h⟩ := bif_pair (g := ctsEq [.int .i64, .int .i64, .int .i64, .int .i64] [.int .i64, .int .i64, .int .i64, .int .i64]) h
    obtain ⟨hq, rfl⟩ := pair_inj h
    refine (e71 ys).trans ?_
    unfold q71 at hq
    have e : ([] : List AV).length + ys.length = ys.length := by simp
    rw [e, hq, decide_eq_true h0]
    rfl

/-! ### 94 slices.Clone[[]int,int] -/
noncomputable def c94 : Cfg := cfg Tryz.prog [(94, 999, [2])] [] [] [] []
def q94 (a0 : List AV) : Bool := decide (a0.length * 8 ≤ 140737488355328) && decide (a0.length ≤ 140737488355328)
def v94_0 (a0 : List AV) : List AV := a0
theorem e94 (a0 : List AV) : funA c94 0 94 [AV.sl [.int .i64] a0] = (bif decide (0 < a0.length) then (bif (decide ((([] : List AV).length + a0.length) * 8 ≤ 140737488355328) && decide ((([] : List AV).length + a0.length) ≤ 140737488355328)) then some (AV.fl [.int .i64] (([] : List AV) ++ a0))
  else none)
  else none) := by kernel_rfl
theorem e94n (b : Bool) : funA c94 0 94 [AV.sle b [.int .i64]] = some (AV.fl [.int .i64] []) := by cases b <;> kernel_rfl
def m94 : TModel
  | [.sl g0 a0] => bif ctsEq g0 [.int .i64] then some (q94 a0, AV.fl [.int .i64] (v94_0 a0)) else none
  | _ => none
theorem k94 : Known Tryz.prog 94 := ⟨Tryz.f94, Tryz.func94, by kernel_rfl, by kernel_rfl⟩
theorem meets94 : Meets Tryz.prog 94 m94 := by
  refine meet_nil (f := Tryz.f94) (l := []) (hs := [(94, 999, [2])]) (ts := []) (ws := []) (is := []) (ls := []) (lvl := 0) (tys := [.int .i64]) mixed k94 Tryz.func94 (by kernel_rfl) noLoop allT_nil allM_nil noI (fun xs r h => ?_) (fun b r h => ?_) (fun ys r h0 h => ?_)
  · unfold m94 at h
    split at h
    · rename_i g0 a0
      obtain ⟨hg, h⟩ := bif_pair h
      obtain rfl := ctsEq_eq _ _ hg
      exact ⟨a0, rfl⟩
    · cases h
  · obtain ⟨hg, h⟩ := bif_pair (g := ctsEq [.int .i64] [.int .i64]) h
    obtain ⟨_, rfl⟩ := pair_inj h
    exact e94n b
  · obtain ⟨hg, h⟩ := bif_pair (g := ctsEq [.int .i64] [.int .i64]) h
    obtain ⟨hq, rfl⟩ := pair_inj h
    refine (e94 ys).trans ?_
    unfold q94 at hq
    have e : ([] : List AV).length + ys.length = ys.length := by simp
    rw [e, hq, decide_eq_true h0]
    rfl

/-! ### 95 slices.Clone[[]loop.example/g01984/impl.Pivot,loop.example/g01984/impl.Pivot] -/
noncomputable def c95 : Cfg := cfg Tryz.prog [(95, 999, [2])] [] [] [] []
def q95 (a0 : List AV) : Bool := decide (a0.length * 16 ≤ 140737488355328) && decide (a0.length ≤ 140737488355328)
def v95_0 (a0 : List AV) : List AV := a0
theorem e95 (a0 : List AV) : funA c95 0 95 [AV.sl [.int .i64, .int .i64] a0] = (bif decide (0 < a0.length) then (bif (decide ((([] : List AV).length + a0.length) * 16 ≤ 140737488355328) && decide ((([] : List AV).length + a0.length) ≤ 140737488355328)) then some (AV.fl [.int .i64, .int .i64] (([] : List AV) ++ a0))
  else none)
  else none) := by kernel_rfl
theorem e95n (b : Bool) : funA c95 0 95 [AV.sle b [.int .i64, .int .i64]] = some (AV.fl [.int .i64, .int .i64] []) := by cases b <;> kernel_rfl
def m95 : TModel
  | [.sl g0 a0] => bif ctsEq g0 [.int .i64, .int .i64] then some (q95 a0, AV.fl [.int .i64, .int .i64] (v95_0 a0)) else none
  | _ => none
theorem k95 : Known Tryz.prog 95 := ⟨Tryz.f95, Tryz.func95, by kernel_rfl, by kernel_rfl⟩
theorem meets95 : Meets Tryz.prog 95 m95 := by
  refine meet_nil (f := Tryz.f95) (l := []) (hs := [(95, 999, [2])]) (ts := []) (ws := []) (is := []) (ls := []) (lvl := 0) (tys := [.int .i64, .int .i64]) mixed k95 Tryz.func95 (by kernel_rfl) noLoop allT_nil allM_nil noI (fun xs r h => ?_) (fun b r h => ?_) (fun ys r h0 h => ?_)
  · unfold m95 at h
    split at h
    · rename_i g0 a0
      obtain ⟨hg, h⟩ := bif_pair h
      obtain rfl := ctsEq_eq _ _ hg
      exact ⟨a0, rfl⟩
    · cases h
  · obtain ⟨hg, h⟩ := bif_pair (g := ctsEq [.int .i64, .int .i64] [.int .i64, .int .i64]) h
    obtain ⟨_, rfl⟩ := pair_inj h
    exact e95n b
  · obtain ⟨hg, h⟩ := bif_pair (g := ctsEq [.int .i64, .int .i64] [.int .i64, .int .i64]) h
    obtain ⟨hq, rfl⟩ := pair_inj h
    refine (e95 ys).trans ?_
    unfold q95 at hq
    have e : ([] : List AV).length + ys.length = ys.length := by simp
    rw [e, hq, decide_eq_true h0]
    rfl

/-! ### 72 loop.example/g01984/impl.copyCracker -/
noncomputable def c72 : Cfg := cfg Tryz.prog [(72, 999, [2])] [(94, m94), (95, m95)] [] [] []
def q72 (a0_0 : List AV) (a0_1 : List AV) (a0_2 : List AV) : Bool := (q94 a0_0 && (q94 a0_1 && q95 a0_2))
def v72_0 (a0_0 : List AV) (a0_1 : List AV) (a0_2 : List AV) : List AV := (v94_0 a0_0)
def v72_1 (a0_0 : List AV) (a0_1 : List AV) (a0_2 : List AV) : List AV := (v94_0 a0_1)
def v72_2 (a0_0 : List AV) (a0_1 : List AV) (a0_2 : List AV) : List AV := (v95_0 a0_2)
theorem e72 (a0_0 : List AV) (a0_1 : List AV) (a0_2 : List AV) : funA c72 0 72 [AV.agg [AV.sl [.int .i64] a0_0, AV.sl [.int .i64] a0_1, AV.sl [.int .i64, .int .i64] a0_2]] = (bif q94 a0_0 then (bif q94 a0_1 then (bif q95 a0_2 then some (AV.agg [AV.fl [.int .i64] (v94_0 a0_0), AV.fl [.int .i64] (v94_0 a0_1), AV.fl [.int .i64, .int .i64] (v95_0 a0_2)])
  else none)
  else none)
  else none) := by kernel_rfl
theorem r72 (a0_0 : List AV) (a0_1 : List AV) (a0_2 : List AV) (h : q72 a0_0 a0_1 a0_2 = true) : funA c72 0 72 [AV.agg [AV.sl [.int .i64] a0_0, AV.sl [.int .i64] a0_1, AV.sl [.int .i64, .int .i64] a0_2]] = some (AV.agg [AV.fl [.int .i64] (v72_0 a0_0 a0_1 a0_2), AV.fl [.int .i64] (v72_1 a0_0 a0_1 a0_2), AV.fl [.int .i64, .int .i64] (v72_2 a0_0 a0_1 a0_2)]) := (e72 a0_0 a0_1 a0_2).trans ((brL (brL (brL1 (fun _ => rfl)))) h)
def m72 : TModel
  | [.agg [.sl g0 a0_0, .sl g1 a0_1, .sl g2 a0_2]] => bif ctsEq g0 ([.int .i64]) && ctsEq g1 ([.int .i64]) && ctsEq g2 ([.int .i64, .int .i64]) then some (q72 a0_0 a0_1 a0_2, AV.agg [AV.fl [.int .i64] (v72_0 a0_0 a0_1 a0_2), AV.fl [.int .i64] (v72_1 a0_0 a0_1 a0_2), AV.fl [.int .i64, .int .i64] (v72_2 a0_0 a0_1 a0_2)]) else none
  | _ => none
theorem k72 : Known Tryz.prog 72 := ⟨Tryz.f72, Tryz.func72, by kernel_rfl, by kernel_rfl⟩
theorem meets72 : Meets Tryz.prog 72 m72 := by
  refine meet (f := Tryz.f72) (l := []) (hs := [(72, 999, [2])]) (ts := [(94, m94), (95, m95)]) (ws := []) (is := []) (ls := []) (lvl := 0) mixed k72 Tryz.func72 (by kernel_rfl) noLoop (allT_cons meets94 (allT_cons meets95 allT_nil)) allM_nil noI fun w xs us r hl hv h => ?_
  unfold m72 at h
  split at h
  · rename_i g0 a0_0 g1 a0_1 g2 a0_2
    obtain ⟨hg, h⟩ := bif_pair h
    simp only [Bool.and_eq_true] at hg
    obtain ⟨⟨q0, q1⟩, q2⟩ := hg
    obtain rfl := ctsEq_eq _ _ q0
    obtain rfl := ctsEq_eq _ _ q1
    obtain rfl := ctsEq_eq _ _ q2
    obtain ⟨h1, rfl⟩ := pair_inj h
    exact r72 a0_0 a0_1 a0_2 h1
  · cases h

/-! ### 40 loop.example/g01984/impl.copyStore -/
noncomputable def c40 : Cfg := cfg Tryz.prog [(40, 999, [2])] [(71, m71), (72, m72)] [] [] []
def q40 (a0_0 : List AV) (a0_1 : Int) (a0_2 : List AV) (a0_3 : List AV) (a0_4 : List AV) : Bool := (q71 a0_0 && q72 a0_2 a0_3 a0_4)
def v40_0 (a0_0 : List AV) (a0_1 : Int) (a0_2 : List AV) (a0_3 : List AV) (a0_4 : List AV) : List AV := (v71_0 a0_0)
def v40_1 (a0_0 : List AV) (a0_1 : Int) (a0_2 : List AV) (a0_3 : List AV) (a0_4 : List AV) : Int := a0_1
def v40_2 (a0_0 : List AV) (a0_1 : Int) (a0_2 : List AV) (a0_3 : List AV) (a0_4 : List AV) : List AV := (v72_0 a0_2 a0_3 a0_4)
def v40_3 (a0_0 : List AV) (a0_1 : Int) (a0_2 : List AV) (a0_3 : List AV) (a0_4 : List AV) : List AV := (v72_1 a0_2 a0_3 a0_4)
def v40_4 (a0_0 : List AV) (a0_1 : Int) (a0_2 : List AV) (a0_3 : List AV) (a0_4 : List AV) : List AV := (v72_2 a0_2 a0_3 a0_4)
theorem e40 (a0_0 : List AV) (a0_1 : Int) (a0_2 : List AV) (a0_3 : List AV) (a0_4 : List AV) : funA c40 0 40 [AV.agg [AV.sl [.int .i64, .int .i64, .int .i64, .int .i64] a0_0, AV.int .i64 a0_1, AV.sl [.int .i64] a0_2, AV.sl [.int .i64] a0_3, AV.sl [.int .i64, .int .i64] a0_4]] = (bif q71 a0_0 then (bif q72 a0_2 a0_3 a0_4 then some (AV.agg [AV.fl [.int .i64, .int .i64, .int .i64, .int .i64] (v71_0 a0_0), AV.int .i64 a0_1, AV.fl [.int .i64] (v72_0 a0_2 a0_3 a0_4), AV.fl [.int .i64] (v72_1 a0_2 a0_3 a0_4), AV.fl [.int .i64, .int .i64] (v72_2 a0_2 a0_3 a0_4)])
  else none)
  else none) := by kernel_rfl
theorem r40 (a0_0 : List AV) (a0_1 : Int) (a0_2 : List AV) (a0_3 : List AV) (a0_4 : List AV) (h : q40 a0_0 a0_1 a0_2 a0_3 a0_4 = true) : funA c40 0 40 [AV.agg [AV.sl [.int .i64, .int .i64, .int .i64, .int .i64] a0_0, AV.int .i64 a0_1, AV.sl [.int .i64] a0_2, AV.sl [.int .i64] a0_3, AV.sl [.int .i64, .int .i64] a0_4]] = some (AV.agg [AV.fl [.int .i64, .int .i64, .int .i64, .int .i64] (v40_0 a0_0 a0_1 a0_2 a0_3 a0_4), AV.int .i64 (v40_1 a0_0 a0_1 a0_2 a0_3 a0_4), AV.fl [.int .i64] (v40_2 a0_0 a0_1 a0_2 a0_3 a0_4), AV.fl [.int .i64] (v40_3 a0_0 a0_1 a0_2 a0_3 a0_4), AV.fl [.int .i64, .int .i64] (v40_4 a0_0 a0_1 a0_2 a0_3 a0_4)]) := (e40 a0_0 a0_1 a0_2 a0_3 a0_4).trans ((brL (brL1 (fun _ => rfl))) h)
def m40 : TModel
  | [.agg [.sl g0 a0_0, .int .i64 a0_1, .sl g1 a0_2, .sl g2 a0_3, .sl g3 a0_4]] => bif ctsEq g0 ([.int .i64, .int .i64, .int .i64, .int .i64]) && ctsEq g1 ([.int .i64]) && ctsEq g2 ([.int .i64]) && ctsEq g3 ([.int .i64, .int .i64]) then some (q40 a0_0 a0_1 a0_2 a0_3 a0_4, AV.agg [AV.fl [.int .i64, .int .i64, .int .i64, .int .i64] (v40_0 a0_0 a0_1 a0_2 a0_3 a0_4), AV.int .i64 (v40_1 a0_0 a0_1 a0_2 a0_3 a0_4), AV.fl [.int .i64] (v40_2 a0_0 a0_1 a0_2 a0_3 a0_4), AV.fl [.int .i64] (v40_3 a0_0 a0_1 a0_2 a0_3 a0_4), AV.fl [.int .i64, .int .i64] (v40_4 a0_0 a0_1 a0_2 a0_3 a0_4)]) else none
  | _ => none
theorem k40 : Known Tryz.prog 40 := ⟨Tryz.f40, Tryz.func40, by kernel_rfl, by kernel_rfl⟩
theorem meets40 : Meets Tryz.prog 40 m40 := by
  refine meet (f := Tryz.f40) (l := []) (hs := [(40, 999, [2])]) (ts := [(71, m71), (72, m72)]) (ws := []) (is := []) (ls := []) (lvl := 0) mixed k40 Tryz.func40 (by kernel_rfl) noLoop (allT_cons meets71 (allT_cons meets72 allT_nil)) allM_nil noI fun w xs us r hl hv h => ?_
  unfold m40 at h
  split at h
  · rename_i g0 a0_0 a0_1 g1 a0_2 g2 a0_3 g3 a0_4
    obtain ⟨hg, h⟩ := bif_pair h
    simp only [Bool.and_eq_true] at hg
    obtain ⟨⟨⟨q0, q1⟩, q2⟩, q3⟩ := hg
    obtain rfl := ctsEq_eq _ _ q0
    obtain rfl := ctsEq_eq _ _ q1
    obtain rfl := ctsEq_eq _ _ q2
    obtain rfl := ctsEq_eq _ _ q3
    obtain ⟨h1, rfl⟩ := pair_inj h
    exact r40 a0_0 a0_1 a0_2 a0_3 a0_4 h1
  · cases h

/-! ### 104 loop.example/g01984/impl.within$1 -/
noncomputable def c104 : Cfg := cfg Tryz.prog [(104, 999, [4])] [] [] [] []
def q104 (a0 : Int) (a1 : AV) (a2 : AV) : Bool := true
def v104_0 (a0 : Int) (a1 : AV) (a2 : AV) : Bool := (bif decide (a0 < fI a1 0) then true else decide (a0 > fI a2 0))
theorem e104 (a0 : Int) (a1 : AV) (a2 : AV) : funA c104 0 104 [AV.int .i64 a0, AV.rptr [.int .i64] a1 0, AV.rptr [.int .i64] a2 0] = (bif decide (a0 < fI a1 0) then some (AV.bool true)
  else some (AV.bool (decide (a0 > fI a2 0)))) := by kernel_rfl
theorem r104 (a0 : Int) (a1 : AV) (a2 : AV) : funA c104 0 104 [AV.int .i64 a0, AV.rptr [.int .i64] a1 0, AV.rptr [.int .i64] a2 0] = some (AV.bool (v104_0 a0 a1 a2)) := (e104 a0 a1 a2).trans (of_tt (brT (fun b => some (AV.bool (bif b then true else decide (a0 > fI a2 0)))) (fun _ => rfl) (fun _ => rfl)))
def m104 : TModel
  | [.int .i64 a0, .rptr g0 a1 g1, .rptr g2 a2 g3] => bif ctsEq g0 ([.int .i64]) && Nat.beq g1 0 && ctsEq g2 ([.int .i64]) && Nat.beq g3 0 then some (true, AV.bool (v104_0 a0 a1 a2)) else none
  | _ => none
theorem k104 : Known Tryz.prog 104 := ⟨Tryz.f104, Tryz.func104, by kernel_rfl, by kernel_rfl⟩
theorem meets104 : Meets Tryz.prog 104 m104 := by
  refine meet (f := Tryz.f104) (l := []) (hs := [(104, 999, [4])]) (ts := []) (ws := []) (is := []) (ls := []) (lvl := 0) mixed k104 Tryz.func104 (by kernel_rfl) noLoop allT_nil allM_nil noI fun w xs us r hl hv h => ?_
  unfold m104 at h
  split at h
  · rename_i a0 g0 a1 g1 g2 a2 g3
    obtain ⟨hg, h⟩ := bif_pair h
    simp only [Bool.and_eq_true] at hg
    obtain ⟨⟨⟨q0, q1⟩, q2⟩, q3⟩ := hg
    obtain rfl := ctsEq_eq _ _ q0
    obtain rfl := Nat.eq_of_beq_eq_true q1
    obtain rfl := ctsEq_eq _ _ q2
    obtain rfl := Nat.eq_of_beq_eq_true q3
    obtain ⟨h1, rfl⟩ := pair_inj h
    exact r104 a0 a1 a2
  · cases h

/-! ### 120 slices.IndexFunc[[]int,int] -/
def F120_0 (t0 : List AV) (t1_0 : AV) (t1_1 : AV) (t7 : Int) (t8 : Int) : Out (Int) (Unit ⊕ Int) := (bif decide (t8 < t7) then (bif (decide (0 ≤ t8) && decide (t8 < (t0.length : Int))) then (bif (v104_0 (fI (t0.getD t8.toNat AV.undef) 0) t1_0 t1_1) then .stop (.inr t8)
  else .next (IntKind.i64.wrap (t8 + 1)))
  else .fail)
  else .stop (.inl ()))
def R120_0 (t0 : List AV) (t1_0 : AV) (t1_1 : AV) (t7 : Int) : (Int) → Out (Int) (Unit ⊕ Int) := fun s : Int => F120_0 t0 t1_0 t1_1 t7 s
def l120_0 : LModel := fun _ _ st k => match st with
  | ⟨[(0, .sl g0 t0), (1, .fn g1 [.rptr g2 t1_0 g3, .rptr g4 t1_1 g5]), (7, .int .i64 t7), (8, .int .i64 t8)], []⟩ => bif ctsEq g0 ([.int .i64]) && Nat.beq g1 104 && ctsEq g2 ([.int .i64]) && Nat.beq g3 0 && ctsEq g4 ([.int .i64]) && Nat.beq g5 0 then ro (runW (R120_0 t0 t1_0 t1_1 t7) ((t7 - t8).toNat + 1) t8) none (sumE (fun _ : Unit => k (.exit 0) ⟨[], []⟩) (fun p : Int => k .ret ⟨[(4, AV.int .i64 p)], []⟩)) else none
  | _ => none
noncomputable def c120 : Cfg := cfg Tryz.prog [(120, 0, [0, 1, 7, 8]), (120, 999, [4]), (120, 1000, []), (120, 1001, [0, 1, 7, 8])] [(104, m104)] [] [] [(120, 0, l120_0)]
theorem s120_0 (ce : CallE) (t0 : List AV) (t1_0 : AV) (t1_1 : AV) (t7 : Int) (t8 : Int) (next : St → Option AV) (k : Kont) : stepA (codeA c120 ce [] 120 0 (sub [1, 0, 1, 0, 0] (body Tryz.f120))) (normA [] [0, 1, 7, 8]) next ⟨[(0, AV.sl [.int .i64] t0), (1, AV.fn 104 [AV.rptr [.int .i64] t1_0 0, AV.rptr [.int .i64] t1_1 0]), (7, AV.int .i64 t7), (8, AV.int .i64 t8)], []⟩ k = (bif decide (t8 < t7) then (bif (decide (0 ≤ t8) && decide (t8 < (t0.length : Int))) then (bif (v104_0 (fI (t0.getD t8.toNat AV.undef) 0) t1_0 t1_1) then k .ret ⟨[(4, AV.int .i64 t8)], []⟩
  else next ⟨[(0, AV.sl [.int .i64] t0), (1, AV.fn 104 [AV.rptr [.int .i64] t1_0 0, AV.rptr [.int .i64] t1_1 0]), (7, AV.int .i64 t7), (8, AV.int .i64 (IntKind.i64.wrap (t8 + 1)))], []⟩)
  else none)
  else k (.exit 0) ⟨[], []⟩) := by kernel_rfl
theorem st120_0 (t0 : List AV) (t1_0 : AV) (t1_1 : AV) (t7 : Int) (ce : CallE) (k : Kont) (s : Int) (next : St → Option AV) : stepA (codeA c120 ce [] 120 0 (sub [1, 0, 1, 0, 0] (body Tryz.f120))) (normA [] [0, 1, 7, 8]) next ((fun s : Int => ⟨[(0, AV.sl [.int .i64] t0), (1, AV.fn 104 [AV.rptr [.int .i64] t1_0 0, AV.rptr [.int .i64] t1_1 0]), (7, AV.int .i64 t7), (8, AV.int .i64 s)], []⟩) s) k = (R120_0 t0 t1_0 t1_1 t7 s).el none (fun s => next ((fun s : Int => ⟨[(0, AV.sl [.int .i64] t0), (1, AV.fn 104 [AV.rptr [.int .i64] t1_0 0, AV.rptr [.int .i64] t1_1 0]), (7, AV.int .i64 t7), (8, AV.int .i64 s)], []⟩) s)) (sumE (fun _ : Unit => k (.exit 0) ⟨[], []⟩) (fun p : Int => k .ret ⟨[(4, AV.int .i64 p)], []⟩)) := (s120_0 ce t0 t1_0 t1_1 t7 s next k).trans (by unfold R120_0; unfold F120_0; simp only [el_cond, el_ro, el_sum, el_fail, el_next, el_stop] <;> rfl)
theorem ok120_0 {ce : CallE} : LoopOK c120 ce [] 120 0 (sub [1, 0, 1, 0, 0] (body Tryz.f120)) := by
  intro m hm st k r h
  obtain rfl : l120_0 = m := Option.some.inj hm
  unfold l120_0 at h
  split at h
  · rename_i g0 t0 g1 g2 t1_0 g3 g4 t1_1 g5 t7 t8
    obtain ⟨hg, h⟩ := bif_some h
    simp only [Bool.and_eq_true] at hg
    obtain ⟨⟨⟨⟨⟨q0, q1⟩, q2⟩, q3⟩, q4⟩, q5⟩ := hg
    obtain rfl := ctsEq_eq _ _ q0
    obtain rfl := Nat.eq_of_beq_eq_true q1
    obtain rfl := ctsEq_eq _ _ q2
    obtain rfl := Nat.eq_of_beq_eq_true q3
    obtain rfl := ctsEq_eq _ _ q4
    obtain rfl := Nat.eq_of_beq_eq_true q5
    refine ⟨((t7 - t8).toNat + 1), ?_⟩
    rw [← h]
    exact loop_run (fun s : Int => ⟨[(0, AV.sl [.int .i64] t0), (1, AV.fn 104 [AV.rptr [.int .i64] t1_0 0, AV.rptr [.int .i64] t1_1 0]), (7, AV.int .i64 t7), (8, AV.int .i64 s)], []⟩) (sumE (fun _ : Unit => k (.exit 0) ⟨[], []⟩) (fun p : Int => k .ret ⟨[(4, AV.int .i64 p)], []⟩)) (st120_0 t0 t1_0 t1_1 t7 ce k) _ t8
  · cases h
def q120 (a0 : List AV) (a1_0 : AV) (a1_1 : AV) : Bool := (ro (runW (R120_0 a0 a1_0 a1_1 (a0.length : Int)) (((a0.length : Int) - 0).toNat + 1) 0) false (sumE (fun _ => true) (fun p33 => true)))
def v120_0 (a0 : List AV) (a1_0 : AV) (a1_1 : AV) : Int := (ro (runW (R120_0 a0 a1_0 a1_1 (a0.length : Int)) (((a0.length : Int) - 0).toNat + 1) 0) 0 (sumE (fun _ => (-1)) (fun p33 => p33)))
theorem e120 (a0 : List AV) (a1_0 : AV) (a1_1 : AV) : funA c120 0 120 [AV.sl [.int .i64] a0, AV.fn 104 [AV.rptr [.int .i64] a1_0 0, AV.rptr [.int .i64] a1_1 0]] = (ro (runW (R120_0 a0 a1_0 a1_1 (a0.length : Int)) (((a0.length : Int) - 0).toNat + 1) 0) none (sumE (fun _ => some (AV.int .i64 (-1))) (fun p33 => some (AV.int .i64 p33)))) := by kernel_rfl
theorem r120 (a0 : List AV) (a1_0 : AV) (a1_1 : AV) (h : q120 a0 a1_0 a1_1 = true) : funA c120 0 120 [AV.sl [.int .i64] a0, AV.fn 104 [AV.rptr [.int .i64] a1_0 0, AV.rptr [.int .i64] a1_1 0]] = some (AV.int .i64 (v120_0 a0 a1_0 a1_1)) := (e120 a0 a1_0 a1_1).trans ((brO (fun o : Option (Unit ⊕ Int) => some (AV.int .i64 (ro o 0 (sumE (fun _ => (-1)) (fun p33 => p33))))) (brS (fun o : Unit ⊕ Int => some (AV.int .i64 ((sumE (fun _ => (-1)) (fun p33 => p33)) o))) (fun _ => (fun _ => rfl)) (fun p33 => (fun _ => rfl)))) h)
def m120 : TModel
  | [.sl g0 a0, .fn g1 [.rptr g2 a1_0 g3, .rptr g4 a1_1 g5]] => bif ctsEq g0 ([.int .i64]) && Nat.beq g1 104 && ctsEq g2 ([.int .i64]) && Nat.beq g3 0 && ctsEq g4 ([.int .i64]) && Nat.beq g5 0 then some (q120 a0 a1_0 a1_1, AV.int .i64 (v120_0 a0 a1_0 a1_1)) else none
  | _ => none
theorem k120 : Known Tryz.prog 120 := ⟨Tryz.f120, Tryz.func120, by kernel_rfl, by kernel_rfl⟩
theorem meets120 : Meets Tryz.prog 120 m120 := by
  refine meet (f := Tryz.f120) (l := [(0, sub [1, 0, 1, 0, 0] (body Tryz.f120))]) (hs := [(120, 0, [0, 1, 7, 8]), (120, 999, [4]), (120, 1000, []), (120, 1001, [0, 1, 7, 8])]) (ts := [(104, m104)]) (ws := []) (is := []) (ls := [(120, 0, l120_0)]) (lvl := 0) mixed k120 Tryz.func120 (by kernel_rfl) (loops_cons ok120_0 noLoop) (allT_cons meets104 allT_nil) allM_nil noI fun w xs us r hl hv h => ?_
  unfold m120 at h
  split at h
  · rename_i g0 a0 g1 g2 a1_0 g3 g4 a1_1 g5
    obtain ⟨hg, h⟩ := bif_pair h
    simp only [Bool.and_eq_true] at hg
    obtain ⟨⟨⟨⟨⟨q0, q1⟩, q2⟩, q3⟩, q4⟩, q5⟩ := hg
    obtain rfl := ctsEq_eq _ _ q0
    obtain rfl := Nat.eq_of_beq_eq_true q1
    obtain rfl := ctsEq_eq _ _ q2
    obtain rfl := Nat.eq_of_beq_eq_true q3
    obtain rfl := ctsEq_eq _ _ q4
    obtain rfl := Nat.eq_of_beq_eq_true q5
    obtain ⟨h1, rfl⟩ := pair_inj h
    exact r120 a0 a1_0 a1_1 h1
  · cases h

/-! ### 103 slices.ContainsFunc[[]int,int] -/
noncomputable def c103 : Cfg := cfg Tryz.prog [(103, 999, [4])] [(120, m120)] [] [] []
def q103 (a0 : List AV) (a1_0 : AV) (a1_1 : AV) : Bool := q120 a0 a1_0 a1_1
def v103_0 (a0 : List AV) (a1_0 : AV) (a1_1 : AV) : Bool := decide ((v120_0 a0 a1_0 a1_1) ≥ 0)
theorem e103 (a0 : List AV) (a1_0 : AV) (a1_1 : AV) : funA c103 0 103 [AV.sl [.int .i64] a0, AV.fn 104 [AV.rptr [.int .i64] a1_0 0, AV.rptr [.int .i64] a1_1 0]] = (bif q120 a0 a1_0 a1_1 then some (AV.bool (decide ((v120_0 a0 a1_0 a1_1) ≥ 0)))
  else none) := by kernel_rfl
theorem r103 (a0 : List AV) (a1_0 : AV) (a1_1 : AV) (h : q103 a0 a1_0 a1_1 = true) : funA c103 0 103 [AV.sl [.int .i64] a0, AV.fn 104 [AV.rptr [.int .i64] a1_0 0, AV.rptr [.int .i64] a1_1 0]] = some (AV.bool (v103_0 a0 a1_0 a1_1)) := (e103 a0 a1_0 a1_1).trans ((brL1 (fun _ => rfl)) h)
def m103 : TModel
  | [.sl g0 a0, .fn g1 [.rptr g2 a1_0 g3, .rptr g4 a1_1 g5]] => bif ctsEq g0 ([.int .i64]) && Nat.beq g1 104 && ctsEq g2 ([.int .i64]) && Nat.beq g3 0 && ctsEq g4 ([.int .i64]) && Nat.beq g5 0 then some (q103 a0 a1_0 a1_1, AV.bool (v103_0 a0 a1_0 a1_1)) else none
  | _ => none
theorem k103 : Known Tryz.prog 103 := ⟨Tryz.f103, Tryz.func103, by kernel_rfl, by kernel_rfl⟩
theorem meets103 : Meets Tryz.prog 103 m103 := by
  refine meet (f := Tryz.f103) (l := []) (hs := [(103, 999, [4])]) (ts := [(120, m120)]) (ws := []) (is := []) (ls := []) (lvl := 0) mixed k103 Tryz.func103 (by kernel_rfl) noLoop (allT_cons meets120 allT_nil) allM_nil noI fun w xs us r hl hv h => ?_
  unfold m103 at h
  split at h
  · rename_i g0 a0 g1 g2 a1_0 g3 g4 a1_1 g5
    obtain ⟨hg, h⟩ := bif_pair h
    simp only [Bool.and_eq_true] at hg
    obtain ⟨⟨⟨⟨⟨q0, q1⟩, q2⟩, q3⟩, q4⟩, q5⟩ := hg
    obtain rfl := ctsEq_eq _ _ q0
    obtain rfl := Nat.eq_of_beq_eq_true q1
    obtain rfl := ctsEq_eq _ _ q2
    obtain rfl := Nat.eq_of_beq_eq_true q3
    obtain rfl := ctsEq_eq _ _ q4
    obtain rfl := Nat.eq_of_beq_eq_true q5
    obtain ⟨h1, rfl⟩ := pair_inj h
    exact r103 a0 a1_0 a1_1 h1
  · cases h

/-! ### 84 loop.example/g01984/impl.within -/
noncomputable def c84 : Cfg := cfg Tryz.prog [(84, 999, [6])] [(103, m103)] [] [] []
def q84 (a0 : List AV) (a1 : Int) (a2 : Int) : Bool := q103 a0 (AV.int .i64 a1) (AV.int .i64 a2)
def v84_0 (a0 : List AV) (a1 : Int) (a2 : Int) : Bool := !(v103_0 a0 (AV.int .i64 a1) (AV.int .i64 a2))
theorem e84 (a0 : List AV) (a1 : Int) (a2 : Int) : funA c84 0 84 [AV.sl [.int .i64] a0, AV.int .i64 a1, AV.int .i64 a2] = (bif q103 a0 (AV.int .i64 a1) (AV.int .i64 a2) then some (AV.bool (!(v103_0 a0 (AV.int .i64 a1) (AV.int .i64 a2))))
  else none) := by kernel_rfl
theorem r84 (a0 : List AV) (a1 : Int) (a2 : Int) (h : q84 a0 a1 a2 = true) : funA c84 0 84 [AV.sl [.int .i64] a0, AV.int .i64 a1, AV.int .i64 a2] = some (AV.bool (v84_0 a0 a1 a2)) := (e84 a0 a1 a2).trans ((brL1 (fun _ => rfl)) h)
def m84 : TModel
  | [.sl g0 a0, .int .i64 a1, .int .i64 a2] => bif ctsEq g0 ([.int .i64]) then some (q84 a0 a1 a2, AV.bool (v84_0 a0 a1 a2)) else none
  | _ => none
theorem k84 : Known Tryz.prog 84 := ⟨Tryz.f84, Tryz.func84, by kernel_rfl, by kernel_rfl⟩
theorem meets84 : Meets Tryz.prog 84 m84 := by
  refine meet (f := Tryz.f84) (l := []) (hs := [(84, 999, [6])]) (ts := [(103, m103)]) (ws := []) (is := []) (ls := []) (lvl := 0) mixed k84 Tryz.func84 (by kernel_rfl) noLoop (allT_cons meets103 allT_nil) allM_nil noI fun w xs us r hl hv h => ?_
  unfold m84 at h
  split at h
  · rename_i g0 a0 a1 a2
    obtain ⟨hg, h⟩ := bif_pair h
    have q0 := hg
    obtain rfl := ctsEq_eq _ _ q0
    obtain ⟨h1, rfl⟩ := pair_inj h
    exact r84 a0 a1 a2 h1
  · cases h

/-! ### 57 loop.example/g01984/impl.AreValues -/
noncomputable def c57 : Cfg := cfg Tryz.prog [(57, 999, [2])] [(84, m84)] [] [] []
def q57 (a0 : List AV) : Bool := (bif decide ((a0.length : Int) ≤ 64) then q84 a0 (-999) 999 else true)
def v57_0 (a0 : List AV) : Bool := (bif decide ((a0.length : Int) ≤ 64) then (v84_0 a0 (-999) 999) else false)
theorem e57 (a0 : List AV) : funA c57 0 57 [AV.sl [.int .i64] a0] = (bif decide ((a0.length : Int) ≤ 64) then (bif q84 a0 (-999) 999 then some (AV.bool (v84_0 a0 (-999) 999))
  else none)
  else some (AV.bool false)) := by kernel_rfl
theorem r57 (a0 : List AV) (h : q57 a0 = true) : funA c57 0 57 [AV.sl [.int .i64] a0] = some (AV.bool (v57_0 a0)) := (e57 a0).trans ((br (fun b => some (AV.bool (bif b then (v84_0 a0 (-999) 999) else false))) (brL1 (fun _ => rfl)) (fun _ => rfl)) h)
def m57 : TModel
  | [.sl g0 a0] => bif ctsEq g0 ([.int .i64]) then some (q57 a0, AV.bool (v57_0 a0)) else none
  | _ => none
theorem k57 : Known Tryz.prog 57 := ⟨Tryz.f57, Tryz.func57, by kernel_rfl, by kernel_rfl⟩
theorem meets57 : Meets Tryz.prog 57 m57 := by
  refine meet (f := Tryz.f57) (l := []) (hs := [(57, 999, [2])]) (ts := [(84, m84)]) (ws := []) (is := []) (ls := []) (lvl := 0) mixed k57 Tryz.func57 (by kernel_rfl) noLoop (allT_cons meets84 allT_nil) allM_nil noI fun w xs us r hl hv h => ?_
  unfold m57 at h
  split at h
  · rename_i g0 a0
    obtain ⟨hg, h⟩ := bif_pair h
    have q0 := hg
    obtain rfl := ctsEq_eq _ _ q0
    obtain ⟨h1, rfl⟩ := pair_inj h
    exact r57 a0 h1
  · cases h

/-! ### 77 slices.Index[[]int,int] -/
def F77_0 (t0 : List AV) (t1 : Int) (t7 : Int) (t8 : Int) : Out (Int) (Unit ⊕ Int) := (bif decide (t8 < t7) then (bif (decide (0 ≤ t8) && decide (t8 < (t0.length : Int))) then (bif decide (t1 = fI (t0.getD t8.toNat AV.undef) 0) then .stop (.inr t8)
  else .next (IntKind.i64.wrap (t8 + 1)))
  else .fail)
  else .stop (.inl ()))
def R77_0 (t0 : List AV) (t1 : Int) (t7 : Int) : (Int) → Out (Int) (Unit ⊕ Int) := fun s : Int => F77_0 t0 t1 t7 s
def l77_0 : LModel := fun _ _ st k => match st with
  | ⟨[(0, .sl g0 t0), (1, .int .i64 t1), (7, .int .i64 t7), (8, .int .i64 t8)], []⟩ => bif ctsEq g0 ([.int .i64]) then ro (runW (R77_0 t0 t1 t7) ((t7 - t8).toNat + 1) t8) none (sumE (fun _ : Unit => k (.exit 0) ⟨[], []⟩) (fun p : Int => k .ret ⟨[(4, AV.int .i64 p)], []⟩)) else none
  | _ => none
noncomputable def c77 : Cfg := cfg Tryz.prog [(77, 0, [0, 1, 7, 8]), (77, 999, [4]), (77, 1000, []), (77, 1001, [0, 1, 7, 8])] [] [] [] [(77, 0, l77_0)]
theorem s77_0 (ce : CallE) (t0 : List AV) (t1 : Int) (t7 : Int) (t8 : Int) (next : St → Option AV) (k : Kont) : stepA (codeA c77 ce [] 77 0 (sub [1, 0, 1, 0, 0] (body Tryz.f77))) (normA [] [0, 1, 7, 8]) next ⟨[(0, AV.sl [.int .i64] t0), (1, AV.int .i64 t1), (7, AV.int .i64 t7), (8, AV.int .i64 t8)], []⟩ k = (bif decide (t8 < t7) then (bif (decide (0 ≤ t8) && decide (t8 < (t0.length : Int))) then (bif decide (t1 = fI (t0.getD t8.toNat AV.undef) 0) then k .ret ⟨[(4, AV.int .i64 t8)], []⟩
  else next ⟨[(0, AV.sl [.int .i64] t0), (1, AV.int .i64 t1), (7, AV.int .i64 t7), (8, AV.int .i64 (IntKind.i64.wrap (t8 + 1)))], []⟩)
  else none)
  else k (.exit 0) ⟨[], []⟩) := by kernel_rfl
theorem st77_0 (t0 : List AV) (t1 : Int) (t7 : Int) (ce : CallE) (k : Kont) (s : Int) (next : St → Option AV) : stepA (codeA c77 ce [] 77 0 (sub [1, 0, 1, 0, 0] (body Tryz.f77))) (normA [] [0, 1, 7, 8]) next ((fun s : Int => ⟨[(0, AV.sl [.int .i64] t0), (1, AV.int .i64 t1), (7, AV.int .i64 t7), (8, AV.int .i64 s)], []⟩) s) k = (R77_0 t0 t1 t7 s).el none (fun s => next ((fun s : Int => ⟨[(0, AV.sl [.int .i64] t0), (1, AV.int .i64 t1), (7, AV.int .i64 t7), (8, AV.int .i64 s)], []⟩) s)) (sumE (fun _ : Unit => k (.exit 0) ⟨[], []⟩) (fun p : Int => k .ret ⟨[(4, AV.int .i64 p)], []⟩)) := (s77_0 ce t0 t1 t7 s next k).trans (by unfold R77_0; unfold F77_0; simp only [el_cond, el_ro, el_sum, el_fail, el_next, el_stop] <;> rfl)
theorem ok77_0 {ce : CallE} : LoopOK c77 ce [] 77 0 (sub [1, 0, 1, 0, 0] (body Tryz.f77)) := by
  intro m hm st k r h
  obtain rfl : l77_0 = m := Option.some.inj hm
  unfold l77_0 at h
  split at h
  · rename_i g0 t0 t1 t7 t8
    obtain ⟨hg, h⟩ := bif_some h
    have q0 := hg
    obtain rfl := ctsEq_eq _ _ q0
    refine ⟨((t7 - t8).toNat + 1), ?_⟩
    rw [← h]
    exact loop_run (fun s : Int => ⟨[(0, AV.sl [.int .i64] t0), (1, AV.int .i64 t1), (7, AV.int .i64 t7), (8, AV.int .i64 s)], []⟩) (sumE (fun _ : Unit => k (.exit 0) ⟨[], []⟩) (fun p : Int => k .ret ⟨[(4, AV.int .i64 p)], []⟩)) (st77_0 t0 t1 t7 ce k) _ t8
  · cases h
def q77 (a0 : List AV) (a1 : Int) : Bool := (ro (runW (R77_0 a0 a1 (a0.length : Int)) (((a0.length : Int) - 0).toNat + 1) 0) false (sumE (fun _ => true) (fun p35 => true)))
def v77_0 (a0 : List AV) (a1 : Int) : Int := (ro (runW (R77_0 a0 a1 (a0.length : Int)) (((a0.length : Int) - 0).toNat + 1) 0) 0 (sumE (fun _ => (-1)) (fun p35 => p35)))
theorem e77 (a0 : List AV) (a1 : Int) : funA c77 0 77 [AV.sl [.int .i64] a0, AV.int .i64 a1] = (ro (runW (R77_0 a0 a1 (a0.length : Int)) (((a0.length : Int) - 0).toNat + 1) 0) none (sumE (fun _ => some (AV.int .i64 (-1))) (fun p35 => some (AV.int .i64 p35)))) := by kernel_rfl
theorem r77 (a0 : List AV) (a1 : Int) (h : q77 a0 a1 = true) : funA c77 0 77 [AV.sl [.int .i64] a0, AV.int .i64 a1] = some (AV.int .i64 (v77_0 a0 a1)) := (e77 a0 a1).trans ((brO (fun o : Option (Unit ⊕ Int) => some (AV.int .i64 (ro o 0 (sumE (fun _ => (-1)) (fun p35 => p35))))) (brS (fun o : Unit ⊕ Int => some (AV.int .i64 ((sumE (fun _ => (-1)) (fun p35 => p35)) o))) (fun _ => (fun _ => rfl)) (fun p35 => (fun _ => rfl)))) h)
def m77 : TModel
  | [.sl g0 a0, .int .i64 a1] => bif ctsEq g0 ([.int .i64]) then some (q77 a0 a1, AV.int .i64 (v77_0 a0 a1)) else none
  | _ => none
theorem k77 : Known Tryz.prog 77 := ⟨Tryz.f77, Tryz.func77, by kernel_rfl, by kernel_rfl⟩
theorem meets77 : Meets Tryz.prog 77 m77 := by
  refine meet (f := Tryz.f77) (l := [(0, sub [1, 0, 1, 0, 0] (body Tryz.f77))]) (hs := [(77, 0, [0, 1, 7, 8]), (77, 999, [4]), (77, 1000, []), (77, 1001, [0, 1, 7, 8])]) (ts := []) (ws := []) (is := []) (ls := [(77, 0, l77_0)]) (lvl := 0) mixed k77 Tryz.func77 (by kernel_rfl) (loops_cons ok77_0 noLoop) allT_nil allM_nil noI fun w xs us r hl hv h => ?_
  unfold m77 at h
  split at h
  · rename_i g0 a0 a1
    obtain ⟨hg, h⟩ := bif_pair h
    have q0 := hg
    obtain rfl := ctsEq_eq _ _ q0
    obtain ⟨h1, rfl⟩ := pair_inj h
    exact r77 a0 a1 h1
  · cases h

/-! ### 45 slices.Contains[[]int,int] -/
noncomputable def c45 : Cfg := cfg Tryz.prog [(45, 999, [4])] [(77, m77)] [] [] []
def q45 (a0 : List AV) (a1 : Int) : Bool := q77 a0 a1
def v45_0 (a0 : List AV) (a1 : Int) : Bool := decide ((v77_0 a0 a1) ≥ 0)
theorem e45 (a0 : List AV) (a1 : Int) : funA c45 0 45 [AV.sl [.int .i64] a0, AV.int .i64 a1] = (bif q77 a0 a1 then some (AV.bool (decide ((v77_0 a0 a1) ≥ 0)))
  else none) := by kernel_rfl
theorem r45 (a0 : List AV) (a1 : Int) (h : q45 a0 a1 = true) : funA c45 0 45 [AV.sl [.int .i64] a0, AV.int .i64 a1] = some (AV.bool (v45_0 a0 a1)) := (e45 a0 a1).trans ((brL1 (fun _ => rfl)) h)
def m45 : TModel
  | [.sl g0 a0, .int .i64 a1] => bif ctsEq g0 ([.int .i64]) then some (q45 a0 a1, AV.bool (v45_0 a0 a1)) else none
  | _ => none
theorem k45 : Known Tryz.prog 45 := ⟨Tryz.f45, Tryz.func45, by kernel_rfl, by kernel_rfl⟩
theorem meets45 : Meets Tryz.prog 45 m45 := by
  refine meet (f := Tryz.f45) (l := []) (hs := [(45, 999, [4])]) (ts := [(77, m77)]) (ws := []) (is := []) (ls := []) (lvl := 0) mixed k45 Tryz.func45 (by kernel_rfl) noLoop (allT_cons meets77 allT_nil) allM_nil noI fun w xs us r hl hv h => ?_
  unfold m45 at h
  split at h
  · rename_i g0 a0 a1
    obtain ⟨hg, h⟩ := bif_pair h
    have q0 := hg
    obtain rfl := ctsEq_eq _ _ q0
    obtain ⟨h1, rfl⟩ := pair_inj h
    exact r45 a0 a1 h1
  · cases h

/-! ### 96 loop.example/g01984/impl.bound -/
noncomputable def c96 : Cfg := cfg Tryz.prog [(96, 999, [2])] [] [] [] []
def q96 (a0 : Int) : Bool := true
def v96_0 (a0 : Int) : Bool := (bif decide (a0 ≥ (-1000)) then decide (a0 ≤ 1000) else false)
theorem e96 (a0 : Int) : funA c96 0 96 [AV.int .i64 a0] = (bif decide (a0 ≥ (-1000)) then some (AV.bool (decide (a0 ≤ 1000)))
  else some (AV.bool false)) := by kernel_rfl
theorem r96 (a0 : Int) : funA c96 0 96 [AV.int .i64 a0] = some (AV.bool (v96_0 a0)) := (e96 a0).trans (of_tt (brT (fun b => some (AV.bool (bif b then decide (a0 ≤ 1000) else false))) (fun _ => rfl) (fun _ => rfl)))
def m96 : TModel
  | [.int .i64 a0] => some (true, AV.bool (v96_0 a0))
  | _ => none
theorem k96 : Known Tryz.prog 96 := ⟨Tryz.f96, Tryz.func96, by kernel_rfl, by kernel_rfl⟩
theorem meets96 : Meets Tryz.prog 96 m96 := by
  refine meet (f := Tryz.f96) (l := []) (hs := [(96, 999, [2])]) (ts := []) (ws := []) (is := []) (ls := []) (lvl := 0) mixed k96 Tryz.func96 (by kernel_rfl) noLoop allT_nil allM_nil noI fun w xs us r hl hv h => ?_
  unfold m96 at h
  split at h
  · rename_i a0
    obtain ⟨h1, rfl⟩ := pair_inj h
    exact r96 a0
  · cases h

/-! ### 73 loop.example/g01984/impl.IsCracker -/
def F73_4 (t50 : List AV) (t51 : Int) (t52 : Int) (t103 : List AV) (t104 : Int) (h0_0 : List AV) (h0_1 : List AV) (h0_2 : List AV) (h1_0 : Int) (h1_1 : Int) (t105 : Int) : Out (Int) (Unit ⊕ Unit) := (bif decide (t105 < t104) then (bif (decide (0 ≤ t105) && decide (t105 < (t103.length : Int))) then (bif !(decide (fI (t103.getD t105.toNat AV.undef) 0 < h1_0) == decide (t105 < h1_1)) then .stop (.inr ())
  else .next (IntKind.i64.wrap (t105 + 1)))
  else .fail)
  else .stop (.inl ()))
def R73_4 (t50 : List AV) (t51 : Int) (t52 : Int) (t103 : List AV) (t104 : Int) (h0_0 : List AV) (h0_1 : List AV) (h0_2 : List AV) (h1_0 : Int) (h1_1 : Int) : (Int) → Out (Int) (Unit ⊕ Unit) := fun s : Int => F73_4 t50 t51 t52 t103 t104 h0_0 h0_1 h0_2 h1_0 h1_1 s
def l73_4 : LModel := fun _ _ st k => match st with
  | ⟨[(1, .ptr g0 g1 g2), (6, .ptr g3 g4 g5), (50, .sl g6 t50), (51, .int .i64 t51), (52, .int .i64 t52), (103, .sl g7 t103), (104, .int .i64 t104), (105, .int .i64 t105)], [(g8, ⟨true, [], [.agg [.sl g9 h0_0, .sl g10 h0_1, .sl g11 h0_2]]⟩), (g12, ⟨true, [], [.agg [.int .i64 h1_0, .int .i64 h1_1]]⟩)]⟩ => bif nmEq g0 ([0, 1]) && Nat.beq g1 0 && Nat.beq g2 0 && nmEq g3 ([0, 6]) && Nat.beq g4 0 && Nat.beq g5 0 && ctsEq g6 ([.int .i64, .int .i64]) && ctsEq g7 ([.int .i64]) && nmEq g8 ([0, 1]) && ctsEq g9 ([.int .i64]) && ctsEq g10 ([.int .i64]) && ctsEq g11 ([.int .i64, .int .i64]) && nmEq g12 ([0, 6]) then ro (runW (R73_4 t50 t51 t52 t103 t104 h0_0 h0_1 h0_2 h1_0 h1_1) ((t104 - t105).toNat + 1) t105) none (sumE (fun _ : Unit => k (.exit 4) ⟨[(1, AV.ptr [0, 1] 0 0), (50, AV.sl [.int .i64, .int .i64] t50), (51, AV.int .i64 t51), (52, AV.int .i64 t52)], [([0, 1], ⟨true, [], [AV.agg [AV.sl [.int .i64] h0_0, AV.sl [.int .i64] h0_1, AV.sl [.int .i64, .int .i64] h0_2]]⟩), ([0, 6], ⟨true, [], [AV.agg [AV.int .i64 h1_0, AV.int .i64 h1_1]]⟩)]⟩) (fun _ : Unit => k .ret ⟨[(2, AV.bool false)], [([0, 1], ⟨true, [], [AV.agg [AV.sl [.int .i64] h0_0, AV.sl [.int .i64] h0_1, AV.sl [.int .i64, .int .i64] h0_2]]⟩), ([0, 6], ⟨true, [], [AV.agg [AV.int .i64 h1_0, AV.int .i64 h1_1]]⟩)]⟩)) else none
  | _ => none
def F73_2 (t50 : List AV) (t51 : Int) (h0_0 : List AV) (h0_1 : List AV) (h0_2 : List AV) (t52 : Int) : Out (Int) (Unit ⊕ (Int × Int) ⊕ (Int × Int)) := (bif decide (t52 < t51) then (bif (decide (0 ≤ t52) && decide (t52 < (t50.length : Int))) then (bif !(v96_0 (fI (t50.getD t52.toNat AV.undef) 0)) then .stop (.inr (.inl (fI (t50.getD t52.toNat AV.undef) 0, fI (t50.getD t52.toNat AV.undef) 1)))
  else (bif decide (fI (t50.getD t52.toNat AV.undef) 1 < 0) then .stop (.inr (.inl (fI (t50.getD t52.toNat AV.undef) 0, fI (t50.getD t52.toNat AV.undef) 1)))
  else (bif decide (fI (t50.getD t52.toNat AV.undef) 1 > (h0_0.length : Int)) then .stop (.inr (.inl (fI (t50.getD t52.toNat AV.undef) 0, fI (t50.getD t52.toNat AV.undef) 1)))
  else (bif decide (t52 > 0) then (bif (decide (0 ≤ IntKind.i64.wrap (t52 - 1)) && decide (IntKind.i64.wrap (t52 - 1) < (h0_2.length : Int))) then (bif decide (fI (t50.getD t52.toNat AV.undef) 0 ≤ fI (h0_2.getD (IntKind.i64.wrap (t52 - 1)).toNat AV.undef) 0) then .stop (.inr (.inl (fI (t50.getD t52.toNat AV.undef) 0, fI (t50.getD t52.toNat AV.undef) 1)))
  else (bif (decide (0 ≤ IntKind.i64.wrap (t52 - 1)) && decide (IntKind.i64.wrap (t52 - 1) < (h0_2.length : Int))) then (bif decide (fI (t50.getD t52.toNat AV.undef) 1 < fI (h0_2.getD (IntKind.i64.wrap (t52 - 1)).toNat AV.undef) 1) then .stop (.inr (.inl (fI (t50.getD t52.toNat AV.undef) 0, fI (t50.getD t52.toNat AV.undef) 1)))
  else (ro (runW (R73_4 t50 t51 t52 h0_0 (h0_0.length : Int) h0_0 h0_1 h0_2 (fI (t50.getD t52.toNat AV.undef) 0) (fI (t50.getD t52.toNat AV.undef) 1)) (((h0_0.length : Int) - 0).toNat + 1) 0) .fail (sumE (fun _ => .next (IntKind.i64.wrap (t52 + 1))) (fun _ => .stop (.inr (.inr (fI (t50.getD t52.toNat AV.undef) 0, fI (t50.getD t52.toNat AV.undef) 1)))))))
  else .fail))
  else .fail)
  else (ro (runW (R73_4 t50 t51 t52 h0_0 (h0_0.length : Int) h0_0 h0_1 h0_2 (fI (t50.getD t52.toNat AV.undef) 0) (fI (t50.getD t52.toNat AV.undef) 1)) (((h0_0.length : Int) - 0).toNat + 1) 0) .fail (sumE (fun _ => .next (IntKind.i64.wrap (t52 + 1))) (fun _ => .stop (.inr (.inr (fI (t50.getD t52.toNat AV.undef) 0, fI (t50.getD t52.toNat AV.undef) 1))))))))))
  else .fail)
  else .stop (.inl ()))
def R73_2 (t50 : List AV) (t51 : Int) (h0_0 : List AV) (h0_1 : List AV) (h0_2 : List AV) : (Int) → Out (Int) (Unit ⊕ (Int × Int) ⊕ (Int × Int)) := fun s : Int => F73_2 t50 t51 h0_0 h0_1 h0_2 s
def l73_2 : LModel := fun _ _ st k => match st with
  | ⟨[(1, .ptr g0 g1 g2), (50, .sl g3 t50), (51, .int .i64 t51), (52, .int .i64 t52)], [(g4, ⟨true, [], [.agg [.sl g5 h0_0, .sl g6 h0_1, .sl g7 h0_2]]⟩)]⟩ => bif nmEq g0 ([0, 1]) && Nat.beq g1 0 && Nat.beq g2 0 && ctsEq g3 ([.int .i64, .int .i64]) && nmEq g4 ([0, 1]) && ctsEq g5 ([.int .i64]) && ctsEq g6 ([.int .i64]) && ctsEq g7 ([.int .i64, .int .i64]) then ro (runW (R73_2 t50 t51 h0_0 h0_1 h0_2) ((t51 - t52).toNat + 1) t52) none (sumE (fun _ : Unit => k (.exit 2) ⟨[], [([0, 1], ⟨true, [], [AV.agg [AV.sl [.int .i64] h0_0, AV.sl [.int .i64] h0_1, AV.sl [.int .i64, .int .i64] h0_2]]⟩)]⟩) (sumE (fun p : Int × Int => k .ret ⟨[(2, AV.bool false)], [([0, 1], ⟨true, [], [AV.agg [AV.sl [.int .i64] h0_0, AV.sl [.int .i64] h0_1, AV.sl [.int .i64, .int .i64] h0_2]]⟩), ([1, 6], ⟨true, [], [AV.agg [AV.int .i64 p.1, AV.int .i64 p.2]]⟩)]⟩) (fun p : Int × Int => k .ret ⟨[(2, AV.bool false)], [([0, 1], ⟨true, [], [AV.agg [AV.sl [.int .i64] h0_0, AV.sl [.int .i64] h0_1, AV.sl [.int .i64, .int .i64] h0_2]]⟩), ([0, 6], ⟨true, [], [AV.agg [AV.int .i64 p.1, AV.int .i64 p.2]]⟩)]⟩))) else none
  | _ => none
def F73_0 (t35 : List AV) (t36 : Int) (h0_0 : List AV) (h0_1 : List AV) (h0_2 : List AV) (t37 : Int) : Out (Int) (Unit ⊕ Unit) := (bif decide (t37 < t36) then (bif (decide (0 ≤ t37) && decide (t37 < (t35.length : Int))) then (bif (decide (0 ≤ 0) && decide (0 ≤ t37) && decide (t37 ≤ (h0_1.length : Int))) then (bif q45 ((h0_1.take (Int.toNat t37)).drop (Int.toNat 0)) (fI (t35.getD t37.toNat AV.undef) 0) then (bif (v45_0 ((h0_1.take (Int.toNat t37)).drop (Int.toNat 0)) (fI (t35.getD t37.toNat AV.undef) 0)) then .stop (.inr ())
  else .next (IntKind.i64.wrap (t37 + 1)))
  else .fail)
  else .fail)
  else .fail)
  else .stop (.inl ()))
def R73_0 (t35 : List AV) (t36 : Int) (h0_0 : List AV) (h0_1 : List AV) (h0_2 : List AV) : (Int) → Out (Int) (Unit ⊕ Unit) := fun s : Int => F73_0 t35 t36 h0_0 h0_1 h0_2 s
def l73_0 : LModel := fun _ _ st k => match st with
  | ⟨[(1, .ptr g0 g1 g2), (35, .sl g3 t35), (36, .int .i64 t36), (37, .int .i64 t37)], [(g4, ⟨true, [], [.agg [.sl g5 h0_0, .sl g6 h0_1, .sl g7 h0_2]]⟩)]⟩ => bif nmEq g0 ([0, 1]) && Nat.beq g1 0 && Nat.beq g2 0 && ctsEq g3 ([.int .i64]) && nmEq g4 ([0, 1]) && ctsEq g5 ([.int .i64]) && ctsEq g6 ([.int .i64]) && ctsEq g7 ([.int .i64, .int .i64]) then ro (runW (R73_0 t35 t36 h0_0 h0_1 h0_2) ((t36 - t37).toNat + 1) t37) none (sumE (fun _ : Unit => k (.exit 0) ⟨[(1, AV.ptr [0, 1] 0 0)], [([0, 1], ⟨true, [], [AV.agg [AV.sl [.int .i64] h0_0, AV.sl [.int .i64] h0_1, AV.sl [.int .i64, .int .i64] h0_2]]⟩)]⟩) (fun _ : Unit => k .ret ⟨[(2, AV.bool false)], [([0, 1], ⟨true, [], [AV.agg [AV.sl [.int .i64] h0_0, AV.sl [.int .i64] h0_1, AV.sl [.int .i64, .int .i64] h0_2]]⟩)]⟩)) else none
  | _ => none
noncomputable def c73 : Cfg := cfg Tryz.prog [(73, 0, [1, 35, 36, 37]), (73, 2, [1, 50, 51, 52]), (73, 4, [1, 6, 50, 51, 52, 103, 104, 105]), (73, 999, [2]), (73, 1000, [1]), (73, 1001, [1, 35, 36, 37]), (73, 1002, []), (73, 1003, [1, 50, 51, 52]), (73, 1004, [1, 50, 51, 52]), (73, 1005, [1, 6, 50, 51, 52, 103, 104, 105])] [(45, m45), (57, m57), (84, m84), (96, m96)] [] [] [(73, 0, l73_0), (73, 2, l73_2), (73, 4, l73_4)]
theorem s73_4 (ce : CallE) (t50 : List AV) (t51 : Int) (t52 : Int) (t103 : List AV) (t104 : Int) (t105 : Int) (h0_0 : List AV) (h0_1 : List AV) (h0_2 : List AV) (h1_0 : Int) (h1_1 : Int) (next : St → Option AV) (k : Kont) : stepA (codeA c73 ce [] 73 4 (sub [1, 1, 1, 0, 1, 0, 0, 1, 1, 0, 0, 1, 1, 1, 0, 0] (body Tryz.f73))) (normA [] [1, 6, 50, 51, 52, 103, 104, 105]) next ⟨[(1, AV.ptr [0, 1] 0 0), (6, AV.ptr [0, 6] 0 0), (50, AV.sl [.int .i64, .int .i64] t50), (51, AV.int .i64 t51), (52, AV.int .i64 t52), (103, AV.sl [.int .i64] t103), (104, AV.int .i64 t104), (105, AV.int .i64 t105)], [([0, 1], ⟨true, [], [AV.agg [AV.sl [.int .i64] h0_0, AV.sl [.int .i64] h0_1, AV.sl [.int .i64, .int .i64] h0_2]]⟩), ([0, 6], ⟨true, [], [AV.agg [AV.int .i64 h1_0, AV.int .i64 h1_1]]⟩)]⟩ k = (bif decide (t105 < t104) then (bif (decide (0 ≤ t105) && decide (t105 < (t103.length : Int))) then (bif !(decide (fI (t103.getD t105.toNat AV.undef) 0 < h1_0) == decide (t105 < h1_1)) then k .ret ⟨[(2, AV.bool false)], [([0, 1], ⟨true, [], [AV.agg [AV.sl [.int .i64] h0_0, AV.sl [.int .i64] h0_1, AV.sl [.int .i64, .int .i64] h0_2]]⟩), ([0, 6], ⟨true, [], [AV.agg [AV.int .i64 h1_0, AV.int .i64 h1_1]]⟩)]⟩
  else next ⟨[(1, AV.ptr [0, 1] 0 0), (6, AV.ptr [0, 6] 0 0), (50, AV.sl [.int .i64, .int .i64] t50), (51, AV.int .i64 t51), (52, AV.int .i64 t52), (103, AV.sl [.int .i64] t103), (104, AV.int .i64 t104), (105, AV.int .i64 (IntKind.i64.wrap (t105 + 1)))], [([0, 1], ⟨true, [], [AV.agg [AV.sl [.int .i64] h0_0, AV.sl [.int .i64] h0_1, AV.sl [.int .i64, .int .i64] h0_2]]⟩), ([0, 6], ⟨true, [], [AV.agg [AV.int .i64 h1_0, AV.int .i64 h1_1]]⟩)]⟩)
  else none)
  else k (.exit 4) ⟨[(1, AV.ptr [0, 1] 0 0), (50, AV.sl [.int .i64, .int .i64] t50), (51, AV.int .i64 t51), (52, AV.int .i64 t52)], [([0, 1], ⟨true, [], [AV.agg [AV.sl [.int .i64] h0_0, AV.sl [.int .i64] h0_1, AV.sl [.int .i64, .int .i64] h0_2]]⟩), ([0, 6], ⟨true, [], [AV.agg [AV.int .i64 h1_0, AV.int .i64 h1_1]]⟩)]⟩) := by kernel_rfl
theorem st73_4 (t50 : List AV) (t51 : Int) (t52 : Int) (t103 : List AV) (t104 : Int) (h0_0 : List AV) (h0_1 : List AV) (h0_2 : List AV) (h1_0 : Int) (h1_1 : Int) (ce : CallE) (k : Kont) (s : Int) (next : St → Option AV) : stepA (codeA c73 ce [] 73 4 (sub [1, 1, 1, 0, 1, 0, 0, 1, 1, 0, 0, 1, 1, 1, 0, 0] (body Tryz.f73))) (normA [] [1, 6, 50, 51, 52, 103, 104, 105]) next ((fun s : Int => ⟨[(1, AV.ptr [0, 1] 0 0), (6, AV.ptr [0, 6] 0 0), (50, AV.sl [.int .i64, .int .i64] t50), (51, AV.int .i64 t51), (52, AV.int .i64 t52), (103, AV.sl [.int .i64] t103), (104, AV.int .i64 t104), (105, AV.int .i64 s)], [([0, 1], ⟨true, [], [AV.agg [AV.sl [.int .i64] h0_0, AV.sl [.int .i64] h0_1, AV.sl [.int .i64, .int .i64] h0_2]]⟩), ([0, 6], ⟨true, [], [AV.agg [AV.int .i64 h1_0, AV.int .i64 h1_1]]⟩)]⟩) s) k = (R73_4 t50 t51 t52 t103 t104 h0_0 h0_1 h0_2 h1_0 h1_1 s).el none (fun s => next ((fun s : Int => ⟨[(1, AV.ptr [0, 1] 0 0), (6, AV.ptr [0, 6] 0 0), (50, AV.sl [.int .i64, .int .i64] t50), (51, AV.int .i64 t51), (52, AV.int .i64 t52), (103, AV.sl [.int .i64] t103), (104, AV.int .i64 t104), (105, AV.int .i64 s)], [([0, 1], ⟨true, [], [AV.agg [AV.sl [.int .i64] h0_0, AV.sl [.int .i64] h0_1, AV.sl [.int .i64, .int .i64] h0_2]]⟩), ([0, 6], ⟨true, [], [AV.agg [AV.int .i64 h1_0, AV.int .i64 h1_1]]⟩)]⟩) s)) (sumE (fun _ : Unit => k (.exit 4) ⟨[(1, AV.ptr [0, 1] 0 0), (50, AV.sl [.int .i64, .int .i64] t50), (51, AV.int .i64 t51), (52, AV.int .i64 t52)], [([0, 1], ⟨true, [], [AV.agg [AV.sl [.int .i64] h0_0, AV.sl [.int .i64] h0_1, AV.sl [.int .i64, .int .i64] h0_2]]⟩), ([0, 6], ⟨true, [], [AV.agg [AV.int .i64 h1_0, AV.int .i64 h1_1]]⟩)]⟩) (fun _ : Unit => k .ret ⟨[(2, AV.bool false)], [([0, 1], ⟨true, [], [AV.agg [AV.sl [.int .i64] h0_0, AV.sl [.int .i64] h0_1, AV.sl [.int .i64, .int .i64] h0_2]]⟩), ([0, 6], ⟨true, [], [AV.agg [AV.int .i64 h1_0, AV.int .i64 h1_1]]⟩)]⟩)) := (s73_4 ce t50 t51 t52 t103 t104 s h0_0 h0_1 h0_2 h1_0 h1_1 next k).trans (by unfold R73_4; unfold F73_4; simp only [el_cond, el_ro, el_sum, el_fail, el_next, el_stop] <;> rfl)
theorem ok73_4 {ce : CallE} : LoopOK c73 ce [] 73 4 (sub [1, 1, 1, 0, 1, 0, 0, 1, 1, 0, 0, 1, 1, 1, 0, 0] (body Tryz.f73)) := by
  intro m hm st k r h
  obtain rfl : l73_4 = m := Option.some.inj hm
  unfold l73_4 at h
  split at h
  · rename_i g0 g1 g2 g3 g4 g5 g6 t50 t51 t52 g7 t103 t104 t105 g8 g9 h0_0 g10 h0_1 g11 h0_2 g12 h1_0 h1_1
    obtain ⟨hg, h⟩ := bif_some h
    simp only [Bool.and_eq_true] at hg
    obtain ⟨⟨⟨⟨⟨⟨⟨⟨⟨⟨⟨⟨q0, q1⟩, q2⟩, q3⟩, q4⟩, q5⟩, q6⟩, q7⟩, q8⟩, q9⟩, q10⟩, q11⟩, q12⟩ := hg
    obtain rfl := (nmEq_iff _ _).1 q0
    obtain rfl := Nat.eq_of_beq_eq_true q1
    obtain rfl := Nat.eq_of_beq_eq_true q2
    obtain rfl := (nmEq_iff _ _).1 q3
    obtain rfl := Nat.eq_of_beq_eq_true q4
    obtain rfl := Nat.eq_of_beq_eq_true q5
    obtain rfl := ctsEq_eq _ _ q6
    obtain rfl := ctsEq_eq _ _ q7
    obtain rfl := (nmEq_iff _ _).1 q8
    obtain rfl := ctsEq_eq _ _ q9
    obtain rfl := ctsEq_eq _ _ q10
    obtain rfl := ctsEq_eq _ _ q11
    obtain rfl := (nmEq_iff _ _).1 q12
    refine ⟨((t104 - t105).toNat + 1), ?_⟩
    rw [← h]
    exact loop_run (fun s : Int => ⟨[(1, AV.ptr [0, 1] 0 0), (6, AV.ptr [0, 6] 0 0), (50, AV.sl [.int .i64, .int .i64] t50), (51, AV.int .i64 t51), (52, AV.int .i64 t52), (103, AV.sl [.int .i64] t103), (104, AV.int .i64 t104), (105, AV.int .i64 s)], [([0, 1], ⟨true, [], [AV.agg [AV.sl [.int .i64] h0_0, AV.sl [.int .i64] h0_1, AV.sl [.int .i64, .int .i64] h0_2]]⟩), ([0, 6], ⟨true, [], [AV.agg [AV.int .i64 h1_0, AV.int .i64 h1_1]]⟩)]⟩) (sumE (fun _ : Unit => k (.exit 4) ⟨[(1, AV.ptr [0, 1] 0 0), (50, AV.sl [.int .i64, .int .i64] t50), (51, AV.int .i64 t51), (52, AV.int .i64 t52)], [([0, 1], ⟨true, [], [AV.agg [AV.sl [.int .i64] h0_0, AV.sl [.int .i64] h0_1, AV.sl [.int .i64, .int .i64] h0_2]]⟩), ([0, 6], ⟨true, [], [AV.agg [AV.int .i64 h1_0, AV.int .i64 h1_1]]⟩)]⟩) (fun _ : Unit => k .ret ⟨[(2, AV.bool false)], [([0, 1], ⟨true, [], [AV.agg [AV.sl [.int .i64] h0_0, AV.sl [.int .i64] h0_1, AV.sl [.int .i64, .int .i64] h0_2]]⟩), ([0, 6], ⟨true, [], [AV.agg [AV.int .i64 h1_0, AV.int .i64 h1_1]]⟩)]⟩)) (st73_4 t50 t51 t52 t103 t104 h0_0 h0_1 h0_2 h1_0 h1_1 ce k) _ t105
  · cases h
theorem s73_2 (ce : CallE) (t50 : List AV) (t51 : Int) (t52 : Int) (h0_0 : List AV) (h0_1 : List AV) (h0_2 : List AV) (next : St → Option AV) (k : Kont) : stepA (codeA c73 ce [] 73 2 (sub [1, 1, 1, 0, 1, 0, 0] (body Tryz.f73))) (normA [] [1, 50, 51, 52]) next ⟨[(1, AV.ptr [0, 1] 0 0), (50, AV.sl [.int .i64, .int .i64] t50), (51, AV.int .i64 t51), (52, AV.int .i64 t52)], [([0, 1], ⟨true, [], [AV.agg [AV.sl [.int .i64] h0_0, AV.sl [.int .i64] h0_1, AV.sl [.int .i64, .int .i64] h0_2]]⟩)]⟩ k = (bif decide (t52 < t51) then (bif (decide (0 ≤ t52) && decide (t52 < (t50.length : Int))) then (bif !(v96_0 (fI (t50.getD t52.toNat AV.undef) 0)) then k .ret ⟨[(2, AV.bool false)], [([0, 1], ⟨true, [], [AV.agg [AV.sl [.int .i64] h0_0, AV.sl [.int .i64] h0_1, AV.sl [.int .i64, .int .i64] h0_2]]⟩), ([1, 6], ⟨true, [], [AV.agg [AV.int .i64 (fI (t50.getD t52.toNat AV.undef) 0), AV.int .i64 (fI (t50.getD t52.toNat AV.undef) 1)]]⟩)]⟩
  else (bif decide (fI (t50.getD t52.toNat AV.undef) 1 < 0) then k .ret ⟨[(2, AV.bool false)], [([0, 1], ⟨true, [], [AV.agg [AV.sl [.int .i64] h0_0, AV.sl [.int .i64] h0_1, AV.sl [.int .i64, .int .i64] h0_2]]⟩), ([1, 6], ⟨true, [], [AV.agg [AV.int .i64 (fI (t50.getD t52.toNat AV.undef) 0), AV.int .i64 (fI (t50.getD t52.toNat AV.undef) 1)]]⟩)]⟩
  else (bif decide (fI (t50.getD t52.toNat AV.undef) 1 > (h0_0.length : Int)) then k .ret ⟨[(2, AV.bool false)], [([0, 1], ⟨true, [], [AV.agg [AV.sl [.int .i64] h0_0, AV.sl [.int .i64] h0_1, AV.sl [.int .i64, .int .i64] h0_2]]⟩), ([1, 6], ⟨true, [], [AV.agg [AV.int .i64 (fI (t50.getD t52.toNat AV.undef) 0), AV.int .i64 (fI (t50.getD t52.toNat AV.undef) 1)]]⟩)]⟩
  else (bif decide (t52 > 0) then (bif (decide (0 ≤ IntKind.i64.wrap (t52 - 1)) && decide (IntKind.i64.wrap (t52 - 1) < (h0_2.length : Int))) then (bif decide (fI (t50.getD t52.toNat AV.undef) 0 ≤ fI (h0_2.getD (IntKind.i64.wrap (t52 - 1)).toNat AV.undef) 0) then k .ret ⟨[(2, AV.bool false)], [([0, 1], ⟨true, [], [AV.agg [AV.sl [.int .i64] h0_0, AV.sl [.int .i64] h0_1, AV.sl [.int .i64, .int .i64] h0_2]]⟩), ([1, 6], ⟨true, [], [AV.agg [AV.int .i64 (fI (t50.getD t52.toNat AV.undef) 0), AV.int .i64 (fI (t50.getD t52.toNat AV.undef) 1)]]⟩)]⟩
  else (bif (decide (0 ≤ IntKind.i64.wrap (t52 - 1)) && decide (IntKind.i64.wrap (t52 - 1) < (h0_2.length : Int))) then (bif decide (fI (t50.getD t52.toNat AV.undef) 1 < fI (h0_2.getD (IntKind.i64.wrap (t52 - 1)).toNat AV.undef) 1) then k .ret ⟨[(2, AV.bool false)], [([0, 1], ⟨true, [], [AV.agg [AV.sl [.int .i64] h0_0, AV.sl [.int .i64] h0_1, AV.sl [.int .i64, .int .i64] h0_2]]⟩), ([1, 6], ⟨true, [], [AV.agg [AV.int .i64 (fI (t50.getD t52.toNat AV.undef) 0), AV.int .i64 (fI (t50.getD t52.toNat AV.undef) 1)]]⟩)]⟩
  else (ro (runW (R73_4 t50 t51 t52 h0_0 (h0_0.length : Int) h0_0 h0_1 h0_2 (fI (t50.getD t52.toNat AV.undef) 0) (fI (t50.getD t52.toNat AV.undef) 1)) (((h0_0.length : Int) - 0).toNat + 1) 0) none (sumE (fun _ => next ⟨[(1, AV.ptr [0, 1] 0 0), (50, AV.sl [.int .i64, .int .i64] t50), (51, AV.int .i64 t51), (52, AV.int .i64 (IntKind.i64.wrap (t52 + 1)))], [([0, 1], ⟨true, [], [AV.agg [AV.sl [.int .i64] h0_0, AV.sl [.int .i64] h0_1, AV.sl [.int .i64, .int .i64] h0_2]]⟩)]⟩) (fun _ => k .ret ⟨[(2, AV.bool false)], [([0, 1], ⟨true, [], [AV.agg [AV.sl [.int .i64] h0_0, AV.sl [.int .i64] h0_1, AV.sl [.int .i64, .int .i64] h0_2]]⟩), ([0, 6], ⟨true, [], [AV.agg [AV.int .i64 (fI (t50.getD t52.toNat AV.undef) 0), AV.int .i64 (fI (t50.getD t52.toNat AV.undef) 1)]]⟩)]⟩))))
  else none))
  else none)
  else (ro (runW (R73_4 t50 t51 t52 h0_0 (h0_0.length : Int) h0_0 h0_1 h0_2 (fI (t50.getD t52.toNat AV.undef) 0) (fI (t50.getD t52.toNat AV.undef) 1)) (((h0_0.length : Int) - 0).toNat + 1) 0) none (sumE (fun _ => next ⟨[(1, AV.ptr [0, 1] 0 0), (50, AV.sl [.int .i64, .int .i64] t50), (51, AV.int .i64 t51), (52, AV.int .i64 (IntKind.i64.wrap (t52 + 1)))], [([0, 1], ⟨true, [], [AV.agg [AV.sl [.int .i64] h0_0, AV.sl [.int .i64] h0_1, AV.sl [.int .i64, .int .i64] h0_2]]⟩)]⟩) (fun _ => k .ret ⟨[(2, AV.bool false)], [([0, 1], ⟨true, [], [AV.agg [AV.sl [.int .i64] h0_0, AV.sl [.int .i64] h0_1, AV.sl [.int .i64, .int .i64] h0_2]]⟩), ([0, 6], ⟨true, [], [AV.agg [AV.int .i64 (fI (t50.getD t52.toNat AV.undef) 0), AV.int .i64 (fI (t50.getD t52.toNat AV.undef) 1)]]⟩)]⟩)))))))
  else none)
  else k (.exit 2) ⟨[], [([0, 1], ⟨true, [], [AV.agg [AV.sl [.int .i64] h0_0, AV.sl [.int .i64] h0_1, AV.sl [.int .i64, .int .i64] h0_2]]⟩)]⟩) := by kernel_rfl
theorem st73_2 (t50 : List AV) (t51 : Int) (h0_0 : List AV) (h0_1 : List AV) (h0_2 : List AV) (ce : CallE) (k : Kont) (s : Int) (next : St → Option AV) : stepA (codeA c73 ce [] 73 2 (sub [1, 1, 1, 0, 1, 0, 0] (body Tryz.f73))) (normA [] [1, 50, 51, 52]) next ((fun s : Int => ⟨[(1, AV.ptr [0, 1] 0 0), (50, AV.sl [.int .i64, .int .i64] t50), (51, AV.int .i64 t51), (52, AV.int .i64 s)], [([0, 1], ⟨true, [], [AV.agg [AV.sl [.int .i64] h0_0, AV.sl [.int .i64] h0_1, AV.sl [.int .i64, .int .i64] h0_2]]⟩)]⟩) s) k = (R73_2 t50 t51 h0_0 h0_1 h0_2 s).el none (fun s => next ((fun s : Int => ⟨[(1, AV.ptr [0, 1] 0 0), (50, AV.sl [.int .i64, .int .i64] t50), (51, AV.int .i64 t51), (52, AV.int .i64 s)], [([0, 1], ⟨true, [], [AV.agg [AV.sl [.int .i64] h0_0, AV.sl [.int .i64] h0_1, AV.sl [.int .i64, .int .i64] h0_2]]⟩)]⟩) s)) (sumE (fun _ : Unit => k (.exit 2) ⟨[], [([0, 1], ⟨true, [], [AV.agg [AV.sl [.int .i64] h0_0, AV.sl [.int .i64] h0_1, AV.sl [.int .i64, .int .i64] h0_2]]⟩)]⟩) (sumE (fun p : Int × Int => k .ret ⟨[(2, AV.bool false)], [([0, 1], ⟨true, [], [AV.agg [AV.sl [.int .i64] h0_0, AV.sl [.int .i64] h0_1, AV.sl [.int .i64, .int .i64] h0_2]]⟩), ([1, 6], ⟨true, [], [AV.agg [AV.int .i64 p.1, AV.int .i64 p.2]]⟩)]⟩) (fun p : Int × Int => k .ret ⟨[(2, AV.bool false)], [([0, 1], ⟨true, [], [AV.agg [AV.sl [.int .i64] h0_0, AV.sl [.int .i64] h0_1, AV.sl [.int .i64, .int .i64] h0_2]]⟩), ([0, 6], ⟨true, [], [AV.agg [AV.int .i64 p.1, AV.int .i64 p.2]]⟩)]⟩))) := (s73_2 ce t50 t51 s h0_0 h0_1 h0_2 next k).trans (by unfold R73_2; unfold F73_2; simp only [el_cond, el_ro, el_sum, el_fail, el_next, el_stop] <;> rfl)
theorem ok73_2 {ce : CallE} : LoopOK c73 ce [] 73 2 (sub [1, 1, 1, 0, 1, 0, 0] (body Tryz.f73)) := by
  intro m hm st k r h
  obtain rfl : l73_2 = m := Option.some.inj hm
  unfold l73_2 at h
  split at h
  · rename_i g0 g1 g2 g3 t50 t51 t52 g4 g5 h0_0 g6 h0_1 g7 h0_2
    obtain ⟨hg, h⟩ := bif_some h
    simp only [Bool.and_eq_true] at hg
    obtain ⟨⟨⟨⟨⟨⟨⟨q0, q1⟩, q2⟩, q3⟩, q4⟩, q5⟩, q6⟩, q7⟩ := hg
    obtain rfl := (nmEq_iff _ _).1 q0
    obtain rfl := Nat.eq_of_beq_eq_true q1
    obtain rfl := Nat.eq_of_beq_eq_true q2
    obtain rfl := ctsEq_eq _ _ q3
    obtain rfl := (nmEq_iff _ _).1 q4
    obtain rfl := ctsEq_eq _ _ q5
    obtain rfl := ctsEq_eq _ _ q6
    obtain rfl := ctsEq_eq _ _ q7
    refine ⟨((t51 - t52).toNat + 1), ?_⟩
    rw [← h]
    exact loop_run (fun s : Int => ⟨[(1, AV.ptr [0, 1] 0 0), (50, AV.sl [.int .i64, .int .i64] t50), (51, AV.int .i64 t51), (52, AV.int .i64 s)], [([0, 1], ⟨true, [], [AV.agg [AV.sl [.int .i64] h0_0, AV.sl [.int .i64] h0_1, AV.sl [.int .i64, .int .i64] h0_2]]⟩)]⟩) (sumE (fun _ : Unit => k (.exit 2) ⟨[], [([0, 1], ⟨true, [], [AV.agg [AV.sl [.int .i64] h0_0, AV.sl [.int .i64] h0_1, AV.sl [.int .i64, .int .i64] h0_2]]⟩)]⟩) (sumE (fun p : Int × Int => k .ret ⟨[(2, AV.bool false)], [([0, 1], ⟨true, [], [AV.agg [AV.sl [.int .i64] h0_0, AV.sl [.int .i64] h0_1, AV.sl [.int .i64, .int .i64] h0_2]]⟩), ([1, 6], ⟨true, [], [AV.agg [AV.int .i64 p.1, AV.int .i64 p.2]]⟩)]⟩) (fun p : Int × Int => k .ret ⟨[(2, AV.bool false)], [([0, 1], ⟨true, [], [AV.agg [AV.sl [.int .i64] h0_0, AV.sl [.int .i64] h0_1, AV.sl [.int .i64, .int .i64] h0_2]]⟩), ([0, 6], ⟨true, [], [AV.agg [AV.int .i64 p.1, AV.int .i64 p.2]]⟩)]⟩))) (st73_2 t50 t51 h0_0 h0_1 h0_2 ce k) _ t52
  · cases h
theorem s73_0 (ce : CallE) (t35 : List AV) (t36 : Int) (t37 : Int) (h0_0 : List AV) (h0_1 : List AV) (h0_2 : List AV) (next : St → Option AV) (k : Kont) : stepA (codeA c73 ce [] 73 0 (sub [1, 1, 0, 1, 0, 0] (body Tryz.f73))) (normA [] [1, 35, 36, 37]) next ⟨[(1, AV.ptr [0, 1] 0 0), (35, AV.sl [.int .i64] t35), (36, AV.int .i64 t36), (37, AV.int .i64 t37)], [([0, 1], ⟨true, [], [AV.agg [AV.sl [.int .i64] h0_0, AV.sl [.int .i64] h0_1, AV.sl [.int .i64, .int .i64] h0_2]]⟩)]⟩ k = (bif decide (t37 < t36) then (bif (decide (0 ≤ t37) && decide (t37 < (t35.length : Int))) then (bif (decide (0 ≤ 0) && decide (0 ≤ t37) && decide (t37 ≤ (h0_1.length : Int))) then (bif q45 ((h0_1.take (Int.toNat t37)).drop (Int.toNat 0)) (fI (t35.getD t37.toNat AV.undef) 0) then (bif (v45_0 ((h0_1.take (Int.toNat t37)).drop (Int.toNat 0)) (fI (t35.getD t37.toNat AV.undef) 0)) then k .ret ⟨[(2, AV.bool false)], [([0, 1], ⟨true, [], [AV.agg [AV.sl [.int .i64] h0_0, AV.sl [.int .i64] h0_1, AV.sl [.int .i64, .int .i64] h0_2]]⟩)]⟩
  else next ⟨[(1, AV.ptr [0, 1] 0 0), (35, AV.sl [.int .i64] t35), (36, AV.int .i64 t36), (37, AV.int .i64 (IntKind.i64.wrap (t37 + 1)))], [([0, 1], ⟨true, [], [AV.agg [AV.sl [.int .i64] h0_0, AV.sl [.int .i64] h0_1, AV.sl [.int .i64, .int .i64] h0_2]]⟩)]⟩)
  else none)
  else none)
  else none)
  else k (.exit 0) ⟨[(1, AV.ptr [0, 1] 0 0)], [([0, 1], ⟨true, [], [AV.agg [AV.sl [.int .i64] h0_0, AV.sl [.int .i64] h0_1, AV.sl [.int .i64, .int .i64] h0_2]]⟩)]⟩) := by kernel_rfl
theorem st73_0 (t35 : List AV) (t36 : Int) (h0_0 : List AV) (h0_1 : List AV) (h0_2 : List AV) (ce : CallE) (k : Kont) (s : Int) (next : St → Option AV) : stepA (codeA c73 ce [] 73 0 (sub [1, 1, 0, 1, 0, 0] (body Tryz.f73))) (normA [] [1, 35, 36, 37]) next ((fun s : Int => ⟨[(1, AV.ptr [0, 1] 0 0), (35, AV.sl [.int .i64] t35), (36, AV.int .i64 t36), (37, AV.int .i64 s)], [([0, 1], ⟨true, [], [AV.agg [AV.sl [.int .i64] h0_0, AV.sl [.int .i64] h0_1, AV.sl [.int .i64, .int .i64] h0_2]]⟩)]⟩) s) k = (R73_0 t35 t36 h0_0 h0_1 h0_2 s).el none (fun s => next ((fun s : Int => ⟨[(1, AV.ptr [0, 1] 0 0), (35, AV.sl [.int .i64] t35), (36, AV.int .i64 t36), (37, AV.int .i64 s)], [([0, 1], ⟨true, [], [AV.agg [AV.sl [.int .i64] h0_0, AV.sl [.int .i64] h0_1, AV.sl [.int .i64, .int .i64] h0_2]]⟩)]⟩) s)) (sumE (fun _ : Unit => k (.exit 0) ⟨[(1, AV.ptr [0, 1] 0 0)], [([0, 1], ⟨true, [], [AV.agg [AV.sl [.int .i64] h0_0, AV.sl [.int .i64] h0_1, AV.sl [.int .i64, .int .i64] h0_2]]⟩)]⟩) (fun _ : Unit => k .ret ⟨[(2, AV.bool false)], [([0, 1], ⟨true, [], [AV.agg [AV.sl [.int .i64] h0_0, AV.sl [.int .i64] h0_1, AV.sl [.int .i64, .int .i64] h0_2]]⟩)]⟩)) := (s73_0 ce t35 t36 s h0_0 h0_1 h0_2 next k).trans (by unfold R73_0; unfold F73_0; simp only [el_cond, el_ro, el_sum, el_fail, el_next, el_stop] <;> rfl)
theorem ok73_0 {ce : CallE} : LoopOK c73 ce [] 73 0 (sub [1, 1, 0, 1, 0, 0] (body Tryz.f73)) := by
  intro m hm st k r h
  obtain rfl : l73_0 = m := Option.some.inj hm
  unfold l73_0 at h
  split at h
  · rename_i g0 g1 g2 g3 t35 t36 t37 g4 g5 h0_0 g6 h0_1 g7 h0_2
    obtain ⟨hg, h⟩ := bif_some h
    simp only [Bool.and_eq_true] at hg
    obtain ⟨⟨⟨⟨⟨⟨⟨q0, q1⟩, q2⟩, q3⟩, q4⟩, q5⟩, q6⟩, q7⟩ := hg
    obtain rfl := (nmEq_iff _ _).1 q0
    obtain rfl := Nat.eq_of_beq_eq_true q1
    obtain rfl := Nat.eq_of_beq_eq_true q2
    obtain rfl := ctsEq_eq _ _ q3
    obtain rfl := (nmEq_iff _ _).1 q4
    obtain rfl := ctsEq_eq _ _ q5
    obtain rfl := ctsEq_eq _ _ q6
    obtain rfl := ctsEq_eq _ _ q7
    refine ⟨((t36 - t37).toNat + 1), ?_⟩
    rw [← h]
    exact loop_run (fun s : Int => ⟨[(1, AV.ptr [0, 1] 0 0), (35, AV.sl [.int .i64] t35), (36, AV.int .i64 t36), (37, AV.int .i64 s)], [([0, 1], ⟨true, [], [AV.agg [AV.sl [.int .i64] h0_0, AV.sl [.int .i64] h0_1, AV.sl [.int .i64, .int .i64] h0_2]]⟩)]⟩) (sumE (fun _ : Unit => k (.exit 0) ⟨[(1, AV.ptr [0, 1] 0 0)], [([0, 1], ⟨true, [], [AV.agg [AV.sl [.int .i64] h0_0, AV.sl [.int .i64] h0_1, AV.sl [.int .i64, .int .i64] h0_2]]⟩)]⟩) (fun _ : Unit => k .ret ⟨[(2, AV.bool false)], [([0, 1], ⟨true, [], [AV.agg [AV.sl [.int .i64] h0_0, AV.sl [.int .i64] h0_1, AV.sl [.int .i64, .int .i64] h0_2]]⟩)]⟩)) (st73_0 t35 t36 h0_0 h0_1 h0_2 ce k) _ t37
  · cases h
def q73 (a0_0 : List AV) (a0_1 : List AV) (a0_2 : List AV) : Bool := (q57 a0_0 && (bif !(v57_0 a0_0) then true else (bif !decide ((a0_1.length : Int) = (a0_0.length : Int)) then true else (q84 a0_1 0 999 && (bif !(v84_0 a0_1 0 999) then true else (bif decide ((a0_2.length : Int) > 2001) then true else (ro (runW (R73_0 a0_1 (a0_1.length : Int) a0_0 a0_1 a0_2) (((a0_1.length : Int) - 0).toNat + 1) 0) false (sumE (fun _ => (ro (runW (R73_2 a0_2 (a0_2.length : Int) a0_0 a0_1 a0_2) (((a0_2.length : Int) - 0).toNat + 1) 0) false (sumE (fun _ => true) (sumE (fun p42 => true) (fun p43 => true))))) (fun _ => true)))))))))
def v73_0 (a0_0 : List AV) (a0_1 : List AV) (a0_2 : List AV) : Bool := (bif !(v57_0 a0_0) then false else (bif !decide ((a0_1.length : Int) = (a0_0.length : Int)) then false else (bif !(v84_0 a0_1 0 999) then false else (bif decide ((a0_2.length : Int) > 2001) then false else (ro (runW (R73_0 a0_1 (a0_1.length : Int) a0_0 a0_1 a0_2) (((a0_1.length : Int) - 0).toNat + 1) 0) false (sumE (fun _ => (ro (runW (R73_2 a0_2 (a0_2.length : Int) a0_0 a0_1 a0_2) (((a0_2.length : Int) - 0).toNat + 1) 0) false (sumE (fun _ => true) (sumE (fun p42 => false) (fun p43 => false))))) (fun _ => false)))))))
theorem e73 (a0_0 : List AV) (a0_1 : List AV) (a0_2 : List AV) : funA c73 0 73 [AV.agg [AV.sl [.int .i64] a0_0, AV.sl [.int .i64] a0_1, AV.sl [.int .i64, .int .i64] a0_2]] = (bif q57 a0_0 then (bif !(v57_0 a0_0) then some (AV.bool false)
  else (bif !decide ((a0_1.length : Int) = (a0_0.length : Int)) then some (AV.bool false)
  else (bif q84 a0_1 0 999 then (bif !(v84_0 a0_1 0 999) then some (AV.bool false)
  else (bif decide ((a0_2.length : Int) > 2001) then some (AV.bool false)
  else (ro (runW (R73_0 a0_1 (a0_1.length : Int) a0_0 a0_1 a0_2) (((a0_1.length : Int) - 0).toNat + 1) 0) none (sumE (fun _ => (ro (runW (R73_2 a0_2 (a0_2.length : Int) a0_0 a0_1 a0_2) (((a0_2.length : Int) - 0).toNat + 1) 0) none (sumE (fun _ => some (AV.bool true)) (sumE (fun p42 => some (AV.bool false)) (fun p43 => some (AV.bool false)))))) (fun _ => some (AV.bool false))))))
  else none)))
  else none) := by kernel_rfl
theorem r73 (a0_0 : List AV) (a0_1 : List AV) (a0_2 : List AV) (h : q73 a0_0 a0_1 a0_2 = true) : funA c73 0 73 [AV.agg [AV.sl [.int .i64] a0_0, AV.sl [.int .i64] a0_1, AV.sl [.int .i64, .int .i64] a0_2]] = some (AV.bool (v73_0 a0_0 a0_1 a0_2)) := (e73 a0_0 a0_1 a0_2).trans ((brL (br (fun b => some (AV.bool (bif b then false else (bif !decide ((a0_1.length : Int) = (a0_0.length : Int)) then false else (bif !(v84_0 a0_1 0 999) then false else (bif decide ((a0_2.length : Int) > 2001) then false else (ro (runW (R73_0 a0_1 (a0_1.length : Int) a0_0 a0_1 a0_2) (((a0_1.length : Int) - 0).toNat + 1) 0) false (sumE (fun _ => (ro (runW (R73_2 a0_2 (a0_2.length : Int) a0_0 a0_1 a0_2) (((a0_2.length : Int) - 0).toNat + 1) 0) false (sumE (fun _ => true) (sumE (fun p42 => false) (fun p43 => false))))) (fun _ => false))))))))) (fun _ => rfl) (br (fun b => some (AV.bool (bif b then false else (bif !(v84_0 a0_1 0 999) then false else (bif decide ((a0_2.length : Int) > 2001) then false else (ro (runW (R73_0 a0_1 (a0_1.length : Int) a0_0 a0_1 a0_2) (((a0_1.length : Int) - 0).toNat + 1) 0) false (sumE (fun _ => (ro (runW (R73_2 a0_2 (a0_2.length : Int) a0_0 a0_1 a0_2) (((a0_2.length : Int) - 0).toNat + 1) 0) false (sumE (fun _ => true) (sumE (fun p42 => false) (fun p43 => false))))) (fun _ => false)))))))) (fun _ => rfl) (brL (br (fun b => some (AV.bool (bif b then false else (bif decide ((a0_2.length : Int) > 2001) then false else (ro (runW (R73_0 a0_1 (a0_1.length : Int) a0_0 a0_1 a0_2) (((a0_1.length : Int) - 0).toNat + 1) 0) false (sumE (fun _ => (ro (runW (R73_2 a0_2 (a0_2.length : Int) a0_0 a0_1 a0_2) (((a0_2.length : Int) - 0).toNat + 1) 0) false (sumE (fun _ => true) (sumE (fun p42 => false) (fun p43 => false))))) (fun _ => false))))))) (fun _ => rfl) (br (fun b => some (AV.bool (bif b then false else (ro (runW (R73_0 a0_1 (a0_1.length : Int) a0_0 a0_1 a0_2) (((a0_1.length : Int) - 0).toNat + 1) 0) false (sumE (fun _ => (ro (runW (R73_2 a0_2 (a0_2.length : Int) a0_0 a0_1 a0_2) (((a0_2.length : Int) - 0).toNat + 1) 0) false (sumE (fun _ => true) (sumE (fun p42 => false) (fun p43 => false))))) (fun _ => false)))))) (fun _ => rfl) (brO (fun o : Option (Unit ⊕ Unit) => some (AV.bool (ro o false (sumE (fun _ => (ro (runW (R73_2 a0_2 (a0_2.length : Int) a0_0 a0_1 a0_2) (((a0_2.length : Int) - 0).toNat + 1) 0) false (sumE (fun _ => true) (sumE (fun p42 => false) (fun p43 => false))))) (fun _ => false))))) (brS (fun o : Unit ⊕ Unit => some (AV.bool ((sumE (fun _ => (ro (runW (R73_2 a0_2 (a0_2.length : Int) a0_0 a0_1 a0_2) (((a0_2.length : Int) - 0).toNat + 1) 0) false (sumE (fun _ => true) (sumE (fun p42 => false) (fun p43 => false))))) (fun _ => false)) o))) (fun _ => (brO (fun o : Option (Unit ⊕ (Int × Int) ⊕ (Int × Int)) => some (AV.bool (ro o false (sumE (fun _ => true) (sumE (fun p42 => false) (fun p43 => false)))))) (brS (fun o : Unit ⊕ (Int × Int) ⊕ (Int × Int) => some (AV.bool ((sumE (fun _ => true) (sumE (fun p42 => false) (fun p43 => false))) o))) (fun _ => (fun _ => rfl)) (brS (fun o : (Int × Int) ⊕ (Int × Int) => some (AV.bool ((sumE (fun p42 => false) (fun p43 => false)) o))) (fun p42 => (fun _ => rfl)) (fun p43 => (fun _ => rfl)))))) (fun _ => (fun _ => rfl)))))))))) h)
def m73 : TModel
  | [.agg [.sl g0 a0_0, .sl g1 a0_1, .sl g2 a0_2]] => bif ctsEq g0 ([.int .i64]) && ctsEq g1 ([.int .i64]) && ctsEq g2 ([.int .i64, .int .i64]) then some (q73 a0_0 a0_1 a0_2, AV.bool (v73_0 a0_0 a0_1 a0_2)) else none
  | _ => none
theorem k73 : Known Tryz.prog 73 := ⟨Tryz.f73, Tryz.func73, by kernel_rfl, by kernel_rfl⟩
theorem meets73 : Meets Tryz.prog 73 m73 := by
  refine meet (f := Tryz.f73) (l := [(0, sub [1, 1, 0, 1, 0, 0] (body Tryz.f73)), (2, sub [1, 1, 1, 0, 1, 0, 0] (body Tryz.f73)), (4, sub [1, 1, 1, 0, 1, 0, 0, 1, 1, 0, 0, 1, 1, 1, 0, 0] (body Tryz.f73))]) (hs := [(73, 0, [1, 35, 36, 37]), (73, 2, [1, 50, 51, 52]), (73, 4, [1, 6, 50, 51, 52, 103, 104, 105]), (73, 999, [2]), (73, 1000, [1]), (73, 1001, [1, 35, 36, 37]), (73, 1002, []), (73, 1003, [1, 50, 51, 52]), (73, 1004, [1, 50, 51, 52]), (73, 1005, [1, 6, 50, 51, 52, 103, 104, 105])]) (ts := [(45, m45), (57, m57), (84, m84), (96, m96)]) (ws := []) (is := []) (ls := [(73, 0, l73_0), (73, 2, l73_2), (73, 4, l73_4)]) (lvl := 0) mixed k73 Tryz.func73 (by kernel_rfl) (loops_cons ok73_0 (loops_cons ok73_2 (loops_cons ok73_4 noLoop))) (allT_cons meets45 (allT_cons meets57 (allT_cons meets84 (allT_cons meets96 allT_nil)))) allM_nil noI fun w xs us r hl hv h => ?_
  unfold m73 at h
  split at h
  · rename_i g0 a0_0 g1 a0_1 g2 a0_2
    obtain ⟨hg, h⟩ := bif_pair h
    simp only [Bool.and_eq_true] at hg
    obtain ⟨⟨q0, q1⟩, q2⟩ := hg
    obtain rfl := ctsEq_eq _ _ q0
    obtain rfl := ctsEq_eq _ _ q1
    obtain rfl := ctsEq_eq _ _ q2
    obtain ⟨h1, rfl⟩ := pair_inj h
    exact r73 a0_0 a0_1 a0_2 h1
  · cases h

/-! ### 74 loop.example/g01984/impl.FindRow -/
noncomputable def c74 : Cfg := cfg Tryz.prog [(74, 999, [4])] [(77, m77)] [] [] []
def q74 (a0_0 : List AV) (a0_1 : List AV) (a0_2 : List AV) (a1 : Int) : Bool := q77 a0_1 a1
def v74_0 (a0_0 : List AV) (a0_1 : List AV) (a0_2 : List AV) (a1 : Int) : Int := (v77_0 a0_1 a1)
theorem e74 (a0_0 : List AV) (a0_1 : List AV) (a0_2 : List AV) (a1 : Int) : funA c74 0 74 [AV.agg [AV.sl [.int .i64] a0_0, AV.sl [.int .i64] a0_1, AV.sl [.int .i64, .int .i64] a0_2], AV.int .i64 a1] = (bif q77 a0_1 a1 then some (AV.int .i64 (v77_0 a0_1 a1))
  else none) := by kernel_rfl
theorem r74 (a0_0 : List AV) (a0_1 : List AV) (a0_2 : List AV) (a1 : Int) (h : q74 a0_0 a0_1 a0_2 a1 = true) : funA c74 0 74 [AV.agg [AV.sl [.int .i64] a0_0, AV.sl [.int .i64] a0_1, AV.sl [.int .i64, .int .i64] a0_2], AV.int .i64 a1] = some (AV.int .i64 (v74_0 a0_0 a0_1 a0_2 a1)) := (e74 a0_0 a0_1 a0_2 a1).trans ((brL1 (fun _ => rfl)) h)
def m74 : TModel
  | [.agg [.sl g0 a0_0, .sl g1 a0_1, .sl g2 a0_2], .int .i64 a1] => bif ctsEq g0 ([.int .i64]) && ctsEq g1 ([.int .i64]) && ctsEq g2 ([.int .i64, .int .i64]) then some (q74 a0_0 a0_1 a0_2 a1, AV.int .i64 (v74_0 a0_0 a0_1 a0_2 a1)) else none
  | _ => none
theorem k74 : Known Tryz.prog 74 := ⟨Tryz.f74, Tryz.func74, by kernel_rfl, by kernel_rfl⟩
theorem meets74 : Meets Tryz.prog 74 m74 := by
  refine meet (f := Tryz.f74) (l := []) (hs := [(74, 999, [4])]) (ts := [(77, m77)]) (ws := []) (is := []) (ls := []) (lvl := 0) mixed k74 Tryz.func74 (by kernel_rfl) noLoop (allT_cons meets77 allT_nil) allM_nil noI fun w xs us r hl hv h => ?_
  unfold m74 at h
  split at h
  · rename_i g0 a0_0 g1 a0_1 g2 a0_2 a1
    obtain ⟨hg, h⟩ := bif_pair h
    simp only [Bool.and_eq_true] at hg
    obtain ⟨⟨q0, q1⟩, q2⟩ := hg
    obtain rfl := ctsEq_eq _ _ q0
    obtain rfl := ctsEq_eq _ _ q1
    obtain rfl := ctsEq_eq _ _ q2
    obtain ⟨h1, rfl⟩ := pair_inj h
    exact r74 a0_0 a0_1 a0_2 a1 h1
  · cases h

/-! ### 41 loop.example/g01984/impl.IsStore -/
def F41_0 (t31 : List AV) (t32 : Int) (h0_0 : List AV) (h0_1 : Int) (h0_2 : List AV) (h0_3 : List AV) (h0_4 : List AV) (t33 : Int) : Out (Int) (Unit ⊕ (Int × Int × Int × Int)) := (bif decide (t33 < t32) then (bif (decide (0 ≤ t33) && decide (t33 < (t31.length : Int))) then (bif q74 h0_2 h0_3 h0_4 (fI (t31.getD t33.toNat AV.undef) 1) then (bif decide ((v74_0 h0_2 h0_3 h0_4 (fI (t31.getD t33.toNat AV.undef) 1)) < 0) then .stop (.inr (fI (t31.getD t33.toNat AV.undef) 0, fI (t31.getD t33.toNat AV.undef) 1, fI (t31.getD t33.toNat AV.undef) 2, fI (t31.getD t33.toNat AV.undef) 3))
  else (bif (decide (0 ≤ (v74_0 h0_2 h0_3 h0_4 (fI (t31.getD t33.toNat AV.undef) 1))) && decide ((v74_0 h0_2 h0_3 h0_4 (fI (t31.getD t33.toNat AV.undef) 1)) < (h0_2.length : Int))) then (bif !decide (fI (h0_2.getD (v74_0 h0_2 h0_3 h0_4 (fI (t31.getD t33.toNat AV.undef) 1)).toNat AV.undef) 0 = fI (t31.getD t33.toNat AV.undef) 0) then .stop (.inr (fI (t31.getD t33.toNat AV.undef) 0, fI (t31.getD t33.toNat AV.undef) 1, fI (t31.getD t33.toNat AV.undef) 2, fI (t31.getD t33.toNat AV.undef) 3))
  else (bif decide (t33 > 0) then (bif (decide (0 ≤ IntKind.i64.wrap (t33 - 1)) && decide (IntKind.i64.wrap (t33 - 1) < (h0_0.length : Int))) then (bif decide (fI (h0_0.getD (IntKind.i64.wrap (t33 - 1)).toNat AV.undef) 1 ≥ fI (t31.getD t33.toNat AV.undef) 1) then .stop (.inr (fI (t31.getD t33.toNat AV.undef) 0, fI (t31.getD t33.toNat AV.undef) 1, fI (t31.getD t33.toNat AV.undef) 2, fI (t31.getD t33.toNat AV.undef) 3))
  else (bif decide (fI (t31.getD t33.toNat AV.undef) 2 < 0) then .stop (.inr (fI (t31.getD t33.toNat AV.undef) 0, fI (t31.getD t33.toNat AV.undef) 1, fI (t31.getD t33.toNat AV.undef) 2, fI (t31.getD t33.toNat AV.undef) 3))
  else (bif decide (fI (t31.getD t33.toNat AV.undef) 2 > h0_1) then .stop (.inr (fI (t31.getD t33.toNat AV.undef) 0, fI (t31.getD t33.toNat AV.undef) 1, fI (t31.getD t33.toNat AV.undef) 2, fI (t31.getD t33.toNat AV.undef) 3))
  else (bif !decide (fI (t31.getD t33.toNat AV.undef) 3 = (-1)) then (bif decide (fI (t31.getD t33.toNat AV.undef) 3 ≤ fI (t31.getD t33.toNat AV.undef) 2) then .stop (.inr (fI (t31.getD t33.toNat AV.undef) 0, fI (t31.getD t33.toNat AV.undef) 1, fI (t31.getD t33.toNat AV.undef) 2, fI (t31.getD t33.toNat AV.undef) 3))
  else (bif decide (fI (t31.getD t33.toNat AV.undef) 3 > h0_1) then .stop (.inr (fI (t31.getD t33.toNat AV.undef) 0, fI (t31.getD t33.toNat AV.undef) 1, fI (t31.getD t33.toNat AV.undef) 2, fI (t31.getD t33.toNat AV.undef) 3))
  else .next (IntKind.i64.wrap (t33 + 1))))
  else .next (IntKind.i64.wrap (t33 + 1))))))
  else .fail)
  else (bif decide (fI (t31.getD t33.toNat AV.undef) 2 < 0) then .stop (.inr (fI (t31.getD t33.toNat AV.undef) 0, fI (t31.getD t33.toNat AV.undef) 1, fI (t31.getD t33.toNat AV.undef) 2, fI (t31.getD t33.toNat AV.undef) 3))
  else (bif decide (fI (t31.getD t33.toNat AV.undef) 2 > h0_1) then .stop (.inr (fI (t31.getD t33.toNat AV.undef) 0, fI (t31.getD t33.toNat AV.undef) 1, fI (t31.getD t33.toNat AV.undef) 2, fI (t31.getD t33.toNat AV.undef) 3))
  else (bif !decide (fI (t31.getD t33.toNat AV.undef) 3 = (-1)) then (bif decide (fI (t31.getD t33.toNat AV.undef) 3 ≤ fI (t31.getD t33.toNat AV.undef) 2) then .stop (.inr (fI (t31.getD t33.toNat AV.undef) 0, fI (t31.getD t33.toNat AV.undef) 1, fI (t31.getD t33.toNat AV.undef) 2, fI (t31.getD t33.toNat AV.undef) 3))
  else (bif decide (fI (t31.getD t33.toNat AV.undef) 3 > h0_1) then .stop (.inr (fI (t31.getD t33.toNat AV.undef) 0, fI (t31.getD t33.toNat AV.undef) 1, fI (t31.getD t33.toNat AV.undef) 2, fI (t31.getD t33.toNat AV.undef) 3))
  else .next (IntKind.i64.wrap (t33 + 1))))
  else .next (IntKind.i64.wrap (t33 + 1)))))))
  else .fail))
  else .fail)
  else .fail)
  else .stop (.inl ()))
def R41_0 (t31 : List AV) (t32 : Int) (h0_0 : List AV) (h0_1 : Int) (h0_2 : List AV) (h0_3 : List AV) (h0_4 : List AV) : (Int) → Out (Int) (Unit ⊕ (Int × Int × Int × Int)) := fun s : Int => F41_0 t31 t32 h0_0 h0_1 h0_2 h0_3 h0_4 s
def l41_0 : LModel := fun _ _ st k => match st with
  | ⟨[(1, .ptr g0 g1 g2), (31, .sl g3 t31), (32, .int .i64 t32), (33, .int .i64 t33)], [(g4, ⟨true, [], [.agg [.sl g5 h0_0, .int .i64 h0_1, .sl g6 h0_2, .sl g7 h0_3, .sl g8 h0_4]]⟩)]⟩ => bif nmEq g0 ([0, 1]) && Nat.beq g1 0 && Nat.beq g2 0 && ctsEq g3 ([.int .i64, .int .i64, .int .i64, .int .i64]) && nmEq g4 ([0, 1]) && ctsEq g5 ([.int .i64, .int .i64, .int .i64, .int .i64]) && ctsEq g6 ([.int .i64]) && ctsEq g7 ([.int .i64]) && ctsEq g8 ([.int .i64, .int .i64]) then ro (runW (R41_0 t31 t32 h0_0 h0_1 h0_2 h0_3 h0_4) ((t32 - t33).toNat + 1) t33) none (sumE (fun _ : Unit => k (.exit 0) ⟨[], [([0, 1], ⟨true, [], [AV.agg [AV.sl [.int .i64, .int .i64, .int .i64, .int .i64] h0_0, AV.int .i64 h0_1, AV.sl [.int .i64] h0_2, AV.sl [.int .i64] h0_3, AV.sl [.int .i64, .int .i64] h0_4]]⟩)]⟩) (fun p : Int × Int × Int × Int => k .ret ⟨[(2, AV.bool false)], [([0, 1], ⟨true, [], [AV.agg [AV.sl [.int .i64, .int .i64, .int .i64, .int .i64] h0_0, AV.int .i64 h0_1, AV.sl [.int .i64] h0_2, AV.sl [.int .i64] h0_3, AV.sl [.int .i64, .int .i64] h0_4]]⟩), ([1, 4], ⟨true, [], [AV.agg [AV.int .i64 p.1, AV.int .i64 p.2.1, AV.int .i64 p.2.2.1, AV.int .i64 p.2.2.2]]⟩)]⟩)) else none
  | _ => none
noncomputable def c41 : Cfg := cfg Tryz.prog [(41, 0, [1, 31, 32, 33]), (41, 999, [2]), (41, 1000, []), (41, 1001, [1, 31, 32, 33])] [(73, m73), (74, m74)] [] [] [(41, 0, l41_0)]
theorem s41_0 (ce : CallE) (t31 : List AV) (t32 : Int) (t33 : Int) (h0_0 : List AV) (h0_1 : Int) (h0_2 : List AV) (h0_3 : List AV) (h0_4 : List AV) (next : St → Option AV) (k : Kont) : stepA (codeA c41 ce [] 41 0 (sub [1, 1, 0, 1, 0, 0] (body Tryz.f41))) (normA [] [1, 31, 32, 33]) next ⟨[(1, AV.ptr [0, 1] 0 0), (31, AV.sl [.int .i64, .int .i64, .int .i64, .int .i64] t31), (32, AV.int .i64 t32), (33, AV.int .i64 t33)], [([0, 1], ⟨true, [], [AV.agg [AV.sl [.int .i64, .int .i64, .int .i64, .int .i64] h0_0, AV.int .i64 h0_1, AV.sl [.int .i64] h0_2, AV.sl [.int .i64] h0_3, AV.sl [.int .i64, .int .i64] h0_4]]⟩)]⟩ k = (bif decide (t33 < t32) then (bif (decide (0 ≤ t33) && decide (t33 < (t31.length : Int))) then (bif q74 h0_2 h0_3 h0_4 (fI (t31.getD t33.toNat AV.undef) 1) then (bif decide ((v74_0 h0_2 h0_3 h0_4 (fI (t31.getD t33.toNat AV.undef) 1)) < 0) then k .ret ⟨[(2, AV.bool false)], [([0, 1], ⟨true, [], [AV.agg [AV.sl [.int .i64, .int .i64, .int .i64, .int .i64] h0_0, AV.int .i64 h0_1, AV.sl [.int .i64] h0_2, AV.sl [.int .i64] h0_3, AV.sl [.int .i64, .int .i64] h0_4]]⟩), ([1, 4], ⟨true, [], [AV.agg [AV.int .i64 (fI (t31.getD t33.toNat AV.undef) 0), AV.int .i64 (fI (t31.getD t33.toNat AV.undef) 1), AV.int .i64 (fI (t31.getD t33.toNat AV.undef) 2), AV.int .i64 (fI (t31.getD t33.toNat AV.undef) 3)]]⟩)]⟩
  else (bif (decide (0 ≤ (v74_0 h0_2 h0_3 h0_4 (fI (t31.getD t33.toNat AV.undef) 1))) && decide ((v74_0 h0_2 h0_3 h0_4 (fI (t31.getD t33.toNat AV.undef) 1)) < (h0_2.length : Int))) then (bif !decide (fI (h0_2.getD (v74_0 h0_2 h0_3 h0_4 (fI (t31.getD t33.toNat AV.undef) 1)).toNat AV.undef) 0 = fI (t31.getD t33.toNat AV.undef) 0) then k .ret ⟨[(2, AV.bool false)], [([0, 1], ⟨true, [], [AV.agg [AV.sl [.int .i64, .int .i64, .int .i64, .int .i64] h0_0, AV.int .i64 h0_1, AV.sl [.int .i64] h0_2, AV.sl [.int .i64] h0_3, AV.sl [.int .i64, .int .i64] h0_4]]⟩), ([1, 4], ⟨true, [], [AV.agg [AV.int .i64 (fI (t31.getD t33.toNat AV.undef) 0), AV.int .i64 (fI (t31.getD t33.toNat AV.undef) 1), AV.int .i64 (fI (t31.getD t33.toNat AV.undef) 2), AV.int .i64 (fI (t31.getD t33.toNat AV.undef) 3)]]⟩)]⟩
  else (bif decide (t33 > 0) then (bif (decide (0 ≤ IntKind.i64.wrap (t33 - 1)) && decide (IntKind.i64.wrap (t33 - 1) < (h0_0.length : Int))) then (bif decide (fI (h0_0.getD (IntKind.i64.wrap (t33 - 1)).toNat AV.undef) 1 ≥ fI (t31.getD t33.toNat AV.undef) 1) then k .ret ⟨[(2, AV.bool false)], [([0, 1], ⟨true, [], [AV.agg [AV.sl [.int .i64, .int .i64, .int .i64, .int .i64] h0_0, AV.int .i64 h0_1, AV.sl [.int .i64] h0_2, AV.sl [.int .i64] h0_3, AV.sl [.int .i64, .int .i64] h0_4]]⟩), ([1, 4], ⟨true, [], [AV.agg [AV.int .i64 (fI (t31.getD t33.toNat AV.undef) 0), AV.int .i64 (fI (t31.getD t33.toNat AV.undef) 1), AV.int .i64 (fI (t31.getD t33.toNat AV.undef) 2), AV.int .i64 (fI (t31.getD t33.toNat AV.undef) 3)]]⟩)]⟩
  else (bif decide (fI (t31.getD t33.toNat AV.undef) 2 < 0) then k .ret ⟨[(2, AV.bool false)], [([0, 1], ⟨true, [], [AV.agg [AV.sl [.int .i64, .int .i64, .int .i64, .int .i64] h0_0, AV.int .i64 h0_1, AV.sl [.int .i64] h0_2, AV.sl [.int .i64] h0_3, AV.sl [.int .i64, .int .i64] h0_4]]⟩), ([1, 4], ⟨true, [], [AV.agg [AV.int .i64 (fI (t31.getD t33.toNat AV.undef) 0), AV.int .i64 (fI (t31.getD t33.toNat AV.undef) 1), AV.int .i64 (fI (t31.getD t33.toNat AV.undef) 2), AV.int .i64 (fI (t31.getD t33.toNat AV.undef) 3)]]⟩)]⟩
  else (bif decide (fI (t31.getD t33.toNat AV.undef) 2 > h0_1) then k .ret ⟨[(2, AV.bool false)], [([0, 1], ⟨true, [], [AV.agg [AV.sl [.int .i64, .int .i64, .int .i64, .int .i64] h0_0, AV.int .i64 h0_1, AV.sl [.int .i64] h0_2, AV.sl [.int .i64] h0_3, AV.sl [.int .i64, .int .i64] h0_4]]⟩), ([1, 4], ⟨true, [], [AV.agg [AV.int .i64 (fI (t31.getD t33.toNat AV.undef) 0), AV.int .i64 (fI (t31.getD t33.toNat AV.undef) 1), AV.int .i64 (fI (t31.getD t33.toNat AV.undef) 2), AV.int .i64 (fI (t31.getD t33.toNat AV.undef) 3)]]⟩)]⟩
  else (bif !decide (fI (t31.getD t33.toNat AV.undef) 3 = (-1)) then (bif decide (fI (t31.getD t33.toNat AV.undef) 3 ≤ fI (t31.getD t33.toNat AV.undef) 2) then k .ret ⟨[(2, AV.bool false)], [([0, 1], ⟨true, [], [AV.agg [AV.sl [.int .i64, .int .i64, .int .i64, .int .i64] h0_0, AV.int .i64 h0_1, AV.sl [.int .i64] h0_2, AV.sl [.int .i64] h0_3, AV.sl [.int .i64, .int .i64] h0_4]]⟩), ([1, 4], ⟨true, [], [AV.agg [AV.int .i64 (fI (t31.getD t33.toNat AV.undef) 0), AV.int .i64 (fI (t31.getD t33.toNat AV.undef) 1), AV.int .i64 (fI (t31.getD t33.toNat AV.undef) 2), AV.int .i64 (fI (t31.getD t33.toNat AV.undef) 3)]]⟩)]⟩
  else (bif decide (fI (t31.getD t33.toNat AV.undef) 3 > h0_1) then k .ret ⟨[(2, AV.bool false)], [([0, 1], ⟨true, [], [AV.agg [AV.sl [.int .i64, .int .i64, .int .i64, .int .i64] h0_0, AV.int .i64 h0_1, AV.sl [.int .i64] h0_2, AV.sl [.int .i64] h0_3, AV.sl [.int .i64, .int .i64] h0_4]]⟩), ([1, 4], ⟨true, [], [AV.agg [AV.int .i64 (fI (t31.getD t33.toNat AV.undef) 0), AV.int .i64 (fI (t31.getD t33.toNat AV.undef) 1), AV.int .i64 (fI (t31.getD t33.toNat AV.undef) 2), AV.int .i64 (fI (t31.getD t33.toNat AV.undef) 3)]]⟩)]⟩
  else next ⟨[(1, AV.ptr [0, 1] 0 0), (31, AV.sl [.int .i64, .int .i64, .int .i64, .int .i64] t31), (32, AV.int .i64 t32), (33, AV.int .i64 (IntKind.i64.wrap (t33 + 1)))], [([0, 1], ⟨true, [], [AV.agg [AV.sl [.int .i64, .int .i64, .int .i64, .int .i64] h0_0, AV.int .i64 h0_1, AV.sl [.int .i64] h0_2, AV.sl [.int .i64] h0_3, AV.sl [.int .i64, .int .i64] h0_4]]⟩)]⟩))
  else next ⟨[(1, AV.ptr [0, 1] 0 0), (31, AV.sl [.int .i64, .int .i64, .int .i64, .int .i64] t31), (32, AV.int .i64 t32), (33, AV.int .i64 (IntKind.i64.wrap (t33 + 1)))], [([0, 1], ⟨true, [], [AV.agg [AV.sl [.int .i64, .int .i64, .int .i64, .int .i64] h0_0, AV.int .i64 h0_1, AV.sl [.int .i64] h0_2, AV.sl [.int .i64] h0_3, AV.sl [.int .i64, .int .i64] h0_4]]⟩)]⟩))))
  else none)
  else (bif decide (fI (t31.getD t33.toNat AV.undef) 2 < 0) then k .ret ⟨[(2, AV.bool false)], [([0, 1], ⟨true, [], [AV.agg [AV.sl [.int .i64, .int .i64, .int .i64, .int .i64] h0_0, AV.int .i64 h0_1, AV.sl [.int .i64] h0_2, AV.sl [.int .i64] h0_3, AV.sl [.int .i64, .int .i64] h0_4]]⟩), ([1, 4], ⟨true, [], [AV.agg [AV.int .i64 (fI (t31.getD t33.toNat AV.undef) 0), AV.int .i64 (fI (t31.getD t33.toNat AV.undef) 1), AV.int .i64 (fI (t31.getD t33.toNat AV.undef) 2), AV.int .i64 (fI (t31.getD t33.toNat AV.undef) 3)]]⟩)]⟩
  else (bif decide (fI (t31.getD t33.toNat AV.undef) 2 > h0_1) then k .ret ⟨[(2, AV.bool false)], [([0, 1], ⟨true, [], [AV.agg [AV.sl [.int .i64, .int .i64, .int .i64, .int .i64] h0_0, AV.int .i64 h0_1, AV.sl [.int .i64] h0_2, AV.sl [.int .i64] h0_3, AV.sl [.int .i64, .int .i64] h0_4]]⟩), ([1, 4], ⟨true, [], [AV.agg [AV.int .i64 (fI (t31.getD t33.toNat AV.undef) 0), AV.int .i64 (fI (t31.getD t33.toNat AV.undef) 1), AV.int .i64 (fI (t31.getD t33.toNat AV.undef) 2), AV.int .i64 (fI (t31.getD t33.toNat AV.undef) 3)]]⟩)]⟩
  else (bif !decide (fI (t31.getD t33.toNat AV.undef) 3 = (-1)) then (bif decide (fI (t31.getD t33.toNat AV.undef) 3 ≤ fI (t31.getD t33.toNat AV.undef) 2) then k .ret ⟨[(2, AV.bool false)], [([0, 1], ⟨true, [], [AV.agg [AV.sl [.int .i64, .int .i64, .int .i64, .int .i64] h0_0, AV.int .i64 h0_1, AV.sl [.int .i64] h0_2, AV.sl [.int .i64] h0_3, AV.sl [.int .i64, .int .i64] h0_4]]⟩), ([1, 4], ⟨true, [], [AV.agg [AV.int .i64 (fI (t31.getD t33.toNat AV.undef) 0), AV.int .i64 (fI (t31.getD t33.toNat AV.undef) 1), AV.int .i64 (fI (t31.getD t33.toNat AV.undef) 2), AV.int .i64 (fI (t31.getD t33.toNat AV.undef) 3)]]⟩)]⟩
  else (bif decide (fI (t31.getD t33.toNat AV.undef) 3 > h0_1) then k .ret ⟨[(2, AV.bool false)], [([0, 1], ⟨true, [], [AV.agg [AV.sl [.int .i64, .int .i64, .int .i64, .int .i64] h0_0, AV.int .i64 h0_1, AV.sl [.int .i64] h0_2, AV.sl [.int .i64] h0_3, AV.sl [.int .i64, .int .i64] h0_4]]⟩), ([1, 4], ⟨true, [], [AV.agg [AV.int .i64 (fI (t31.getD t33.toNat AV.undef) 0), AV.int .i64 (fI (t31.getD t33.toNat AV.undef) 1), AV.int .i64 (fI (t31.getD t33.toNat AV.undef) 2), AV.int .i64 (fI (t31.getD t33.toNat AV.undef) 3)]]⟩)]⟩
  else next ⟨[(1, AV.ptr [0, 1] 0 0), (31, AV.sl [.int .i64, .int .i64, .int .i64, .int .i64] t31), (32, AV.int .i64 t32), (33, AV.int .i64 (IntKind.i64.wrap (t33 + 1)))], [([0, 1], ⟨true, [], [AV.agg [AV.sl [.int .i64, .int .i64, .int .i64, .int .i64] h0_0, AV.int .i64 h0_1, AV.sl [.int .i64] h0_2, AV.sl [.int .i64] h0_3, AV.sl [.int .i64, .int .i64] h0_4]]⟩)]⟩))
  else next ⟨[(1, AV.ptr [0, 1] 0 0), (31, AV.sl [.int .i64, .int .i64, .int .i64, .int .i64] t31), (32, AV.int .i64 t32), (33, AV.int .i64 (IntKind.i64.wrap (t33 + 1)))], [([0, 1], ⟨true, [], [AV.agg [AV.sl [.int .i64, .int .i64, .int .i64, .int .i64] h0_0, AV.int .i64 h0_1, AV.sl [.int .i64] h0_2, AV.sl [.int .i64] h0_3, AV.sl [.int .i64, .int .i64] h0_4]]⟩)]⟩)))))
  else none))
  else none)
  else none)
  else k (.exit 0) ⟨[], [([0, 1], ⟨true, [], [AV.agg [AV.sl [.int .i64, .int .i64, .int .i64, .int .i64] h0_0, AV.int .i64 h0_1, AV.sl [.int .i64] h0_2, AV.sl [.int .i64] h0_3, AV.sl [.int .i64, .int .i64] h0_4]]⟩)]⟩) := by kernel_rfl
theorem st41_0 (t31 : List AV) (t32 : Int) (h0_0 : List AV) (h0_1 : Int) (h0_2 : List AV) (h0_3 : List AV) (h0_4 : List AV) (ce : CallE) (k : Kont) (s : Int) (next : St → Option AV) : stepA (codeA c41 ce [] 41 0 (sub [1, 1, 0, 1, 0, 0] (body Tryz.f41))) (normA [] [1, 31, 32, 33]) next ((fun s : Int => ⟨[(1, AV.ptr [0, 1] 0 0), (31, AV.sl [.int .i64, .int .i64, .int .i64, .int .i64] t31), (32, AV.int .i64 t32), (33, AV.int .i64 s)], [([0, 1], ⟨true, [], [AV.agg [AV.sl [.int .i64, .int .i64, .int .i64, .int .i64] h0_0, AV.int .i64 h0_1, AV.sl [.int .i64] h0_2, AV.sl [.int .i64] h0_3, AV.sl [.int .i64, .int .i64] h0_4]]⟩)]⟩) s) k = (R41_0 t31 t32 h0_0 h0_1 h0_2 h0_3 h0_4 s).el none (fun s => next ((fun s : Int => ⟨[(1, AV.ptr [0, 1] 0 0), (31, AV.sl [.int .i64, .int .i64, .int .i64, .int .i64] t31), (32, AV.int .i64 t32), (33, AV.int .i64 s)], [([0, 1], ⟨true, [], [AV.agg [AV.sl [.int .i64, .int .i64, .int .i64, .int .i64] h0_0, AV.int .i64 h0_1, AV.sl [.int .i64] h0_2, AV.sl [.int .i64] h0_3, AV.sl [.int .i64, .int .i64] h0_4]]⟩)]⟩) s)) (sumE (fun _ : Unit => k (.exit 0) ⟨[], [([0, 1], ⟨true, [], [AV.agg [AV.sl [.int .i64, .int .i64, .int .i64, .int .i64] h0_0, AV.int .i64 h0_1, AV.sl [.int .i64] h0_2, AV.sl [.int .i64] h0_3, AV.sl [.int .i64, .int .i64] h0_4]]⟩)]⟩) (fun p : Int × Int × Int × Int => k .ret ⟨[(2, AV.bool false)], [([0, 1], ⟨true, [], [AV.agg [AV.sl [.int .i64, .int .i64, .int .i64, .int .i64] h0_0, AV.int .i64 h0_1, AV.sl [.int .i64] h0_2, AV.sl [.int .i64] h0_3, AV.sl [.int .i64, .int .i64] h0_4]]⟩), ([1, 4], ⟨true, [], [AV.agg [AV.int .i64 p.1, AV.int .i64 p.2.1, AV.int .i64 p.2.2.1, AV.int .i64 p.2.2.2]]⟩)]⟩)) := (s41_0 ce t31 t32 s h0_0 h0_1 h0_2 h0_3 h0_4 next k).trans (by unfold R41_0; unfold F41_0; simp only [el_cond, el_ro, el_sum, el_fail, el_next, el_stop] <;> rfl)
theorem ok41_0 {ce : CallE} : LoopOK c41 ce [] 41 0 (sub [1, 1, 0, 1, 0, 0] (body Tryz.f41)) := by
  intro m hm st k r h
  obtain rfl : l41_0 = m := Option.some.inj hm
  unfold l41_0 at h
  split at h
  · rename_i g0 g1 g2 g3 t31 t32 t33 g4 g5 h0_0 h0_1 g6 h0_2 g7 h0_3 g8 h0_4
    obtain ⟨hg, h⟩ := bif_some h
    simp only [Bool.and_eq_true] at hg
    obtain ⟨⟨⟨⟨⟨⟨⟨⟨q0, q1⟩, q2⟩, q3⟩, q4⟩, q5⟩, q6⟩, q7⟩, q8⟩ := hg
    obtain rfl := (nmEq_iff _ _).1 q0
    obtain rfl := Nat.eq_of_beq_eq_true q1
    obtain rfl := Nat.eq_of_beq_eq_true q2
    obtain rfl := ctsEq_eq _ _ q3
    obtain rfl := (nmEq_iff _ _).1 q4
    obtain rfl := ctsEq_eq _ _ q5
    obtain rfl := ctsEq_eq _ _ q6
    obtain rfl := ctsEq_eq _ _ q7
    obtain rfl := ctsEq_eq _ _ q8
    refine ⟨((t32 - t33).toNat + 1), ?_⟩
    rw [← h]
    exact loop_run (fun s : Int => ⟨[(1, AV.ptr [0, 1] 0 0), (31, AV.sl [.int .i64, .int .i64, .int .i64, .int .i64] t31), (32, AV.int .i64 t32), (33, AV.int .i64 s)], [([0, 1], ⟨true, [], [AV.agg [AV.sl [.int .i64, .int .i64, .int .i64, .int .i64] h0_0, AV.int .i64 h0_1, AV.sl [.int .i64] h0_2, AV.sl [.int .i64] h0_3, AV.sl [.int .i64, .int .i64] h0_4]]⟩)]⟩) (sumE (fun _ : Unit => k (.exit 0) ⟨[], [([0, 1], ⟨true, [], [AV.agg [AV.sl [.int .i64, .int .i64, .int .i64, .int .i64] h0_0, AV.int .i64 h0_1, AV.sl [.int .i64] h0_2, AV.sl [.int .i64] h0_3, AV.sl [.int .i64, .int .i64] h0_4]]⟩)]⟩) (fun p : Int × Int × Int × Int => k .ret ⟨[(2, AV.bool false)], [([0, 1], ⟨true, [], [AV.agg [AV.sl [.int .i64, .int .i64, .int .i64, .int .i64] h0_0, AV.int .i64 h0_1, AV.sl [.int .i64] h0_2, AV.sl [.int .i64] h0_3, AV.sl [.int .i64, .int .i64] h0_4]]⟩), ([1, 4], ⟨true, [], [AV.agg [AV.int .i64 p.1, AV.int .i64 p.2.1, AV.int .i64 p.2.2.1, AV.int .i64 p.2.2.2]]⟩)]⟩)) (st41_0 t31 t32 h0_0 h0_1 h0_2 h0_3 h0_4 ce k) _ t33
  · cases h
def q41 (a0_0 : List AV) (a0_1 : Int) (a0_2 : List AV) (a0_3 : List AV) (a0_4 : List AV) : Bool := (q73 a0_2 a0_3 a0_4 && (bif !(v73_0 a0_2 a0_3 a0_4) then true else (bif !decide ((a0_0.length : Int) = (a0_2.length : Int)) then true else (bif decide (a0_1 < 0) then true else (bif decide (a0_1 > 1000) then true else (ro (runW (R41_0 a0_0 (a0_0.length : Int) a0_0 a0_1 a0_2 a0_3 a0_4) (((a0_0.length : Int) - 0).toNat + 1) 0) false (sumE (fun _ => true) (fun p46 => true))))))))
def v41_0 (a0_0 : List AV) (a0_1 : Int) (a0_2 : List AV) (a0_3 : List AV) (a0_4 : List AV) : Bool := (bif !(v73_0 a0_2 a0_3 a0_4) then false else (bif !decide ((a0_0.length : Int) = (a0_2.length : Int)) then false else (bif decide (a0_1 < 0) then false else (bif decide (a0_1 > 1000) then false else (ro (runW (R41_0 a0_0 (a0_0.length : Int) a0_0 a0_1 a0_2 a0_3 a0_4) (((a0_0.length : Int) - 0).toNat + 1) 0) false (sumE (fun _ => true) (fun p46 => false)))))))
theorem e41 (a0_0 : List AV) (a0_1 : Int) (a0_2 : List AV) (a0_3 : List AV) (a0_4 : List AV) : funA c41 0 41 [AV.agg [AV.sl [.int .i64, .int .i64, .int .i64, .int .i64] a0_0, AV.int .i64 a0_1, AV.sl [.int .i64] a0_2, AV.sl [.int .i64] a0_3, AV.sl [.int .i64, .int .i64] a0_4]] = (bif q73 a0_2 a0_3 a0_4 then (bif !(v73_0 a0_2 a0_3 a0_4) then some (AV.bool false)
  else (bif !decide ((a0_0.length : Int) = (a0_2.length : Int)) then some (AV.bool false)
  else (bif decide (a0_1 < 0) then some (AV.bool false)
  else (bif decide (a0_1 > 1000) then some (AV.bool false)
  else (ro (runW (R41_0 a0_0 (a0_0.length : Int) a0_0 a0_1 a0_2 a0_3 a0_4) (((a0_0.length : Int) - 0).toNat + 1) 0) none (sumE (fun _ => some (AV.bool true)) (fun p46 => some (AV.bool false))))))))
  else none) := by kernel_rfl
theorem r41 (a0_0 : List AV) (a0_1 : Int) (a0_2 : List AV) (a0_3 : List AV) (a0_4 : List AV) (h : q41 a0_0 a0_1 a0_2 a0_3 a0_4 = true) : funA c41 0 41 [AV.agg [AV.sl [.int .i64, .int .i64, .int .i64, .int .i64] a0_0, AV.int .i64 a0_1, AV.sl [.int .i64] a0_2, AV.sl [.int .i64] a0_3, AV.sl [.int .i64, .int .i64] a0_4]] = some (AV.bool (v41_0 a0_0 a0_1 a0_2 a0_3 a0_4)) := (e41 a0_0 a0_1 a0_2 a0_3 a0_4).trans ((brL (br (fun b => some (AV.bool (bif b then false else (bif !decide ((a0_0.length : Int) = (a0_2.length : Int)) then false else (bif decide (a0_1 < 0) then false else (bif decide (a0_1 > 1000) then false else (ro (runW (R41_0 a0_0 (a0_0.length : Int) a0_0 a0_1 a0_2 a0_3 a0_4) (((a0_0.length : Int) - 0).toNat + 1) 0) false (sumE (fun _ => true) (fun p46 => false))))))))) (fun _ => rfl) (br (fun b => some (AV.bool (bif b then false else (bif decide (a0_1 < 0) then false else (bif decide (a0_1 > 1000) then false else (ro (runW (R41_0 a0_0 (a0_0.length : Int) a0_0 a0_1 a0_2 a0_3 a0_4) (((a0_0.length : Int) - 0).toNat + 1) 0) false (sumE (fun _ => true) (fun p46 => false)))))))) (fun _ => rfl) (br (fun b => some (AV.bool (bif b then false else (bif decide (a0_1 > 1000) then false else (ro (runW (R41_0 a0_0 (a0_0.length : Int) a0_0 a0_1 a0_2 a0_3 a0_4) (((a0_0.length : Int) - 0).toNat + 1) 0) false (sumE (fun _ => true) (fun p46 => false))))))) (fun _ => rfl) (br (fun b => some (AV.bool (bif b then false else (ro (runW (R41_0 a0_0 (a0_0.length : Int) a0_0 a0_1 a0_2 a0_3 a0_4) (((a0_0.length : Int) - 0).toNat + 1) 0) false (sumE (fun _ => true) (fun p46 => false)))))) (fun _ => rfl) (brO (fun o : Option (Unit ⊕ (Int × Int × Int × Int)) => some (AV.bool (ro o false (sumE (fun _ => true) (fun p46 => false))))) (brS (fun o : Unit ⊕ (Int × Int × Int × Int) => some (AV.bool ((sumE (fun _ => true) (fun p46 => false)) o))) (fun _ => (fun _ => rfl)) (fun p46 => (fun _ => rfl))))))))) h)
def m41 : TModel
  | [.agg [.sl g0 a0_0, .int .i64 a0_1, .sl g1 a0_2, .sl g2 a0_3, .sl g3 a0_4]] => bif ctsEq g0 ([.int .i64, .int .i64, .int .i64, .int .i64]) && ctsEq g1 ([.int .i64]) && ctsEq g2 ([.int .i64]) && ctsEq g3 ([.int .i64, .int .i64]) then some (q41 a0_0 a0_1 a0_2 a0_3 a0_4, AV.bool (v41_0 a0_0 a0_1 a0_2 a0_3 a0_4)) else none
  | _ => none
theorem k41 : Known Tryz.prog 41 := ⟨Tryz.f41, Tryz.func41, by kernel_rfl, by kernel_rfl⟩
theorem meets41 : Meets Tryz.prog 41 m41 := by
  refine meet (f := Tryz.f41) (l := [(0, sub [1, 1, 0, 1, 0, 0] (body Tryz.f41))]) (hs := [(41, 0, [1, 31, 32, 33]), (41, 999, [2]), (41, 1000, []), (41, 1001, [1, 31, 32, 33])]) (ts := [(73, m73), (74, m74)]) (ws := []) (is := []) (ls := [(41, 0, l41_0)]) (lvl := 0) mixed k41 Tryz.func41 (by kernel_rfl) (loops_cons ok41_0 noLoop) (allT_cons meets73 (allT_cons meets74 allT_nil)) allM_nil noI fun w xs us r hl hv h => ?_
  unfold m41 at h
  split at h
  · rename_i g0 a0_0 a0_1 g1 a0_2 g2 a0_3 g3 a0_4
    obtain ⟨hg, h⟩ := bif_pair h
    simp only [Bool.and_eq_true] at hg
    obtain ⟨⟨⟨q0, q1⟩, q2⟩, q3⟩ := hg
    obtain rfl := ctsEq_eq _ _ q0
    obtain rfl := ctsEq_eq _ _ q1
    obtain rfl := ctsEq_eq _ _ q2
    obtain rfl := ctsEq_eq _ _ q3
    obtain ⟨h1, rfl⟩ := pair_inj h
    exact r41 a0_0 a0_1 a0_2 a0_3 a0_4 h1
  · cases h

/-! ### 42 loop.example/g01984/impl.IsRange -/
noncomputable def c42 : Cfg := cfg Tryz.prog [(42, 999, [2])] [] [] [] []
def q42 (a0_0 : Int) (a0_1 : Int) : Bool := true
def v42_0 (a0_0 : Int) (a0_1 : Int) : Bool := (bif decide ((-1000) ≤ a0_0) then (bif decide (a0_0 ≤ a0_1) then decide (a0_1 ≤ 1000) else false) else false)
theorem e42 (a0_0 : Int) (a0_1 : Int) : funA c42 0 42 [AV.agg [AV.int .i64 a0_0, AV.int .i64 a0_1]] = (bif decide ((-1000) ≤ a0_0) then (bif decide (a0_0 ≤ a0_1) then some (AV.bool (decide (a0_1 ≤ 1000)))
  else some (AV.bool false))
  else some (AV.bool false)) := by kernel_rfl
theorem r42 (a0_0 : Int) (a0_1 : Int) : funA c42 0 42 [AV.agg [AV.int .i64 a0_0, AV.int .i64 a0_1]] = some (AV.bool (v42_0 a0_0 a0_1)) := (e42 a0_0 a0_1).trans (of_tt (brT (fun b => some (AV.bool (bif b then (bif decide (a0_0 ≤ a0_1) then decide (a0_1 ≤ 1000) else false) else false))) (brT (fun b => some (AV.bool (bif b then decide (a0_1 ≤ 1000) else false))) (fun _ => rfl) (fun _ => rfl)) (fun _ => rfl)))
def m42 : TModel
  | [.agg [.int .i64 a0_0, .int .i64 a0_1]] => some (true, AV.bool (v42_0 a0_0 a0_1))
  | _ => none
theorem k42 : Known Tryz.prog 42 := ⟨Tryz.f42, Tryz.func42, by kernel_rfl, by kernel_rfl⟩
theorem meets42 : Meets Tryz.prog 42 m42 := by
  refine meet (f := Tryz.f42) (l := []) (hs := [(42, 999, [2])]) (ts := []) (ws := []) (is := []) (ls := []) (lvl := 0) mixed k42 Tryz.func42 (by kernel_rfl) noLoop allT_nil allM_nil noI fun w xs us r hl hv h => ?_
  unfold m42 at h
  split at h
  · rename_i a0_0 a0_1
    obtain ⟨h1, rfl⟩ := pair_inj h
    exact r42 a0_0 a0_1
  · cases h

/-! ### 98 loop.example/g01984/impl.FindPivot -/
def F98_0 (t1 : Int) (t9 : List AV) (t10 : Int) (t11 : Int) : Out (Int) (Unit ⊕ (Int × Int × Int)) := (bif decide (t11 < t10) then (bif (decide (0 ≤ t11) && decide (t11 < (t9.length : Int))) then (bif decide (fI (t9.getD t11.toNat AV.undef) 0 = t1) then .stop (.inr (fI (t9.getD t11.toNat AV.undef) 1, fI (t9.getD t11.toNat AV.undef) 0, fI (t9.getD t11.toNat AV.undef) 1))
  else .next (IntKind.i64.wrap (t11 + 1)))
  else .fail)
  else .stop (.inl ()))
def R98_0 (t1 : Int) (t9 : List AV) (t10 : Int) : (Int) → Out (Int) (Unit ⊕ (Int × Int × Int)) := fun s : Int => F98_0 t1 t9 t10 s
def l98_0 : LModel := fun _ _ st k => match st with
  | ⟨[(1, .int .i64 t1), (9, .sl g0 t9), (10, .int .i64 t10), (11, .int .i64 t11)], []⟩ => bif ctsEq g0 ([.int .i64, .int .i64]) then ro (runW (R98_0 t1 t9 t10) ((t10 - t11).toNat + 1) t11) none (sumE (fun _ : Unit => k (.exit 0) ⟨[], []⟩) (fun p : Int × Int × Int => k .ret ⟨[(4, AV.int .i64 p.1), (5, AV.bool true)], [([1, 7], ⟨true, [], [AV.agg [AV.int .i64 p.2.1, AV.int .i64 p.2.2]]⟩)]⟩)) else none
  | _ => none
noncomputable def c98 : Cfg := cfg Tryz.prog [(98, 0, [1, 9, 10, 11]), (98, 999, [4, 5]), (98, 1000, []), (98, 1001, [1, 9, 10, 11])] [] [] [] [(98, 0, l98_0)]
theorem s98_0 (ce : CallE) (t1 : Int) (t9 : List AV) (t10 : Int) (t11 : Int) (next : St → Option AV) (k : Kont) : stepA (codeA c98 ce [] 98 0 (sub [1, 0, 1, 0, 0] (body Tryz.f98))) (normA [] [1, 9, 10, 11]) next ⟨[(1, AV.int .i64 t1), (9, AV.sl [.int .i64, .int .i64] t9), (10, AV.int .i64 t10), (11, AV.int .i64 t11)], []⟩ k = (bif decide (t11 < t10) then (bif (decide (0 ≤ t11) && decide (t11 < (t9.length : Int))) then (bif decide (fI (t9.getD t11.toNat AV.undef) 0 = t1) then k .ret ⟨[(4, AV.int .i64 (fI (t9.getD t11.toNat AV.undef) 1)), (5, AV.bool true)], [([1, 7], ⟨true, [], [AV.agg [AV.int .i64 (fI (t9.getD t11.toNat AV.undef) 0), AV.int .i64 (fI (t9.getD t11.toNat AV.undef) 1)]]⟩)]⟩
  else next ⟨[(1, AV.int .i64 t1), (9, AV.sl [.int .i64, .int .i64] t9), (10, AV.int .i64 t10), (11, AV.int .i64 (IntKind.i64.wrap (t11 + 1)))], []⟩)
  else none)
  else k (.exit 0) ⟨[], []⟩) := by kernel_rfl
theorem st98_0 (t1 : Int) (t9 : List AV) (t10 : Int) (ce : CallE) (k : Kont) (s : Int) (next : St → Option AV) : stepA (codeA c98 ce [] 98 0 (sub [1, 0, 1, 0, 0] (body Tryz.f98))) (normA [] [1, 9, 10, 11]) next ((fun s : Int => ⟨[(1, AV.int .i64 t1), (9, AV.sl [.int .i64, .int .i64] t9), (10, AV.int .i64 t10), (11, AV.int .i64 s)], []⟩) s) k = (R98_0 t1 t9 t10 s).el none (fun s => next ((fun s : Int => ⟨[(1, AV.int .i64 t1), (9, AV.sl [.int .i64, .int .i64] t9), (10, AV.int .i64 t10), (11, AV.int .i64 s)], []⟩) s)) (sumE (fun _ : Unit => k (.exit 0) ⟨[], []⟩) (fun p : Int × Int × Int => k .ret ⟨[(4, AV.int .i64 p.1), (5, AV.bool true)], [([1, 7], ⟨true, [], [AV.agg [AV.int .i64 p.2.1, AV.int .i64 p.2.2]]⟩)]⟩)) := (s98_0 ce t1 t9 t10 s next k).trans (by unfold R98_0; unfold F98_0; simp only [el_cond, el_ro, el_sum, el_fail, el_next, el_stop] <;> rfl)
theorem ok98_0 {ce : CallE} : LoopOK c98 ce [] 98 0 (sub [1, 0, 1, 0, 0] (body Tryz.f98)) := by
  intro m hm st k r h
  obtain rfl : l98_0 = m := Option.some.inj hm
  unfold l98_0 at h
  split at h
  · rename_i t1 g0 t9 t10 t11
    obtain ⟨hg, h⟩ := bif_some h
    have q0 := hg
    obtain rfl := ctsEq_eq _ _ q0
    refine ⟨((t10 - t11).toNat + 1), ?_⟩
    rw [← h]
    exact loop_run (fun s : Int => ⟨[(1, AV.int .i64 t1), (9, AV.sl [.int .i64, .int .i64] t9), (10, AV.int .i64 t10), (11, AV.int .i64 s)], []⟩) (sumE (fun _ : Unit => k (.exit 0) ⟨[], []⟩) (fun p : Int × Int × Int => k .ret ⟨[(4, AV.int .i64 p.1), (5, AV.bool true)], [([1, 7], ⟨true, [], [AV.agg [AV.int .i64 p.2.1, AV.int .i64 p.2.2]]⟩)]⟩)) (st98_0 t1 t9 t10 ce k) _ t11
  · cases h
def q98 (a0_0 : List AV) (a0_1 : List AV) (a0_2 : List AV) (a1 : Int) : Bool := (ro (runW (R98_0 a1 a0_2 (a0_2.length : Int)) (((a0_2.length : Int) - 0).toNat + 1) 0) false (sumE (fun _ => true) (fun p48 => true)))
def v98_0 (a0_0 : List AV) (a0_1 : List AV) (a0_2 : List AV) (a1 : Int) : Int := (ro (runW (R98_0 a1 a0_2 (a0_2.length : Int)) (((a0_2.length : Int) - 0).toNat + 1) 0) 0 (sumE (fun _ => 0) (fun p48 => p48.1)))
def v98_1 (a0_0 : List AV) (a0_1 : List AV) (a0_2 : List AV) (a1 : Int) : Bool := (ro (runW (R98_0 a1 a0_2 (a0_2.length : Int)) (((a0_2.length : Int) - 0).toNat + 1) 0) false (sumE (fun _ => false) (fun p48 => true)))
theorem e98 (a0_0 : List AV) (a0_1 : List AV) (a0_2 : List AV) (a1 : Int) : funA c98 0 98 [AV.agg [AV.sl [.int .i64] a0_0, AV.sl [.int .i64] a0_1, AV.sl [.int .i64, .int .i64] a0_2], AV.int .i64 a1] = (ro (runW (R98_0 a1 a0_2 (a0_2.length : Int)) (((a0_2.length : Int) - 0).toNat + 1) 0) none (sumE (fun _ => some (AV.tup [AV.int .i64 0, AV.bool false])) (fun p48 => some (AV.tup [AV.int .i64 p48.1, AV.bool true])))) := by kernel_rfl
theorem r98 (a0_0 : List AV) (a0_1 : List AV) (a0_2 : List AV) (a1 : Int) (h : q98 a0_0 a0_1 a0_2 a1 = true) : funA c98 0 98 [AV.agg [AV.sl [.int .i64] a0_0, AV.sl [.int .i64] a0_1, AV.sl [.int .i64, .int .i64] a0_2], AV.int .i64 a1] = some (AV.tup [AV.int .i64 (v98_0 a0_0 a0_1 a0_2 a1), AV.bool (v98_1 a0_0 a0_1 a0_2 a1)]) := (e98 a0_0 a0_1 a0_2 a1).trans ((brO (fun o : Option (Unit ⊕ (Int × Int × Int)) => some (AV.tup [AV.int .i64 (ro o 0 (sumE (fun _ => 0) (fun p48 => p48.1))), AV.bool (ro o false (sumE (fun _ => false) (fun p48 => true)))])) (brS (fun o : Unit ⊕ (Int × Int × Int) => some (AV.tup [AV.int .i64 ((sumE (fun _ => 0) (fun p48 => p48.1)) o), AV.bool ((sumE (fun _ => false) (fun p48 => true)) o)])) (fun _ => (fun _ => rfl)) (fun p48 => (fun _ => rfl)))) h)
def m98 : TModel
  | [.agg [.sl g0 a0_0, .sl g1 a0_1, .sl g2 a0_2], .int .i64 a1] => bif ctsEq g0 ([.int .i64]) && ctsEq g1 ([.int .i64]) && ctsEq g2 ([.int .i64, .int .i64]) then some (q98 a0_0 a0_1 a0_2 a1, AV.tup [AV.int .i64 (v98_0 a0_0 a0_1 a0_2 a1), AV.bool (v98_1 a0_0 a0_1 a0_2 a1)]) else none
  | _ => none
theorem k98 : Known Tryz.prog 98 := ⟨Tryz.f98, Tryz.func98, by kernel_rfl, by kernel_rfl⟩
theorem meets98 : Meets Tryz.prog 98 m98 := by
  refine meet (f := Tryz.f98) (l := [(0, sub [1, 0, 1, 0, 0] (body Tryz.f98))]) (hs := [(98, 0, [1, 9, 10, 11]), (98, 999, [4, 5]), (98, 1000, []), (98, 1001, [1, 9, 10, 11])]) (ts := []) (ws := []) (is := []) (ls := [(98, 0, l98_0)]) (lvl := 0) mixed k98 Tryz.func98 (by kernel_rfl) (loops_cons ok98_0 noLoop) allT_nil allM_nil noI fun w xs us r hl hv h => ?_
  unfold m98 at h
  split at h
  · rename_i g0 a0_0 g1 a0_1 g2 a0_2 a1
    obtain ⟨hg, h⟩ := bif_pair h
    simp only [Bool.and_eq_true] at hg
    obtain ⟨⟨q0, q1⟩, q2⟩ := hg
    obtain rfl := ctsEq_eq _ _ q0
    obtain rfl := ctsEq_eq _ _ q1
    obtain rfl := ctsEq_eq _ _ q2
    obtain ⟨h1, rfl⟩ := pair_inj h
    exact r98 a0_0 a0_1 a0_2 a1 h1
  · cases h

/-! ### 112 loop.example/g01984/impl.isPivot -/
noncomputable def c112 : Cfg := cfg Tryz.prog [(112, 999, [4])] [(98, m98)] [] [] []
def q112 (a0_0 : List AV) (a0_1 : List AV) (a0_2 : List AV) (a1 : Int) : Bool := q98 a0_0 a0_1 a0_2 a1
def v112_0 (a0_0 : List AV) (a0_1 : List AV) (a0_2 : List AV) (a1 : Int) : Bool := (v98_1 a0_0 a0_1 a0_2 a1)
theorem e112 (a0_0 : List AV) (a0_1 : List AV) (a0_2 : List AV) (a1 : Int) : funA c112 0 112 [AV.agg [AV.sl [.int .i64] a0_0, AV.sl [.int .i64] a0_1, AV.sl [.int .i64, .int .i64] a0_2], AV.int .i64 a1] = (bif q98 a0_0 a0_1 a0_2 a1 then some (AV.bool (v98_1 a0_0 a0_1 a0_2 a1))
  else none) := by kernel_rfl
theorem r112 (a0_0 : List AV) (a0_1 : List AV) (a0_2 : List AV) (a1 : Int) (h : q112 a0_0 a0_1 a0_2 a1 = true) : funA c112 0 112 [AV.agg [AV.sl [.int .i64] a0_0, AV.sl [.int .i64] a0_1, AV.sl [.int .i64, .int .i64] a0_2], AV.int .i64 a1] = some (AV.bool (v112_0 a0_0 a0_1 a0_2 a1)) := (e112 a0_0 a0_1 a0_2 a1).trans ((brL1 (fun _ => rfl)) h)
def m112 : TModel
  | [.agg [.sl g0 a0_0, .sl g1 a0_1, .sl g2 a0_2], .int .i64 a1] => bif ctsEq g0 ([.int .i64]) && ctsEq g1 ([.int .i64]) && ctsEq g2 ([.int .i64, .int .i64]) then some (q112 a0_0 a0_1 a0_2 a1, AV.bool (v112_0 a0_0 a0_1 a0_2 a1)) else none
  | _ => none
theorem k112 : Known Tryz.prog 112 := ⟨Tryz.f112, Tryz.func112, by kernel_rfl, by kernel_rfl⟩
theorem meets112 : Meets Tryz.prog 112 m112 := by
  refine meet (f := Tryz.f112) (l := []) (hs := [(112, 999, [4])]) (ts := [(98, m98)]) (ws := []) (is := []) (ls := []) (lvl := 0) mixed k112 Tryz.func112 (by kernel_rfl) noLoop (allT_cons meets98 allT_nil) allM_nil noI fun w xs us r hl hv h => ?_
  unfold m112 at h
  split at h
  · rename_i g0 a0_0 g1 a0_1 g2 a0_2 a1
    obtain ⟨hg, h⟩ := bif_pair h
    simp only [Bool.and_eq_true] at hg
    obtain ⟨⟨q0, q1⟩, q2⟩ := hg
    obtain rfl := ctsEq_eq _ _ q0
    obtain rfl := ctsEq_eq _ _ q1
    obtain rfl := ctsEq_eq _ _ q2
    obtain ⟨h1, rfl⟩ := pair_inj h
    exact r112 a0_0 a0_1 a0_2 a1 h1
  · cases h

/-! ### 113 loop.example/g01984/impl.piece -/
def F113_0 (t1 : Int) (t7 : Int) (t14 : List AV) (t15 : Int) (t6 : Int) (t16 : Int) : Out ((Int × Int)) (Int ⊕ (Int × Int × Int × Int)) := (bif decide (t16 < t15) then (bif (decide (0 ≤ t16) && decide (t16 < (t14.length : Int))) then (bif decide (fI (t14.getD t16.toNat AV.undef) 0 ≤ t1) then (bif decide (fI (t14.getD t16.toNat AV.undef) 0 ≥ t1) then .stop (.inr (fI (t14.getD t16.toNat AV.undef) 1, fI (t14.getD t16.toNat AV.undef) 1, fI (t14.getD t16.toNat AV.undef) 0, fI (t14.getD t16.toNat AV.undef) 1))
  else .next (fI (t14.getD t16.toNat AV.undef) 1, IntKind.i64.wrap (t16 + 1)))
  else (bif decide (fI (t14.getD t16.toNat AV.undef) 0 ≥ t1) then .stop (.inr (t6, fI (t14.getD t16.toNat AV.undef) 1, fI (t14.getD t16.toNat AV.undef) 0, fI (t14.getD t16.toNat AV.undef) 1))
  else .next (t6, IntKind.i64.wrap (t16 + 1))))
  else .fail)
  else .stop (.inl t6))
def R113_0 (t1 : Int) (t7 : Int) (t14 : List AV) (t15 : Int) : ((Int × Int)) → Out ((Int × Int)) (Int ⊕ (Int × Int × Int × Int)) := fun s : Int × Int => F113_0 t1 t7 t14 t15 s.1 s.2
def l113_0 : LModel := fun _ _ st k => match st with
  | ⟨[(1, .int .i64 t1), (6, .int .i64 t6), (7, .int .i64 t7), (14, .sl g0 t14), (15, .int .i64 t15), (16, .int .i64 t16)], []⟩ => bif ctsEq g0 ([.int .i64, .int .i64]) then ro (runW (R113_0 t1 t7 t14 t15) ((t15 - t16).toNat + 1) (t6, t16)) none (sumE (fun p : Int => k (.exit 0) ⟨[(6, AV.int .i64 p), (7, AV.int .i64 t7)], []⟩) (fun p : Int × Int × Int × Int => k .ret ⟨[(4, AV.int .i64 p.1), (5, AV.int .i64 p.2.1)], [([1, 9], ⟨true, [], [AV.agg [AV.int .i64 p.2.2.1, AV.int .i64 p.2.2.2]]⟩)]⟩)) else none
  | _ => none
noncomputable def c113 : Cfg := cfg Tryz.prog [(113, 0, [1, 6, 7, 14, 15, 16]), (113, 999, [4, 5]), (113, 1000, [6, 7]), (113, 1001, [1, 6, 7, 14, 15, 16])] [] [] [] [(113, 0, l113_0)]
theorem s113_0 (ce : CallE) (t1 : Int) (t6 : Int) (t7 : Int) (t14 : List AV) (t15 : Int) (t16 : Int) (next : St → Option AV) (k : Kont) : stepA (codeA c113 ce [] 113 0 (sub [1, 1, 0, 1, 0, 0] (body Tryz.f113))) (normA [] [1, 6, 7, 14, 15, 16]) next ⟨[(1, AV.int .i64 t1), (6, AV.int .i64 t6), (7, AV.int .i64 t7), (14, AV.sl [.int .i64, .int .i64] t14), (15, AV.int .i64 t15), (16, AV.int .i64 t16)], []⟩ k = (bif decide (t16 < t15) then (bif (decide (0 ≤ t16) && decide (t16 < (t14.length : Int))) then (bif decide (fI (t14.getD t16.toNat AV.undef) 0 ≤ t1) then (bif decide (fI (t14.getD t16.toNat AV.undef) 0 ≥ t1) then k .ret ⟨[(4, AV.int .i64 (fI (t14.getD t16.toNat AV.undef) 1)), (5, AV.int .i64 (fI (t14.getD t16.toNat AV.undef) 1))], [([1, 9], ⟨true, [], [AV.agg [AV.int .i64 (fI (t14.getD t16.toNat AV.undef) 0), AV.int .i64 (fI (t14.getD t16.toNat AV.undef) 1)]]⟩)]⟩
  else next ⟨[(1, AV.int .i64 t1), (6, AV.int .i64 (fI (t14.getD t16.toNat AV.undef) 1)), (7, AV.int .i64 t7), (14, AV.sl [.int .i64, .int .i64] t14), (15, AV.int .i64 t15), (16, AV.int .i64 (IntKind.i64.wrap (t16 + 1)))], []⟩)
  else (bif decide (fI (t14.getD t16.toNat AV.undef) 0 ≥ t1) then k .ret ⟨[(4, AV.int .i64 t6), (5, AV.int .i64 (fI (t14.getD t16.toNat AV.undef) 1))], [([1, 9], ⟨true, [], [AV.agg [AV.int .i64 (fI (t14.getD t16.toNat AV.undef) 0), AV.int .i64 (fI (t14.getD t16.toNat AV.undef) 1)]]⟩)]⟩
  else next ⟨[(1, AV.int .i64 t1), (6, AV.int .i64 t6), (7, AV.int .i64 t7), (14, AV.sl [.int .i64, .int .i64] t14), (15, AV.int .i64 t15), (16, AV.int .i64 (IntKind.i64.wrap (t16 + 1)))], []⟩))
  else none)
  else k (.exit 0) ⟨[(6, AV.int .i64 t6), (7, AV.int .i64 t7)], []⟩) := by kernel_rfl
theorem st113_0 (t1 : Int) (t7 : Int) (t14 : List AV) (t15 : Int) (ce : CallE) (k : Kont) (s : (Int × Int)) (next : St → Option AV) : stepA (codeA c113 ce [] 113 0 (sub [1, 1, 0, 1, 0, 0] (body Tryz.f113))) (normA [] [1, 6, 7, 14, 15, 16]) next ((fun s : Int × Int => ⟨[(1, AV.int .i64 t1), (6, AV.int .i64 s.1), (7, AV.int .i64 t7), (14, AV.sl [.int .i64, .int .i64] t14), (15, AV.int .i64 t15), (16, AV.int .i64 s.2)], []⟩) s) k = (R113_0 t1 t7 t14 t15 s).el none (fun s => next ((fun s : Int × Int => ⟨[(1, AV.int .i64 t1), (6, AV.int .i64 s.1), (7, AV.int .i64 t7), (14, AV.sl [.int .i64, .int .i64] t14), (15, AV.int .i64 t15), (16, AV.int .i64 s.2)], []⟩) s)) (sumE (fun p : Int => k (.exit 0) ⟨[(6, AV.int .i64 p), (7, AV.int .i64 t7)], []⟩) (fun p : Int × Int × Int × Int => k .ret ⟨[(4, AV.int .i64 p.1), (5, AV.int .i64 p.2.1)], [([1, 9], ⟨true, [], [AV.agg [AV.int .i64 p.2.2.1, AV.int .i64 p.2.2.2]]⟩)]⟩)) := (s113_0 ce t1 s.1 t7 t14 t15 s.2 next k).trans (by unfold R113_0; unfold F113_0; simp only [el_cond, el_ro, el_sum, el_fail, el_next, el_stop] <;> rfl)
theorem ok113_0 {ce : CallE} : LoopOK c113 ce [] 113 0 (sub [1, 1, 0, 1, 0, 0] (body Tryz.f113)) := by
  intro m hm st k r h
  obtain rfl : l113_0 = m := Option.some.inj hm
  unfold l113_0 at h
  split at h
  · rename_i t1 t6 t7 g0 t14 t15 t16
    obtain ⟨hg, h⟩ := bif_some h
    have q0 := hg
    obtain rfl := ctsEq_eq _ _ q0
    refine ⟨((t15 - t16).toNat + 1), ?_⟩
    rw [← h]
    exact loop_run (fun s : Int × Int => ⟨[(1, AV.int .i64 t1), (6, AV.int .i64 s.1), (7, AV.int .i64 t7), (14, AV.sl [.int .i64, .int .i64] t14), (15, AV.int .i64 t15), (16, AV.int .i64 s.2)], []⟩) (sumE (fun p : Int => k (.exit 0) ⟨[(6, AV.int .i64 p), (7, AV.int .i64 t7)], []⟩) (fun p : Int × Int × Int × Int => k .ret ⟨[(4, AV.int .i64 p.1), (5, AV.int .i64 p.2.1)], [([1, 9], ⟨true, [], [AV.agg [AV.int .i64 p.2.2.1, AV.int .i64 p.2.2.2]]⟩)]⟩)) (st113_0 t1 t7 t14 t15 ce k) _ (t6, t16)
  · cases h
def q113 (a0_0 : List AV) (a0_1 : List AV) (a0_2 : List AV) (a1 : Int) : Bool := (ro (runW (R113_0 a1 (a0_0.length : Int) a0_2 (a0_2.length : Int)) (((a0_2.length : Int) - 0).toNat + 1) (0, 0)) false (sumE (fun p49 => true) (fun p50 => true)))
def v113_0 (a0_0 : List AV) (a0_1 : List AV) (a0_2 : List AV) (a1 : Int) : Int := (ro (runW (R113_0 a1 (a0_0.length : Int) a0_2 (a0_2.length : Int)) (((a0_2.length : Int) - 0).toNat + 1) (0, 0)) 0 (sumE (fun p49 => p49) (fun p50 => p50.1)))
def v113_1 (a0_0 : List AV) (a0_1 : List AV) (a0_2 : List AV) (a1 : Int) : Int := (ro (runW (R113_0 a1 (a0_0.length : Int) a0_2 (a0_2.length : Int)) (((a0_2.length : Int) - 0).toNat + 1) (0, 0)) 0 (sumE (fun p49 => (a0_0.length : Int)) (fun p50 => p50.2.1)))
theorem e113 (a0_0 : List AV) (a0_1 : List AV) (a0_2 : List AV) (a1 : Int) : funA c113 0 113 [AV.agg [AV.sl [.int .i64] a0_0, AV.sl [.int .i64] a0_1, AV.sl [.int .i64, .int .i64] a0_2], AV.int .i64 a1] = (ro (runW (R113_0 a1 (a0_0.length : Int) a0_2 (a0_2.length : Int)) (((a0_2.length : Int) - 0).toNat + 1) (0, 0)) none (sumE (fun p49 => some (AV.tup [AV.int .i64 p49, AV.int .i64 (a0_0.length : Int)])) (fun p50 => some (AV.tup [AV.int .i64 p50.1, AV.int .i64 p50.2.1])))) := by kernel_rfl
theorem r113 (a0_0 : List AV) (a0_1 : List AV) (a0_2 : List AV) (a1 : Int) (h : q113 a0_0 a0_1 a0_2 a1 = true) : funA c113 0 113 [AV.agg [AV.sl [.int .i64] a0_0, AV.sl [.int .i64] a0_1, AV.sl [.int .i64, .int .i64] a0_2], AV.int .i64 a1] = some (AV.tup [AV.int .i64 (v113_0 a0_0 a0_1 a0_2 a1), AV.int .i64 (v113_1 a0_0 a0_1 a0_2 a1)]) := (e113 a0_0 a0_1 a0_2 a1).trans ((brO (fun o : Option (Int ⊕ (Int × Int × Int × Int)) => some (AV.tup [AV.int .i64 (ro o 0 (sumE (fun p49 => p49) (fun p50 => p50.1))), AV.int .i64 (ro o 0 (sumE (fun p49 => (a0_0.length : Int)) (fun p50 => p50.2.1)))])) (brS (fun o : Int ⊕ (Int × Int × Int × Int) => some (AV.tup [AV.int .i64 ((sumE (fun p49 => p49) (fun p50 => p50.1)) o), AV.int .i64 ((sumE (fun p49 => (a0_0.length : Int)) (fun p50 => p50.2.1)) o)])) (fun p49 => (fun _ => rfl)) (fun p50 => (fun _ => rfl)))) h)
def m113 : TModel
  | [.agg [.sl g0 a0_0, .sl g1 a0_1, .sl g2 a0_2], .int .i64 a1] => bif ctsEq g0 ([.int .i64]) && ctsEq g1 ([.int .i64]) && ctsEq g2 ([.int .i64, .int .i64]) then some (q113 a0_0 a0_1 a0_2 a1, AV.tup [AV.int .i64 (v113_0 a0_0 a0_1 a0_2 a1), AV.int .i64 (v113_1 a0_0 a0_1 a0_2 a1)]) else none
  | _ => none
theorem k113 : Known Tryz.prog 113 := ⟨Tryz.f113, Tryz.func113, by kernel_rfl, by kernel_rfl⟩
theorem meets113 : Meets Tryz.prog 113 m113 := by
  refine meet (f := Tryz.f113) (l := [(0, sub [1, 1, 0, 1, 0, 0] (body Tryz.f113))]) (hs := [(113, 0, [1, 6, 7, 14, 15, 16]), (113, 999, [4, 5]), (113, 1000, [6, 7]), (113, 1001, [1, 6, 7, 14, 15, 16])]) (ts := []) (ws := []) (is := []) (ls := [(113, 0, l113_0)]) (lvl := 0) mixed k113 Tryz.func113 (by kernel_rfl) (loops_cons ok113_0 noLoop) allT_nil allM_nil noI fun w xs us r hl hv h => ?_
  unfold m113 at h
  split at h
  · rename_i g0 a0_0 g1 a0_1 g2 a0_2 a1
    obtain ⟨hg, h⟩ := bif_pair h
    simp only [Bool.and_eq_true] at hg
    obtain ⟨⟨q0, q1⟩, q2⟩ := hg
    obtain rfl := ctsEq_eq _ _ q0
    obtain rfl := ctsEq_eq _ _ q1
    obtain rfl := ctsEq_eq _ _ q2
    obtain ⟨h1, rfl⟩ := pair_inj h
    exact r113 a0_0 a0_1 a0_2 a1 h1
  · cases h

/-! ### 124 loop.example/g01984/impl.move -/
noncomputable def c124 : Cfg := cfg Tryz.prog [(124, 999, [8, 9, 10]), (124, 1000, [1, 2])] [] [] [] []
def q124 (a0 : List AV) (a1 : Int) (a2 : Int) (a3 : Int) : Bool := ((decide (0 ≤ a1) && decide (a1 < (a0.length : Int))) && (bif decide (fI (a0.getD a1.toNat AV.undef) 0 < a3) then true else (decide (0 ≤ a2) && decide (a2 < (a0.length : Int)))))
def v124_0 (a0 : List AV) (a1 : Int) (a2 : Int) (a3 : Int) : Int := (bif decide (fI (a0.getD a1.toNat AV.undef) 0 < a3) then IntKind.i64.wrap (a1 + 1) else (bif decide (fI (a0.getD a2.toNat AV.undef) 0 ≥ a3) then a1 else IntKind.i64.wrap (a1 + 1)))
def v124_1 (a0 : List AV) (a1 : Int) (a2 : Int) (a3 : Int) : Int := (bif decide (fI (a0.getD a1.toNat AV.undef) 0 < a3) then a2 else IntKind.i64.wrap (a2 - 1))
def v124_2 (a0 : List AV) (a1 : Int) (a2 : Int) (a3 : Int) : Bool := (bif decide (fI (a0.getD a1.toNat AV.undef) 0 < a3) then false else (bif decide (fI (a0.getD a2.toNat AV.undef) 0 ≥ a3) then false else true))
theorem e124 (a0 : List AV) (a1 : Int) (a2 : Int) (a3 : Int) : funA c124 0 124 [AV.sl [.int .i64] a0, AV.int .i64 a1, AV.int .i64 a2, AV.int .i64 a3] = (bif (decide (0 ≤ a1) && decide (a1 < (a0.length : Int))) then (bif decide (fI (a0.getD a1.toNat AV.undef) 0 < a3) then some (AV.tup [AV.int .i64 (IntKind.i64.wrap (a1 + 1)), AV.int .i64 a2, AV.bool false])
  else (bif (decide (0 ≤ a2) && decide (a2 < (a0.length : Int))) then (bif decide (fI (a0.getD a2.toNat AV.undef) 0 ≥ a3) then some (AV.tup [AV.int .i64 a1, AV.int .i64 (IntKind.i64.wrap (a2 - 1)), AV.bool false])
  else some (AV.tup [AV.int .i64 (IntKind.i64.wrap (a1 + 1)), AV.int .i64 (IntKind.i64.wrap (a2 - 1)), AV.bool true]))
  else none))
  else none) := by kernel_rfl
theorem r124 (a0 : List AV) (a1 : Int) (a2 : Int) (a3 : Int) (h : q124 a0 a1 a2 a3 = true) : funA c124 0 124 [AV.sl [.int .i64] a0, AV.int .i64 a1, AV.int .i64 a2, AV.int .i64 a3] = some (AV.tup [AV.int .i64 (v124_0 a0 a1 a2 a3), AV.int .i64 (v124_1 a0 a1 a2 a3), AV.bool (v124_2 a0 a1 a2 a3)]) := (e124 a0 a1 a2 a3).trans ((brL (br (fun b => some (AV.tup [AV.int .i64 (bif b then IntKind.i64.wrap (a1 + 1) else (bif decide (fI (a0.getD a2.toNat AV.undef) 0 ≥ a3) then a1 else IntKind.i64.wrap (a1 + 1))), AV.int .i64 (bif b then a2 else IntKind.i64.wrap (a2 - 1)), AV.bool (bif b then false else (bif decide (fI (a0.getD a2.toNat AV.undef) 0 ≥ a3) then false else true))])) (fun _ => rfl) (brL1 (brT (fun b => some (AV.tup [AV.int .i64 (bif b then a1 else IntKind.i64.wrap (a1 + 1)), AV.int .i64 (IntKind.i64.wrap (a2 - 1)), AV.bool (bif b then false else true)])) (fun _ => rfl) (fun _ => rfl))))) h)
def m124 : TModel
  | [.sl g0 a0, .int .i64 a1, .int .i64 a2, .int .i64 a3] => bif ctsEq g0 ([.int .i64]) then some (q124 a0 a1 a2 a3, AV.tup [AV.int .i64 (v124_0 a0 a1 a2 a3), AV.int .i64 (v124_1 a0 a1 a2 a3), AV.bool (v124_2 a0 a1 a2 a3)]) else none
  | _ => none
theorem k124 : Known Tryz.prog 124 := ⟨Tryz.f124, Tryz.func124, by kernel_rfl, by kernel_rfl⟩
theorem meets124 : Meets Tryz.prog 124 m124 := by
  refine meet (f := Tryz.f124) (l := []) (hs := [(124, 999, [8, 9, 10]), (124, 1000, [1, 2])]) (ts := []) (ws := []) (is := []) (ls := []) (lvl := 0) mixed k124 Tryz.func124 (by kernel_rfl) noLoop allT_nil allM_nil noI fun w xs us r hl hv h => ?_
  unfold m124 at h
  split at h
  · rename_i g0 a0 a1 a2 a3
    obtain ⟨hg, h⟩ := bif_pair h
    have q0 := hg
    obtain rfl := ctsEq_eq _ _ q0
    obtain ⟨h1, rfl⟩ := pair_inj h
    exact r124 a0 a1 a2 a3 h1
  · cases h

/-! ### 114 loop.example/g01984/impl.Partition -/
def F114_0 (t3 : Int) (t12 : Int) (t13 : Int) (h0 : List AV) (h1 : List AV) : Out ((Int × Int × (List AV) × (List AV))) ((Int × (List AV) × (List AV))) := (bif decide (t12 ≤ t13) then (bif q124 h0 t12 t13 t3 then (bif (v124_2 h0 t12 t13 t3) then (bif (decide (0 ≤ t13) && decide (t13 < (h0.length : Int))) then (bif (decide (0 ≤ t12) && decide (t12 < (h0.length : Int))) then (bif (decide (0 ≤ t12) && decide (t12 < (h0.length : Int))) then (bif (decide (0 ≤ t13) && decide (t13 < ((h0.set t12.toNat (AV.agg [AV.int .i64 (fI (h0.getD t13.toNat AV.undef) 0)])).length : Int))) then (bif (decide ((h1.length + ([AV.agg [AV.int .i64 t12, AV.int .i64 t13]]).length) * 16 ≤ 140737488355328) && decide ((h1.length + ([AV.agg [AV.int .i64 t12, AV.int .i64 t13]]).length) ≤ 140737488355328)) then .next ((v124_0 h0 t12 t13 t3), (v124_1 h0 t12 t13 t3), (h0.set t12.toNat (AV.agg [AV.int .i64 (fI (h0.getD t13.toNat AV.undef) 0)])).set t13.toNat (AV.agg [AV.int .i64 (fI (h0.getD t12.toNat AV.undef) 0)]), h1 ++ ([AV.agg [AV.int .i64 t12, AV.int .i64 t13]]))
  else .fail)
  else .fail)
  else .fail)
  else .fail)
  else .fail)
  else .next ((v124_0 h0 t12 t13 t3), (v124_1 h0 t12 t13 t3), h0, h1))
  else .fail)
  else .stop (t12, h0, h1))
def R114_0 (t3 : Int) : ((Int × Int × (List AV) × (List AV))) → Out ((Int × Int × (List AV) × (List AV))) ((Int × (List AV) × (List AV))) := fun s : Int × Int × (List AV) × (List AV) => F114_0 t3 s.1 s.2.1 s.2.2.1 s.2.2.2
def l114_0 : LModel := fun _ _ st k => match st with
  | ⟨[(3, .int .i64 t3), (10, .own g0), (11, .own g1), (12, .int .i64 t12), (13, .int .i64 t13)], [(g2, ⟨false, g3, h0⟩), (g4, ⟨false, g5, h1⟩)]⟩ => bif nmEq g0 ([0, 10]) && nmEq g1 ([0, 11]) && nmEq g2 ([0, 10]) && ctsEq g3 ([.int .i64]) && nmEq g4 ([0, 11]) && ctsEq g5 ([.int .i64, .int .i64]) then ro (runW (R114_0 t3) ((t13 - t12 + 1).toNat + 1) (t12, t13, h0, h1)) none (fun p : Int × (List AV) × (List AV) => k (.exit 0) ⟨[(11, AV.own [0, 11]), (12, AV.int .i64 p.1)], [([0, 10], ⟨false, [.int .i64], p.2.1⟩), ([0, 11], ⟨false, [.int .i64, .int .i64], p.2.2⟩)]⟩) else none
  | _ => none
noncomputable def c114 : Cfg := cfg Tryz.prog [(114, 0, [3, 10, 11, 12, 13]), (114, 999, [8, 9]), (114, 1000, [11, 12]), (114, 1001, [3, 10, 11, 12, 13])] [(94, m94), (124, m124)] [] [] [(114, 0, l114_0)]
theorem s114_0 (ce : CallE) (t3 : Int) (t12 : Int) (t13 : Int) (h0 : List AV) (h1 : List AV) (next : St → Option AV) (k : Kont) : stepA (codeA c114 ce [] 114 0 (sub [1, 1, 1, 1, 0, 0, 0] (body Tryz.f114))) (normA [] [3, 10, 11, 12, 13]) next ⟨[(3, AV.int .i64 t3), (10, AV.own [0, 10]), (11, AV.own [0, 11]), (12, AV.int .i64 t12), (13, AV.int .i64 t13)], [([0, 10], ⟨false, [.int .i64], h0⟩), ([0, 11], ⟨false, [.int .i64, .int .i64], h1⟩)]⟩ k = (bif decide (t12 ≤ t13) then (bif q124 h0 t12 t13 t3 then (bif (v124_2 h0 t12 t13 t3) then (bif (decide (0 ≤ t13) && decide (t13 < (h0.length : Int))) then (bif (decide (0 ≤ t12) && decide (t12 < (h0.length : Int))) then (bif (decide (0 ≤ t12) && decide (t12 < (h0.length : Int))) then (bif (decide (0 ≤ t13) && decide (t13 < ((h0.set t12.toNat (AV.agg [AV.int .i64 (fI (h0.getD t13.toNat AV.undef) 0)])).length : Int))) then (bif (decide ((h1.length + ([AV.agg [AV.int .i64 t12, AV.int .i64 t13]]).length) * 16 ≤ 140737488355328) && decide ((h1.length + ([AV.agg [AV.int .i64 t12, AV.int .i64 t13]]).length) ≤ 140737488355328)) then next ⟨[(3, AV.int .i64 t3), (10, AV.own [0, 10]), (11, AV.own [0, 11]), (12, AV.int .i64 (v124_0 h0 t12 t13 t3)), (13, AV.int .i64 (v124_1 h0 t12 t13 t3))], [([0, 10], ⟨false, [.int .i64], (h0.set t12.toNat (AV.agg [AV.int .i64 (fI (h0.getD t13.toNat AV.undef) 0)])).set t13.toNat (AV.agg [AV.int .i64 (fI (h0.getD t12.toNat AV.undef) 0)])⟩), ([0, 11], ⟨false, [.int .i64, .int .i64], h1 ++ ([AV.agg [AV.int .i64 t12, AV.int .i64 t13]])⟩)]⟩
  else none)
  else none)
  else none)
  else none)
  else none)
  else next ⟨[(3, AV.int .i64 t3), (10, AV.own [0, 10]), (11, AV.own [0, 11]), (12, AV.int .i64 (v124_0 h0 t12 t13 t3)), (13, AV.int .i64 (v124_1 h0 t12 t13 t3))], [([0, 10], ⟨false, [.int .i64], h0⟩), ([0, 11], ⟨false, [.int .i64, .int .i64], h1⟩)]⟩)
  else none)
  else k (.exit 0) ⟨[(11, AV.own [0, 11]), (12, AV.int .i64 t12)], [([0, 10], ⟨false, [.int .i64], h0⟩), ([0, 11], ⟨false, [.int .i64, .int .i64], h1⟩)]⟩) := by kernel_rfl
theorem st114_0 (t3 : Int) (ce : CallE) (k : Kont) (s : (Int × Int × (List AV) × (List AV))) (next : St → Option AV) : stepA (codeA c114 ce [] 114 0 (sub [1, 1, 1, 1, 0, 0, 0] (body Tryz.f114))) (normA [] [3, 10, 11, 12, 13]) next ((fun s : Int × Int × (List AV) × (List AV) => ⟨[(3, AV.int .i64 t3), (10, AV.own [0, 10]), (11, AV.own [0, 11]), (12, AV.int .i64 s.1), (13, AV.int .i64 s.2.1)], [([0, 10], ⟨false, [.int .i64], s.2.2.1⟩), ([0, 11], ⟨false, [.int .i64, .int .i64], s.2.2.2⟩)]⟩) s) k = (R114_0 t3 s).el none (fun s => next ((fun s : Int × Int × (List AV) × (List AV) => ⟨[(3, AV.int .i64 t3), (10, AV.own [0, 10]), (11, AV.own [0, 11]), (12, AV.int .i64 s.1), (13, AV.int .i64 s.2.1)], [([0, 10], ⟨false, [.int .i64], s.2.2.1⟩), ([0, 11], ⟨false, [.int .i64, .int .i64], s.2.2.2⟩)]⟩) s)) (fun p : Int × (List AV) × (List AV) => k (.exit 0) ⟨[(11, AV.own [0, 11]), (12, AV.int .i64 p.1)], [([0, 10], ⟨false, [.int .i64], p.2.1⟩), ([0, 11], ⟨false, [.int .i64, .int .i64], p.2.2⟩)]⟩) := (s114_0 ce t3 s.1 s.2.1 s.2.2.1 s.2.2.2 next k).trans (by unfold R114_0; unfold F114_0; simp only [el_cond, el_ro, el_sum, el_fail, el_next, el_stop] <;> rfl)
theorem ok114_0 {ce : CallE} : LoopOK c114 ce [] 114 0 (sub [1, 1, 1, 1, 0, 0, 0] (body Tryz.f114)) := by
  intro m hm st k r h
  obtain rfl : l114_0 = m := Option.some.inj hm
  unfold l114_0 at h
  split at h
  · rename_i t3 g0 g1 t12 t13 g2 g3 h0 g4 g5 h1
    obtain ⟨hg, h⟩ := bif_some h
    simp only [Bool.and_eq_true] at hg
    obtain ⟨⟨⟨⟨⟨q0, q1⟩, q2⟩, q3⟩, q4⟩, q5⟩ := hg
    obtain rfl := (nmEq_iff _ _).1 q0
    obtain rfl := (nmEq_iff _ _).1 q1
    obtain rfl := (nmEq_iff _ _).1 q2
    obtain rfl := ctsEq_eq _ _ q3
    obtain rfl := (nmEq_iff _ _).1 q4
    obtain rfl := ctsEq_eq _ _ q5
    refine ⟨((t13 - t12 + 1).toNat + 1), ?_⟩
    rw [← h]
    exact loop_run (fun s : Int × Int × (List AV) × (List AV) => ⟨[(3, AV.int .i64 t3), (10, AV.own [0, 10]), (11, AV.own [0, 11]), (12, AV.int .i64 s.1), (13, AV.int .i64 s.2.1)], [([0, 10], ⟨false, [.int .i64], s.2.2.1⟩), ([0, 11], ⟨false, [.int .i64, .int .i64], s.2.2.2⟩)]⟩) (fun p : Int × (List AV) × (List AV) => k (.exit 0) ⟨[(11, AV.own [0, 11]), (12, AV.int .i64 p.1)], [([0, 10], ⟨false, [.int .i64], p.2.1⟩), ([0, 11], ⟨false, [.int .i64, .int .i64], p.2.2⟩)]⟩) (st114_0 t3 ce k) _ (t12, t13, h0, h1)
  · cases h
def q114 (a0 : List AV) (a1 : Int) (a2 : Int) (a3 : Int) : Bool := (bif decide (a1 < 0) then true else (bif decide (a1 > a2) then true else (bif decide (a2 > (a0.length : Int)) then true else (q94 a0 && (ro (runW (R114_0 a3) (((IntKind.i64.wrap (a2 - 1)) - a1 + 1).toNat + 1) (a1, IntKind.i64.wrap (a2 - 1), (v94_0 a0), ([] : List AV))) false (fun p51 => true))))))
def v114_0 (a0 : List AV) (a1 : Int) (a2 : Int) (a3 : Int) : List AV := (bif decide (a1 < 0) then ([] : List AV) else (bif decide (a1 > a2) then ([] : List AV) else (bif decide (a2 > (a0.length : Int)) then ([] : List AV) else (ro (runW (R114_0 a3) (((IntKind.i64.wrap (a2 - 1)) - a1 + 1).toNat + 1) (a1, IntKind.i64.wrap (a2 - 1), (v94_0 a0), ([] : List AV))) [] (fun p51 => p51.2.2)))))
def v114_1 (a0 : List AV) (a1 : Int) (a2 : Int) (a3 : Int) : Int := (bif decide (a1 < 0) then 0 else (bif decide (a1 > a2) then 0 else (bif decide (a2 > (a0.length : Int)) then 0 else (ro (runW (R114_0 a3) (((IntKind.i64.wrap (a2 - 1)) - a1 + 1).toNat + 1) (a1, IntKind.i64.wrap (a2 - 1), (v94_0 a0), ([] : List AV))) 0 (fun p51 => p51.1)))))
theorem e114 (a0 : List AV) (a1 : Int) (a2 : Int) (a3 : Int) : funA c114 0 114 [AV.sl [.int .i64] a0, AV.int .i64 a1, AV.int .i64 a2, AV.int .i64 a3] = (bif decide (a1 < 0) then some (AV.tup [AV.fl [.int .i64, .int .i64] ([] : List AV), AV.int .i64 0])
  else (bif decide (a1 > a2) then some (AV.tup [AV.fl [.int .i64, .int .i64] ([] : List AV), AV.int .i64 0])
  else (bif decide (a2 > (a0.length : Int)) then some (AV.tup [AV.fl [.int .i64, .int .i64] ([] : List AV), AV.int .i64 0])
  else (bif q94 a0 then (ro (runW (R114_0 a3) (((IntKind.i64.wrap (a2 - 1)) - a1 + 1).toNat + 1) (a1, IntKind.i64.wrap (a2 - 1), (v94_0 a0), ([] : List AV))) none (fun p51 => some (AV.tup [AV.fl [.int .i64, .int .i64] p51.2.2, AV.int .i64 p51.1])))
  else none)))) := by kernel_rfl
theorem r114 (a0 : List AV) (a1 : Int) (a2 : Int) (a3 : Int) (h : q114 a0 a1 a2 a3 = true) : funA c114 0 114 [AV.sl [.int .i64] a0, AV.int .i64 a1, AV.int .i64 a2, AV.int .i64 a3] = some (AV.tup [AV.fl [.int .i64, .int .i64] (v114_0 a0 a1 a2 a3), AV.int .i64 (v114_1 a0 a1 a2 a3)]) := (e114 a0 a1 a2 a3).trans ((br (fun b => some (AV.tup [AV.fl [.int .i64, .int .i64] (bif b then ([] : List AV) else (bif decide (a1 > a2) then ([] : List AV) else (bif decide (a2 > (a0.length : Int)) then ([] : List AV) else (ro (runW (R114_0 a3) (((IntKind.i64.wrap (a2 - 1)) - a1 + 1).toNat + 1) (a1, IntKind.i64.wrap (a2 - 1), (v94_0 a0), ([] : List AV))) [] (fun p51 => p51.2.2))))), AV.int .i64 (bif b then 0 else (bif decide (a1 > a2) then 0 else (bif decide (a2 > (a0.length : Int)) then 0 else (ro (runW (R114_0 a3) (((IntKind.i64.wrap (a2 - 1)) - a1 + 1).toNat + 1) (a1, IntKind.i64.wrap (a2 - 1), (v94_0 a0), ([] : List AV))) 0 (fun p51 => p51.1)))))])) (fun _ => rfl) (br (fun b => some (AV.tup [AV.fl [.int .i64, .int .i64] (bif b then ([] : List AV) else (bif decide (a2 > (a0.length : Int)) then ([] : List AV) else (ro (runW (R114_0 a3) (((IntKind.i64.wrap (a2 - 1)) - a1 + 1).toNat + 1) (a1, IntKind.i64.wrap (a2 - 1), (v94_0 a0), ([] : List AV))) [] (fun p51 => p51.2.2)))), AV.int .i64 (bif b then 0 else (bif decide (a2 > (a0.length : Int)) then 0 else (ro (runW (R114_0 a3) (((IntKind.i64.wrap (a2 - 1)) - a1 + 1).toNat + 1) (a1, IntKind.i64.wrap (a2 - 1), (v94_0 a0), ([] : List AV))) 0 (fun p51 => p51.1))))])) (fun _ => rfl) (br (fun b => some (AV.tup [AV.fl [.int .i64, .int .i64] (bif b then ([] : List AV) else (ro (runW (R114_0 a3) (((IntKind.i64.wrap (a2 - 1)) - a1 + 1).toNat + 1) (a1, IntKind.i64.wrap (a2 - 1), (v94_0 a0), ([] : List AV))) [] (fun p51 => p51.2.2))), AV.int .i64 (bif b then 0 else (ro (runW (R114_0 a3) (((IntKind.i64.wrap (a2 - 1)) - a1 + 1).toNat + 1) (a1, IntKind.i64.wrap (a2 - 1), (v94_0 a0), ([] : List AV))) 0 (fun p51 => p51.1)))])) (fun _ => rfl) (brL (brO (fun o : Option ((Int × (List AV) × (List AV))) => some (AV.tup [AV.fl [.int .i64, .int .i64] (ro o [] (fun p51 => p51.2.2)), AV.int .i64 (ro o 0 (fun p51 => p51.1))])) (fun p51 => (fun _ => rfl))))))) h)
def m114 : TModel
  | [.sl g0 a0, .int .i64 a1, .int .i64 a2, .int .i64 a3] => bif ctsEq g0 ([.int .i64]) then some (q114 a0 a1 a2 a3, AV.tup [AV.fl [.int .i64, .int .i64] (v114_0 a0 a1 a2 a3), AV.int .i64 (v114_1 a0 a1 a2 a3)]) else none
  | _ => none
theorem k114 : Known Tryz.prog 114 := ⟨Tryz.f114, Tryz.func114, by kernel_rfl, by kernel_rfl⟩
theorem meets114 : Meets Tryz.prog 114 m114 := by
  refine meet (f := Tryz.f114) (l := [(0, sub [1, 1, 1, 1, 0, 0, 0] (body Tryz.f114))]) (hs := [(114, 0, [3, 10, 11, 12, 13]), (114, 999, [8, 9]), (114, 1000, [11, 12]), (114, 1001, [3, 10, 11, 12, 13])]) (ts := [(94, m94), (124, m124)]) (ws := []) (is := []) (ls := [(114, 0, l114_0)]) (lvl := 0) mixed k114 Tryz.func114 (by kernel_rfl) (loops_cons ok114_0 noLoop) (allT_cons meets94 (allT_cons meets124 allT_nil)) allM_nil noI fun w xs us r hl hv h => ?_
  unfold m114 at h
  split at h
  · rename_i g0 a0 a1 a2 a3
    obtain ⟨hg, h⟩ := bif_pair h
    have q0 := hg
    obtain rfl := ctsEq_eq _ _ q0
    obtain ⟨h1, rfl⟩ := pair_inj h
    exact r114 a0 a1 a2 a3 h1
  · cases h

/-! ### 115 loop.example/g01984/impl.ApplySwaps -/
def F115_0 (t7 : Int) (t21 : List AV) (t22 : Int) (h2_0 : List AV) (h2_1 : List AV) (h2_2 : List AV) (h3 : List AV) (t23 : Int) (h0 : List AV) (h1 : List AV) : Out ((Int × (List AV) × (List AV))) (((List AV) × (List AV)) ⊕ ((List AV) × (List AV) × (List AV) × (List AV) × Int × Int × (List AV))) := (bif decide (t23 < t22) then (bif (decide (0 ≤ t23) && decide (t23 < (t21.length : Int))) then (bif decide (fI (t21.getD t23.toNat AV.undef) 0 < 0) then (bif q72 h2_0 h2_1 h2_2 then .stop (.inr (h0, h1, (v72_0 h2_0 h2_1 h2_2), (v72_1 h2_0 h2_1 h2_2), fI (t21.getD t23.toNat AV.undef) 0, fI (t21.getD t23.toNat AV.undef) 1, (v72_2 h2_0 h2_1 h2_2)))
  else .fail)
  else (bif decide (fI (t21.getD t23.toNat AV.undef) 0 ≥ t7) then (bif q72 h2_0 h2_1 h2_2 then .stop (.inr (h0, h1, (v72_0 h2_0 h2_1 h2_2), (v72_1 h2_0 h2_1 h2_2), fI (t21.getD t23.toNat AV.undef) 0, fI (t21.getD t23.toNat AV.undef) 1, (v72_2 h2_0 h2_1 h2_2)))
  else .fail)
  else (bif decide (fI (t21.getD t23.toNat AV.undef) 1 < 0) then (bif q72 h2_0 h2_1 h2_2 then .stop (.inr (h0, h1, (v72_0 h2_0 h2_1 h2_2), (v72_1 h2_0 h2_1 h2_2), fI (t21.getD t23.toNat AV.undef) 0, fI (t21.getD t23.toNat AV.undef) 1, (v72_2 h2_0 h2_1 h2_2)))
  else .fail)
  else (bif decide (fI (t21.getD t23.toNat AV.undef) 1 ≥ t7) then (bif q72 h2_0 h2_1 h2_2 then .stop (.inr (h0, h1, (v72_0 h2_0 h2_1 h2_2), (v72_1 h2_0 h2_1 h2_2), fI (t21.getD t23.toNat AV.undef) 0, fI (t21.getD t23.toNat AV.undef) 1, (v72_2 h2_0 h2_1 h2_2)))
  else .fail)
  else (bif (decide (0 ≤ fI (t21.getD t23.toNat AV.undef) 1) && decide (fI (t21.getD t23.toNat AV.undef) 1 < (h0.length : Int))) then (bif (decide (0 ≤ fI (t21.getD t23.toNat AV.undef) 0) && decide (fI (t21.getD t23.toNat AV.undef) 0 < (h0.length : Int))) then (bif (decide (0 ≤ fI (t21.getD t23.toNat AV.undef) 0) && decide (fI (t21.getD t23.toNat AV.undef) 0 < (h0.length : Int))) then (bif (decide (0 ≤ fI (t21.getD t23.toNat AV.undef) 1) && decide (fI (t21.getD t23.toNat AV.undef) 1 < ((h0.set (fI (t21.getD t23.toNat AV.undef) 0).toNat (AV.agg [AV.int .i64 (fI (h0.getD (fI (t21.getD t23.toNat AV.undef) 1).toNat AV.undef) 0)])).length : Int))) then (bif (decide (0 ≤ fI (t21.getD t23.toNat AV.undef) 1) && decide (fI (t21.getD t23.toNat AV.undef) 1 < (h1.length : Int))) then (bif (decide (0 ≤ fI (t21.getD t23.toNat AV.undef) 0) && decide (fI (t21.getD t23.toNat AV.undef) 0 < (h1.length : Int))) then (bif (decide (0 ≤ fI (t21.getD t23.toNat AV.undef) 0) && decide (fI (t21.getD t23.toNat AV.undef) 0 < (h1.length : Int))) then (bif (decide (0 ≤ fI (t21.getD t23.toNat AV.undef) 1) && decide (fI (t21.getD t23.toNat AV.undef) 1 < ((h1.set (fI (t21.getD t23.toNat AV.undef) 0).toNat (AV.agg [AV.int .i64 (fI (h1.getD (fI (t21.getD t23.toNat AV.undef) 1).toNat AV.undef) 0)])).length : Int))) then .next (IntKind.i64.wrap (t23 + 1), (h0.set (fI (t21.getD t23.toNat AV.undef) 0).toNat (AV.agg [AV.int .i64 (fI (h0.getD (fI (t21.getD t23.toNat AV.undef) 1).toNat AV.undef) 0)])).set (fI (t21.getD t23.toNat AV.undef) 1).toNat (AV.agg [AV.int .i64 (fI (h0.getD (fI (t21.getD t23.toNat AV.undef) 0).toNat AV.undef) 0)]), (h1.set (fI (t21.getD t23.toNat AV.undef) 0).toNat (AV.agg [AV.int .i64 (fI (h1.getD (fI (t21.getD t23.toNat AV.undef) 1).toNat AV.undef) 0)])).set (fI (t21.getD t23.toNat AV.undef) 1).toNat (AV.agg [AV.int .i64 (fI (h1.getD (fI (t21.getD t23.toNat AV.undef) 0).toNat AV.undef) 0)]))
  else .fail)
  else .fail)
  else .fail)
  else .fail)
  else .fail)
  else .fail)
  else .fail)
  else .fail)))))
  else .fail)
  else .stop (.inl (h0, h1)))
def R115_0 (t7 : Int) (t21 : List AV) (t22 : Int) (h2_0 : List AV) (h2_1 : List AV) (h2_2 : List AV) (h3 : List AV) : ((Int × (List AV) × (List AV))) → Out ((Int × (List AV) × (List AV))) (((List AV) × (List AV)) ⊕ ((List AV) × (List AV) × (List AV) × (List AV) × Int × Int × (List AV))) := fun s : Int × (List AV) × (List AV) => F115_0 t7 t21 t22 h2_0 h2_1 h2_2 h3 s.1 s.2.1 s.2.2
def l115_0 : LModel := fun _ _ st k => match st with
  | ⟨[(2, .ptr g0 g1 g2), (4, .ptr g3 g4 g5), (6, .ptr g6 g7 g8), (7, .int .i64 t7), (21, .sl g9 t21), (22, .int .i64 t22), (23, .int .i64 t23)], [(g10, ⟨false, g11, h0⟩), (g12, ⟨false, g13, h1⟩), (g14, ⟨true, [], [.agg [.sl g15 h2_0, .sl g16 h2_1, .sl g17 h2_2]]⟩), (g18, ⟨false, g19, h3⟩), (g20, ⟨true, [], [.agg [.snil, .snil, .snil]]⟩), (g21, ⟨true, [], [.agg [.own g22, .own g23, .own g24]]⟩)]⟩ => bif nmEq g0 ([0, 2]) && Nat.beq g1 0 && Nat.beq g2 0 && nmEq g3 ([0, 4]) && Nat.beq g4 0 && Nat.beq g5 0 && nmEq g6 ([0, 6]) && Nat.beq g7 0 && Nat.beq g8 0 && ctsEq g9 ([.int .i64, .int .i64]) && nmEq g10 ([0, 0, 6]) && ctsEq g11 ([.int .i64]) && nmEq g12 ([0, 1, 6]) && ctsEq g13 ([.int .i64]) && nmEq g14 ([0, 2]) && ctsEq g15 ([.int .i64]) && ctsEq g16 ([.int .i64]) && ctsEq g17 ([.int .i64, .int .i64]) && nmEq g18 ([0, 2, 6]) && ctsEq g19 ([.int .i64, .int .i64]) && nmEq g20 ([0, 4]) && nmEq g21 ([0, 6]) && nmEq g22 ([0, 0, 6]) && nmEq g23 ([0, 1, 6]) && nmEq g24 ([0, 2, 6]) then ro (runW (R115_0 t7 t21 t22 h2_0 h2_1 h2_2 h3) ((t22 - t23).toNat + 1) (t23, h0, h1)) none (sumE (fun p : (List AV) × (List AV) => k (.exit 0) ⟨[(4, AV.ptr [0, 4] 0 0), (6, AV.ptr [0, 6] 0 0)], [([0, 0, 6], ⟨false, [.int .i64], p.1⟩), ([0, 1, 6], ⟨false, [.int .i64], p.2⟩), ([0, 2], ⟨true, [], [AV.agg [AV.sl [.int .i64] h2_0, AV.sl [.int .i64] h2_1, AV.sl [.int .i64, .int .i64] h2_2]]⟩), ([0, 2, 6], ⟨false, [.int .i64, .int .i64], h3⟩), ([0, 4], ⟨true, [], [AV.agg [AV.snil, AV.snil, AV.snil]]⟩), ([0, 6], ⟨true, [], [AV.agg [AV.own [0, 0, 6], AV.own [0, 1, 6], AV.own [0, 2, 6]]]⟩)]⟩) (fun p : (List AV) × (List AV) × (List AV) × (List AV) × Int × Int × (List AV) => k .ret ⟨[(4, AV.ptr [0, 4] 0 0), (5, AV.bool false)], [([0, 0, 6], ⟨false, [.int .i64], p.1⟩), ([0, 1, 6], ⟨false, [.int .i64], p.2.1⟩), ([0, 1, 48], ⟨false, [.int .i64], p.2.2.1⟩), ([0, 2], ⟨true, [], [AV.agg [AV.sl [.int .i64] h2_0, AV.sl [.int .i64] h2_1, AV.sl [.int .i64, .int .i64] h2_2]]⟩), ([0, 2, 6], ⟨false, [.int .i64, .int .i64], h3⟩), ([0, 4], ⟨true, [], [AV.agg [AV.own [0, 1, 48], AV.own [1, 1, 48], AV.own [2, 1, 48]]]⟩), ([0, 6], ⟨true, [], [AV.agg [AV.own [0, 0, 6], AV.own [0, 1, 6], AV.own [0, 2, 6]]]⟩), ([1, 1, 48], ⟨false, [.int .i64], p.2.2.2.1⟩), ([1, 9], ⟨true, [], [AV.agg [AV.int .i64 p.2.2.2.2.1, AV.int .i64 p.2.2.2.2.2.1]]⟩), ([2, 1, 48], ⟨false, [.int .i64, .int .i64], p.2.2.2.2.2.2⟩)]⟩)) else none
  | _ => none
noncomputable def c115 : Cfg := cfg Tryz.prog [(115, 0, [2, 4, 6, 7, 21, 22, 23]), (115, 999, [4, 5]), (115, 1000, [4, 6]), (115, 1001, [2, 4, 6, 7, 21, 22, 23])] [(72, m72)] [] [] [(115, 0, l115_0)]
theorem s115_0 (ce : CallE) (t7 : Int) (t21 : List AV) (t22 : Int) (t23 : Int) (h0 : List AV) (h1 : List AV) (h2_0 : List AV) (h2_1 : List AV) (h2_2 : List AV) (h3 : List AV) (next : St → Option AV) (k : Kont) : stepA (codeA c115 ce [] 115 0 (sub [1, 1, 1, 0, 1, 0, 0] (body Tryz.f115))) (normA [] [2, 4, 6, 7, 21, 22, 23]) next ⟨[(2, AV.ptr [0, 2] 0 0), (4, AV.ptr [0, 4] 0 0), (6, AV.ptr [0, 6] 0 0), (7, AV.int .i64 t7), (21, AV.sl [.int .i64, .int .i64] t21), (22, AV.int .i64 t22), (23, AV.int .i64 t23)], [([0, 0, 6], ⟨false, [.int .i64], h0⟩), ([0, 1, 6], ⟨false, [.int .i64], h1⟩), ([0, 2], ⟨true, [], [AV.agg [AV.sl [.int .i64] h2_0, AV.sl [.int .i64] h2_1, AV.sl [.int .i64, .int .i64] h2_2]]⟩), ([0, 2, 6], ⟨false, [.int .i64, .int .i64], h3⟩), ([0, 4], ⟨true, [], [AV.agg [AV.snil, AV.snil, AV.snil]]⟩), ([0, 6], ⟨true, [], [AV.agg [AV.own [0, 0, 6], AV.own [0, 1, 6], AV.own [0, 2, 6]]]⟩)]⟩ k = (bif decide (t23 < t22) then (bif (decide (0 ≤ t23) && decide (t23 < (t21.length : Int))) then (bif decide (fI (t21.getD t23.toNat AV.undef) 0 < 0) then (bif q72 h2_0 h2_1 h2_2 then k .ret ⟨[(4, AV.ptr [0, 4] 0 0), (5, AV.bool false)], [([0, 0, 6], ⟨false, [.int .i64], h0⟩), ([0, 1, 6], ⟨false, [.int .i64], h1⟩), ([0, 1, 48], ⟨false, [.int .i64], (v72_0 h2_0 h2_1 h2_2)⟩), ([0, 2], ⟨true, [], [AV.agg [AV.sl [.int .i64] h2_0, AV.sl [.int .i64] h2_1, AV.sl [.int .i64, .int .i64] h2_2]]⟩), ([0, 2, 6], ⟨false, [.int .i64, .int .i64], h3⟩), ([0, 4], ⟨true, [], [AV.agg [AV.own [0, 1, 48], AV.own [1, 1, 48], AV.own [2, 1, 48]]]⟩), ([0, 6], ⟨true, [], [AV.agg [AV.own [0, 0, 6], AV.own [0, 1, 6], AV.own [0, 2, 6]]]⟩), ([1, 1, 48], ⟨false, [.int .i64], (v72_1 h2_0 h2_1 h2_2)⟩), ([1, 9], ⟨true, [], [AV.agg [AV.int .i64 (fI (t21.getD t23.toNat AV.undef) 0), AV.int .i64 (fI (t21.getD t23.toNat AV.undef) 1)]]⟩), ([2, 1, 48], ⟨false, [.int .i64, .int .i64], (v72_2 h2_0 h2_1 h2_2)⟩)]⟩
  else none)
  else (bif decide (fI (t21.getD t23.toNat AV.undef) 0 ≥ t7) then (bif q72 h2_0 h2_1 h2_2 then k .ret ⟨[(4, AV.ptr [0, 4] 0 0), (5, AV.bool false)], [([0, 0, 6], ⟨false, [.int .i64], h0⟩), ([0, 1, 6], ⟨false, [.int .i64], h1⟩), ([0, 1, 48], ⟨false, [.int .i64], (v72_0 h2_0 h2_1 h2_2)⟩), ([0, 2], ⟨true, [], [AV.agg [AV.sl [.int .i64] h2_0, AV.sl [.int .i64] h2_1, AV.sl [.int .i64, .int .i64] h2_2]]⟩), ([0, 2, 6], ⟨false, [.int .i64, .int .i64], h3⟩), ([0, 4], ⟨true, [], [AV.agg [AV.own [0, 1, 48], AV.own [1, 1, 48], AV.own [2, 1, 48]]]⟩), ([0, 6], ⟨true, [], [AV.agg [AV.own [0, 0, 6], AV.own [0, 1, 6], AV.own [0, 2, 6]]]⟩), ([1, 1, 48], ⟨false, [.int .i64], (v72_1 h2_0 h2_1 h2_2)⟩), ([1, 9], ⟨true, [], [AV.agg [AV.int .i64 (fI (t21.getD t23.toNat AV.undef) 0), AV.int .i64 (fI (t21.getD t23.toNat AV.undef) 1)]]⟩), ([2, 1, 48], ⟨false, [.int .i64, .int .i64], (v72_2 h2_0 h2_1 h2_2)⟩)]⟩
  else none)
  else (bif decide (fI (t21.getD t23.toNat AV.undef) 1 < 0) then (bif q72 h2_0 h2_1 h2_2 then k .ret ⟨[(4, AV.ptr [0, 4] 0 0), (5, AV.bool false)], [([0, 0, 6], ⟨false, [.int .i64], h0⟩), ([0, 1, 6], ⟨false, [.int .i64], h1⟩), ([0, 1, 48], ⟨false, [.int .i64], (v72_0 h2_0 h2_1 h2_2)⟩), ([0, 2], ⟨true, [], [AV.agg [AV.sl [.int .i64] h2_0, AV.sl [.int .i64] h2_1, AV.sl [.int .i64, .int .i64] h2_2]]⟩), ([0, 2, 6], ⟨false, [.int .i64, .int .i64], h3⟩), ([0, 4], ⟨true, [], [AV.agg [AV.own [0, 1, 48], AV.own [1, 1, 48], AV.own [2, 1, 48]]]⟩), ([0, 6], ⟨true, [], [AV.agg [AV.own [0, 0, 6], AV.own [0, 1, 6], AV.own [0, 2, 6]]]⟩), ([1, 1, 48], ⟨false, [.int .i64], (v72_1 h2_0 h2_1 h2_2)⟩), ([1, 9], ⟨true, [], [AV.agg [AV.int .i64 (fI (t21.getD t23.toNat AV.undef) 0), AV.int .i64 (fI (t21.getD t23.toNat AV.undef) 1)]]⟩), ([2, 1, 48], ⟨false, [.int .i64, .int .i64], (v72_2 h2_0 h2_1 h2_2)⟩)]⟩
  else none)
  else (bif decide (fI (t21.getD t23.toNat AV.undef) 1 ≥ t7) then (bif q72 h2_0 h2_1 h2_2 then k .ret ⟨[(4, AV.ptr [0, 4] 0 0), (5, AV.bool false)], [([0, 0, 6], ⟨false, [.int .i64], h0⟩), ([0, 1, 6], ⟨false, [.int .i64], h1⟩), ([0, 1, 48], ⟨false, [.int .i64], (v72_0 h2_0 h2_1 h2_2)⟩), ([0, 2], ⟨true, [], [AV.agg [AV.sl [.int .i64] h2_0, AV.sl [.int .i64] h2_1, AV.sl [.int .i64, .int .i64] h2_2]]⟩), ([0, 2, 6], ⟨false, [.int .i64, .int .i64], h3⟩), ([0, 4], ⟨true, [], [AV.agg [AV.own [0, 1, 48], AV.own [1, 1, 48], AV.own [2, 1, 48]]]⟩), ([0, 6], ⟨true, [], [AV.agg [AV.own [0, 0, 6], AV.own [0, 1, 6], AV.own [0, 2, 6]]]⟩), ([1, 1, 48], ⟨false, [.int .i64], (v72_1 h2_0 h2_1 h2_2)⟩), ([1, 9], ⟨true, [], [AV.agg [AV.int .i64 (fI (t21.getD t23.toNat AV.undef) 0), AV.int .i64 (fI (t21.getD t23.toNat AV.undef) 1)]]⟩), ([2, 1, 48], ⟨false, [.int .i64, .int .i64], (v72_2 h2_0 h2_1 h2_2)⟩)]⟩
  else none)
  else (bif (decide (0 ≤ fI (t21.getD t23.toNat AV.undef) 1) && decide (fI (t21.getD t23.toNat AV.undef) 1 < (h0.length : Int))) then (bif (decide (0 ≤ fI (t21.getD t23.toNat AV.undef) 0) && decide (fI (t21.getD t23.toNat AV.undef) 0 < (h0.length : Int))) then (bif (decide (0 ≤ fI (t21.getD t23.toNat AV.undef) 0) && decide (fI (t21.getD t23.toNat AV.undef) 0 < (h0.length : Int))) then (bif (decide (0 ≤ fI (t21.getD t23.toNat AV.undef) 1) && decide (fI (t21.getD t23.toNat AV.undef) 1 < ((h0.set (fI (t21.getD t23.toNat AV.undef) 0).toNat (AV.agg [AV.int .i64 (fI (h0.getD (fI (t21.getD t23.toNat AV.undef) 1).toNat AV.undef) 0)])).length : Int))) then (bif (decide (0 ≤ fI (t21.getD t23.toNat AV.undef) 1) && decide (fI (t21.getD t23.toNat AV.undef) 1 < (h1.length : Int))) then (bif (decide (0 ≤ fI (t21.getD t23.toNat AV.undef) 0) && decide (fI (t21.getD t23.toNat AV.undef) 0 < (h1.length : Int))) then (bif (decide (0 ≤ fI (t21.getD t23.toNat AV.undef) 0) && decide (fI (t21.getD t23.toNat AV.undef) 0 < (h1.length : Int))) then (bif (decide (0 ≤ fI (t21.getD t23.toNat AV.undef) 1) && decide (fI (t21.getD t23.toNat AV.undef) 1 < ((h1.set (fI (t21.getD t23.toNat AV.undef) 0).toNat (AV.agg [AV.int .i64 (fI (h1.getD (fI (t21.getD t23.toNat AV.undef) 1).toNat AV.undef) 0)])).length : Int))) then next ⟨[(2, AV.ptr [0, 2] 0 0), (4, AV.ptr [0, 4] 0 0), (6, AV.ptr [0, 6] 0 0), (7, AV.int .i64 t7), (21, AV.sl [.int .i64, .int .i64] t21), (22, AV.int .i64 t22), (23, AV.int .i64 (IntKind.i64.wrap (t23 + 1)))], [([0, 0, 6], ⟨false, [.int .i64], (h0.set (fI (t21.getD t23.toNat AV.undef) 0).toNat (AV.agg [AV.int .i64 (fI (h0.getD (fI (t21.getD t23.toNat AV.undef) 1).toNat AV.undef) 0)])).set (fI (t21.getD t23.toNat AV.undef) 1).toNat (AV.agg [AV.int .i64 (fI (h0.getD (fI (t21.getD t23.toNat AV.undef) 0).toNat AV.undef) 0)])⟩), ([0, 1, 6], ⟨false, [.int .i64], (h1.set (fI (t21.getD t23.toNat AV.undef) 0).toNat (AV.agg [AV.int .i64 (fI (h1.getD (fI (t21.getD t23.toNat AV.undef) 1).toNat AV.undef) 0)])).set (fI (t21.getD t23.toNat AV.undef) 1).toNat (AV.agg [AV.int .i64 (fI (h1.getD (fI (t21.getD t23.toNat AV.undef) 0).toNat AV.undef) 0)])⟩), ([0, 2], ⟨true, [], [AV.agg [AV.sl [.int .i64] h2_0, AV.sl [.int .i64] h2_1, AV.sl [.int .i64, .int .i64] h2_2]]⟩), ([0, 2, 6], ⟨false, [.int .i64, .int .i64], h3⟩), ([0, 4], ⟨true, [], [AV.agg [AV.snil, AV.snil, AV.snil]]⟩), ([0, 6], ⟨true, [], [AV.agg [AV.own [0, 0, 6], AV.own [0, 1, 6], AV.own [0, 2, 6]]]⟩)]⟩
  else none)
  else none)
  else none)
  else none)
  else none)
  else none)
  else none)
  else none)))))
  else none)
  else k (.exit 0) ⟨[(4, AV.ptr [0, 4] 0 0), (6, AV.ptr [0, 6] 0 0)], [([0, 0, 6], ⟨false, [.int .i64], h0⟩), ([0, 1, 6], ⟨false, [.int .i64], h1⟩), ([0, 2], ⟨true, [], [AV.agg [AV.sl [.int .i64] h2_0, AV.sl [.int .i64] h2_1, AV.sl [.int .i64, .int .i64] h2_2]]⟩), ([0, 2, 6], ⟨false, [.int .i64, .int .i64], h3⟩), ([0, 4], ⟨true, [], [AV.agg [AV.snil, AV.snil, AV.snil]]⟩), ([0, 6], ⟨true, [], [AV.agg [AV.own [0, 0, 6], AV.own [0, 1, 6], AV.own [0, 2, 6]]]⟩)]⟩) := by kernel_rfl
theorem st115_0 (t7 : Int) (t21 : List AV) (t22 : Int) (h2_0 : List AV) (h2_1 : List AV) (h2_2 : List AV) (h3 : List AV) (ce : CallE) (k : Kont) (s : (Int × (List AV) × (List AV))) (next : St → Option AV) : stepA (codeA c115 ce [] 115 0 (sub [1, 1, 1, 0, 1, 0, 0] (body Tryz.f115))) (normA [] [2, 4, 6, 7, 21, 22, 23]) next ((fun s : Int × (List AV) × (List AV) => ⟨[(2, AV.ptr [0, 2] 0 0), (4, AV.ptr [0, 4] 0 0), (6, AV.ptr [0, 6] 0 0), (7, AV.int .i64 t7), (21, AV.sl [.int .i64, .int .i64] t21), (22, AV.int .i64 t22), (23, AV.int .i64 s.1)], [([0, 0, 6], ⟨false, [.int .i64], s.2.1⟩), ([0, 1, 6], ⟨false, [.int .i64], s.2.2⟩), ([0, 2], ⟨true, [], [AV.agg [AV.sl [.int .i64] h2_0, AV.sl [.int .i64] h2_1, AV.sl [.int .i64, .int .i64] h2_2]]⟩), ([0, 2, 6], ⟨false, [.int .i64, .int .i64], h3⟩), ([0, 4], ⟨true, [], [AV.agg [AV.snil, AV.snil, AV.snil]]⟩), ([0, 6], ⟨true, [], [AV.agg [AV.own [0, 0, 6], AV.own [0, 1, 6], AV.own [0, 2, 6]]]⟩)]⟩) s) k = (R115_0 t7 t21 t22 h2_0 h2_1 h2_2 h3 s).el none (fun s => next ((fun s : Int × (List AV) × (List AV) => ⟨[(2, AV.ptr [0, 2] 0 0), (4, AV.ptr [0, 4] 0 0), (6, AV.ptr [0, 6] 0 0), (7, AV.int .i64 t7), (21, AV.sl [.int .i64, .int .i64] t21), (22, AV.int .i64 t22), (23, AV.int .i64 s.1)], [([0, 0, 6], ⟨false, [.int .i64], s.2.1⟩), ([0, 1, 6], ⟨false, [.int .i64], s.2.2⟩), ([0, 2], ⟨true, [], [AV.agg [AV.sl [.int .i64] h2_0, AV.sl [.int .i64] h2_1, AV.sl [.int .i64, .int .i64] h2_2]]⟩), ([0, 2, 6], ⟨false, [.int .i64, .int .i64], h3⟩), ([0, 4], ⟨true, [], [AV.agg [AV.snil, AV.snil, AV.snil]]⟩), ([0, 6], ⟨true, [], [AV.agg [AV.own [0, 0, 6], AV.own [0, 1, 6], AV.own [0, 2, 6]]]⟩)]⟩) s)) (sumE (fun p : (List AV) × (List AV) => k (.exit 0) ⟨[(4, AV.ptr [0, 4] 0 0), (6, AV.ptr [0, 6] 0 0)], [([0, 0, 6], ⟨false, [.int .i64], p.1⟩), ([0, 1, 6], ⟨false, [.int .i64], p.2⟩), ([0, 2], ⟨true, [], [AV.agg [AV.sl [.int .i64] h2_0, AV.sl [.int .i64] h2_1, AV.sl [.int .i64, .int .i64] h2_2]]⟩), ([0, 2, 6], ⟨false, [.int .i64, .int .i64], h3⟩), ([0, 4], ⟨true, [], [AV.agg [AV.snil, AV.snil, AV.snil]]⟩), ([0, 6], ⟨true, [], [AV.agg [AV.own [0, 0, 6], AV.own [0, 1, 6], AV.own [0, 2, 6]]]⟩)]⟩) (fun p : (List AV) × (List AV) × (List AV) × (List AV) × Int × Int × (List AV) => k .ret ⟨[(4, AV.ptr [0, 4] 0 0), (5, AV.bool false)], [([0, 0, 6], ⟨false, [.int .i64], p.1⟩), ([0, 1, 6], ⟨false, [.int .i64], p.2.1⟩), ([0, 1, 48], ⟨false, [.int .i64], p.2.2.1⟩), ([0, 2], ⟨true, [], [AV.agg [AV.sl [.int .i64] h2_0, AV.sl [.int .i64] h2_1, AV.sl [.int .i64, .int .i64] h2_2]]⟩), ([0, 2, 6], ⟨false, [.int .i64, .int .i64], h3⟩), ([0, 4], ⟨true, [], [AV.agg [AV.own [0, 1, 48], AV.own [1, 1, 48], AV.own [2, 1, 48]]]⟩), ([0, 6], ⟨true, [], [AV.agg [AV.own [0, 0, 6], AV.own [0, 1, 6], AV.own [0, 2, 6]]]⟩), ([1, 1, 48], ⟨false, [.int .i64], p.2.2.2.1⟩), ([1, 9], ⟨true, [], [AV.agg [AV.int .i64 p.2.2.2.2.1, AV.int .i64 p.2.2.2.2.2.1]]⟩), ([2, 1, 48], ⟨false, [.int .i64, .int .i64], p.2.2.2.2.2.2⟩)]⟩)) := (s115_0 ce t7 t21 t22 s.1 s.2.1 s.2.2 h2_0 h2_1 h2_2 h3 next k).trans (by unfold R115_0; unfold F115_0; simp only [el_cond, el_ro, el_sum, el_fail, el_next, el_stop] <;> rfl)
theorem ok115_0 {ce : CallE} : LoopOK c115 ce [] 115 0 (sub [1, 1, 1, 0, 1, 0, 0] (body Tryz.f115)) := by
  intro m hm st k r h
  obtain rfl : l115_0 = m := Option.some.inj hm
  unfold l115_0 at h
  split at h
  · rename_i g0 g1 g2 g3 g4 g5 g6 g7 g8 t7 g9 t21 t22 t23 g10 g11 h0 g12 g13 h1 g14 g15 h2_0 g16 h2_1 g17 h2_2 g18 g19 h3 g20 g21 g22 g23 g24
    obtain ⟨hg, h⟩ := bif_some h
    simp only [Bool.and_eq_true] at hg
    obtain ⟨⟨⟨⟨⟨⟨⟨⟨⟨⟨⟨⟨⟨⟨⟨⟨⟨⟨⟨⟨⟨⟨⟨⟨q0, q1⟩, q2⟩, q3⟩, q4⟩, q5⟩, q6⟩, q7⟩, q8⟩, q9⟩, q10⟩, q11⟩, q12⟩, q13⟩, q14⟩, q15⟩, q16⟩, q17⟩, q18⟩, q19⟩, q20⟩, q21⟩, q22⟩, q23⟩, q24⟩ := hg
    obtain rfl := (nmEq_iff _ _).1 q0
    obtain rfl := Nat.eq_of_beq_eq_true q1
    obtain rfl := Nat.eq_of_beq_eq_true q2
    obtain rfl := (nmEq_iff _ _).1 q3
    obtain rfl := Nat.eq_of_beq_eq_true q4
    obtain rfl := Nat.eq_of_beq_eq_true q5
    obtain rfl := (nmEq_iff _ _).1 q6
    obtain rfl := Nat.eq_of_beq_eq_true q7
    obtain rfl := Nat.eq_of_beq_eq_true q8
    obtain rfl := ctsEq_eq _ _ q9
    obtain rfl := (nmEq_iff _ _).1 q10
    obtain rfl := ctsEq_eq _ _ q11
    obtain rfl := (nmEq_iff _ _).1 q12
    obtain rfl := ctsEq_eq _ _ q13
    obtain rfl := (nmEq_iff _ _).1 q14
    obtain rfl := ctsEq_eq _ _ q15
    obtain rfl := ctsEq_eq _ _ q16
    obtain rfl := ctsEq_eq _ _ q17
    obtain rfl := (nmEq_iff _ _).1 q18
    obtain rfl := ctsEq_eq _ _ q19
    obtain rfl := (nmEq_iff _ _).1 q20
    obtain rfl := (nmEq_iff _ _).1 q21
    obtain rfl := (nmEq_iff _ _).1 q22
    obtain rfl := (nmEq_iff _ _).1 q23
    obtain rfl := (nmEq_iff _ _).1 q24
    refine ⟨((t22 - t23).toNat + 1), ?_⟩
    rw [← h]
    exact loop_run (fun s : Int × (List AV) × (List AV) => ⟨[(2, AV.ptr [0, 2] 0 0), (4, AV.ptr [0, 4] 0 0), (6, AV.ptr [0, 6] 0 0), (7, AV.int .i64 t7), (21, AV.sl [.int .i64, .int .i64] t21), (22, AV.int .i64 t22), (23, AV.int .i64 s.1)], [([0, 0, 6], ⟨false, [.int .i64], s.2.1⟩), ([0, 1, 6], ⟨false, [.int .i64], s.2.2⟩), ([0, 2], ⟨true, [], [AV.agg [AV.sl [.int .i64] h2_0, AV.sl [.int .i64] h2_1, AV.sl [.int .i64, .int .i64] h2_2]]⟩), ([0, 2, 6], ⟨false, [.int .i64, .int .i64], h3⟩), ([0, 4], ⟨true, [], [AV.agg [AV.snil, AV.snil, AV.snil]]⟩), ([0, 6], ⟨true, [], [AV.agg [AV.own [0, 0, 6], AV.own [0, 1, 6], AV.own [0, 2, 6]]]⟩)]⟩) (sumE (fun p : (List AV) × (List AV) => k (.exit 0) ⟨[(4, AV.ptr [0, 4] 0 0), (6, AV.ptr [0, 6] 0 0)], [([0, 0, 6], ⟨false, [.int .i64], p.1⟩), ([0, 1, 6], ⟨false, [.int .i64], p.2⟩), ([0, 2], ⟨true, [], [AV.agg [AV.sl [.int .i64] h2_0, AV.sl [.int .i64] h2_1, AV.sl [.int .i64, .int .i64] h2_2]]⟩), ([0, 2, 6], ⟨false, [.int .i64, .int .i64], h3⟩), ([0, 4], ⟨true, [], [AV.agg [AV.snil, AV.snil, AV.snil]]⟩), ([0, 6], ⟨true, [], [AV.agg [AV.own [0, 0, 6], AV.own [0, 1, 6], AV.own [0, 2, 6]]]⟩)]⟩) (fun p : (List AV) × (List AV) × (List AV) × (List AV) × Int × Int × (List AV) => k .ret ⟨[(4, AV.ptr [0, 4] 0 0), (5, AV.bool false)], [([0, 0, 6], ⟨false, [.int .i64], p.1⟩), ([0, 1, 6], ⟨false, [.int .i64], p.2.1⟩), ([0, 1, 48], ⟨false, [.int .i64], p.2.2.1⟩), ([0, 2], ⟨true, [], [AV.agg [AV.sl [.int .i64] h2_0, AV.sl [.int .i64] h2_1, AV.sl [.int .i64, .int .i64] h2_2]]⟩), ([0, 2, 6], ⟨false, [.int .i64, .int .i64], h3⟩), ([0, 4], ⟨true, [], [AV.agg [AV.own [0, 1, 48], AV.own [1, 1, 48], AV.own [2, 1, 48]]]⟩), ([0, 6], ⟨true, [], [AV.agg [AV.own [0, 0, 6], AV.own [0, 1, 6], AV.own [0, 2, 6]]]⟩), ([1, 1, 48], ⟨false, [.int .i64], p.2.2.2.1⟩), ([1, 9], ⟨true, [], [AV.agg [AV.int .i64 p.2.2.2.2.1, AV.int .i64 p.2.2.2.2.2.1]]⟩), ([2, 1, 48], ⟨false, [.int .i64, .int .i64], p.2.2.2.2.2.2⟩)]⟩)) (st115_0 t7 t21 t22 h2_0 h2_1 h2_2 h3 ce k) _ (t23, h0, h1)
  · cases h
def q115 (a0_0 : List AV) (a0_1 : List AV) (a0_2 : List AV) (a1 : List AV) : Bool := (q72 a0_0 a0_1 a0_2 && (bif !decide ((a0_1.length : Int) = (a0_0.length : Int)) then true else (ro (runW (R115_0 (a0_0.length : Int) a1 (a1.length : Int) a0_0 a0_1 a0_2 (v72_2 a0_0 a0_1 a0_2)) (((a1.length : Int) - 0).toNat + 1) (0, (v72_0 a0_0 a0_1 a0_2), (v72_1 a0_0 a0_1 a0_2))) false (sumE (fun p52 => true) (fun p53 => true)))))
def v115_0 (a0_0 : List AV) (a0_1 : List AV) (a0_2 : List AV) (a1 : List AV) : List AV := (bif !decide ((a0_1.length : Int) = (a0_0.length : Int)) then (v72_0 a0_0 a0_1 a0_2) else (ro (runW (R115_0 (a0_0.length : Int) a1 (a1.length : Int) a0_0 a0_1 a0_2 (v72_2 a0_0 a0_1 a0_2)) (((a1.length : Int) - 0).toNat + 1) (0, (v72_0 a0_0 a0_1 a0_2), (v72_1 a0_0 a0_1 a0_2))) [] (sumE (fun p52 => p52.1) (fun p53 => p53.2.2.1))))
def v115_1 (a0_0 : List AV) (a0_1 : List AV) (a0_2 : List AV) (a1 : List AV) : List AV := (bif !decide ((a0_1.length : Int) = (a0_0.length : Int)) then (v72_1 a0_0 a0_1 a0_2) else (ro (runW (R115_0 (a0_0.length : Int) a1 (a1.length : Int) a0_0 a0_1 a0_2 (v72_2 a0_0 a0_1 a0_2)) (((a1.length : Int) - 0).toNat + 1) (0, (v72_0 a0_0 a0_1 a0_2), (v72_1 a0_0 a0_1 a0_2))) [] (sumE (fun p52 => p52.2) (fun p53 => p53.2.2.2.1))))
def v115_2 (a0_0 : List AV) (a0_1 : List AV) (a0_2 : List AV) (a1 : List AV) : List AV := (bif !decide ((a0_1.length : Int) = (a0_0.length : Int)) then (v72_2 a0_0 a0_1 a0_2) else (ro (runW (R115_0 (a0_0.length : Int) a1 (a1.length : Int) a0_0 a0_1 a0_2 (v72_2 a0_0 a0_1 a0_2)) (((a1.length : Int) - 0).toNat + 1) (0, (v72_0 a0_0 a0_1 a0_2), (v72_1 a0_0 a0_1 a0_2))) [] (sumE (fun p52 => (v72_2 a0_0 a0_1 a0_2)) (fun p53 => p53.2.2.2.2.2.2))))
def v115_3 (a0_0 : List AV) (a0_1 : List AV) (a0_2 : List AV) (a1 : List AV) : Bool := (bif !decide ((a0_1.length : Int) = (a0_0.length : Int)) then false else (ro (runW (R115_0 (a0_0.length : Int) a1 (a1.length : Int) a0_0 a0_1 a0_2 (v72_2 a0_0 a0_1 a0_2)) (((a1.length : Int) - 0).toNat + 1) (0, (v72_0 a0_0 a0_1 a0_2), (v72_1 a0_0 a0_1 a0_2))) false (sumE (fun p52 => true) (fun p53 => false))))
theorem e115 (a0_0 : List AV) (a0_1 : List AV) (a0_2 : List AV) (a1 : List AV) : funA c115 0 115 [AV.agg [AV.sl [.int .i64] a0_0, AV.sl [.int .i64] a0_1, AV.sl [.int .i64, .int .i64] a0_2], AV.sl [.int .i64, .int .i64] a1] = (bif q72 a0_0 a0_1 a0_2 then (bif !decide ((a0_1.length : Int) = (a0_0.length : Int)) then some (AV.tup [AV.agg [AV.fl [.int .i64] (v72_0 a0_0 a0_1 a0_2), AV.fl [.int .i64] (v72_1 a0_0 a0_1 a0_2), AV.fl [.int .i64, .int .i64] (v72_2 a0_0 a0_1 a0_2)], AV.bool false])
  else (ro (runW (R115_0 (a0_0.length : Int) a1 (a1.length : Int) a0_0 a0_1 a0_2 (v72_2 a0_0 a0_1 a0_2)) (((a1.length : Int) - 0).toNat + 1) (0, (v72_0 a0_0 a0_1 a0_2), (v72_1 a0_0 a0_1 a0_2))) none (sumE (fun p52 => some (AV.tup [AV.agg [AV.fl [.int .i64] p52.1, AV.fl [.int .i64] p52.2, AV.fl [.int .i64, .int .i64] (v72_2 a0_0 a0_1 a0_2)], AV.bool true])) (fun p53 => some (AV.tup [AV.agg [AV.fl [.int .i64] p53.2.2.1, AV.fl [.int .i64] p53.2.2.2.1, AV.fl [.int .i64, .int .i64] p53.2.2.2.2.2.2], AV.bool false])))))
  else none) := by kernel_rfl
theorem r115 (a0_0 : List AV) (a0_1 : List AV) (a0_2 : List AV) (a1 : List AV) (h : q115 a0_0 a0_1 a0_2 a1 = true) : funA c115 0 115 [AV.agg [AV.sl [.int .i64] a0_0, AV.sl [.int .i64] a0_1, AV.sl [.int .i64, .int .i64] a0_2], AV.sl [.int .i64, .int .i64] a1] = some (AV.tup [AV.agg [AV.fl [.int .i64] (v115_0 a0_0 a0_1 a0_2 a1), AV.fl [.int .i64] (v115_1 a0_0 a0_1 a0_2 a1), AV.fl [.int .i64, .int .i64] (v115_2 a0_0 a0_1 a0_2 a1)], AV.bool (v115_3 a0_0 a0_1 a0_2 a1)]) := (e115 a0_0 a0_1 a0_2 a1).trans ((brL (br (fun b => some (AV.tup [AV.agg [AV.fl [.int .i64] (bif b then (v72_0 a0_0 a0_1 a0_2) else (ro (runW (R115_0 (a0_0.length : Int) a1 (a1.length : Int) a0_0 a0_1 a0_2 (v72_2 a0_0 a0_1 a0_2)) (((a1.length : Int) - 0).toNat + 1) (0, (v72_0 a0_0 a0_1 a0_2), (v72_1 a0_0 a0_1 a0_2))) [] (sumE (fun p52 => p52.1) (fun p53 => p53.2.2.1)))), AV.fl [.int .i64] (bif b then (v72_1 a0_0 a0_1 a0_2) else (ro (runW (R115_0 (a0_0.length : Int) a1 (a1.length : Int) a0_0 a0_1 a0_2 (v72_2 a0_0 a0_1 a0_2)) (((a1.length : Int) - 0).toNat + 1) (0, (v72_0 a0_0 a0_1 a0_2), (v72_1 a0_0 a0_1 a0_2))) [] (sumE (fun p52 => p52.2) (fun p53 => p53.2.2.2.1)))), AV.fl [.int .i64, .int .i64] (bif b then (v72_2 a0_0 a0_1 a0_2) else (ro (runW (R115_0 (a0_0.length : Int) a1 (a1.length : Int) a0_0 a0_1 a0_2 (v72_2 a0_0 a0_1 a0_2)) (((a1.length : Int) - 0).toNat + 1) (0, (v72_0 a0_0 a0_1 a0_2), (v72_1 a0_0 a0_1 a0_2))) [] (sumE (fun p52 => (v72_2 a0_0 a0_1 a0_2)) (fun p53 => p53.2.2.2.2.2.2))))], AV.bool (bif b then false else (ro (runW (R115_0 (a0_0.length : Int) a1 (a1.length : Int) a0_0 a0_1 a0_2 (v72_2 a0_0 a0_1 a0_2)) (((a1.length : Int) - 0).toNat + 1) (0, (v72_0 a0_0 a0_1 a0_2), (v72_1 a0_0 a0_1 a0_2))) false (sumE (fun p52 => true) (fun p53 => false))))])) (fun _ => rfl) (brO (fun o : Option (((List AV) × (List AV)) ⊕ ((List AV) × (List AV) × (List AV) × (List AV) × Int × Int × (List AV))) => some (AV.tup [AV.agg [AV.fl [.int .i64] (ro o [] (sumE (fun p52 => p52.1) (fun p53 => p53.2.2.1))), AV.fl [.int .i64] (ro o [] (sumE (fun p52 => p52.2) (fun p53 => p53.2.2.2.1))), AV.fl [.int .i64, .int .i64] (ro o [] (sumE (fun p52 => (v72_2 a0_0 a0_1 a0_2)) (fun p53 => p53.2.2.2.2.2.2)))], AV.bool (ro o false (sumE (fun p52 => true) (fun p53 => false)))])) (brS (fun o : ((List AV) × (List AV)) ⊕ ((List AV) × (List AV) × (List AV) × (List AV) × Int × Int × (List AV)) => some (AV.tup [AV.agg [AV.fl [.int .i64] ((sumE (fun p52 => p52.1) (fun p53 => p53.2.2.1)) o), AV.fl [.int .i64] ((sumE (fun p52 => p52.2) (fun p53 => p53.2.2.2.1)) o), AV.fl [.int .i64, .int .i64] ((sumE (fun p52 => (v72_2 a0_0 a0_1 a0_2)) (fun p53 => p53.2.2.2.2.2.2)) o)], AV.bool ((sumE (fun p52 => true) (fun p53 => false)) o)])) (fun p52 => (fun _ => rfl)) (fun p53 => (fun _ => rfl)))))) h)
def m115 : TModel
  | [.agg [.sl g0 a0_0, .sl g1 a0_1, .sl g2 a0_2], .sl g3 a1] => bif ctsEq g0 ([.int .i64]) && ctsEq g1 ([.int .i64]) && ctsEq g2 ([.int .i64, .int .i64]) && ctsEq g3 ([.int .i64, .int .i64]) then some (q115 a0_0 a0_1 a0_2 a1, AV.tup [AV.agg [AV.fl [.int .i64] (v115_0 a0_0 a0_1 a0_2 a1), AV.fl [.int .i64] (v115_1 a0_0 a0_1 a0_2 a1), AV.fl [.int .i64, .int .i64] (v115_2 a0_0 a0_1 a0_2 a1)], AV.bool (v115_3 a0_0 a0_1 a0_2 a1)]) else none
  | _ => none
theorem k115 : Known Tryz.prog 115 := ⟨Tryz.f115, Tryz.func115, by kernel_rfl, by kernel_rfl⟩
theorem meets115 : Meets Tryz.prog 115 m115 := by
  refine meet (f := Tryz.f115) (l := [(0, sub [1, 1, 1, 0, 1, 0, 0] (body Tryz.f115))]) (hs := [(115, 0, [2, 4, 6, 7, 21, 22, 23]), (115, 999, [4, 5]), (115, 1000, [4, 6]), (115, 1001, [2, 4, 6, 7, 21, 22, 23])]) (ts := [(72, m72)]) (ws := []) (is := []) (ls := [(115, 0, l115_0)]) (lvl := 0) mixed k115 Tryz.func115 (by kernel_rfl) (loops_cons ok115_0 noLoop) (allT_cons meets72 allT_nil) allM_nil noI fun w xs us r hl hv h => ?_
  unfold m115 at h
  split at h
  · rename_i g0 a0_0 g1 a0_1 g2 a0_2 g3 a1
    obtain ⟨hg, h⟩ := bif_pair h
    simp only [Bool.and_eq_true] at hg
    obtain ⟨⟨⟨q0, q1⟩, q2⟩, q3⟩ := hg
    obtain rfl := ctsEq_eq _ _ q0
    obtain rfl := ctsEq_eq _ _ q1
    obtain rfl := ctsEq_eq _ _ q2
    obtain rfl := ctsEq_eq _ _ q3
    obtain ⟨h1, rfl⟩ := pair_inj h
    exact r115 a0_0 a0_1 a0_2 a1 h1
  · cases h

/-! ### 126 loop.example/g01984/impl.withPivot$1 -/
noncomputable def c126 : Cfg := cfg Tryz.prog [(126, 999, [3])] [] [] [] []
def q126 (a0_0 : Int) (a0_1 : Int) (a1 : AV) : Bool := true
def v126_0 (a0_0 : Int) (a0_1 : Int) (a1 : AV) : Bool := decide (a0_0 > fI a1 0)
theorem e126 (a0_0 : Int) (a0_1 : Int) (a1 : AV) : funA c126 0 126 [AV.agg [AV.int .i64 a0_0, AV.int .i64 a0_1], AV.rptr [.int .i64, .int .i64] a1 0] = some (AV.bool (decide (a0_0 > fI a1 0))) := by kernel_rfl
theorem r126 (a0_0 : Int) (a0_1 : Int) (a1 : AV) : funA c126 0 126 [AV.agg [AV.int .i64 a0_0, AV.int .i64 a0_1], AV.rptr [.int .i64, .int .i64] a1 0] = some (AV.bool (v126_0 a0_0 a0_1 a1)) := (e126 a0_0 a0_1 a1).trans (of_tt (fun _ => rfl))
def m126 : TModel
  | [.agg [.int .i64 a0_0, .int .i64 a0_1], .rptr g0 a1 g1] => bif ctsEq g0 ([.int .i64, .int .i64]) && Nat.beq g1 0 then some (true, AV.bool (v126_0 a0_0 a0_1 a1)) else none
  | _ => none
theorem k126 : Known Tryz.prog 126 := ⟨Tryz.f126, Tryz.func126, by kernel_rfl, by kernel_rfl⟩
theorem meets126 : Meets Tryz.prog 126 m126 := by
  refine meet (f := Tryz.f126) (l := []) (hs := [(126, 999, [3])]) (ts := []) (ws := []) (is := []) (ls := []) (lvl := 0) mixed k126 Tryz.func126 (by kernel_rfl) noLoop allT_nil allM_nil noI fun w xs us r hl hv h => ?_
  unfold m126 at h
  split at h
  · rename_i a0_0 a0_1 g0 a1 g1
    obtain ⟨hg, h⟩ := bif_pair h
    simp only [Bool.and_eq_true] at hg
    obtain ⟨q0, q1⟩ := hg
    obtain rfl := ctsEq_eq _ _ q0
    obtain rfl := Nat.eq_of_beq_eq_true q1
    obtain ⟨h1, rfl⟩ := pair_inj h
    exact r126 a0_0 a0_1 a1
  · cases h

/-! ### 125 slices.IndexFunc[[]loop.example/g01984/impl.Pivot,loop.example/g01984/impl.Pivot] -/
def F125_0 (t0 : List AV) (t1 : AV) (t7 : Int) (t8 : Int) : Out (Int) (Unit ⊕ Int) := (bif decide (t8 < t7) then (bif (decide (0 ≤ t8) && decide (t8 < (t0.length : Int))) then (bif (v126_0 (fI (t0.getD t8.toNat AV.undef) 0) (fI (t0.getD t8.toNat AV.undef) 1) t1) then .stop (.inr t8)
  else .next (IntKind.i64.wrap (t8 + 1)))
  else .fail)
  else .stop (.inl ()))
def R125_0 (t0 : List AV) (t1 : AV) (t7 : Int) : (Int) → Out (Int) (Unit ⊕ Int) := fun s : Int => F125_0 t0 t1 t7 s
def l125_0 : LModel := fun _ _ st k => match st with
  | ⟨[(0, .sl g0 t0), (1, .fn g1 [.rptr g2 t1 g3]), (7, .int .i64 t7), (8, .int .i64 t8)], []⟩ => bif ctsEq g0 ([.int .i64, .int .i64]) && Nat.beq g1 126 && ctsEq g2 ([.int .i64, .int .i64]) && Nat.beq g3 0 then ro (runW (R125_0 t0 t1 t7) ((t7 - t8).toNat + 1) t8) none (sumE (fun _ : Unit => k (.exit 0) ⟨[], []⟩) (fun p : Int => k .ret ⟨[(4, AV.int .i64 p)], []⟩)) else none
  | _ => none
noncomputable def c125 : Cfg := cfg Tryz.prog [(125, 0, [0, 1, 7, 8]), (125, 999, [4]), (125, 1000, []), (125, 1001, [0, 1, 7, 8])] [(126, m126)] [] [] [(125, 0, l125_0)]
theorem s125_0 (ce : CallE) (t0 : List AV) (t1 : AV) (t7 : Int) (t8 : Int) (next : St → Option AV) (k : Kont) : stepA (codeA c125 ce [] 125 0 (sub [1, 0, 1, 0, 0] (body Tryz.f125))) (normA [] [0, 1, 7, 8]) next ⟨[(0, AV.sl [.int .i64, .int .i64] t0), (1, AV.fn 126 [AV.rptr [.int .i64, .int .i64] t1 0]), (7, AV.int .i64 t7), (8, AV.int .i64 t8)], []⟩ k = (bif decide (t8 < t7) then (bif (decide (0 ≤ t8) && decide (t8 < (t0.length : Int))) then (bif (v126_0 (fI (t0.getD t8.toNat AV.undef) 0) (fI (t0.getD t8.toNat AV.undef) 1) t1) then k .ret ⟨[(4, AV.int .i64 t8)], []⟩
  else next ⟨[(0, AV.sl [.int .i64, .int .i64] t0), (1, AV.fn 126 [AV.rptr [.int .i64, .int .i64] t1 0]), (7, AV.int .i64 t7), (8, AV.int .i64 (IntKind.i64.wrap (t8 + 1)))], []⟩)
  else none)
  else k (.exit 0) ⟨[], []⟩) := by kernel_rfl
theorem st125_0 (t0 : List AV) (t1 : AV) (t7 : Int) (ce : CallE) (k : Kont) (s : Int) (next : St → Option AV) : stepA (codeA c125 ce [] 125 0 (sub [1, 0, 1, 0, 0] (body Tryz.f125))) (normA [] [0, 1, 7, 8]) next ((fun s : Int => ⟨[(0, AV.sl [.int .i64, .int .i64] t0), (1, AV.fn 126 [AV.rptr [.int .i64, .int .i64] t1 0]), (7, AV.int .i64 t7), (8, AV.int .i64 s)], []⟩) s) k = (R125_0 t0 t1 t7 s).el none (fun s => next ((fun s : Int => ⟨[(0, AV.sl [.int .i64, .int .i64] t0), (1, AV.fn 126 [AV.rptr [.int .i64, .int .i64] t1 0]), (7, AV.int .i64 t7), (8, AV.int .i64 s)], []⟩) s)) (sumE (fun _ : Unit => k (.exit 0) ⟨[], []⟩) (fun p : Int => k .ret ⟨[(4, AV.int .i64 p)], []⟩)) := (s125_0 ce t0 t1 t7 s next k).trans (by unfold R125_0; unfold F125_0; simp only [el_cond, el_ro, el_sum, el_fail, el_next, el_stop] <;> rfl)
theorem ok125_0 {ce : CallE} : LoopOK c125 ce [] 125 0 (sub [1, 0, 1, 0, 0] (body Tryz.f125)) := by
  intro m hm st k r h
  obtain rfl : l125_0 = m := Option.some.inj hm
  unfold l125_0 at h
  split at h
  · rename_i g0 t0 g1 g2 t1 g3 t7 t8
    obtain ⟨hg, h⟩ := bif_some h
    simp only [Bool.and_eq_true] at hg
    obtain ⟨⟨⟨q0, q1⟩, q2⟩, q3⟩ := hg
    obtain rfl := ctsEq_eq _ _ q0
    obtain rfl := Nat.eq_of_beq_eq_true q1
    obtain rfl := ctsEq_eq _ _ q2
    obtain rfl := Nat.eq_of_beq_eq_true q3
    refine ⟨((t7 - t8).toNat + 1), ?_⟩
    rw [← h]
    exact loop_run (fun s : Int => ⟨[(0, AV.sl [.int .i64, .int .i64] t0), (1, AV.fn 126 [AV.rptr [.int .i64, .int .i64] t1 0]), (7, AV.int .i64 t7), (8, AV.int .i64 s)], []⟩) (sumE (fun _ : Unit => k (.exit 0) ⟨[], []⟩) (fun p : Int => k .ret ⟨[(4, AV.int .i64 p)], []⟩)) (st125_0 t0 t1 t7 ce k) _ t8
  · cases h
def q125 (a0 : List AV) (a1 : AV) : Bool := (ro (runW (R125_0 a0 a1 (a0.length : Int)) (((a0.length : Int) - 0).toNat + 1) 0) false (sumE (fun _ => true) (fun p55 => true)))
def v125_0 (a0 : List AV) (a1 : AV) : Int := (ro (runW (R125_0 a0 a1 (a0.length : Int)) (((a0.length : Int) - 0).toNat + 1) 0) 0 (sumE (fun _ => (-1)) (fun p55 => p55)))
theorem e125 (a0 : List AV) (a1 : AV) : funA c125 0 125 [AV.sl [.int .i64, .int .i64] a0, AV.fn 126 [AV.rptr [.int .i64, .int .i64] a1 0]] = (ro (runW (R125_0 a0 a1 (a0.length : Int)) (((a0.length : Int) - 0).toNat + 1) 0) none (sumE (fun _ => some (AV.int .i64 (-1))) (fun p55 => some (AV.int .i64 p55)))) := by kernel_rfl
theorem r125 (a0 : List AV) (a1 : AV) (h : q125 a0 a1 = true) : funA c125 0 125 [AV.sl [.int .i64, .int .i64] a0, AV.fn 126 [AV.rptr [.int .i64, .int .i64] a1 0]] = some (AV.int .i64 (v125_0 a0 a1)) := (e125 a0 a1).trans ((brO (fun o : Option (Unit ⊕ Int) => some (AV.int .i64 (ro o 0 (sumE (fun _ => (-1)) (fun p55 => p55))))) (brS (fun o : Unit ⊕ Int => some (AV.int .i64 ((sumE (fun _ => (-1)) (fun p55 => p55)) o))) (fun _ => (fun _ => rfl)) (fun p55 => (fun _ => rfl)))) h)
def m125 : TModel
  | [.sl g0 a0, .fn g1 [.rptr g2 a1 g3]] => bif ctsEq g0 ([.int .i64, .int .i64]) && Nat.beq g1 126 && ctsEq g2 ([.int .i64, .int .i64]) && Nat.beq g3 0 then some (q125 a0 a1, AV.int .i64 (v125_0 a0 a1)) else none
  | _ => none
theorem k125 : Known Tryz.prog 125 := ⟨Tryz.f125, Tryz.func125, by kernel_rfl, by kernel_rfl⟩
theorem meets125 : Meets Tryz.prog 125 m125 := by
  refine meet (f := Tryz.f125) (l := [(0, sub [1, 0, 1, 0, 0] (body Tryz.f125))]) (hs := [(125, 0, [0, 1, 7, 8]), (125, 999, [4]), (125, 1000, []), (125, 1001, [0, 1, 7, 8])]) (ts := [(126, m126)]) (ws := []) (is := []) (ls := [(125, 0, l125_0)]) (lvl := 0) mixed k125 Tryz.func125 (by kernel_rfl) (loops_cons ok125_0 noLoop) (allT_cons meets126 allT_nil) allM_nil noI fun w xs us r hl hv h => ?_
  unfold m125 at h
  split at h
  · rename_i g0 a0 g1 g2 a1 g3
    obtain ⟨hg, h⟩ := bif_pair h
    simp only [Bool.and_eq_true] at hg
    obtain ⟨⟨⟨q0, q1⟩, q2⟩, q3⟩ := hg
    obtain rfl := ctsEq_eq _ _ q0
    obtain rfl := Nat.eq_of_beq_eq_true q1
    obtain rfl := ctsEq_eq _ _ q2
    obtain rfl := Nat.eq_of_beq_eq_true q3
    obtain ⟨h1, rfl⟩ := pair_inj h
    exact r125 a0 a1 h1
  · cases h

/-! ### 116 loop.example/g01984/impl.withPivot -/
noncomputable def c116 : Cfg := cfg Tryz.prog [(116, 999, [4]), (127, 999, [6])] [(72, m72), (125, m125)] [] [127] [] [(127, insA Tryz.prog 42)]
def q116 (a0_0 : List AV) (a0_1 : List AV) (a0_2 : List AV) (a1_0 : Int) (a1_1 : Int) : Bool := (q72 a0_0 a0_1 a0_2 && (q125 (v72_2 a0_0 a0_1 a0_2) (AV.agg [AV.int .i64 a1_0, AV.int .i64 a1_1]) && (bif decide ((v125_0 (v72_2 a0_0 a0_1 a0_2) (AV.agg [AV.int .i64 a1_0, AV.int .i64 a1_1])) < 0) then (decide (0 ≤ ((v72_2 a0_0 a0_1 a0_2).length : Int)) && decide (((v72_2 a0_0 a0_1 a0_2).length : Int) ≤ ((v72_2 a0_0 a0_1 a0_2).length : Int)) && decide (((v72_2 a0_0 a0_1 a0_2).length + 1) * 16 ≤ 140737488355328)) else (decide (0 ≤ (v125_0 (v72_2 a0_0 a0_1 a0_2) (AV.agg [AV.int .i64 a1_0, AV.int .i64 a1_1]))) && decide ((v125_0 (v72_2 a0_0 a0_1 a0_2) (AV.agg [AV.int .i64 a1_0, AV.int .i64 a1_1])) ≤ ((v72_2 a0_0 a0_1 a0_2).length : Int)) && decide (((v72_2 a0_0 a0_1 a0_2).length + 1) * 16 ≤ 140737488355328)))))
def v116_0 (a0_0 : List AV) (a0_1 : List AV) (a0_2 : List AV) (a1_0 : Int) (a1_1 : Int) : List AV := (v72_0 a0_0 a0_1 a0_2)
def v116_1 (a0_0 : List AV) (a0_1 : List AV) (a0_2 : List AV) (a1_0 : Int) (a1_1 : Int) : List AV := (v72_1 a0_0 a0_1 a0_2)
def v116_2 (a0_0 : List AV) (a0_1 : List AV) (a0_2 : List AV) (a1_0 : Int) (a1_1 : Int) : List AV := (bif decide ((v125_0 (v72_2 a0_0 a0_1 a0_2) (AV.agg [AV.int .i64 a1_0, AV.int .i64 a1_1])) < 0) then (v72_2 a0_0 a0_1 a0_2).take (Int.toNat ((v72_2 a0_0 a0_1 a0_2).length : Int)) ++ ([AV.agg [AV.int .i64 a1_0, AV.int .i64 a1_1]]) ++ (v72_2 a0_0 a0_1 a0_2).drop (Int.toNat ((v72_2 a0_0 a0_1 a0_2).length : Int)) else (v72_2 a0_0 a0_1 a0_2).take (Int.toNat (v125_0 (v72_2 a0_0 a0_1 a0_2) (AV.agg [AV.int .i64 a1_0, AV.int .i64 a1_1]))) ++ ([AV.agg [AV.int .i64 a1_0, AV.int .i64 a1_1]]) ++ (v72_2 a0_0 a0_1 a0_2).drop (Int.toNat (v125_0 (v72_2 a0_0 a0_1 a0_2) (AV.agg [AV.int .i64 a1_0, AV.int .i64 a1_1]))))
theorem e116 (a0_0 : List AV) (a0_1 : List AV) (a0_2 : List AV) (a1_0 : Int) (a1_1 : Int) : funA c116 1 116 [AV.agg [AV.sl [.int .i64] a0_0, AV.sl [.int .i64] a0_1, AV.sl [.int .i64, .int .i64] a0_2], AV.agg [AV.int .i64 a1_0, AV.int .i64 a1_1]] = (bif q72 a0_0 a0_1 a0_2 then (bif q125 (v72_2 a0_0 a0_1 a0_2) (AV.agg [AV.int .i64 a1_0, AV.int .i64 a1_1]) then (bif decide ((v125_0 (v72_2 a0_0 a0_1 a0_2) (AV.agg [AV.int .i64 a1_0, AV.int .i64 a1_1])) < 0) then (bif (decide (0 ≤ ((v72_2 a0_0 a0_1 a0_2).length : Int)) && decide (((v72_2 a0_0 a0_1 a0_2).length : Int) ≤ ((v72_2 a0_0 a0_1 a0_2).length : Int)) && decide (((v72_2 a0_0 a0_1 a0_2).length + 1) * 16 ≤ 140737488355328)) then some (AV.agg [AV.fl [.int .i64] (v72_0 a0_0 a0_1 a0_2), AV.fl [.int .i64] (v72_1 a0_0 a0_1 a0_2), AV.fl [.int .i64, .int .i64] ((v72_2 a0_0 a0_1 a0_2).take (Int.toNat ((v72_2 a0_0 a0_1 a0_2).length : Int)) ++ ([AV.agg [AV.int .i64 a1_0, AV.int .i64 a1_1]]) ++ (v72_2 a0_0 a0_1 a0_2).drop (Int.toNat ((v72_2 a0_0 a0_1 a0_2).length : Int)))])
  else none)
  else (bif (decide (0 ≤ (v125_0 (v72_2 a0_0 a0_1 a0_2) (AV.agg [AV.int .i64 a1_0, AV.int .i64 a1_1]))) && decide ((v125_0 (v72_2 a0_0 a0_1 a0_2) (AV.agg [AV.int .i64 a1_0, AV.int .i64 a1_1])) ≤ ((v72_2 a0_0 a0_1 a0_2).length : Int)) && decide (((v72_2 a0_0 a0_1 a0_2).length + 1) * 16 ≤ 140737488355328)) then some (AV.agg [AV.fl [.int .i64] (v72_0 a0_0 a0_1 a0_2), AV.fl [.int .i64] (v72_1 a0_0 a0_1 a0_2), AV.fl [.int .i64, .int .i64] ((v72_2 a0_0 a0_1 a0_2).take (Int.toNat (v125_0 (v72_2 a0_0 a0_1 a0_2) (AV.agg [AV.int .i64 a1_0, AV.int .i64 a1_1]))) ++ ([AV.agg [AV.int .i64 a1_0, AV.int .i64 a1_1]]) ++ (v72_2 a0_0 a0_1 a0_2).drop (Int.toNat (v125_0 (v72_2 a0_0 a0_1 a0_2) (AV.agg [AV.int .i64 a1_0, AV.int .i64 a1_1]))))])
  else none))
  else none)
  else none) := by kernel_rfl
theorem r116 (a0_0 : List AV) (a0_1 : List AV) (a0_2 : List AV) (a1_0 : Int) (a1_1 : Int) (h : q116 a0_0 a0_1 a0_2 a1_0 a1_1 = true) : funA c116 1 116 [AV.agg [AV.sl [.int .i64] a0_0, AV.sl [.int .i64] a0_1, AV.sl [.int .i64, .int .i64] a0_2], AV.agg [AV.int .i64 a1_0, AV.int .i64 a1_1]] = some (AV.agg [AV.fl [.int .i64] (v116_0 a0_0 a0_1 a0_2 a1_0 a1_1), AV.fl [.int .i64] (v116_1 a0_0 a0_1 a0_2 a1_0 a1_1), AV.fl [.int .i64, .int .i64] (v116_2 a0_0 a0_1 a0_2 a1_0 a1_1)]) := (e116 a0_0 a0_1 a0_2 a1_0 a1_1).trans ((brL (brL (br (fun b => some (AV.agg [AV.fl [.int .i64] (v72_0 a0_0 a0_1 a0_2), AV.fl [.int .i64] (v72_1 a0_0 a0_1 a0_2), AV.fl [.int .i64, .int .i64] (bif b then (v72_2 a0_0 a0_1 a0_2).take (Int.toNat ((v72_2 a0_0 a0_1 a0_2).length : Int)) ++ ([AV.agg [AV.int .i64 a1_0, AV.int .i64 a1_1]]) ++ (v72_2 a0_0 a0_1 a0_2).drop (Int.toNat ((v72_2 a0_0 a0_1 a0_2).length : Int)) else (v72_2 a0_0 a0_1 a0_2).take (Int.toNat (v125_0 (v72_2 a0_0 a0_1 a0_2) (AV.agg [AV.int .i64 a1_0, AV.int .i64 a1_1]))) ++ ([AV.agg [AV.int .i64 a1_0, AV.int .i64 a1_1]]) ++ (v72_2 a0_0 a0_1 a0_2).drop (Int.toNat (v125_0 (v72_2 a0_0 a0_1 a0_2) (AV.agg [AV.int .i64 a1_0, AV.int .i64 a1_1]))))])) (brL1 (fun _ => rfl)) (brL1 (fun _ => rfl))))) h)
def m116 : TModel
  | [.agg [.sl g0 a0_0, .sl g1 a0_1, .sl g2 a0_2], .agg [.int .i64 a1_0, .int .i64 a1_1]] => bif ctsEq g0 ([.int .i64]) && ctsEq g1 ([.int .i64]) && ctsEq g2 ([.int .i64, .int .i64]) then some (q116 a0_0 a0_1 a0_2 a1_0 a1_1, AV.agg [AV.fl [.int .i64] (v116_0 a0_0 a0_1 a0_2 a1_0 a1_1), AV.fl [.int .i64] (v116_1 a0_0 a0_1 a0_2 a1_0 a1_1), AV.fl [.int .i64, .int .i64] (v116_2 a0_0 a0_1 a0_2 a1_0 a1_1)]) else none
  | _ => none
theorem k116 : Known Tryz.prog 116 := ⟨Tryz.f116, Tryz.func116, by kernel_rfl, by kernel_rfl⟩
theorem i116_127 : InlK Tryz.prog [(116, 999, [4]), (127, 999, [6])] [(72, m72), (125, m125)] [] [127] [] 127 [(127, insA Tryz.prog 42)] := ⟨⟨Tryz.f127, Tryz.func127, by kernel_rfl, by kernel_rfl⟩, Tryz.f127, [], Tryz.func127, by kernel_rfl, fun _ _ => noLoop⟩
theorem meets116 : Meets Tryz.prog 116 m116 := by
  refine meet (f := Tryz.f116) (l := []) (hs := [(116, 999, [4]), (127, 999, [6])]) (ts := [(72, m72), (125, m125)]) (ws := []) (is := [127]) (ls := []) (sp := [(127, insA Tryz.prog 42)]) (hS := (allS_cons ins127 allS_nil)) (lvl := 1) mixed k116 Tryz.func116 (by kernel_rfl) noLoop (allT_cons meets72 (allT_cons meets125 allT_nil)) allM_nil (allI_cons i116_127 noI) fun w xs us r hl hv h => ?_
  unfold m116 at h
  split at h
  · rename_i g0 a0_0 g1 a0_1 g2 a0_2 a1_0 a1_1
    obtain ⟨hg, h⟩ := bif_pair h
    simp only [Bool.and_eq_true] at hg
    obtain ⟨⟨q0, q1⟩, q2⟩ := hg
    obtain rfl := ctsEq_eq _ _ q0
    obtain rfl := ctsEq_eq _ _ q1
    obtain rfl := ctsEq_eq _ _ q2
    obtain ⟨h1, rfl⟩ := pair_inj h
    exact r116 a0_0 a0_1 a0_2 a1_0 a1_1 h1
  · cases h

/-! ### 97 loop.example/g01984/impl.crack -/
noncomputable def c97 : Cfg := cfg Tryz.prog [(97, 999, [4, 5])] [(72, m72), (112, m112), (113, m113), (114, m114), (115, m115), (116, m116)] [] [] []
def q97 (a0_0 : List AV) (a0_1 : List AV) (a0_2 : List AV) (a1 : Int) : Bool := (q112 a0_0 a0_1 a0_2 a1 && (bif (v112_0 a0_0 a0_1 a0_2 a1) then q72 a0_0 a0_1 a0_2 else (q113 a0_0 a0_1 a0_2 a1 && (q114 a0_0 (v113_0 a0_0 a0_1 a0_2 a1) (v113_1 a0_0 a0_1 a0_2 a1) a1 && (q115 a0_0 a0_1 a0_2 (v114_0 a0_0 (v113_0 a0_0 a0_1 a0_2 a1) (v113_1 a0_0 a0_1 a0_2 a1) a1) && q116 (v115_0 a0_0 a0_1 a0_2 (v114_0 a0_0 (v113_0 a0_0 a0_1 a0_2 a1) (v113_1 a0_0 a0_1 a0_2 a1) a1)) (v115_1 a0_0 a0_1 a0_2 (v114_0 a0_0 (v113_0 a0_0 a0_1 a0_2 a1) (v113_1 a0_0 a0_1 a0_2 a1) a1)) (v115_2 a0_0 a0_1 a0_2 (v114_0 a0_0 (v113_0 a0_0 a0_1 a0_2 a1) (v113_1 a0_0 a0_1 a0_2 a1) a1)) a1 (v114_1 a0_0 (v113_0 a0_0 a0_1 a0_2 a1) (v113_1 a0_0 a0_1 a0_2 a1) a1))))))
def v97_0 (a0_0 : List AV) (a0_1 : List AV) (a0_2 : List AV) (a1 : Int) : List AV := (bif (v112_0 a0_0 a0_1 a0_2 a1) then (v72_0 a0_0 a0_1 a0_2) else (v116_0 (v115_0 a0_0 a0_1 a0_2 (v114_0 a0_0 (v113_0 a0_0 a0_1 a0_2 a1) (v113_1 a0_0 a0_1 a0_2 a1) a1)) (v115_1 a0_0 a0_1 a0_2 (v114_0 a0_0 (v113_0 a0_0 a0_1 a0_2 a1) (v113_1 a0_0 a0_1 a0_2 a1) a1)) (v115_2 a0_0 a0_1 a0_2 (v114_0 a0_0 (v113_0 a0_0 a0_1 a0_2 a1) (v113_1 a0_0 a0_1 a0_2 a1) a1)) a1 (v114_1 a0_0 (v113_0 a0_0 a0_1 a0_2 a1) (v113_1 a0_0 a0_1 a0_2 a1) a1)))
def v97_1 (a0_0 : List AV) (a0_1 : List AV) (a0_2 : List AV) (a1 : Int) : List AV := (bif (v112_0 a0_0 a0_1 a0_2 a1) then (v72_1 a0_0 a0_1 a0_2) else (v116_1 (v115_0 a0_0 a0_1 a0_2 (v114_0 a0_0 (v113_0 a0_0 a0_1 a0_2 a1) (v113_1 a0_0 a0_1 a0_2 a1) a1)) (v115_1 a0_0 a0_1 a0_2 (v114_0 a0_0 (v113_0 a0_0 a0_1 a0_2 a1) (v113_1 a0_0 a0_1 a0_2 a1) a1)) (v115_2 a0_0 a0_1 a0_2 (v114_0 a0_0 (v113_0 a0_0 a0_1 a0_2 a1) (v113_1 a0_0 a0_1 a0_2 a1) a1)) a1 (v114_1 a0_0 (v113_0 a0_0 a0_1 a0_2 a1) (v113_1 a0_0 a0_1 a0_2 a1) a1)))
def v97_2 (a0_0 : List AV) (a0_1 : List AV) (a0_2 : List AV) (a1 : Int) : List AV := (bif (v112_0 a0_0 a0_1 a0_2 a1) then (v72_2 a0_0 a0_1 a0_2) else (v116_2 (v115_0 a0_0 a0_1 a0_2 (v114_0 a0_0 (v113_0 a0_0 a0_1 a0_2 a1) (v113_1 a0_0 a0_1 a0_2 a1) a1)) (v115_1 a0_0 a0_1 a0_2 (v114_0 a0_0 (v113_0 a0_0 a0_1 a0_2 a1) (v113_1 a0_0 a0_1 a0_2 a1) a1)) (v115_2 a0_0 a0_1 a0_2 (v114_0 a0_0 (v113_0 a0_0 a0_1 a0_2 a1) (v113_1 a0_0 a0_1 a0_2 a1) a1)) a1 (v114_1 a0_0 (v113_0 a0_0 a0_1 a0_2 a1) (v113_1 a0_0 a0_1 a0_2 a1) a1)))
def v97_3 (a0_0 : List AV) (a0_1 : List AV) (a0_2 : List AV) (a1 : Int) : List AV := (bif (v112_0 a0_0 a0_1 a0_2 a1) then ([] : List AV) else (v114_0 a0_0 (v113_0 a0_0 a0_1 a0_2 a1) (v113_1 a0_0 a0_1 a0_2 a1) a1))
theorem e97 (a0_0 : List AV) (a0_1 : List AV) (a0_2 : List AV) (a1 : Int) : funA c97 0 97 [AV.agg [AV.sl [.int .i64] a0_0, AV.sl [.int .i64] a0_1, AV.sl [.int .i64, .int .i64] a0_2], AV.int .i64 a1] = (bif q112 a0_0 a0_1 a0_2 a1 then (bif (v112_0 a0_0 a0_1 a0_2 a1) then (bif q72 a0_0 a0_1 a0_2 then some (AV.tup [AV.agg [AV.fl [.int .i64] (v72_0 a0_0 a0_1 a0_2), AV.fl [.int .i64] (v72_1 a0_0 a0_1 a0_2), AV.fl [.int .i64, .int .i64] (v72_2 a0_0 a0_1 a0_2)], AV.fl [.int .i64, .int .i64] ([] : List AV)])
  else none)
  else (bif q113 a0_0 a0_1 a0_2 a1 then (bif q114 a0_0 (v113_0 a0_0 a0_1 a0_2 a1) (v113_1 a0_0 a0_1 a0_2 a1) a1 then (bif q115 a0_0 a0_1 a0_2 (v114_0 a0_0 (v113_0 a0_0 a0_1 a0_2 a1) (v113_1 a0_0 a0_1 a0_2 a1) a1) then (bif q116 (v115_0 a0_0 a0_1 a0_2 (v114_0 a0_0 (v113_0 a0_0 a0_1 a0_2 a1) (v113_1 a0_0 a0_1 a0_2 a1) a1)) (v115_1 a0_0 a0_1 a0_2 (v114_0 a0_0 (v113_0 a0_0 a0_1 a0_2 a1) (v113_1 a0_0 a0_1 a0_2 a1) a1)) (v115_2 a0_0 a0_1 a0_2 (v114_0 a0_0 (v113_0 a0_0 a0_1 a0_2 a1) (v113_1 a0_0 a0_1 a0_2 a1) a1)) a1 (v114_1 a0_0 (v113_0 a0_0 a0_1 a0_2 a1) (v113_1 a0_0 a0_1 a0_2 a1) a1) then some (AV.tup [AV.agg [AV.fl [.int .i64] (v116_0 (v115_0 a0_0 a0_1 a0_2 (v114_0 a0_0 (v113_0 a0_0 a0_1 a0_2 a1) (v113_1 a0_0 a0_1 a0_2 a1) a1)) (v115_1 a0_0 a0_1 a0_2 (v114_0 a0_0 (v113_0 a0_0 a0_1 a0_2 a1) (v113_1 a0_0 a0_1 a0_2 a1) a1)) (v115_2 a0_0 a0_1 a0_2 (v114_0 a0_0 (v113_0 a0_0 a0_1 a0_2 a1) (v113_1 a0_0 a0_1 a0_2 a1) a1)) a1 (v114_1 a0_0 (v113_0 a0_0 a0_1 a0_2 a1) (v113_1 a0_0 a0_1 a0_2 a1) a1)), AV.fl [.int .i64] (v116_1 (v115_0 a0_0 a0_1 a0_2 (v114_0 a0_0 (v113_0 a0_0 a0_1 a0_2 a1) (v113_1 a0_0 a0_1 a0_2 a1) a1)) (v115_1 a0_0 a0_1 a0_2 (v114_0 a0_0 (v113_0 a0_0 a0_1 a0_2 a1) (v113_1 a0_0 a0_1 a0_2 a1) a1)) (v115_2 a0_0 a0_1 a0_2 (v114_0 a0_0 (v113_0 a0_0 a0_1 a0_2 a1) (v113_1 a0_0 a0_1 a0_2 a1) a1)) a1 (v114_1 a0_0 (v113_0 a0_0 a0_1 a0_2 a1) (v113_1 a0_0 a0_1 a0_2 a1) a1)), AV.fl [.int .i64, .int .i64] (v116_2 (v115_0 a0_0 a0_1 a0_2 (v114_0 a0_0 (v113_0 a0_0 a0_1 a0_2 a1) (v113_1 a0_0 a0_1 a0_2 a1) a1)) (v115_1 a0_0 a0_1 a0_2 (v114_0 a0_0 (v113_0 a0_0 a0_1 a0_2 a1) (v113_1 a0_0 a0_1 a0_2 a1) a1)) (v115_2 a0_0 a0_1 a0_2 (v114_0 a0_0 (v113_0 a0_0 a0_1 a0_2 a1) (v113_1 a0_0 a0_1 a0_2 a1) a1)) a1 (v114_1 a0_0 (v113_0 a0_0 a0_1 a0_2 a1) (v113_1 a0_0 a0_1 a0_2 a1) a1))], AV.fl [.int .i64, .int .i64] (v114_0 a0_0 (v113_0 a0_0 a0_1 a0_2 a1) (v113_1 a0_0 a0_1 a0_2 a1) a1)])
  else none)
  else none)
  else none)
  else none))
  else none) := by kernel_rfl
theorem r97 (a0_0 : List AV) (a0_1 : List AV) (a0_2 : List AV) (a1 : Int) (h : q97 a0_0 a0_1 a0_2 a1 = true) : funA c97 0 97 [AV.agg [AV.sl [.int .i64] a0_0, AV.sl [.int .i64] a0_1, AV.sl [.int .i64, .int .i64] a0_2], AV.int .i64 a1] = some (AV.tup [AV.agg [AV.fl [.int .i64] (v97_0 a0_0 a0_1 a0_2 a1), AV.fl [.int .i64] (v97_1 a0_0 a0_1 a0_2 a1), AV.fl [.int .i64, .int .i64] (v97_2 a0_0 a0_1 a0_2 a1)], AV.fl [.int .i64, .int .i64] (v97_3 a0_0 a0_1 a0_2 a1)]) := (e97 a0_0 a0_1 a0_2 a1).trans ((brL (br (fun b => some (AV.tup [AV.agg [AV.fl [.int .i64] (bif b then (v72_0 a0_0 a0_1 a0_2) else (v116_0 (v115_0 a0_0 a0_1 a0_2 (v114_0 a0_0 (v113_0 a0_0 a0_1 a0_2 a1) (v113_1 a0_0 a0_1 a0_2 a1) a1)) (v115_1 a0_0 a0_1 a0_2 (v114_0 a0_0 (v113_0 a0_0 a0_1 a0_2 a1) (v113_1 a0_0 a0_1 a0_2 a1) a1)) (v115_2 a0_0 a0_1 a0_2 (v114_0 a0_0 (v113_0 a0_0 a0_1 a0_2 a1) (v113_1 a0_0 a0_1 a0_2 a1) a1)) a1 (v114_1 a0_0 (v113_0 a0_0 a0_1 a0_2 a1) (v113_1 a0_0 a0_1 a0_2 a1) a1))), AV.fl [.int .i64] (bif b then (v72_1 a0_0 a0_1 a0_2) else (v116_1 (v115_0 a0_0 a0_1 a0_2 (v114_0 a0_0 (v113_0 a0_0 a0_1 a0_2 a1) (v113_1 a0_0 a0_1 a0_2 a1) a1)) (v115_1 a0_0 a0_1 a0_2 (v114_0 a0_0 (v113_0 a0_0 a0_1 a0_2 a1) (v113_1 a0_0 a0_1 a0_2 a1) a1)) (v115_2 a0_0 a0_1 a0_2 (v114_0 a0_0 (v113_0 a0_0 a0_1 a0_2 a1) (v113_1 a0_0 a0_1 a0_2 a1) a1)) a1 (v114_1 a0_0 (v113_0 a0_0 a0_1 a0_2 a1) (v113_1 a0_0 a0_1 a0_2 a1) a1))), AV.fl [.int .i64, .int .i64] (bif b then (v72_2 a0_0 a0_1 a0_2) else (v116_2 (v115_0 a0_0 a0_1 a0_2 (v114_0 a0_0 (v113_0 a0_0 a0_1 a0_2 a1) (v113_1 a0_0 a0_1 a0_2 a1) a1)) (v115_1 a0_0 a0_1 a0_2 (v114_0 a0_0 (v113_0 a0_0 a0_1 a0_2 a1) (v113_1 a0_0 a0_1 a0_2 a1) a1)) (v115_2 a0_0 a0_1 a0_2 (v114_0 a0_0 (v113_0 a0_0 a0_1 a0_2 a1) (v113_1 a0_0 a0_1 a0_2 a1) a1)) a1 (v114_1 a0_0 (v113_0 a0_0 a0_1 a0_2 a1) (v113_1 a0_0 a0_1 a0_2 a1) a1)))], AV.fl [.int .i64, .int .i64] (bif b then ([] : List AV) else (v114_0 a0_0 (v113_0 a0_0 a0_1 a0_2 a1) (v113_1 a0_0 a0_1 a0_2 a1) a1))])) (brL1 (fun _ => rfl)) (brL (brL (brL (brL1 (fun _ => rfl))))))) h)
def m97 : TModel
  | [.agg [.sl g0 a0_0, .sl g1 a0_1, .sl g2 a0_2], .int .i64 a1] => bif ctsEq g0 ([.int .i64]) && ctsEq g1 ([.int .i64]) && ctsEq g2 ([.int .i64, .int .i64]) then some (q97 a0_0 a0_1 a0_2 a1, AV.tup [AV.agg [AV.fl [.int .i64] (v97_0 a0_0 a0_1 a0_2 a1), AV.fl [.int .i64] (v97_1 a0_0 a0_1 a0_2 a1), AV.fl [.int .i64, .int .i64] (v97_2 a0_0 a0_1 a0_2 a1)], AV.fl [.int .i64, .int .i64] (v97_3 a0_0 a0_1 a0_2 a1)]) else none
  | _ => none
theorem k97 : Known Tryz.prog 97 := ⟨Tryz.f97, Tryz.func97, by kernel_rfl, by kernel_rfl⟩
theorem meets97 : Meets Tryz.prog 97 m97 := by
  refine meet (f := Tryz.f97) (l := []) (hs := [(97, 999, [4, 5])]) (ts := [(72, m72), (112, m112), (113, m113), (114, m114), (115, m115), (116, m116)]) (ws := []) (is := []) (ls := []) (lvl := 0) mixed k97 Tryz.func97 (by kernel_rfl) noLoop (allT_cons meets72 (allT_cons meets112 (allT_cons meets113 (allT_cons meets114 (allT_cons meets115 (allT_cons meets116 allT_nil)))))) allM_nil noI fun w xs us r hl hv h => ?_
  unfold m97 at h
  split at h
  · rename_i g0 a0_0 g1 a0_1 g2 a0_2 a1
    obtain ⟨hg, h⟩ := bif_pair h
    simp only [Bool.and_eq_true] at hg
    obtain ⟨⟨q0, q1⟩, q2⟩ := hg
    obtain rfl := ctsEq_eq _ _ q0
    obtain rfl := ctsEq_eq _ _ q1
    obtain rfl := ctsEq_eq _ _ q2
    obtain ⟨h1, rfl⟩ := pair_inj h
    exact r97 a0_0 a0_1 a0_2 a1 h1
  · cases h
end Go.Proofs.YtmlhhemflhiinaaGreat
