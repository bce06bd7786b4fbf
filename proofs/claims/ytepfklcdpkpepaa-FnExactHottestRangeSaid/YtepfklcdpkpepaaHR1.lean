/- The walk of what this claim reaches: printed by a program, each equation checked by the kernel. -/
import Derived.Test.YtepfklcdpkpepaaVEzb
import Derived.Test.YtepfklcdpkpepaaLAY
import Derived.Test.YtepfklcdpkpepaaProg
import Derived.KernelRfl
namespace Go.Proofs.Ytepfklcdpkpepaa
open Go Go.Proofs.VE
set_option linter.unusedVariables false
set_option linter.unusedSimpArgs false
set_option maxRecDepth 100000
set_option maxHeartbeats 4000000
theorem mixed : Try.prog.follows .mixedOrders = true := by kernel_rfl
/-! ### 28 loop.example/g01984/laws.szRangeS -/
noncomputable def c28 : Cfg := cfg Try.prog [(28, 999, [4])] [] [] [] []
def q28 (a0 : List AV) (a1 : Int) : Bool := true
def v28_0 (a0 : List AV) (a1 : Int) : Int := (bif decide (IntKind.i64.wrap (a1 - (a0.length : Int)) < 0) then (-1) else IntKind.i64.wrap (a1 - (a0.length : Int)))
theorem e28 (a0 : List AV) (a1 : Int) : funA c28 0 28 [AV.sl [.int .i64, .int .i64] a0, AV.int .i64 a1] = (bif decide (IntKind.i64.wrap (a1 - (a0.length : Int)) < 0) then some (AV.int .i64 (-1))
  else some (AV.int .i64 (IntKind.i64.wrap (a1 - (a0.length : Int))))) := by kernel_rfl
theorem r28 (a0 : List AV) (a1 : Int) : funA c28 0 28 [AV.sl [.int .i64, .int .i64] a0, AV.int .i64 a1] = some (AV.int .i64 (v28_0 a0 a1)) := (e28 a0 a1).trans (of_tt (brT (fun b => some (AV.int .i64 (bif b then (-1) else IntKind.i64.wrap (a1 - (a0.length : Int))))) (fun _ => rfl) (fun _ => rfl)))
def m28 : TModel
  | [.sl g0 a0, .int .i64 a1] => bif ctsEq g0 ([.int .i64, .int .i64]) then some (true, AV.int .i64 (v28_0 a0 a1)) else none
  | _ => none
theorem k28 : Known Try.prog 28 := ⟨Try.f28, Try.func28, by kernel_rfl, by kernel_rfl⟩
theorem meets28 : Meets Try.prog 28 m28 := by
  refine meet (f := Try.f28) (l := []) (hs := [(28, 999, [4])]) (ts := []) (ws := []) (is := []) (ls := []) (lvl := 0) mixed k28 Try.func28 (by kernel_rfl) noLoop allT_nil allM_nil noI fun w xs us r hl hv h => ?_
  unfold m28 at h
  split at h
  · rename_i g0 a0 a1
    obtain ⟨hg, h⟩ := bif_pair h
    have q0 := hg
    obtain rfl := ctsEq_eq _ _ q0
    obtain ⟨h1, rfl⟩ := pair_inj h
    exact r28 a0 a1
  · cases h

/-! ### 30 loop.example/g01984/laws.toIntS -/
def F30_0 (t0 : List AV) (t4 : Int) (h0 : List AV) : Out ((Int × (List AV))) (((List AV))) := (bif decide (t4 < (t0.length : Int)) then (bif (decide (0 ≤ t4) && decide (t4 < (t0.length : Int))) then (bif (decide (0 ≤ t4) && decide (t4 < (h0.length : Int))) then .next (IntKind.i64.wrap (t4 + 1), h0.set t4.toNat (AV.agg [AV.int .i64 (fI (t0.getD t4.toNat AV.undef) 0)]))
    else .fail)
   else .fail)
  else .stop h0)
def R30_0 (t0 : List AV) : ((Int × (List AV))) → Out ((Int × (List AV))) (((List AV))) := fun s : Int × (List AV) => F30_0 t0 s.1 s.2
def l30_0 : LModel := fun _ _ st k => match st with
  | ⟨[(0, .sl g0 t0), (3, .own g1), (4, .int .i64 t4)], [(g2, ⟨false, g3, h0⟩)]⟩ => bif ctsEq g0 ([.int .i64]) && nmEq g1 ([0, 3]) && nmEq g2 ([0, 3]) && ctsEq g3 ([.int .i64]) then ro (runW (R30_0 t0) (((t0.length : Int) - t4).toNat + 1) (t4, h0)) none (fun p : (List AV) => k (.exit 0) ⟨[(3, AV.own [0, 3])], [([0, 3], ⟨false, [.int .i64], p⟩)]⟩) else none
  | _ => none
noncomputable def c30 : Cfg := cfg Try.prog [(30, 0, [0, 3, 4]), (30, 999, [2]), (30, 1000, [3]), (30, 1001, [0, 3, 4])] [] [] [] [(30, 0, l30_0)]
theorem s30_0 (ce : CallE) (t0 : List AV) (t4 : Int) (h0 : List AV) (next : St → Option AV) (k : Kont) : stepA (codeA c30 ce [] 30 0 (sub [1, 1, 0, 1, 0, 0] (body Try.f30))) (normA [] [0, 3, 4]) next ⟨[(0, AV.sl [.int .i64] t0), (3, AV.own [0, 3]), (4, AV.int .i64 t4)], [([0, 3], ⟨false, [.int .i64], h0⟩)]⟩ k = (bif decide (t4 < (t0.length : Int)) then (bif (decide (0 ≤ t4) && decide (t4 < (t0.length : Int))) then (bif (decide (0 ≤ t4) && decide (t4 < (h0.length : Int))) then next ⟨[(0, AV.sl [.int .i64] t0), (3, AV.own [0, 3]), (4, AV.int .i64 (IntKind.i64.wrap (t4 + 1)))], [([0, 3], ⟨false, [.int .i64], h0.set t4.toNat (AV.agg [AV.int .i64 (fI (t0.getD t4.toNat AV.undef) 0)])⟩)]⟩
    else none)
   else none)
  else k (.exit 0) ⟨[(3, AV.own [0, 3])], [([0, 3], ⟨false, [.int .i64], h0⟩)]⟩) := by kernel_rfl
theorem st30_0 (t0 : List AV) (ce : CallE) (k : Kont) (s : (Int × (List AV))) (next : St → Option AV) : stepA (codeA c30 ce [] 30 0 (sub [1, 1, 0, 1, 0, 0] (body Try.f30))) (normA [] [0, 3, 4]) next ((fun s : Int × (List AV) => ⟨[(0, AV.sl [.int .i64] t0), (3, AV.own [0, 3]), (4, AV.int .i64 s.1)], [([0, 3], ⟨false, [.int .i64], s.2⟩)]⟩) s) k = (R30_0 t0 s).el none (fun s => next ((fun s : Int × (List AV) => ⟨[(0, AV.sl [.int .i64] t0), (3, AV.own [0, 3]), (4, AV.int .i64 s.1)], [([0, 3], ⟨false, [.int .i64], s.2⟩)]⟩) s)) (fun p : (List AV) => k (.exit 0) ⟨[(3, AV.own [0, 3])], [([0, 3], ⟨false, [.int .i64], p⟩)]⟩) := (s30_0 ce t0 s.1 s.2 next k).trans (by unfold R30_0; unfold F30_0; simp only [el_cond, el_ro, el_sum, el_fail, el_next, el_stop] <;> rfl)
theorem ok30_0 {ce : CallE} : LoopOK c30 ce [] 30 0 (sub [1, 1, 0, 1, 0, 0] (body Try.f30)) := by
  intro m hm st k r h
  obtain rfl : l30_0 = m := Option.some.inj hm
  unfold l30_0 at h
  split at h
  · rename_i g0 t0 g1 t4 g2 g3 h0
    obtain ⟨hg, h⟩ := bif_some h
    simp only [Bool.and_eq_true] at hg
    obtain ⟨⟨⟨q0, q1⟩, q2⟩, q3⟩ := hg
    obtain rfl := ctsEq_eq _ _ q0
    obtain rfl := (nmEq_iff _ _).1 q1
    obtain rfl := (nmEq_iff _ _).1 q2
    obtain rfl := ctsEq_eq _ _ q3
    refine ⟨(((t0.length : Int) - t4).toNat + 1), ?_⟩
    rw [← h]
    exact loop_run (fun s : Int × (List AV) => ⟨[(0, AV.sl [.int .i64] t0), (3, AV.own [0, 3]), (4, AV.int .i64 s.1)], [([0, 3], ⟨false, [.int .i64], s.2⟩)]⟩) (fun p : (List AV) => k (.exit 0) ⟨[(3, AV.own [0, 3])], [([0, 3], ⟨false, [.int .i64], p⟩)]⟩) (st30_0 t0 ce k) _ (t4, h0)
  · cases h
def q30 (a0 : List AV) : Bool := ((decide (0 ≤ (a0.length : Int)) && decide ((a0.length : Int) ≤ (a0.length : Int)) && decide ((a0.length : Int) * 8 ≤ 140737488355328) && decide ((a0.length : Int) ≤ 140737488355328)) && (ro (runW (R30_0 a0) (((a0.length : Int) - 0).toNat + 1) (0, List.replicate (Int.toNat (a0.length : Int)) (AV.int .i64 0))) false (fun p1 => true)))
def v30_0 (a0 : List AV) : List AV := (ro (runW (R30_0 a0) (((a0.length : Int) - 0).toNat + 1) (0, List.replicate (Int.toNat (a0.length : Int)) (AV.int .i64 0))) [] (fun p1 => p1))
theorem e30 (a0 : List AV) : funA c30 0 30 [AV.sl [.int .i64] a0] = (bif (decide (0 ≤ (a0.length : Int)) && decide ((a0.length : Int) ≤ (a0.length : Int)) && decide ((a0.length : Int) * 8 ≤ 140737488355328) && decide ((a0.length : Int) ≤ 140737488355328)) then (ro (runW (R30_0 a0) (((a0.length : Int) - 0).toNat + 1) (0, List.replicate (Int.toNat (a0.length : Int)) (AV.int .i64 0))) none (fun p1 => some (AV.fl [.int .i64] p1)))
  else none) := by kernel_rfl
theorem r30 (a0 : List AV) (h : q30 a0 = true) : funA c30 0 30 [AV.sl [.int .i64] a0] = some (AV.fl [.int .i64] (v30_0 a0)) := (e30 a0).trans ((brL (brO (fun o : Option (((List AV))) => some (AV.fl [.int .i64] (ro o [] (fun p1 => p1)))) (fun p1 => (fun _ => rfl)))) h)
def m30 : TModel
  | [.sl g0 a0] => bif ctsEq g0 ([.int .i64]) then some (q30 a0, AV.fl [.int .i64] (v30_0 a0)) else none
  | _ => none
theorem k30 : Known Try.prog 30 := ⟨Try.f30, Try.func30, by kernel_rfl, by kernel_rfl⟩
theorem meets30 : Meets Try.prog 30 m30 := by
  refine meet (f := Try.f30) (l := [(0, sub [1, 1, 0, 1, 0, 0] (body Try.f30))]) (hs := [(30, 0, [0, 3, 4]), (30, 999, [2]), (30, 1000, [3]), (30, 1001, [0, 3, 4])]) (ts := []) (ws := []) (is := []) (ls := [(30, 0, l30_0)]) (lvl := 0) mixed k30 Try.func30 (by kernel_rfl) (loops_cons ok30_0 noLoop) allT_nil allM_nil noI fun w xs us r hl hv h => ?_
  unfold m30 at h
  split at h
  · rename_i g0 a0
    obtain ⟨hg, h⟩ := bif_pair h
    have q0 := hg
    obtain rfl := ctsEq_eq _ _ q0
    obtain ⟨h1, rfl⟩ := pair_inj h
    exact r30 a0 h1
  · cases h

/-! ### 61 loop.example/g01984/laws.toRange -/
noncomputable def c61 : Cfg := cfg Try.prog [(61, 999, [2])] [] [] [] []
def q61 (a0_0 : Int) (a0_1 : Int) : Bool := true
def v61_0 (a0_0 : Int) (a0_1 : Int) : Int := a0_0
def v61_1 (a0_0 : Int) (a0_1 : Int) : Int := a0_1
theorem e61 (a0_0 : Int) (a0_1 : Int) : funA c61 0 61 [AV.agg [AV.int .i64 a0_0, AV.int .i64 a0_1]] = some (AV.agg [AV.int .i64 a0_0, AV.int .i64 a0_1]) := by kernel_rfl
theorem r61 (a0_0 : Int) (a0_1 : Int) : funA c61 0 61 [AV.agg [AV.int .i64 a0_0, AV.int .i64 a0_1]] = some (AV.agg [AV.int .i64 (v61_0 a0_0 a0_1), AV.int .i64 (v61_1 a0_0 a0_1)]) := (e61 a0_0 a0_1).trans (of_tt (fun _ => rfl))
def m61 : TModel
  | [.agg [.int .i64 a0_0, .int .i64 a0_1]] => some (true, AV.agg [AV.int .i64 (v61_0 a0_0 a0_1), AV.int .i64 (v61_1 a0_0 a0_1)])
  | _ => none
theorem k61 : Known Try.prog 61 := ⟨Try.f61, Try.func61, by kernel_rfl, by kernel_rfl⟩
theorem meets61 : Meets Try.prog 61 m61 := by
  refine meet (f := Try.f61) (l := []) (hs := [(61, 999, [2])]) (ts := []) (ws := []) (is := []) (ls := []) (lvl := 0) mixed k61 Try.func61 (by kernel_rfl) noLoop allT_nil allM_nil noI fun w xs us r hl hv h => ?_
  unfold m61 at h
  split at h
  · rename_i a0_0 a0_1
    obtain ⟨h1, rfl⟩ := pair_inj h
    exact r61 a0_0 a0_1
  · cases h

/-! ### 31 loop.example/g01984/laws.toRangeS -/
def F31_0 (t0 : List AV) (t4 : Int) (h0 : List AV) : Out ((Int × (List AV))) (((List AV))) := (bif decide (t4 < (t0.length : Int)) then (bif (decide (0 ≤ t4) && decide (t4 < (t0.length : Int))) then (bif (decide (0 ≤ t4) && decide (t4 < (h0.length : Int))) then .next (IntKind.i64.wrap (t4 + 1), h0.set t4.toNat (AV.agg [AV.int .i64 (v61_0 (fI (t0.getD t4.toNat AV.undef) 0) (fI (t0.getD t4.toNat AV.undef) 1)), AV.int .i64 (v61_1 (fI (t0.getD t4.toNat AV.undef) 0) (fI (t0.getD t4.toNat AV.undef) 1))]))
    else .fail)
   else .fail)
  else .stop h0)
def R31_0 (t0 : List AV) : ((Int × (List AV))) → Out ((Int × (List AV))) (((List AV))) := fun s : Int × (List AV) => F31_0 t0 s.1 s.2
def l31_0 : LModel := fun _ _ st k => match st with
  | ⟨[(0, .sl g0 t0), (3, .own g1), (4, .int .i64 t4)], [(g2, ⟨false, g3, h0⟩)]⟩ => bif ctsEq g0 ([.int .i64, .int .i64]) && nmEq g1 ([0, 3]) && nmEq g2 ([0, 3]) && ctsEq g3 ([.int .i64, .int .i64]) then ro (runW (R31_0 t0) (((t0.length : Int) - t4).toNat + 1) (t4, h0)) none (fun p : (List AV) => k (.exit 0) ⟨[(3, AV.own [0, 3])], [([0, 3], ⟨false, [.int .i64, .int .i64], p⟩)]⟩) else none
  | _ => none
noncomputable def c31 : Cfg := cfg Try.prog [(31, 0, [0, 3, 4]), (31, 999, [2]), (31, 1000, [3]), (31, 1001, [0, 3, 4])] [(61, m61)] [] [] [(31, 0, l31_0)]
theorem s31_0 (ce : CallE) (t0 : List AV) (t4 : Int) (h0 : List AV) (next : St → Option AV) (k : Kont) : stepA (codeA c31 ce [] 31 0 (sub [1, 1, 0, 1, 0, 0] (body Try.f31))) (normA [] [0, 3, 4]) next ⟨[(0, AV.sl [.int .i64, .int .i64] t0), (3, AV.own [0, 3]), (4, AV.int .i64 t4)], [([0, 3], ⟨false, [.int .i64, .int .i64], h0⟩)]⟩ k = (bif decide (t4 < (t0.length : Int)) then (bif (decide (0 ≤ t4) && decide (t4 < (t0.length : Int))) then (bif (decide (0 ≤ t4) && decide (t4 < (h0.length : Int))) then next ⟨[(0, AV.sl [.int .i64, .int .i64] t0), (3, AV.own [0, 3]), (4, AV.int .i64 (IntKind.i64.wrap (t4 + 1)))], [([0, 3], ⟨false, [.int .i64, .int .i64], h0.set t4.toNat (AV.agg [AV.int .i64 (v61_0 (fI (t0.getD t4.toNat AV.undef) 0) (fI (t0.getD t4.toNat AV.undef) 1)), AV.int .i64 (v61_1 (fI (t0.getD t4.toNat AV.undef) 0) (fI (t0.getD t4.toNat AV.undef) 1))])⟩)]⟩
    else none)
   else none)
  else k (.exit 0) ⟨[(3, AV.own [0, 3])], [([0, 3], ⟨false, [.int .i64, .int .i64], h0⟩)]⟩) := by kernel_rfl
theorem st31_0 (t0 : List AV) (ce : CallE) (k : Kont) (s : (Int × (List AV))) (next : St → Option AV) : stepA (codeA c31 ce [] 31 0 (sub [1, 1, 0, 1, 0, 0] (body Try.f31))) (normA [] [0, 3, 4]) next ((fun s : Int × (List AV) => ⟨[(0, AV.sl [.int .i64, .int .i64] t0), (3, AV.own [0, 3]), (4, AV.int .i64 s.1)], [([0, 3], ⟨false, [.int .i64, .int .i64], s.2⟩)]⟩) s) k = (R31_0 t0 s).el none (fun s => next ((fun s : Int × (List AV) => ⟨[(0, AV.sl [.int .i64, .int .i64] t0), (3, AV.own [0, 3]), (4, AV.int .i64 s.1)], [([0, 3], ⟨false, [.int .i64, .int .i64], s.2⟩)]⟩) s)) (fun p : (List AV) => k (.exit 0) ⟨[(3, AV.own [0, 3])], [([0, 3], ⟨false, [.int .i64, .int .i64], p⟩)]⟩) := (s31_0 ce t0 s.1 s.2 next k).trans (by unfold R31_0; unfold F31_0; simp only [el_cond, el_ro, el_sum, el_fail, el_next, el_stop] <;> rfl)
theorem ok31_0 {ce : CallE} : LoopOK c31 ce [] 31 0 (sub [1, 1, 0, 1, 0, 0] (body Try.f31)) := by
  intro m hm st k r h
  obtain rfl : l31_0 = m := Option.some.inj hm
  unfold l31_0 at h
  split at h
  · rename_i g0 t0 g1 t4 g2 g3 h0
    obtain ⟨hg, h⟩ := bif_some h
    simp only [Bool.and_eq_true] at hg
    obtain ⟨⟨⟨q0, q1⟩, q2⟩, q3⟩ := hg
    obtain rfl := ctsEq_eq _ _ q0
    obtain rfl := (nmEq_iff _ _).1 q1
    obtain rfl := (nmEq_iff _ _).1 q2
    obtain rfl := ctsEq_eq _ _ q3
    refine ⟨(((t0.length : Int) - t4).toNat + 1), ?_⟩
    rw [← h]
    exact loop_run (fun s : Int × (List AV) => ⟨[(0, AV.sl [.int .i64, .int .i64] t0), (3, AV.own [0, 3]), (4, AV.int .i64 s.1)], [([0, 3], ⟨false, [.int .i64, .int .i64], s.2⟩)]⟩) (fun p : (List AV) => k (.exit 0) ⟨[(3, AV.own [0, 3])], [([0, 3], ⟨false, [.int .i64, .int .i64], p⟩)]⟩) (st31_0 t0 ce k) _ (t4, h0)
  · cases h
def q31 (a0 : List AV) : Bool := ((decide (0 ≤ (a0.length : Int)) && decide ((a0.length : Int) ≤ (a0.length : Int)) && decide ((a0.length : Int) * 16 ≤ 140737488355328) && decide ((a0.length : Int) ≤ 140737488355328)) && (ro (runW (R31_0 a0) (((a0.length : Int) - 0).toNat + 1) (0, List.replicate (Int.toNat (a0.length : Int)) (AV.agg [AV.int .i64 0, AV.int .i64 0]))) false (fun p2 => true)))
def v31_0 (a0 : List AV) : List AV := (ro (runW (R31_0 a0) (((a0.length : Int) - 0).toNat + 1) (0, List.replicate (Int.toNat (a0.length : Int)) (AV.agg [AV.int .i64 0, AV.int .i64 0]))) [] (fun p2 => p2))
theorem e31 (a0 : List AV) : funA c31 0 31 [AV.sl [.int .i64, .int .i64] a0] = (bif (decide (0 ≤ (a0.length : Int)) && decide ((a0.length : Int) ≤ (a0.length : Int)) && decide ((a0.length : Int) * 16 ≤ 140737488355328) && decide ((a0.length : Int) ≤ 140737488355328)) then (ro (runW (R31_0 a0) (((a0.length : Int) - 0).toNat + 1) (0, List.replicate (Int.toNat (a0.length : Int)) (AV.agg [AV.int .i64 0, AV.int .i64 0]))) none (fun p2 => some (AV.fl [.int .i64, .int .i64] p2)))
  else none) := by kernel_rfl
theorem r31 (a0 : List AV) (h : q31 a0 = true) : funA c31 0 31 [AV.sl [.int .i64, .int .i64] a0] = some (AV.fl [.int .i64, .int .i64] (v31_0 a0)) := (e31 a0).trans ((brL (brO (fun o : Option (((List AV))) => some (AV.fl [.int .i64, .int .i64] (ro o [] (fun p2 => p2)))) (fun p2 => (fun _ => rfl)))) h)
def m31 : TModel
  | [.sl g0 a0] => bif ctsEq g0 ([.int .i64, .int .i64]) then some (q31 a0, AV.fl [.int .i64, .int .i64] (v31_0 a0)) else none
  | _ => none
theorem k31 : Known Try.prog 31 := ⟨Try.f31, Try.func31, by kernel_rfl, by kernel_rfl⟩
theorem meets31 : Meets Try.prog 31 m31 := by
  refine meet (f := Try.f31) (l := [(0, sub [1, 1, 0, 1, 0, 0] (body Try.f31))]) (hs := [(31, 0, [0, 3, 4]), (31, 999, [2]), (31, 1000, [3]), (31, 1001, [0, 3, 4])]) (ts := [(61, m61)]) (ws := []) (is := []) (ls := [(31, 0, l31_0)]) (lvl := 0) mixed k31 Try.func31 (by kernel_rfl) (loops_cons ok31_0 noLoop) (allT_cons meets61 allT_nil) allM_nil noI fun w xs us r hl hv h => ?_
  unfold m31 at h
  split at h
  · rename_i g0 a0
    obtain ⟨hg, h⟩ := bif_pair h
    have q0 := hg
    obtain rfl := ctsEq_eq _ _ q0
    obtain ⟨h1, rfl⟩ := pair_inj h
    exact r31 a0 h1
  · cases h

/-! ### 134 loop.example/g01984/spec.l5Swap -/
noncomputable def c134 : Cfg := cfg Try.prog [(134, 999, [])] [] [] [] []
def q134 (a1 : Int) (a2 : Int) (b0 : List AV) : Bool := ((decide (0 ≤ a1) && decide (a1 < (b0.length : Int))) && ((decide (0 ≤ a2) && decide (a2 < (b0.length : Int))) && ((decide (0 ≤ a1) && decide (a1 < (b0.length : Int))) && (decide (0 ≤ a2) && decide (a2 < ((b0.set a1.toNat (AV.agg [AV.int .i64 (fI (b0.getD a2.toNat AV.undef) 0)])).length : Int))))))
def v134_0 (a1 : Int) (a2 : Int) (b0 : List AV) : List AV := (b0.set a1.toNat (AV.agg [AV.int .i64 (fI (b0.getD a2.toNat AV.undef) 0)])).set a2.toNat (AV.agg [AV.int .i64 (fI (b0.getD a1.toNat AV.undef) 0)])
theorem e134 (a1 : Int) (a2 : Int) (b0 : List AV) (K : AV → List Blk → Option AV) : inlA c134 1 134 [AV.own [1], AV.int .i64 a1, AV.int .i64 a2] [0] (canH 1 [⟨false, [.int .i64], b0⟩]) (keepB 1 K) = (bif (decide (0 ≤ a1) && decide (a1 < (b0.length : Int))) then (bif (decide (0 ≤ a2) && decide (a2 < (b0.length : Int))) then (bif (decide (0 ≤ a1) && decide (a1 < (b0.length : Int))) then (bif (decide (0 ≤ a2) && decide (a2 < ((b0.set a1.toNat (AV.agg [AV.int .i64 (fI (b0.getD a2.toNat AV.undef) 0)])).length : Int))) then K (AV.tup []) [⟨false, [.int .i64], (b0.set a1.toNat (AV.agg [AV.int .i64 (fI (b0.getD a2.toNat AV.undef) 0)])).set a2.toNat (AV.agg [AV.int .i64 (fI (b0.getD a1.toNat AV.undef) 0)])⟩]
     else none)
    else none)
   else none)
  else none) := by kernel_rfl
theorem r134 (a1 : Int) (a2 : Int) (b0 : List AV) (K : AV → List Blk → Option AV) (h : q134 a1 a2 b0 = true) : inlA c134 1 134 [AV.own [1], AV.int .i64 a1, AV.int .i64 a2] [0] (canH 1 [⟨false, [.int .i64], b0⟩]) (keepB 1 K) = K (AV.tup []) [⟨false, [.int .i64], (v134_0 a1 a2 b0)⟩] := (e134 a1 a2 b0 K).trans ((brL (brL (brL (brL1 (fun _ => rfl))))) h)
def m134 : WModel
  | [.own g0, .int .i64 a1, .int .i64 a2], [⟨false, g1, b0⟩] => bif nmEq g0 ([1]) && ctsEq g1 ([.int .i64]) then some (q134 a1 a2 b0, AV.tup [], [⟨false, [.int .i64], (v134_0 a1 a2 b0)⟩]) else none
  | _, _ => none
theorem k134 : Known Try.prog 134 := ⟨Try.f134, Try.func134, by kernel_rfl, by kernel_rfl⟩
theorem meets134 : MeetsM Try.prog 134 m134 := by
  refine meetM (f := Try.f134) (l := []) (hs := [(134, 999, [])]) (ts := []) (ws := []) (is := []) (ls := []) (lvl := 0) mixed k134 Try.func134 (by kernel_rfl) noLoop allT_nil allM_nil noI fun C w xs us bs r bs' hl hv hh h K => ?_
  unfold m134 at h
  split at h
  · rename_i g0 a1 a2 g1 b0
    obtain ⟨hg, h⟩ := bif_pair h
    simp only [Bool.and_eq_true] at hg
    obtain ⟨q0, q1⟩ := hg
    obtain rfl := (nmEq_iff _ _).1 q0
    obtain rfl := ctsEq_eq _ _ q1
    obtain ⟨h1, rfl, rfl⟩ := trip_inj h
    exact r134 a1 a2 b0 K h1
  · cases h

/-! ### 84 loop.example/g01984/spec.SortInts -/
def F84_2 (t4 : Int) (t5 : Int) (h0 : List AV) : Out ((Int × (List AV))) (((List AV))) := (bif decide (t5 > 0) then (bif (decide (0 ≤ IntKind.i64.wrap (t5 - 1)) && decide (IntKind.i64.wrap (t5 - 1) < (h0.length : Int))) then (bif (decide (0 ≤ t5) && decide (t5 < (h0.length : Int))) then (bif decide (fI (h0.getD (IntKind.i64.wrap (t5 - 1)).toNat AV.undef) 0 > fI (h0.getD t5.toNat AV.undef) 0) then (bif q134 (IntKind.i64.wrap (t5 - 1)) t5 h0 then .next (IntKind.i64.wrap (t5 - 1), (v134_0 (IntKind.i64.wrap (t5 - 1)) t5 h0))
      else .fail)
     else .stop h0)
    else .fail)
   else .fail)
  else .stop h0)
def R84_2 (t4 : Int) : ((Int × (List AV))) → Out ((Int × (List AV))) (((List AV))) := fun s : Int × (List AV) => F84_2 t4 s.1 s.2
def l84_2 : LModel := fun _ _ st k => match st with
  | ⟨[(3, .own g0), (4, .int .i64 t4), (5, .int .i64 t5)], [(g1, ⟨false, g2, h0⟩)]⟩ => bif nmEq g0 ([0, 3]) && nmEq g1 ([0, 3]) && ctsEq g2 ([.int .i64]) then ro (runW (R84_2 t4) ((t5 - 0).toNat + 1) (t5, h0)) none (fun p : (List AV) => k (.exit 2) ⟨[(3, AV.own [0, 3]), (4, AV.int .i64 t4)], [([0, 3], ⟨false, [.int .i64], p⟩)]⟩) else none
  | _ => none
def F84_0 (t4 : Int) (h0 : List AV) : Out ((Int × (List AV))) (((List AV))) := (bif decide (t4 < (h0.length : Int)) then (ro (runW (R84_2 t4) ((t4 - 0).toNat + 1) (t4, h0)) .fail (fun p3 => .next (IntKind.i64.wrap (t4 + 1), p3)))
  else .stop h0)
def R84_0 : ((Int × (List AV))) → Out ((Int × (List AV))) (((List AV))) := fun s : Int × (List AV) => F84_0 s.1 s.2
def l84_0 : LModel := fun _ _ st k => match st with
  | ⟨[(3, .own g0), (4, .int .i64 t4)], [(g1, ⟨false, g2, h0⟩)]⟩ => bif nmEq g0 ([0, 3]) && nmEq g1 ([0, 3]) && ctsEq g2 ([.int .i64]) then ro (runW (R84_0) (((h0.length : Int) - t4).toNat + 1) (t4, h0)) none (fun p : (List AV) => k (.exit 0) ⟨[(3, AV.own [0, 3])], [([0, 3], ⟨false, [.int .i64], p⟩)]⟩) else none
  | _ => none
noncomputable def c84 : Cfg := cfg Try.prog [(84, 0, [3, 4]), (84, 2, [3, 4, 5]), (84, 999, [2]), (84, 1000, [3]), (84, 1001, [3, 4]), (84, 1002, [3, 4]), (84, 1003, [3, 4, 5])] [] [(134, m134)] [] [(84, 0, l84_0), (84, 2, l84_2)]
theorem s84_2 (ce : CallE) (t4 : Int) (t5 : Int) (h0 : List AV) (next : St → Option AV) (k : Kont) : stepA (codeA c84 ce [] 84 2 (sub [1, 1, 0, 1, 0, 0, 1, 0, 0, 1, 0, 0] (body Try.f84))) (normA [] [3, 4, 5]) next ⟨[(3, AV.own [0, 3]), (4, AV.int .i64 t4), (5, AV.int .i64 t5)], [([0, 3], ⟨false, [.int .i64], h0⟩)]⟩ k = (bif decide (t5 > 0) then (bif (decide (0 ≤ IntKind.i64.wrap (t5 - 1)) && decide (IntKind.i64.wrap (t5 - 1) < (h0.length : Int))) then (bif (decide (0 ≤ t5) && decide (t5 < (h0.length : Int))) then (bif decide (fI (h0.getD (IntKind.i64.wrap (t5 - 1)).toNat AV.undef) 0 > fI (h0.getD t5.toNat AV.undef) 0) then (bif q134 (IntKind.i64.wrap (t5 - 1)) t5 h0 then next ⟨[(3, AV.own [0, 3]), (4, AV.int .i64 t4), (5, AV.int .i64 (IntKind.i64.wrap (t5 - 1)))], [([0, 3], ⟨false, [.int .i64], (v134_0 (IntKind.i64.wrap (t5 - 1)) t5 h0)⟩)]⟩
      else none)
     else k (.exit 2) ⟨[(3, AV.own [0, 3]), (4, AV.int .i64 t4)], [([0, 3], ⟨false, [.int .i64], h0⟩)]⟩)
    else none)
   else none)
  else k (.exit 2) ⟨[(3, AV.own [0, 3]), (4, AV.int .i64 t4)], [([0, 3], ⟨false, [.int .i64], h0⟩)]⟩) := by kernel_rfl
theorem st84_2 (t4 : Int) (ce : CallE) (k : Kont) (s : (Int × (List AV))) (next : St → Option AV) : stepA (codeA c84 ce [] 84 2 (sub [1, 1, 0, 1, 0, 0, 1, 0, 0, 1, 0, 0] (body Try.f84))) (normA [] [3, 4, 5]) next ((fun s : Int × (List AV) => ⟨[(3, AV.own [0, 3]), (4, AV.int .i64 t4), (5, AV.int .i64 s.1)], [([0, 3], ⟨false, [.int .i64], s.2⟩)]⟩) s) k = (R84_2 t4 s).el none (fun s => next ((fun s : Int × (List AV) => ⟨[(3, AV.own [0, 3]), (4, AV.int .i64 t4), (5, AV.int .i64 s.1)], [([0, 3], ⟨false, [.int .i64], s.2⟩)]⟩) s)) (fun p : (List AV) => k (.exit 2) ⟨[(3, AV.own [0, 3]), (4, AV.int .i64 t4)], [([0, 3], ⟨false, [.int .i64], p⟩)]⟩) := (s84_2 ce t4 s.1 s.2 next k).trans (by unfold R84_2; unfold F84_2; simp only [el_cond, el_ro, el_sum, el_fail, el_next, el_stop] <;> rfl)
theorem ok84_2 {ce : CallE} : LoopOK c84 ce [] 84 2 (sub [1, 1, 0, 1, 0, 0, 1, 0, 0, 1, 0, 0] (body Try.f84)) := by
  intro m hm st k r h
  obtain rfl : l84_2 = m := Option.some.inj hm
  unfold l84_2 at h
  split at h
  · rename_i g0 t4 t5 g1 g2 h0
    obtain ⟨hg, h⟩ := bif_some h
    simp only [Bool.and_eq_true] at hg
    obtain ⟨⟨q0, q1⟩, q2⟩ := hg
    obtain rfl := (nmEq_iff _ _).1 q0
    obtain rfl := (nmEq_iff _ _).1 q1
    obtain rfl := ctsEq_eq _ _ q2
    refine ⟨((t5 - 0).toNat + 1), ?_⟩
    rw [← h]
    exact loop_run (fun s : Int × (List AV) => ⟨[(3, AV.own [0, 3]), (4, AV.int .i64 t4), (5, AV.int .i64 s.1)], [([0, 3], ⟨false, [.int .i64], s.2⟩)]⟩) (fun p : (List AV) => k (.exit 2) ⟨[(3, AV.own [0, 3]), (4, AV.int .i64 t4)], [([0, 3], ⟨false, [.int .i64], p⟩)]⟩) (st84_2 t4 ce k) _ (t5, h0)
  · cases h
theorem s84_0 (ce : CallE) (t4 : Int) (h0 : List AV) (next : St → Option AV) (k : Kont) : stepA (codeA c84 ce [] 84 0 (sub [1, 1, 0, 1, 0, 0] (body Try.f84))) (normA [] [3, 4]) next ⟨[(3, AV.own [0, 3]), (4, AV.int .i64 t4)], [([0, 3], ⟨false, [.int .i64], h0⟩)]⟩ k = (bif decide (t4 < (h0.length : Int)) then (ro (runW (R84_2 t4) ((t4 - 0).toNat + 1) (t4, h0)) none (fun p3 => next ⟨[(3, AV.own [0, 3]), (4, AV.int .i64 (IntKind.i64.wrap (t4 + 1)))], [([0, 3], ⟨false, [.int .i64], p3⟩)]⟩))
  else k (.exit 0) ⟨[(3, AV.own [0, 3])], [([0, 3], ⟨false, [.int .i64], h0⟩)]⟩) := by kernel_rfl
theorem st84_0 (ce : CallE) (k : Kont) (s : (Int × (List AV))) (next : St → Option AV) : stepA (codeA c84 ce [] 84 0 (sub [1, 1, 0, 1, 0, 0] (body Try.f84))) (normA [] [3, 4]) next ((fun s : Int × (List AV) => ⟨[(3, AV.own [0, 3]), (4, AV.int .i64 s.1)], [([0, 3], ⟨false, [.int .i64], s.2⟩)]⟩) s) k = (R84_0 s).el none (fun s => next ((fun s : Int × (List AV) => ⟨[(3, AV.own [0, 3]), (4, AV.int .i64 s.1)], [([0, 3], ⟨false, [.int .i64], s.2⟩)]⟩) s)) (fun p : (List AV) => k (.exit 0) ⟨[(3, AV.own [0, 3])], [([0, 3], ⟨false, [.int .i64], p⟩)]⟩) := (s84_0 ce s.1 s.2 next k).trans (by unfold R84_0; unfold F84_0; simp only [el_cond, el_ro, el_sum, el_fail, el_next, el_stop] <;> rfl)
theorem ok84_0 {ce : CallE} : LoopOK c84 ce [] 84 0 (sub [1, 1, 0, 1, 0, 0] (body Try.f84)) := by
  intro m hm st k r h
  obtain rfl : l84_0 = m := Option.some.inj hm
  unfold l84_0 at h
  split at h
  · rename_i g0 t4 g1 g2 h0
    obtain ⟨hg, h⟩ := bif_some h
    simp only [Bool.and_eq_true] at hg
    obtain ⟨⟨q0, q1⟩, q2⟩ := hg
    obtain rfl := (nmEq_iff _ _).1 q0
    obtain rfl := (nmEq_iff _ _).1 q1
    obtain rfl := ctsEq_eq _ _ q2
    refine ⟨(((h0.length : Int) - t4).toNat + 1), ?_⟩
    rw [← h]
    exact loop_run (fun s : Int × (List AV) => ⟨[(3, AV.own [0, 3]), (4, AV.int .i64 s.1)], [([0, 3], ⟨false, [.int .i64], s.2⟩)]⟩) (fun p : (List AV) => k (.exit 0) ⟨[(3, AV.own [0, 3])], [([0, 3], ⟨false, [.int .i64], p⟩)]⟩) (st84_0 ce k) _ (t4, h0)
  · cases h
def q84 (a0 : List AV) : Bool := ((decide ((([] : List AV).length + a0.length) * 8 ≤ 140737488355328) && decide ((([] : List AV).length + a0.length) ≤ 140737488355328)) && (ro (runW (R84_0) ((((([] : List AV) ++ a0).length : Int) - 1).toNat + 1) (1, ([] : List AV) ++ a0)) false (fun p4 => true)))
def v84_0 (a0 : List AV) : List AV := (ro (runW (R84_0) ((((([] : List AV) ++ a0).length : Int) - 1).toNat + 1) (1, ([] : List AV) ++ a0)) [] (fun p4 => p4))
theorem e84 (a0 : List AV) : funA c84 0 84 [AV.sl [.int .i64] a0] = (bif (decide ((([] : List AV).length + a0.length) * 8 ≤ 140737488355328) && decide ((([] : List AV).length + a0.length) ≤ 140737488355328)) then (ro (runW (R84_0) ((((([] : List AV) ++ a0).length : Int) - 1).toNat + 1) (1, ([] : List AV) ++ a0)) none (fun p4 => some (AV.fl [.int .i64] p4)))
  else none) := by kernel_rfl
theorem r84 (a0 : List AV) (h : q84 a0 = true) : funA c84 0 84 [AV.sl [.int .i64] a0] = some (AV.fl [.int .i64] (v84_0 a0)) := (e84 a0).trans ((brL (brO (fun o : Option (((List AV))) => some (AV.fl [.int .i64] (ro o [] (fun p4 => p4)))) (fun p4 => (fun _ => rfl)))) h)
def m84 : TModel
  | [.sl g0 a0] => bif ctsEq g0 ([.int .i64]) then some (q84 a0, AV.fl [.int .i64] (v84_0 a0)) else none
  | _ => none
theorem k84 : Known Try.prog 84 := ⟨Try.f84, Try.func84, by kernel_rfl, by kernel_rfl⟩
theorem meets84 : Meets Try.prog 84 m84 := by
  refine meet (f := Try.f84) (l := [(0, sub [1, 1, 0, 1, 0, 0] (body Try.f84)), (2, sub [1, 1, 0, 1, 0, 0, 1, 0, 0, 1, 0, 0] (body Try.f84))]) (hs := [(84, 0, [3, 4]), (84, 2, [3, 4, 5]), (84, 999, [2]), (84, 1000, [3]), (84, 1001, [3, 4]), (84, 1002, [3, 4]), (84, 1003, [3, 4, 5])]) (ts := []) (ws := [(134, m134)]) (is := []) (ls := [(84, 0, l84_0), (84, 2, l84_2)]) (lvl := 0) mixed k84 Try.func84 (by kernel_rfl) (loops_cons ok84_0 (loops_cons ok84_2 noLoop)) allT_nil (allM_cons meets134 allM_nil) noI fun w xs us r hl hv h => ?_
  unfold m84 at h
  split at h
  · rename_i g0 a0
    obtain ⟨hg, h⟩ := bif_pair h
    have q0 := hg
    obtain rfl := ctsEq_eq _ _ q0
    obtain ⟨h1, rfl⟩ := pair_inj h
    exact r84 a0 h1
  · cases h

/-! ### 68 loop.example/g01984/spec.l1In -/
noncomputable def c68 : Cfg := cfg Try.prog [(68, 999, [6])] [] [] [] []
def q68 (a0 : Int) (a1 : Int) (a2 : Int) : Bool := true
def v68_0 (a0 : Int) (a1 : Int) (a2 : Int) : Bool := (bif decide (a0 ≥ a1) then decide (a0 ≤ a2) else false)
theorem e68 (a0 : Int) (a1 : Int) (a2 : Int) : funA c68 0 68 [AV.int .i64 a0, AV.int .i64 a1, AV.int .i64 a2] = (bif decide (a0 ≥ a1) then some (AV.bool (decide (a0 ≤ a2)))
  else some (AV.bool false)) := by kernel_rfl
theorem r68 (a0 : Int) (a1 : Int) (a2 : Int) : funA c68 0 68 [AV.int .i64 a0, AV.int .i64 a1, AV.int .i64 a2] = some (AV.bool (v68_0 a0 a1 a2)) := (e68 a0 a1 a2).trans (of_tt (brT (fun b => some (AV.bool (bif b then decide (a0 ≤ a2) else false))) (fun _ => rfl) (fun _ => rfl)))
def m68 : TModel
  | [.int .i64 a0, .int .i64 a1, .int .i64 a2] => some (true, AV.bool (v68_0 a0 a1 a2))
  | _ => none
theorem k68 : Known Try.prog 68 := ⟨Try.f68, Try.func68, by kernel_rfl, by kernel_rfl⟩
theorem meets68 : Meets Try.prog 68 m68 := by
  refine meet (f := Try.f68) (l := []) (hs := [(68, 999, [6])]) (ts := []) (ws := []) (is := []) (ls := []) (lvl := 0) mixed k68 Try.func68 (by kernel_rfl) noLoop allT_nil allM_nil noI fun w xs us r hl hv h => ?_
  unfold m68 at h
  split at h
  · rename_i a0 a1 a2
    obtain ⟨h1, rfl⟩ := pair_inj h
    exact r68 a0 a1 a2
  · cases h

/-! ### 103 loop.example/g01984/spec.AreValues -/
def F103_0 (t0 : List AV) (t3 : Int) : Out (Int) (Unit ⊕ Unit) := (bif decide (t3 < (t0.length : Int)) then (bif (decide (0 ≤ t3) && decide (t3 < (t0.length : Int))) then (bif !(v68_0 (fI (t0.getD t3.toNat AV.undef) 0) (-999) 999) then .stop (.inr ())
    else .next (IntKind.i64.wrap (t3 + 1)))
   else .fail)
  else .stop (.inl ()))
def R103_0 (t0 : List AV) : (Int) → Out (Int) (Unit ⊕ Unit) := fun s : Int => F103_0 t0 s
def l103_0 : LModel := fun _ _ st k => match st with
  | ⟨[(0, .sl g0 t0), (3, .int .i64 t3)], []⟩ => bif ctsEq g0 ([.int .i64]) then ro (runW (R103_0 t0) (((t0.length : Int) - t3).toNat + 1) t3) none (sumE (fun _ : Unit => k (.exit 0) ⟨[(0, AV.sl [.int .i64] t0)], []⟩) (fun _ : Unit => k .ret ⟨[(2, AV.bool false)], []⟩)) else none
  | _ => none
noncomputable def c103 : Cfg := cfg Try.prog [(103, 0, [0, 3]), (103, 999, [2]), (103, 1000, [0]), (103, 1001, [0, 3])] [(68, m68)] [] [] [(103, 0, l103_0)]
theorem s103_0 (ce : CallE) (t0 : List AV) (t3 : Int) (next : St → Option AV) (k : Kont) : stepA (codeA c103 ce [] 103 0 (sub [1, 0, 1, 0, 0] (body Try.f103))) (normA [] [0, 3]) next ⟨[(0, AV.sl [.int .i64] t0), (3, AV.int .i64 t3)], []⟩ k = (bif decide (t3 < (t0.length : Int)) then (bif (decide (0 ≤ t3) && decide (t3 < (t0.length : Int))) then (bif !(v68_0 (fI (t0.getD t3.toNat AV.undef) 0) (-999) 999) then k .ret ⟨[(2, AV.bool false)], []⟩
    else next ⟨[(0, AV.sl [.int .i64] t0), (3, AV.int .i64 (IntKind.i64.wrap (t3 + 1)))], []⟩)
   else none)
  else k (.exit 0) ⟨[(0, AV.sl [.int .i64] t0)], []⟩) := by kernel_rfl
theorem st103_0 (t0 : List AV) (ce : CallE) (k : Kont) (s : Int) (next : St → Option AV) : stepA (codeA c103 ce [] 103 0 (sub [1, 0, 1, 0, 0] (body Try.f103))) (normA [] [0, 3]) next ((fun s : Int => ⟨[(0, AV.sl [.int .i64] t0), (3, AV.int .i64 s)], []⟩) s) k = (R103_0 t0 s).el none (fun s => next ((fun s : Int => ⟨[(0, AV.sl [.int .i64] t0), (3, AV.int .i64 s)], []⟩) s)) (sumE (fun _ : Unit => k (.exit 0) ⟨[(0, AV.sl [.int .i64] t0)], []⟩) (fun _ : Unit => k .ret ⟨[(2, AV.bool false)], []⟩)) := (s103_0 ce t0 s next k).trans (by unfold R103_0; unfold F103_0; simp only [el_cond, el_ro, el_sum, el_fail, el_next, el_stop] <;> rfl)
theorem ok103_0 {ce : CallE} : LoopOK c103 ce [] 103 0 (sub [1, 0, 1, 0, 0] (body Try.f103)) := by
  intro m hm st k r h
  obtain rfl : l103_0 = m := Option.some.inj hm
  unfold l103_0 at h
  split at h
  · rename_i g0 t0 t3
    obtain ⟨hg, h⟩ := bif_some h
    have q0 := hg
    obtain rfl := ctsEq_eq _ _ q0
    refine ⟨(((t0.length : Int) - t3).toNat + 1), ?_⟩
    rw [← h]
    exact loop_run (fun s : Int => ⟨[(0, AV.sl [.int .i64] t0), (3, AV.int .i64 s)], []⟩) (sumE (fun _ : Unit => k (.exit 0) ⟨[(0, AV.sl [.int .i64] t0)], []⟩) (fun _ : Unit => k .ret ⟨[(2, AV.bool false)], []⟩)) (st103_0 t0 ce k) _ t3
  · cases h
def q103 (a0 : List AV) : Bool := (ro (runW (R103_0 a0) (((a0.length : Int) - 0).toNat + 1) 0) false (sumE (fun _ => true) (fun _ => true)))
def v103_0 (a0 : List AV) : Bool := (ro (runW (R103_0 a0) (((a0.length : Int) - 0).toNat + 1) 0) false (sumE (fun _ => decide ((a0.length : Int) ≤ 64)) (fun _ => false)))
theorem e103 (a0 : List AV) : funA c103 0 103 [AV.sl [.int .i64] a0] = (ro (runW (R103_0 a0) (((a0.length : Int) - 0).toNat + 1) 0) none (sumE (fun _ => some (AV.bool (decide ((a0.length : Int) ≤ 64)))) (fun _ => some (AV.bool false)))) := by kernel_rfl
theorem r103 (a0 : List AV) (h : q103 a0 = true) : funA c103 0 103 [AV.sl [.int .i64] a0] = some (AV.bool (v103_0 a0)) := (e103 a0).trans ((brO (fun o : Option (Unit ⊕ Unit) => some (AV.bool (ro o false (sumE (fun _ => decide ((a0.length : Int) ≤ 64)) (fun _ => false))))) (brS (fun o : Unit ⊕ Unit => some (AV.bool ((sumE (fun _ => decide ((a0.length : Int) ≤ 64)) (fun _ => false)) o))) (fun _ => (fun _ => rfl)) (fun _ => (fun _ => rfl)))) h)
def m103 : TModel
  | [.sl g0 a0] => bif ctsEq g0 ([.int .i64]) then some (q103 a0, AV.bool (v103_0 a0)) else none
  | _ => none
theorem k103 : Known Try.prog 103 := ⟨Try.f103, Try.func103, by kernel_rfl, by kernel_rfl⟩
theorem meets103 : Meets Try.prog 103 m103 := by
  refine meet (f := Try.f103) (l := [(0, sub [1, 0, 1, 0, 0] (body Try.f103))]) (hs := [(103, 0, [0, 3]), (103, 999, [2]), (103, 1000, [0]), (103, 1001, [0, 3])]) (ts := [(68, m68)]) (ws := []) (is := []) (ls := [(103, 0, l103_0)]) (lvl := 0) mixed k103 Try.func103 (by kernel_rfl) (loops_cons ok103_0 noLoop) (allT_cons meets68 allT_nil) allM_nil noI fun w xs us r hl hv h => ?_
  unfold m103 at h
  split at h
  · rename_i g0 a0
    obtain ⟨hg, h⟩ := bif_pair h
    have q0 := hg
    obtain rfl := ctsEq_eq _ _ q0
    obtain ⟨h1, rfl⟩ := pair_inj h
    exact r103 a0 h1
  · cases h

/-! ### 165 loop.example/g01984/spec.IsRange -/
noncomputable def c165 : Cfg := cfg Try.prog [(165, 999, [2])] [(68, m68)] [] [] []
def q165 (a0_0 : Int) (a0_1 : Int) : Bool := true
def v165_0 (a0_0 : Int) (a0_1 : Int) : Bool := (bif (v68_0 a0_0 (-1000) 1000) then (v68_0 a0_1 a0_0 1000) else false)
theorem e165 (a0_0 : Int) (a0_1 : Int) : funA c165 0 165 [AV.agg [AV.int .i64 a0_0, AV.int .i64 a0_1]] = (bif (v68_0 a0_0 (-1000) 1000) then some (AV.bool (v68_0 a0_1 a0_0 1000))
  else some (AV.bool false)) := by kernel_rfl
theorem r165 (a0_0 : Int) (a0_1 : Int) : funA c165 0 165 [AV.agg [AV.int .i64 a0_0, AV.int .i64 a0_1]] = some (AV.bool (v165_0 a0_0 a0_1)) := (e165 a0_0 a0_1).trans (of_tt (brT (fun b => some (AV.bool (bif b then (v68_0 a0_1 a0_0 1000) else false))) (fun _ => rfl) (fun _ => rfl)))
def m165 : TModel
  | [.agg [.int .i64 a0_0, .int .i64 a0_1]] => some (true, AV.bool (v165_0 a0_0 a0_1))
  | _ => none
theorem k165 : Known Try.prog 165 := ⟨Try.f165, Try.func165, by kernel_rfl, by kernel_rfl⟩
theorem meets165 : Meets Try.prog 165 m165 := by
  refine meet (f := Try.f165) (l := []) (hs := [(165, 999, [2])]) (ts := [(68, m68)]) (ws := []) (is := []) (ls := []) (lvl := 0) mixed k165 Try.func165 (by kernel_rfl) noLoop (allT_cons meets68 allT_nil) allM_nil noI fun w xs us r hl hv h => ?_
  unfold m165 at h
  split at h
  · rename_i a0_0 a0_1
    obtain ⟨h1, rfl⟩ := pair_inj h
    exact r165 a0_0 a0_1
  · cases h

/-! ### 135 loop.example/g01984/spec.l8Ranges -/
def F135_0 (t0 : List AV) (t3 : Int) : Out (Int) (Unit ⊕ Unit) := (bif decide (t3 < (t0.length : Int)) then (bif (decide (0 ≤ t3) && decide (t3 < (t0.length : Int))) then (bif !(v165_0 (fI (t0.getD t3.toNat AV.undef) 0) (fI (t0.getD t3.toNat AV.undef) 1)) then .stop (.inr ())
    else .next (IntKind.i64.wrap (t3 + 1)))
   else .fail)
  else .stop (.inl ()))
def R135_0 (t0 : List AV) : (Int) → Out (Int) (Unit ⊕ Unit) := fun s : Int => F135_0 t0 s
def l135_0 : LModel := fun _ _ st k => match st with
  | ⟨[(0, .sl g0 t0), (3, .int .i64 t3)], []⟩ => bif ctsEq g0 ([.int .i64, .int .i64]) then ro (runW (R135_0 t0) (((t0.length : Int) - t3).toNat + 1) t3) none (sumE (fun _ : Unit => k (.exit 0) ⟨[(0, AV.sl [.int .i64, .int .i64] t0)], []⟩) (fun _ : Unit => k .ret ⟨[(2, AV.bool false)], []⟩)) else none
  | _ => none
noncomputable def c135 : Cfg := cfg Try.prog [(135, 0, [0, 3]), (135, 999, [2]), (135, 1000, [0]), (135, 1001, [0, 3])] [(165, m165)] [] [] [(135, 0, l135_0)]
theorem s135_0 (ce : CallE) (t0 : List AV) (t3 : Int) (next : St → Option AV) (k : Kont) : stepA (codeA c135 ce [] 135 0 (sub [1, 0, 1, 0, 0] (body Try.f135))) (normA [] [0, 3]) next ⟨[(0, AV.sl [.int .i64, .int .i64] t0), (3, AV.int .i64 t3)], []⟩ k = (bif decide (t3 < (t0.length : Int)) then (bif (decide (0 ≤ t3) && decide (t3 < (t0.length : Int))) then (bif !(v165_0 (fI (t0.getD t3.toNat AV.undef) 0) (fI (t0.getD t3.toNat AV.undef) 1)) then k .ret ⟨[(2, AV.bool false)], []⟩
    else next ⟨[(0, AV.sl [.int .i64, .int .i64] t0), (3, AV.int .i64 (IntKind.i64.wrap (t3 + 1)))], []⟩)
   else none)
  else k (.exit 0) ⟨[(0, AV.sl [.int .i64, .int .i64] t0)], []⟩) := by kernel_rfl
theorem st135_0 (t0 : List AV) (ce : CallE) (k : Kont) (s : Int) (next : St → Option AV) : stepA (codeA c135 ce [] 135 0 (sub [1, 0, 1, 0, 0] (body Try.f135))) (normA [] [0, 3]) next ((fun s : Int => ⟨[(0, AV.sl [.int .i64, .int .i64] t0), (3, AV.int .i64 s)], []⟩) s) k = (R135_0 t0 s).el none (fun s => next ((fun s : Int => ⟨[(0, AV.sl [.int .i64, .int .i64] t0), (3, AV.int .i64 s)], []⟩) s)) (sumE (fun _ : Unit => k (.exit 0) ⟨[(0, AV.sl [.int .i64, .int .i64] t0)], []⟩) (fun _ : Unit => k .ret ⟨[(2, AV.bool false)], []⟩)) := (s135_0 ce t0 s next k).trans (by unfold R135_0; unfold F135_0; simp only [el_cond, el_ro, el_sum, el_fail, el_next, el_stop] <;> rfl)
theorem ok135_0 {ce : CallE} : LoopOK c135 ce [] 135 0 (sub [1, 0, 1, 0, 0] (body Try.f135)) := by
  intro m hm st k r h
  obtain rfl : l135_0 = m := Option.some.inj hm
  unfold l135_0 at h
  split at h
  · rename_i g0 t0 t3
    obtain ⟨hg, h⟩ := bif_some h
    have q0 := hg
    obtain rfl := ctsEq_eq _ _ q0
    refine ⟨(((t0.length : Int) - t3).toNat + 1), ?_⟩
    rw [← h]
    exact loop_run (fun s : Int => ⟨[(0, AV.sl [.int .i64, .int .i64] t0), (3, AV.int .i64 s)], []⟩) (sumE (fun _ : Unit => k (.exit 0) ⟨[(0, AV.sl [.int .i64, .int .i64] t0)], []⟩) (fun _ : Unit => k .ret ⟨[(2, AV.bool false)], []⟩)) (st135_0 t0 ce k) _ t3
  · cases h
def q135 (a0 : List AV) : Bool := (ro (runW (R135_0 a0) (((a0.length : Int) - 0).toNat + 1) 0) false (sumE (fun _ => true) (fun _ => true)))
def v135_0 (a0 : List AV) : Bool := (ro (runW (R135_0 a0) (((a0.length : Int) - 0).toNat + 1) 0) false (sumE (fun _ => decide ((a0.length : Int) ≤ 30)) (fun _ => false)))
theorem e135 (a0 : List AV) : funA c135 0 135 [AV.sl [.int .i64, .int .i64] a0] = (ro (runW (R135_0 a0) (((a0.length : Int) - 0).toNat + 1) 0) none (sumE (fun _ => some (AV.bool (decide ((a0.length : Int) ≤ 30)))) (fun _ => some (AV.bool false)))) := by kernel_rfl
theorem r135 (a0 : List AV) (h : q135 a0 = true) : funA c135 0 135 [AV.sl [.int .i64, .int .i64] a0] = some (AV.bool (v135_0 a0)) := (e135 a0).trans ((brO (fun o : Option (Unit ⊕ Unit) => some (AV.bool (ro o false (sumE (fun _ => decide ((a0.length : Int) ≤ 30)) (fun _ => false))))) (brS (fun o : Unit ⊕ Unit => some (AV.bool ((sumE (fun _ => decide ((a0.length : Int) ≤ 30)) (fun _ => false)) o))) (fun _ => (fun _ => rfl)) (fun _ => (fun _ => rfl)))) h)
def m135 : TModel
  | [.sl g0 a0] => bif ctsEq g0 ([.int .i64, .int .i64]) then some (q135 a0, AV.bool (v135_0 a0)) else none
  | _ => none
theorem k135 : Known Try.prog 135 := ⟨Try.f135, Try.func135, by kernel_rfl, by kernel_rfl⟩
theorem meets135 : Meets Try.prog 135 m135 := by
  refine meet (f := Try.f135) (l := [(0, sub [1, 0, 1, 0, 0] (body Try.f135))]) (hs := [(135, 0, [0, 3]), (135, 999, [2]), (135, 1000, [0]), (135, 1001, [0, 3])]) (ts := [(165, m165)]) (ws := []) (is := []) (ls := [(135, 0, l135_0)]) (lvl := 0) mixed k135 Try.func135 (by kernel_rfl) (loops_cons ok135_0 noLoop) (allT_cons meets165 allT_nil) allM_nil noI fun w xs us r hl hv h => ?_
  unfold m135 at h
  split at h
  · rename_i g0 a0
    obtain ⟨hg, h⟩ := bif_pair h
    have q0 := hg
    obtain rfl := ctsEq_eq _ _ q0
    obtain ⟨h1, rfl⟩ := pair_inj h
    exact r135 a0 h1
  · cases h

/-! ### 85 loop.example/g01984/spec.l23Fine -/
noncomputable def c85 : Cfg := cfg Try.prog [(85, 999, [4])] [(103, m103), (135, m135)] [] [] []
def q85 (a0 : List AV) (a1 : List AV) : Bool := (q103 a0 && (bif (v103_0 a0) then q135 a1 else true))
def v85_0 (a0 : List AV) (a1 : List AV) : Bool := (bif (v103_0 a0) then (v135_0 a1) else false)
theorem e85 (a0 : List AV) (a1 : List AV) : funA c85 0 85 [AV.sl [.int .i64] a0, AV.sl [.int .i64, .int .i64] a1] = (bif q103 a0 then (bif (v103_0 a0) then (bif q135 a1 then some (AV.bool (v135_0 a1))
    else none)
   else some (AV.bool false))
  else none) := by kernel_rfl
theorem r85 (a0 : List AV) (a1 : List AV) (h : q85 a0 a1 = true) : funA c85 0 85 [AV.sl [.int .i64] a0, AV.sl [.int .i64, .int .i64] a1] = some (AV.bool (v85_0 a0 a1)) := (e85 a0 a1).trans ((brL (br (fun b => some (AV.bool (bif b then (v135_0 a1) else false))) (brL1 (fun _ => rfl)) (fun _ => rfl))) h)
def m85 : TModel
  | [.sl g0 a0, .sl g1 a1] => bif ctsEq g0 ([.int .i64]) && ctsEq g1 ([.int .i64, .int .i64]) then some (q85 a0 a1, AV.bool (v85_0 a0 a1)) else none
  | _ => none
theorem k85 : Known Try.prog 85 := ⟨Try.f85, Try.func85, by kernel_rfl, by kernel_rfl⟩
theorem meets85 : Meets Try.prog 85 m85 := by
  refine meet (f := Try.f85) (l := []) (hs := [(85, 999, [4])]) (ts := [(103, m103), (135, m135)]) (ws := []) (is := []) (ls := []) (lvl := 0) mixed k85 Try.func85 (by kernel_rfl) noLoop (allT_cons meets103 (allT_cons meets135 allT_nil)) allM_nil noI fun w xs us r hl hv h => ?_
  unfold m85 at h
  split at h
  · rename_i g0 a0 g1 a1
    obtain ⟨hg, h⟩ := bif_pair h
    simp only [Bool.and_eq_true] at hg
    obtain ⟨q0, q1⟩ := hg
    obtain rfl := ctsEq_eq _ _ q0
    obtain rfl := ctsEq_eq _ _ q1
    obtain ⟨h1, rfl⟩ := pair_inj h
    exact r85 a0 a1 h1
  · cases h

/-! ### 136 loop.example/g01984/spec.InRange -/
noncomputable def c136 : Cfg := cfg Try.prog [(136, 999, [4])] [(68, m68), (165, m165)] [] [] []
def q136 (a0_0 : Int) (a0_1 : Int) (a1 : Int) : Bool := true
def v136_0 (a0_0 : Int) (a0_1 : Int) (a1 : Int) : Bool := (bif (v165_0 a0_0 a0_1) then (v68_0 a1 a0_0 (IntKind.i64.wrap (a0_1 - 1))) else false)
theorem e136 (a0_0 : Int) (a0_1 : Int) (a1 : Int) : funA c136 0 136 [AV.agg [AV.int .i64 a0_0, AV.int .i64 a0_1], AV.int .i64 a1] = (bif (v165_0 a0_0 a0_1) then some (AV.bool (v68_0 a1 a0_0 (IntKind.i64.wrap (a0_1 - 1))))
  else some (AV.bool false)) := by kernel_rfl
theorem r136 (a0_0 : Int) (a0_1 : Int) (a1 : Int) : funA c136 0 136 [AV.agg [AV.int .i64 a0_0, AV.int .i64 a0_1], AV.int .i64 a1] = some (AV.bool (v136_0 a0_0 a0_1 a1)) := (e136 a0_0 a0_1 a1).trans (of_tt (brT (fun b => some (AV.bool (bif b then (v68_0 a1 a0_0 (IntKind.i64.wrap (a0_1 - 1))) else false))) (fun _ => rfl) (fun _ => rfl)))
def m136 : TModel
  | [.agg [.int .i64 a0_0, .int .i64 a0_1], .int .i64 a1] => some (true, AV.bool (v136_0 a0_0 a0_1 a1))
  | _ => none
theorem k136 : Known Try.prog 136 := ⟨Try.f136, Try.func136, by kernel_rfl, by kernel_rfl⟩
theorem meets136 : Meets Try.prog 136 m136 := by
  refine meet (f := Try.f136) (l := []) (hs := [(136, 999, [4])]) (ts := [(68, m68), (165, m165)]) (ws := []) (is := []) (ls := []) (lvl := 0) mixed k136 Try.func136 (by kernel_rfl) noLoop (allT_cons meets68 (allT_cons meets165 allT_nil)) allM_nil noI fun w xs us r hl hv h => ?_
  unfold m136 at h
  split at h
  · rename_i a0_0 a0_1 a1
    obtain ⟨h1, rfl⟩ := pair_inj h
    exact r136 a0_0 a0_1 a1
  · cases h

/-! ### 86 loop.example/g01984/spec.QueriesFor -/
def F86_0 (t0 : List AV) (t1 : Int) (t6 : Int) (h0 : List AV) : Out ((Int × (List AV))) (((List AV))) := (bif decide (t6 < (t0.length : Int)) then (bif q135 t0 then (bif (v135_0 t0) then (bif (decide (0 ≤ t6) && decide (t6 < (t0.length : Int))) then (bif (v136_0 (fI (t0.getD t6.toNat AV.undef) 0) (fI (t0.getD t6.toNat AV.undef) 1) t1) then (bif (decide ((h0.length + ([AV.int .i64 t6]).length) * 8 ≤ 140737488355328) && decide ((h0.length + ([AV.int .i64 t6]).length) ≤ 140737488355328)) then .next (IntKind.i64.wrap (t6 + 1), h0 ++ ([AV.int .i64 t6]))
       else .fail)
      else .next (IntKind.i64.wrap (t6 + 1), h0))
     else .fail)
    else .stop h0)
   else .fail)
  else .stop h0)
def R86_0 (t0 : List AV) (t1 : Int) : ((Int × (List AV))) → Out ((Int × (List AV))) (((List AV))) := fun s : Int × (List AV) => F86_0 t0 t1 s.1 s.2
def l86_0 : LModel := fun _ _ st k => match st with
  | ⟨[(0, .sl g0 t0), (1, .int .i64 t1), (5, .own g1), (6, .int .i64 t6)], [(g2, ⟨false, g3, h0⟩)]⟩ => bif ctsEq g0 ([.int .i64, .int .i64]) && nmEq g1 ([0, 5]) && nmEq g2 ([0, 5]) && ctsEq g3 ([.int .i64]) then ro (runW (R86_0 t0 t1) (((t0.length : Int) - t6).toNat + 1) (t6, h0)) none (fun p : (List AV) => k (.exit 0) ⟨[(5, AV.own [0, 5])], [([0, 5], ⟨false, [.int .i64], p⟩)]⟩) else none
  | _ => none
noncomputable def c86 : Cfg := cfg Try.prog [(86, 0, [0, 1, 5, 6]), (86, 999, [4]), (86, 1000, [5]), (86, 1001, [0, 1, 5, 6])] [(135, m135), (136, m136)] [] [] [(86, 0, l86_0)]
theorem s86_0 (ce : CallE) (t0 : List AV) (t1 : Int) (t6 : Int) (h0 : List AV) (next : St → Option AV) (k : Kont) : stepA (codeA c86 ce [] 86 0 (sub [1, 1, 0, 1, 0, 0] (body Try.f86))) (normA [] [0, 1, 5, 6]) next ⟨[(0, AV.sl [.int .i64, .int .i64] t0), (1, AV.int .i64 t1), (5, AV.own [0, 5]), (6, AV.int .i64 t6)], [([0, 5], ⟨false, [.int .i64], h0⟩)]⟩ k = (bif decide (t6 < (t0.length : Int)) then (bif q135 t0 then (bif (v135_0 t0) then (bif (decide (0 ≤ t6) && decide (t6 < (t0.length : Int))) then (bif (v136_0 (fI (t0.getD t6.toNat AV.undef) 0) (fI (t0.getD t6.toNat AV.undef) 1) t1) then (bif (decide ((h0.length + ([AV.int .i64 t6]).length) * 8 ≤ 140737488355328) && decide ((h0.length + ([AV.int .i64 t6]).length) ≤ 140737488355328)) then next ⟨[(0, AV.sl [.int .i64, .int .i64] t0), (1, AV.int .i64 t1), (5, AV.own [0, 5]), (6, AV.int .i64 (IntKind.i64.wrap (t6 + 1)))], [([0, 5], ⟨false, [.int .i64], h0 ++ ([AV.int .i64 t6])⟩)]⟩
       else none)
      else next ⟨[(0, AV.sl [.int .i64, .int .i64] t0), (1, AV.int .i64 t1), (5, AV.own [0, 5]), (6, AV.int .i64 (IntKind.i64.wrap (t6 + 1)))], [([0, 5], ⟨false, [.int .i64], h0⟩)]⟩)
     else none)
    else k (.exit 0) ⟨[(5, AV.own [0, 5])], [([0, 5], ⟨false, [.int .i64], h0⟩)]⟩)
   else none)
  else k (.exit 0) ⟨[(5, AV.own [0, 5])], [([0, 5], ⟨false, [.int .i64], h0⟩)]⟩) := by kernel_rfl
theorem st86_0 (t0 : List AV) (t1 : Int) (ce : CallE) (k : Kont) (s : (Int × (List AV))) (next : St → Option AV) : stepA (codeA c86 ce [] 86 0 (sub [1, 1, 0, 1, 0, 0] (body Try.f86))) (normA [] [0, 1, 5, 6]) next ((fun s : Int × (List AV) => ⟨[(0, AV.sl [.int .i64, .int .i64] t0), (1, AV.int .i64 t1), (5, AV.own [0, 5]), (6, AV.int .i64 s.1)], [([0, 5], ⟨false, [.int .i64], s.2⟩)]⟩) s) k = (R86_0 t0 t1 s).el none (fun s => next ((fun s : Int × (List AV) => ⟨[(0, AV.sl [.int .i64, .int .i64] t0), (1, AV.int .i64 t1), (5, AV.own [0, 5]), (6, AV.int .i64 s.1)], [([0, 5], ⟨false, [.int .i64], s.2⟩)]⟩) s)) (fun p : (List AV) => k (.exit 0) ⟨[(5, AV.own [0, 5])], [([0, 5], ⟨false, [.int .i64], p⟩)]⟩) := (s86_0 ce t0 t1 s.1 s.2 next k).trans (by unfold R86_0; unfold F86_0; simp only [el_cond, el_ro, el_sum, el_fail, el_next, el_stop] <;> rfl)
theorem ok86_0 {ce : CallE} : LoopOK c86 ce [] 86 0 (sub [1, 1, 0, 1, 0, 0] (body Try.f86)) := by
  intro m hm st k r h
  obtain rfl : l86_0 = m := Option.some.inj hm
  unfold l86_0 at h
  split at h
  · rename_i g0 t0 t1 g1 t6 g2 g3 h0
    obtain ⟨hg, h⟩ := bif_some h
    simp only [Bool.and_eq_true] at hg
    obtain ⟨⟨⟨q0, q1⟩, q2⟩, q3⟩ := hg
    obtain rfl := ctsEq_eq _ _ q0
    obtain rfl := (nmEq_iff _ _).1 q1
    obtain rfl := (nmEq_iff _ _).1 q2
    obtain rfl := ctsEq_eq _ _ q3
    refine ⟨(((t0.length : Int) - t6).toNat + 1), ?_⟩
    rw [← h]
    exact loop_run (fun s : Int × (List AV) => ⟨[(0, AV.sl [.int .i64, .int .i64] t0), (1, AV.int .i64 t1), (5, AV.own [0, 5]), (6, AV.int .i64 s.1)], [([0, 5], ⟨false, [.int .i64], s.2⟩)]⟩) (fun p : (List AV) => k (.exit 0) ⟨[(5, AV.own [0, 5])], [([0, 5], ⟨false, [.int .i64], p⟩)]⟩) (st86_0 t0 t1 ce k) _ (t6, h0)
  · cases h
def q86 (a0 : List AV) (a1 : Int) : Bool := (ro (runW (R86_0 a0 a1) (((a0.length : Int) - 0).toNat + 1) (0, ([] : List AV))) false (fun p9 => true))
def v86_0 (a0 : List AV) (a1 : Int) : List AV := (ro (runW (R86_0 a0 a1) (((a0.length : Int) - 0).toNat + 1) (0, ([] : List AV))) [] (fun p9 => p9))
theorem e86 (a0 : List AV) (a1 : Int) : funA c86 0 86 [AV.sl [.int .i64, .int .i64] a0, AV.int .i64 a1] = (ro (runW (R86_0 a0 a1) (((a0.length : Int) - 0).toNat + 1) (0, ([] : List AV))) none (fun p9 => some (AV.fl [.int .i64] p9))) := by kernel_rfl
theorem r86 (a0 : List AV) (a1 : Int) (h : q86 a0 a1 = true) : funA c86 0 86 [AV.sl [.int .i64, .int .i64] a0, AV.int .i64 a1] = some (AV.fl [.int .i64] (v86_0 a0 a1)) := (e86 a0 a1).trans ((brO (fun o : Option (((List AV))) => some (AV.fl [.int .i64] (ro o [] (fun p9 => p9)))) (fun p9 => (fun _ => rfl))) h)
def m86 : TModel
  | [.sl g0 a0, .int .i64 a1] => bif ctsEq g0 ([.int .i64, .int .i64]) then some (q86 a0 a1, AV.fl [.int .i64] (v86_0 a0 a1)) else none
  | _ => none
theorem k86 : Known Try.prog 86 := ⟨Try.f86, Try.func86, by kernel_rfl, by kernel_rfl⟩
theorem meets86 : Meets Try.prog 86 m86 := by
  refine meet (f := Try.f86) (l := [(0, sub [1, 1, 0, 1, 0, 0] (body Try.f86))]) (hs := [(86, 0, [0, 1, 5, 6]), (86, 999, [4]), (86, 1000, [5]), (86, 1001, [0, 1, 5, 6])]) (ts := [(135, m135), (136, m136)]) (ws := []) (is := []) (ls := [(86, 0, l86_0)]) (lvl := 0) mixed k86 Try.func86 (by kernel_rfl) (loops_cons ok86_0 noLoop) (allT_cons meets135 (allT_cons meets136 allT_nil)) allM_nil noI fun w xs us r hl hv h => ?_
  unfold m86 at h
  split at h
  · rename_i g0 a0 a1
    obtain ⟨hg, h⟩ := bif_pair h
    have q0 := hg
    obtain rfl := ctsEq_eq _ _ q0
    obtain ⟨h1, rfl⟩ := pair_inj h
    exact r86 a0 a1 h1
  · cases h

/-! ### 29 loop.example/g01984/spec.HottestRange -/
def F29_2 (t1 : List AV) (t7 : Int) (t8 : Int) (h0_0 : Int) (h0_1 : Int) (h1 : List AV) (t11 : Int) : Out (Int) ((Int × (List AV)) ⊕ Int) := (bif decide (IntKind.i64.wrap (t11 + 1) < (h1.length : Int)) then (bif (decide (0 ≤ IntKind.i64.wrap (t11 + 1)) && decide (IntKind.i64.wrap (t11 + 1) < (h1.length : Int))) then (bif q86 t1 (fI (h1.getD (IntKind.i64.wrap (t11 + 1)).toNat AV.undef) 0) then (bif decide (((v86_0 t1 (fI (h1.getD (IntKind.i64.wrap (t11 + 1)).toNat AV.undef) 0)).length : Int) = t8) then .next (IntKind.i64.wrap (t11 + 1))
     else .stop (.inl (t11, (v86_0 t1 (fI (h1.getD (IntKind.i64.wrap (t11 + 1)).toNat AV.undef) 0)))))
    else .fail)
   else .fail)
  else .stop (.inr t11))
def R29_2 (t1 : List AV) (t7 : Int) (t8 : Int) (h0_0 : Int) (h0_1 : Int) (h1 : List AV) : (Int) → Out (Int) ((Int × (List AV)) ⊕ Int) := fun s : Int => F29_2 t1 t7 t8 h0_0 h0_1 h1 s
def l29_2 : LModel := fun _ _ st k => match st with
  | ⟨[(1, .sl g0 t1), (4, .ptr g1 g2 g3), (6, .own g4), (7, .int .i64 t7), (8, .int .i64 t8), (11, .int .i64 t11)], [(g5, ⟨true, [], [.agg [.int .i64 h0_0, .int .i64 h0_1]]⟩), (g6, ⟨false, g7, h1⟩)]⟩ => bif ctsEq g0 ([.int .i64, .int .i64]) && nmEq g1 ([0, 4]) && Nat.beq g2 0 && Nat.beq g3 0 && nmEq g4 ([0, 6]) && nmEq g5 ([0, 4]) && nmEq g6 ([0, 6]) && ctsEq g7 ([.int .i64]) then ro (runW (R29_2 t1 t7 t8 h0_0 h0_1 h1) (((h1.length : Int) - (IntKind.i64.wrap (t11 + 1))).toNat + 1) t11) none (sumE (fun p : Int × (List AV) => k (.exit 2) ⟨[(4, AV.ptr [0, 4] 0 0), (6, AV.own [0, 6]), (7, AV.int .i64 t7), (8, AV.int .i64 t8), (11, AV.int .i64 p.1)], [([0, 4], ⟨true, [], [AV.agg [AV.int .i64 h0_0, AV.int .i64 h0_1]]⟩), ([0, 6], ⟨false, [.int .i64], h1⟩), ([1, 55], ⟨false, [.int .i64], p.2⟩)]⟩) (fun p : Int => k (.exit 2) ⟨[(4, AV.ptr [0, 4] 0 0), (6, AV.own [0, 6]), (7, AV.int .i64 t7), (8, AV.int .i64 t8), (11, AV.int .i64 p)], [([0, 4], ⟨true, [], [AV.agg [AV.int .i64 h0_0, AV.int .i64 h0_1]]⟩), ([0, 6], ⟨false, [.int .i64], h1⟩)]⟩)) else none
  | _ => none
def F29_0 (t1 : List AV) (h0_0 : Int) (h0_1 : Int) (h1 : List AV) (t7 : Int) (t8 : Int) (t9 : Int) : Out ((Int × Int × Int)) ((Int × Int)) := (bif decide (t9 < (h1.length : Int)) then (bif (decide (0 ≤ t9) && decide (t9 < (h1.length : Int))) then (bif q86 t1 (fI (h1.getD t9.toNat AV.undef) 0) then (bif decide (((v86_0 t1 (fI (h1.getD t9.toNat AV.undef) 0)).length : Int) > t8) then .next (t9, ((v86_0 t1 (fI (h1.getD t9.toNat AV.undef) 0)).length : Int), IntKind.i64.wrap (t9 + 1))
     else .next (t7, t8, IntKind.i64.wrap (t9 + 1)))
    else .fail)
   else .fail)
  else .stop (t7, t8))
def R29_0 (t1 : List AV) (h0_0 : Int) (h0_1 : Int) (h1 : List AV) : ((Int × Int × Int)) → Out ((Int × Int × Int)) ((Int × Int)) := fun s : Int × Int × Int => F29_0 t1 h0_0 h0_1 h1 s.1 s.2.1 s.2.2
def l29_0 : LModel := fun _ _ st k => match st with
  | ⟨[(1, .sl g0 t1), (4, .ptr g1 g2 g3), (6, .own g4), (7, .int .i64 t7), (8, .int .i64 t8), (9, .int .i64 t9)], [(g5, ⟨true, [], [.agg [.int .i64 h0_0, .int .i64 h0_1]]⟩), (g6, ⟨false, g7, h1⟩)]⟩ => bif ctsEq g0 ([.int .i64, .int .i64]) && nmEq g1 ([0, 4]) && Nat.beq g2 0 && Nat.beq g3 0 && nmEq g4 ([0, 6]) && nmEq g5 ([0, 4]) && nmEq g6 ([0, 6]) && ctsEq g7 ([.int .i64]) then ro (runW (R29_0 t1 h0_0 h0_1 h1) (((h1.length : Int) - t9).toNat + 1) (t7, t8, t9)) none (fun p : Int × Int => k (.exit 0) ⟨[(1, AV.sl [.int .i64, .int .i64] t1), (4, AV.ptr [0, 4] 0 0), (6, AV.own [0, 6]), (7, AV.int .i64 p.1), (8, AV.int .i64 p.2)], [([0, 4], ⟨true, [], [AV.agg [AV.int .i64 h0_0, AV.int .i64 h0_1]]⟩), ([0, 6], ⟨false, [.int .i64], h1⟩)]⟩) else none
  | _ => none
noncomputable def c29 : Cfg := cfg Try.prog [(29, 0, [1, 4, 6, 7, 8, 9]), (29, 2, [1, 4, 6, 7, 8, 11]), (29, 999, [4, 5]), (29, 1000, [1, 4, 6, 7, 8]), (29, 1001, [1, 4, 6, 7, 8, 9]), (29, 1002, [4, 6, 7, 8, 11]), (29, 1003, [1, 4, 6, 7, 8, 11])] [(84, m84), (85, m85), (86, m86)] [] [] [(29, 0, l29_0), (29, 2, l29_2)]
theorem s29_2 (ce : CallE) (t1 : List AV) (t7 : Int) (t8 : Int) (t11 : Int) (h0_0 : Int) (h0_1 : Int) (h1 : List AV) (next : St → Option AV) (k : Kont) : stepA (codeA c29 ce [] 29 2 (sub [1, 1, 1, 1, 1, 1, 1, 0, 0, 0] (body Try.f29))) (normA [] [1, 4, 6, 7, 8, 11]) next ⟨[(1, AV.sl [.int .i64, .int .i64] t1), (4, AV.ptr [0, 4] 0 0), (6, AV.own [0, 6]), (7, AV.int .i64 t7), (8, AV.int .i64 t8), (11, AV.int .i64 t11)], [([0, 4], ⟨true, [], [AV.agg [AV.int .i64 h0_0, AV.int .i64 h0_1]]⟩), ([0, 6], ⟨false, [.int .i64], h1⟩)]⟩ k = (bif decide (IntKind.i64.wrap (t11 + 1) < (h1.length : Int)) then (bif (decide (0 ≤ IntKind.i64.wrap (t11 + 1)) && decide (IntKind.i64.wrap (t11 + 1) < (h1.length : Int))) then (bif q86 t1 (fI (h1.getD (IntKind.i64.wrap (t11 + 1)).toNat AV.undef) 0) then (bif decide (((v86_0 t1 (fI (h1.getD (IntKind.i64.wrap (t11 + 1)).toNat AV.undef) 0)).length : Int) = t8) then next ⟨[(1, AV.sl [.int .i64, .int .i64] t1), (4, AV.ptr [0, 4] 0 0), (6, AV.own [0, 6]), (7, AV.int .i64 t7), (8, AV.int .i64 t8), (11, AV.int .i64 (IntKind.i64.wrap (t11 + 1)))], [([0, 4], ⟨true, [], [AV.agg [AV.int .i64 h0_0, AV.int .i64 h0_1]]⟩), ([0, 6], ⟨false, [.int .i64], h1⟩)]⟩
     else k (.exit 2) ⟨[(4, AV.ptr [0, 4] 0 0), (6, AV.own [0, 6]), (7, AV.int .i64 t7), (8, AV.int .i64 t8), (11, AV.int .i64 t11)], [([0, 4], ⟨true, [], [AV.agg [AV.int .i64 h0_0, AV.int .i64 h0_1]]⟩), ([0, 6], ⟨false, [.int .i64], h1⟩), ([1, 55], ⟨false, [.int .i64], (v86_0 t1 (fI (h1.getD (IntKind.i64.wrap (t11 + 1)).toNat AV.undef) 0))⟩)]⟩)
    else none)
   else none)
  else k (.exit 2) ⟨[(4, AV.ptr [0, 4] 0 0), (6, AV.own [0, 6]), (7, AV.int .i64 t7), (8, AV.int .i64 t8), (11, AV.int .i64 t11)], [([0, 4], ⟨true, [], [AV.agg [AV.int .i64 h0_0, AV.int .i64 h0_1]]⟩), ([0, 6], ⟨false, [.int .i64], h1⟩)]⟩) := by kernel_rfl
theorem st29_2 (t1 : List AV) (t7 : Int) (t8 : Int) (h0_0 : Int) (h0_1 : Int) (h1 : List AV) (ce : CallE) (k : Kont) (s : Int) (next : St → Option AV) : stepA (codeA c29 ce [] 29 2 (sub [1, 1, 1, 1, 1, 1, 1, 0, 0, 0] (body Try.f29))) (normA [] [1, 4, 6, 7, 8, 11]) next ((fun s : Int => ⟨[(1, AV.sl [.int .i64, .int .i64] t1), (4, AV.ptr [0, 4] 0 0), (6, AV.own [0, 6]), (7, AV.int .i64 t7), (8, AV.int .i64 t8), (11, AV.int .i64 s)], [([0, 4], ⟨true, [], [AV.agg [AV.int .i64 h0_0, AV.int .i64 h0_1]]⟩), ([0, 6], ⟨false, [.int .i64], h1⟩)]⟩) s) k = (R29_2 t1 t7 t8 h0_0 h0_1 h1 s).el none (fun s => next ((fun s : Int => ⟨[(1, AV.sl [.int .i64, .int .i64] t1), (4, AV.ptr [0, 4] 0 0), (6, AV.own [0, 6]), (7, AV.int .i64 t7), (8, AV.int .i64 t8), (11, AV.int .i64 s)], [([0, 4], ⟨true, [], [AV.agg [AV.int .i64 h0_0, AV.int .i64 h0_1]]⟩), ([0, 6], ⟨false, [.int .i64], h1⟩)]⟩) s)) (sumE (fun p : Int × (List AV) => k (.exit 2) ⟨[(4, AV.ptr [0, 4] 0 0), (6, AV.own [0, 6]), (7, AV.int .i64 t7), (8, AV.int .i64 t8), (11, AV.int .i64 p.1)], [([0, 4], ⟨true, [], [AV.agg [AV.int .i64 h0_0, AV.int .i64 h0_1]]⟩), ([0, 6], ⟨false, [.int .i64], h1⟩), ([1, 55], ⟨false, [.int .i64], p.2⟩)]⟩) (fun p : Int => k (.exit 2) ⟨[(4, AV.ptr [0, 4] 0 0), (6, AV.own [0, 6]), (7, AV.int .i64 t7), (8, AV.int .i64 t8), (11, AV.int .i64 p)], [([0, 4], ⟨true, [], [AV.agg [AV.int .i64 h0_0, AV.int .i64 h0_1]]⟩), ([0, 6], ⟨false, [.int .i64], h1⟩)]⟩)) := (s29_2 ce t1 t7 t8 s h0_0 h0_1 h1 next k).trans (by unfold R29_2; unfold F29_2; simp only [el_cond, el_ro, el_sum, el_fail, el_next, el_stop] <;> rfl)
theorem ok29_2 {ce : CallE} : LoopOK c29 ce [] 29 2 (sub [1, 1, 1, 1, 1, 1, 1, 0, 0, 0] (body Try.f29)) := by
  intro m hm st k r h
  obtain rfl : l29_2 = m := Option.some.inj hm
  unfold l29_2 at h
  split at h
  · rename_i g0 t1 g1 g2 g3 g4 t7 t8 t11 g5 h0_0 h0_1 g6 g7 h1
    obtain ⟨hg, h⟩ := bif_some h
    simp only [Bool.and_eq_true] at hg
    obtain ⟨⟨⟨⟨⟨⟨⟨q0, q1⟩, q2⟩, q3⟩, q4⟩, q5⟩, q6⟩, q7⟩ := hg
    obtain rfl := ctsEq_eq _ _ q0
    obtain rfl := (nmEq_iff _ _).1 q1
    obtain rfl := Nat.eq_of_beq_eq_true q2
    obtain rfl := Nat.eq_of_beq_eq_true q3
    obtain rfl := (nmEq_iff _ _).1 q4
    obtain rfl := (nmEq_iff _ _).1 q5
    obtain rfl := (nmEq_iff _ _).1 q6
    obtain rfl := ctsEq_eq _ _ q7
    refine ⟨(((h1.length : Int) - (IntKind.i64.wrap (t11 + 1))).toNat + 1), ?_⟩
    rw [← h]
    exact loop_run (fun s : Int => ⟨[(1, AV.sl [.int .i64, .int .i64] t1), (4, AV.ptr [0, 4] 0 0), (6, AV.own [0, 6]), (7, AV.int .i64 t7), (8, AV.int .i64 t8), (11, AV.int .i64 s)], [([0, 4], ⟨true, [], [AV.agg [AV.int .i64 h0_0, AV.int .i64 h0_1]]⟩), ([0, 6], ⟨false, [.int .i64], h1⟩)]⟩) (sumE (fun p : Int × (List AV) => k (.exit 2) ⟨[(4, AV.ptr [0, 4] 0 0), (6, AV.own [0, 6]), (7, AV.int .i64 t7), (8, AV.int .i64 t8), (11, AV.int .i64 p.1)], [([0, 4], ⟨true, [], [AV.agg [AV.int .i64 h0_0, AV.int .i64 h0_1]]⟩), ([0, 6], ⟨false, [.int .i64], h1⟩), ([1, 55], ⟨false, [.int .i64], p.2⟩)]⟩) (fun p : Int => k (.exit 2) ⟨[(4, AV.ptr [0, 4] 0 0), (6, AV.own [0, 6]), (7, AV.int .i64 t7), (8, AV.int .i64 t8), (11, AV.int .i64 p)], [([0, 4], ⟨true, [], [AV.agg [AV.int .i64 h0_0, AV.int .i64 h0_1]]⟩), ([0, 6], ⟨false, [.int .i64], h1⟩)]⟩)) (st29_2 t1 t7 t8 h0_0 h0_1 h1 ce k) _ t11
  · cases h
theorem s29_0 (ce : CallE) (t1 : List AV) (t7 : Int) (t8 : Int) (t9 : Int) (h0_0 : Int) (h0_1 : Int) (h1 : List AV) (next : St → Option AV) (k : Kont) : stepA (codeA c29 ce [] 29 0 (sub [1, 1, 1, 1, 1, 0, 1, 0, 0] (body Try.f29))) (normA [] [1, 4, 6, 7, 8, 9]) next ⟨[(1, AV.sl [.int .i64, .int .i64] t1), (4, AV.ptr [0, 4] 0 0), (6, AV.own [0, 6]), (7, AV.int .i64 t7), (8, AV.int .i64 t8), (9, AV.int .i64 t9)], [([0, 4], ⟨true, [], [AV.agg [AV.int .i64 h0_0, AV.int .i64 h0_1]]⟩), ([0, 6], ⟨false, [.int .i64], h1⟩)]⟩ k = (bif decide (t9 < (h1.length : Int)) then (bif (decide (0 ≤ t9) && decide (t9 < (h1.length : Int))) then (bif q86 t1 (fI (h1.getD t9.toNat AV.undef) 0) then (bif decide (((v86_0 t1 (fI (h1.getD t9.toNat AV.undef) 0)).length : Int) > t8) then next ⟨[(1, AV.sl [.int .i64, .int .i64] t1), (4, AV.ptr [0, 4] 0 0), (6, AV.own [0, 6]), (7, AV.int .i64 t9), (8, AV.int .i64 ((v86_0 t1 (fI (h1.getD t9.toNat AV.undef) 0)).length : Int)), (9, AV.int .i64 (IntKind.i64.wrap (t9 + 1)))], [([0, 4], ⟨true, [], [AV.agg [AV.int .i64 h0_0, AV.int .i64 h0_1]]⟩), ([0, 6], ⟨false, [.int .i64], h1⟩)]⟩
     else next ⟨[(1, AV.sl [.int .i64, .int .i64] t1), (4, AV.ptr [0, 4] 0 0), (6, AV.own [0, 6]), (7, AV.int .i64 t7), (8, AV.int .i64 t8), (9, AV.int .i64 (IntKind.i64.wrap (t9 + 1)))], [([0, 4], ⟨true, [], [AV.agg [AV.int .i64 h0_0, AV.int .i64 h0_1]]⟩), ([0, 6], ⟨false, [.int .i64], h1⟩)]⟩)
    else none)
   else none)
  else k (.exit 0) ⟨[(1, AV.sl [.int .i64, .int .i64] t1), (4, AV.ptr [0, 4] 0 0), (6, AV.own [0, 6]), (7, AV.int .i64 t7), (8, AV.int .i64 t8)], [([0, 4], ⟨true, [], [AV.agg [AV.int .i64 h0_0, AV.int .i64 h0_1]]⟩), ([0, 6], ⟨false, [.int .i64], h1⟩)]⟩) := by kernel_rfl
theorem st29_0 (t1 : List AV) (h0_0 : Int) (h0_1 : Int) (h1 : List AV) (ce : CallE) (k : Kont) (s : (Int × Int × Int)) (next : St → Option AV) : stepA (codeA c29 ce [] 29 0 (sub [1, 1, 1, 1, 1, 0, 1, 0, 0] (body Try.f29))) (normA [] [1, 4, 6, 7, 8, 9]) next ((fun s : Int × Int × Int => ⟨[(1, AV.sl [.int .i64, .int .i64] t1), (4, AV.ptr [0, 4] 0 0), (6, AV.own [0, 6]), (7, AV.int .i64 s.1), (8, AV.int .i64 s.2.1), (9, AV.int .i64 s.2.2)], [([0, 4], ⟨true, [], [AV.agg [AV.int .i64 h0_0, AV.int .i64 h0_1]]⟩), ([0, 6], ⟨false, [.int .i64], h1⟩)]⟩) s) k = (R29_0 t1 h0_0 h0_1 h1 s).el none (fun s => next ((fun s : Int × Int × Int => ⟨[(1, AV.sl [.int .i64, .int .i64] t1), (4, AV.ptr [0, 4] 0 0), (6, AV.own [0, 6]), (7, AV.int .i64 s.1), (8, AV.int .i64 s.2.1), (9, AV.int .i64 s.2.2)], [([0, 4], ⟨true, [], [AV.agg [AV.int .i64 h0_0, AV.int .i64 h0_1]]⟩), ([0, 6], ⟨false, [.int .i64], h1⟩)]⟩) s)) (fun p : Int × Int => k (.exit 0) ⟨[(1, AV.sl [.int .i64, .int .i64] t1), (4, AV.ptr [0, 4] 0 0), (6, AV.own [0, 6]), (7, AV.int .i64 p.1), (8, AV.int .i64 p.2)], [([0, 4], ⟨true, [], [AV.agg [AV.int .i64 h0_0, AV.int .i64 h0_1]]⟩), ([0, 6], ⟨false, [.int .i64], h1⟩)]⟩) := (s29_0 ce t1 s.1 s.2.1 s.2.2 h0_0 h0_1 h1 next k).trans (by unfold R29_0; unfold F29_0; simp only [el_cond, el_ro, el_sum, el_fail, el_next, el_stop] <;> rfl)
theorem ok29_0 {ce : CallE} : LoopOK c29 ce [] 29 0 (sub [1, 1, 1, 1, 1, 0, 1, 0, 0] (body Try.f29)) := by
  intro m hm st k r h
  obtain rfl : l29_0 = m := Option.some.inj hm
  unfold l29_0 at h
  split at h
  · rename_i g0 t1 g1 g2 g3 g4 t7 t8 t9 g5 h0_0 h0_1 g6 g7 h1
    obtain ⟨hg, h⟩ := bif_some h
    simp only [Bool.and_eq_true] at hg
    obtain ⟨⟨⟨⟨⟨⟨⟨q0, q1⟩, q2⟩, q3⟩, q4⟩, q5⟩, q6⟩, q7⟩ := hg
    obtain rfl := ctsEq_eq _ _ q0
    obtain rfl := (nmEq_iff _ _).1 q1
    obtain rfl := Nat.eq_of_beq_eq_true q2
    obtain rfl := Nat.eq_of_beq_eq_true q3
    obtain rfl := (nmEq_iff _ _).1 q4
    obtain rfl := (nmEq_iff _ _).1 q5
    obtain rfl := (nmEq_iff _ _).1 q6
    obtain rfl := ctsEq_eq _ _ q7
    refine ⟨(((h1.length : Int) - t9).toNat + 1), ?_⟩
    rw [← h]
    exact loop_run (fun s : Int × Int × Int => ⟨[(1, AV.sl [.int .i64, .int .i64] t1), (4, AV.ptr [0, 4] 0 0), (6, AV.own [0, 6]), (7, AV.int .i64 s.1), (8, AV.int .i64 s.2.1), (9, AV.int .i64 s.2.2)], [([0, 4], ⟨true, [], [AV.agg [AV.int .i64 h0_0, AV.int .i64 h0_1]]⟩), ([0, 6], ⟨false, [.int .i64], h1⟩)]⟩) (fun p : Int × Int => k (.exit 0) ⟨[(1, AV.sl [.int .i64, .int .i64] t1), (4, AV.ptr [0, 4] 0 0), (6, AV.own [0, 6]), (7, AV.int .i64 p.1), (8, AV.int .i64 p.2)], [([0, 4], ⟨true, [], [AV.agg [AV.int .i64 h0_0, AV.int .i64 h0_1]]⟩), ([0, 6], ⟨false, [.int .i64], h1⟩)]⟩) (st29_0 t1 h0_0 h0_1 h1 ce k) _ (t7, t8, t9)
  · cases h
def q29 (a0 : List AV) (a1 : List AV) : Bool := (q84 a0 && (q85 a0 a1 && (bif !(v85_0 a0 a1) then true else (bif decide ((a0.length : Int) = 0) then true else (ro (runW (R29_0 a1 0 0 (v84_0 a0)) ((((v84_0 a0).length : Int) - 0).toNat + 1) (0, (-1), 0)) false (fun p10 => (ro (runW (R29_2 a1 p10.1 p10.2 0 0 (v84_0 a0)) ((((v84_0 a0).length : Int) - (IntKind.i64.wrap (p10.1 + 1))).toNat + 1) p10.1) false (sumE (fun p11 => ((decide (0 ≤ p10.1) && decide (p10.1 < ((v84_0 a0).length : Int))) && (decide (0 ≤ p11.1) && decide (p11.1 < ((v84_0 a0).length : Int))))) (fun p12 => ((decide (0 ≤ p10.1) && decide (p10.1 < ((v84_0 a0).length : Int))) && (decide (0 ≤ p12) && decide (p12 < ((v84_0 a0).length : Int)))))))))))))
def v29_0 (a0 : List AV) (a1 : List AV) : Int := (bif !(v85_0 a0 a1) then 0 else (bif decide ((a0.length : Int) = 0) then 0 else (ro (runW (R29_0 a1 0 0 (v84_0 a0)) ((((v84_0 a0).length : Int) - 0).toNat + 1) (0, (-1), 0)) 0 (fun p10 => fI ((v84_0 a0).getD p10.1.toNat AV.undef) 0))))
def v29_1 (a0 : List AV) (a1 : List AV) : Int := (bif !(v85_0 a0 a1) then 0 else (bif decide ((a0.length : Int) = 0) then 0 else (ro (runW (R29_0 a1 0 0 (v84_0 a0)) ((((v84_0 a0).length : Int) - 0).toNat + 1) (0, (-1), 0)) 0 (fun p10 => (ro (runW (R29_2 a1 p10.1 p10.2 0 0 (v84_0 a0)) ((((v84_0 a0).length : Int) - (IntKind.i64.wrap (p10.1 + 1))).toNat + 1) p10.1) 0 (sumE (fun p11 => IntKind.i64.wrap (fI ((v84_0 a0).getD p11.1.toNat AV.undef) 0 + 1)) (fun p12 => IntKind.i64.wrap (fI ((v84_0 a0).getD p12.toNat AV.undef) 0 + 1))))))))
def v29_2 (a0 : List AV) (a1 : List AV) : Int := (bif !(v85_0 a0 a1) then 0 else (bif decide ((a0.length : Int) = 0) then 0 else (ro (runW (R29_0 a1 0 0 (v84_0 a0)) ((((v84_0 a0).length : Int) - 0).toNat + 1) (0, (-1), 0)) 0 (fun p10 => p10.2))))
theorem e29 (a0 : List AV) (a1 : List AV) : funA c29 0 29 [AV.sl [.int .i64] a0, AV.sl [.int .i64, .int .i64] a1] = (bif q84 a0 then (bif q85 a0 a1 then (bif !(v85_0 a0 a1) then some (AV.tup [AV.agg [AV.int .i64 0, AV.int .i64 0], AV.int .i64 0])
    else (bif decide ((a0.length : Int) = 0) then some (AV.tup [AV.agg [AV.int .i64 0, AV.int .i64 0], AV.int .i64 0])
     else (ro (runW (R29_0 a1 0 0 (v84_0 a0)) ((((v84_0 a0).length : Int) - 0).toNat + 1) (0, (-1), 0)) none (fun p10 => (ro (runW (R29_2 a1 p10.1 p10.2 0 0 (v84_0 a0)) ((((v84_0 a0).length : Int) - (IntKind.i64.wrap (p10.1 + 1))).toNat + 1) p10.1) none (sumE (fun p11 => (bif (decide (0 ≤ p10.1) && decide (p10.1 < ((v84_0 a0).length : Int))) then (bif (decide (0 ≤ p11.1) && decide (p11.1 < ((v84_0 a0).length : Int))) then some (AV.tup [AV.agg [AV.int .i64 (fI ((v84_0 a0).getD p10.1.toNat AV.undef) 0), AV.int .i64 (IntKind.i64.wrap (fI ((v84_0 a0).getD p11.1.toNat AV.undef) 0 + 1))], AV.int .i64 p10.2])
         else none)
        else none)) (fun p12 => (bif (decide (0 ≤ p10.1) && decide (p10.1 < ((v84_0 a0).length : Int))) then (bif (decide (0 ≤ p12) && decide (p12 < ((v84_0 a0).length : Int))) then some (AV.tup [AV.agg [AV.int .i64 (fI ((v84_0 a0).getD p10.1.toNat AV.undef) 0), AV.int .i64 (IntKind.i64.wrap (fI ((v84_0 a0).getD p12.toNat AV.undef) 0 + 1))], AV.int .i64 p10.2])
         else none)
        else none))))))))
   else none)
  else none) := by kernel_rfl
theorem r29 (a0 : List AV) (a1 : List AV) (h : q29 a0 a1 = true) : funA c29 0 29 [AV.sl [.int .i64] a0, AV.sl [.int .i64, .int .i64] a1] = some (AV.tup [AV.agg [AV.int .i64 (v29_0 a0 a1), AV.int .i64 (v29_1 a0 a1)], AV.int .i64 (v29_2 a0 a1)]) := by
  refine (e29 a0 a1).trans ?_
  revert h
  unfold q29 v29_0 v29_1 v29_2
  intro h
  simp only [Bool.and_eq_true] at h
  obtain ⟨h1, h2, h3⟩ := h
  rw [h1, h2]
  simp only [cond_true]
  cases hv : v85_0 a0 a1 with
  | false => simp only [Bool.not_false, cond_true]
  | true =>
    rw [hv] at h3
    simp only [Bool.not_true, cond_false] at h3 ⊢
    cases hd : decide ((a0.length : Int) = 0) with
    | true => simp only [cond_true]
    | false =>
      rw [hd] at h3
      simp only [cond_false] at h3 ⊢
      cases ho : runW (R29_0 a1 0 0 (v84_0 a0)) ((((v84_0 a0).length : Int) - 0).toNat + 1) (0, (-1), 0) with
      | none => rw [ho] at h3; cases h3
      | some p =>
        rw [ho] at h3
        simp only [ro] at h3 ⊢
        cases hi : runW (R29_2 a1 p.1 p.2 0 0 (v84_0 a0)) ((((v84_0 a0).length : Int) - (IntKind.i64.wrap (p.1 + 1))).toNat + 1) p.1 with
        | none => rw [hi] at h3; cases h3
        | some s =>
          rw [hi] at h3
          cases s with
          | inl s =>
            simp only [sumE, Bool.and_eq_true] at h3 ⊢
            obtain ⟨⟨k1, k2⟩, k3, k4⟩ := h3
            simp only [k1, k2, k3, k4, Bool.and_self, cond_true]
          | inr s =>
            simp only [sumE, Bool.and_eq_true] at h3 ⊢
            obtain ⟨⟨k1, k2⟩, k3, k4⟩ := h3
            simp only [k1, k2, k3, k4, Bool.and_self, cond_true]
def m29 : TModel
  | [.sl g0 a0, .sl g1 a1] => bif ctsEq g0 ([.int .i64]) && ctsEq g1 ([.int .i64, .int .i64]) then some (q29 a0 a1, AV.tup [AV.agg [AV.int .i64 (v29_0 a0 a1), AV.int .i64 (v29_1 a0 a1)], AV.int .i64 (v29_2 a0 a1)]) else none
  | _ => none
theorem k29 : Known Try.prog 29 := ⟨Try.f29, Try.func29, by kernel_rfl, by kernel_rfl⟩
theorem meets29 : Meets Try.prog 29 m29 := by
  refine meet (f := Try.f29) (l := [(0, sub [1, 1, 1, 1, 1, 0, 1, 0, 0] (body Try.f29)), (2, sub [1, 1, 1, 1, 1, 1, 1, 0, 0, 0] (body Try.f29))]) (hs := [(29, 0, [1, 4, 6, 7, 8, 9]), (29, 2, [1, 4, 6, 7, 8, 11]), (29, 999, [4, 5]), (29, 1000, [1, 4, 6, 7, 8]), (29, 1001, [1, 4, 6, 7, 8, 9]), (29, 1002, [4, 6, 7, 8, 11]), (29, 1003, [1, 4, 6, 7, 8, 11])]) (ts := [(84, m84), (85, m85), (86, m86)]) (ws := []) (is := []) (ls := [(29, 0, l29_0), (29, 2, l29_2)]) (lvl := 0) mixed k29 Try.func29 (by kernel_rfl) (loops_cons ok29_0 (loops_cons ok29_2 noLoop)) (allT_cons meets84 (allT_cons meets85 (allT_cons meets86 allT_nil))) allM_nil noI fun w xs us r hl hv h => ?_
  unfold m29 at h
  split at h
  · rename_i g0 a0 g1 a1
    obtain ⟨hg, h⟩ := bif_pair h
    simp only [Bool.and_eq_true] at hg
    obtain ⟨q0, q1⟩ := hg
    obtain rfl := ctsEq_eq _ _ q0
    obtain rfl := ctsEq_eq _ _ q1
    obtain ⟨h1, rfl⟩ := pair_inj h
    exact r29 a0 a1 h1
  · cases h

/-! ### 163 loop.example/g01984/impl.within$1 -/
noncomputable def c163 : Cfg := cfg Try.prog [(163, 999, [4])] [] [] [] []
def q163 (a0 : Int) (a1 : AV) (a2 : AV) : Bool := true
def v163_0 (a0 : Int) (a1 : AV) (a2 : AV) : Bool := (bif decide (a0 < fI a1 0) then true else decide (a0 > fI a2 0))
theorem e163 (a0 : Int) (a1 : AV) (a2 : AV) : funA c163 0 163 [AV.int .i64 a0, AV.rptr [.int .i64] a1 0, AV.rptr [.int .i64] a2 0] = (bif decide (a0 < fI a1 0) then some (AV.bool true)
  else some (AV.bool (decide (a0 > fI a2 0)))) := by kernel_rfl
theorem r163 (a0 : Int) (a1 : AV) (a2 : AV) : funA c163 0 163 [AV.int .i64 a0, AV.rptr [.int .i64] a1 0, AV.rptr [.int .i64] a2 0] = some (AV.bool (v163_0 a0 a1 a2)) := (e163 a0 a1 a2).trans (of_tt (brT (fun b => some (AV.bool (bif b then true else decide (a0 > fI a2 0)))) (fun _ => rfl) (fun _ => rfl)))
def m163 : TModel
  | [.int .i64 a0, .rptr g0 a1 g1, .rptr g2 a2 g3] => bif ctsEq g0 ([.int .i64]) && Nat.beq g1 0 && ctsEq g2 ([.int .i64]) && Nat.beq g3 0 then some (true, AV.bool (v163_0 a0 a1 a2)) else none
  | _ => none
theorem k163 : Known Try.prog 163 := ⟨Try.f163, Try.func163, by kernel_rfl, by kernel_rfl⟩
theorem meets163 : Meets Try.prog 163 m163 := by
  refine meet (f := Try.f163) (l := []) (hs := [(163, 999, [4])]) (ts := []) (ws := []) (is := []) (ls := []) (lvl := 0) mixed k163 Try.func163 (by kernel_rfl) noLoop allT_nil allM_nil noI fun w xs us r hl hv h => ?_
  unfold m163 at h
  split at h
  · rename_i a0 g0 a1 g1 g2 a2 g3
    obtain ⟨hg, h⟩ := bif_pair h
    simp only [Bool.and_eq_true] at hg
    obtain ⟨⟨⟨q0, q1⟩, q2⟩, q3⟩ := hg
    obtain rfl := ctsEq_eq _ _ q0
    obtain rfl := Nat.eq_of_beq_eq_true q1
    obtain rfl := ctsEq_eq _ _ q2
    obtain rfl := Nat.eq_of_beq_eq_true q3
    obtain ⟨h1, rfl⟩ := pair_inj h
    exact r163 a0 a1 a2
  · cases h

/-! ### 178 slices.IndexFunc[[]int,int] -/
def F178_0 (t0 : List AV) (t1_0 : AV) (t1_1 : AV) (t7 : Int) (t8 : Int) : Out (Int) (Unit ⊕ Int) := (bif decide (t8 < t7) then (bif (decide (0 ≤ t8) && decide (t8 < (t0.length : Int))) then (bif (v163_0 (fI (t0.getD t8.toNat AV.undef) 0) t1_0 t1_1) then .stop (.inr t8)
    else .next (IntKind.i64.wrap (t8 + 1)))
   else .fail)
  else .stop (.inl ()))
def R178_0 (t0 : List AV) (t1_0 : AV) (t1_1 : AV) (t7 : Int) : (Int) → Out (Int) (Unit ⊕ Int) := fun s : Int => F178_0 t0 t1_0 t1_1 t7 s
def l178_0 : LModel := fun _ _ st k => match st with
  | ⟨[(0, .sl g0 t0), (1, .fn g1 [.rptr g2 t1_0 g3, .rptr g4 t1_1 g5]), (7, .int .i64 t7), (8, .int .i64 t8)], []⟩ => bif ctsEq g0 ([.int .i64]) && Nat.beq g1 163 && ctsEq g2 ([.int .i64]) && Nat.beq g3 0 && ctsEq g4 ([.int .i64]) && Nat.beq g5 0 then ro (runW (R178_0 t0 t1_0 t1_1 t7) ((t7 - t8).toNat + 1) t8) none (sumE (fun _ : Unit => k (.exit 0) ⟨[], []⟩) (fun p : Int => k .ret ⟨[(4, AV.int .i64 p)], []⟩)) else none
  | _ => none
noncomputable def c178 : Cfg := cfg Try.prog [(178, 0, [0, 1, 7, 8]), (178, 999, [4]), (178, 1000, []), (178, 1001, [0, 1, 7, 8])] [(163, m163)] [] [] [(178, 0, l178_0)]
theorem s178_0 (ce : CallE) (t0 : List AV) (t1_0 : AV) (t1_1 : AV) (t7 : Int) (t8 : Int) (next : St → Option AV) (k : Kont) : stepA (codeA c178 ce [] 178 0 (sub [1, 0, 1, 0, 0] (body Try.f178))) (normA [] [0, 1, 7, 8]) next ⟨[(0, AV.sl [.int .i64] t0), (1, AV.fn 163 [AV.rptr [.int .i64] t1_0 0, AV.rptr [.int .i64] t1_1 0]), (7, AV.int .i64 t7), (8, AV.int .i64 t8)], []⟩ k = (bif decide (t8 < t7) then (bif (decide (0 ≤ t8) && decide (t8 < (t0.length : Int))) then (bif (v163_0 (fI (t0.getD t8.toNat AV.undef) 0) t1_0 t1_1) then k .ret ⟨[(4, AV.int .i64 t8)], []⟩
    else next ⟨[(0, AV.sl [.int .i64] t0), (1, AV.fn 163 [AV.rptr [.int .i64] t1_0 0, AV.rptr [.int .i64] t1_1 0]), (7, AV.int .i64 t7), (8, AV.int .i64 (IntKind.i64.wrap (t8 + 1)))], []⟩)
   else none)
  else k (.exit 0) ⟨[], []⟩) := by kernel_rfl
theorem st178_0 (t0 : List AV) (t1_0 : AV) (t1_1 : AV) (t7 : Int) (ce : CallE) (k : Kont) (s : Int) (next : St → Option AV) : stepA (codeA c178 ce [] 178 0 (sub [1, 0, 1, 0, 0] (body Try.f178))) (normA [] [0, 1, 7, 8]) next ((fun s : Int => ⟨[(0, AV.sl [.int .i64] t0), (1, AV.fn 163 [AV.rptr [.int .i64] t1_0 0, AV.rptr [.int .i64] t1_1 0]), (7, AV.int .i64 t7), (8, AV.int .i64 s)], []⟩) s) k = (R178_0 t0 t1_0 t1_1 t7 s).el none (fun s => next ((fun s : Int => ⟨[(0, AV.sl [.int .i64] t0), (1, AV.fn 163 [AV.rptr [.int .i64] t1_0 0, AV.rptr [.int .i64] t1_1 0]), (7, AV.int .i64 t7), (8, AV.int .i64 s)], []⟩) s)) (sumE (fun _ : Unit => k (.exit 0) ⟨[], []⟩) (fun p : Int => k .ret ⟨[(4, AV.int .i64 p)], []⟩)) := (s178_0 ce t0 t1_0 t1_1 t7 s next k).trans (by unfold R178_0; unfold F178_0; simp only [el_cond, el_ro, el_sum, el_fail, el_next, el_stop] <;> rfl)
theorem ok178_0 {ce : CallE} : LoopOK c178 ce [] 178 0 (sub [1, 0, 1, 0, 0] (body Try.f178)) := by
  intro m hm st k r h
  obtain rfl : l178_0 = m := Option.some.inj hm
  unfold l178_0 at h
  split at h
  · rename_i g0 t0 g1 g2 t1_0 g3 g4 t1_1 g5 t7 t8
    obtain ⟨hg, h⟩ := bif_some h
    simp only [Bool.and_eq_true] at hg
    obtain ⟨⟨⟨⟨⟨q0, q1⟩, q2⟩, q3⟩, q4⟩, q5⟩ := hg
    obtain rfl := ctsEq_eq _ _ q0
    obtain rfl := Nat.eq_of_beq_eq_true q1
    obtain rfl := ctsEq_eq _ _ q2
    obtain rfl := Nat.eq_of_beq_eq_true q3
    obtain rfl := ctsEq_eq _ _ q4
    obtain rfl := Nat.eq_of_beq_eq_true q5
    refine ⟨((t7 - t8).toNat + 1), ?_⟩
    rw [← h]
    exact loop_run (fun s : Int => ⟨[(0, AV.sl [.int .i64] t0), (1, AV.fn 163 [AV.rptr [.int .i64] t1_0 0, AV.rptr [.int .i64] t1_1 0]), (7, AV.int .i64 t7), (8, AV.int .i64 s)], []⟩) (sumE (fun _ : Unit => k (.exit 0) ⟨[], []⟩) (fun p : Int => k .ret ⟨[(4, AV.int .i64 p)], []⟩)) (st178_0 t0 t1_0 t1_1 t7 ce k) _ t8
  · cases h
def q178 (a0 : List AV) (a1_0 : AV) (a1_1 : AV) : Bool := (ro (runW (R178_0 a0 a1_0 a1_1 (a0.length : Int)) (((a0.length : Int) - 0).toNat + 1) 0) false (sumE (fun _ => true) (fun p14 => true)))
def v178_0 (a0 : List AV) (a1_0 : AV) (a1_1 : AV) : Int := (ro (runW (R178_0 a0 a1_0 a1_1 (a0.length : Int)) (((a0.length : Int) - 0).toNat + 1) 0) 0 (sumE (fun _ => (-1)) (fun p14 => p14)))
theorem e178 (a0 : List AV) (a1_0 : AV) (a1_1 : AV) : funA c178 0 178 [AV.sl [.int .i64] a0, AV.fn 163 [AV.rptr [.int .i64] a1_0 0, AV.rptr [.int .i64] a1_1 0]] = (ro (runW (R178_0 a0 a1_0 a1_1 (a0.length : Int)) (((a0.length : Int) - 0).toNat + 1) 0) none (sumE (fun _ => some (AV.int .i64 (-1))) (fun p14 => some (AV.int .i64 p14)))) := by kernel_rfl
theorem r178 (a0 : List AV) (a1_0 : AV) (a1_1 : AV) (h : q178 a0 a1_0 a1_1 = true) : funA c178 0 178 [AV.sl [.int .i64] a0, AV.fn 163 [AV.rptr [.int .i64] a1_0 0, AV.rptr [.int .i64] a1_1 0]] = some (AV.int .i64 (v178_0 a0 a1_0 a1_1)) := (e178 a0 a1_0 a1_1).trans ((brO (fun o : Option (Unit ⊕ Int) => some (AV.int .i64 (ro o 0 (sumE (fun _ => (-1)) (fun p14 => p14))))) (brS (fun o : Unit ⊕ Int => some (AV.int .i64 ((sumE (fun _ => (-1)) (fun p14 => p14)) o))) (fun _ => (fun _ => rfl)) (fun p14 => (fun _ => rfl)))) h)
def m178 : TModel
  | [.sl g0 a0, .fn g1 [.rptr g2 a1_0 g3, .rptr g4 a1_1 g5]] => bif ctsEq g0 ([.int .i64]) && Nat.beq g1 163 && ctsEq g2 ([.int .i64]) && Nat.beq g3 0 && ctsEq g4 ([.int .i64]) && Nat.beq g5 0 then some (q178 a0 a1_0 a1_1, AV.int .i64 (v178_0 a0 a1_0 a1_1)) else none
  | _ => none
theorem k178 : Known Try.prog 178 := ⟨Try.f178, Try.func178, by kernel_rfl, by kernel_rfl⟩
theorem meets178 : Meets Try.prog 178 m178 := by
  refine meet (f := Try.f178) (l := [(0, sub [1, 0, 1, 0, 0] (body Try.f178))]) (hs := [(178, 0, [0, 1, 7, 8]), (178, 999, [4]), (178, 1000, []), (178, 1001, [0, 1, 7, 8])]) (ts := [(163, m163)]) (ws := []) (is := []) (ls := [(178, 0, l178_0)]) (lvl := 0) mixed k178 Try.func178 (by kernel_rfl) (loops_cons ok178_0 noLoop) (allT_cons meets163 allT_nil) allM_nil noI fun w xs us r hl hv h => ?_
  unfold m178 at h
  split at h
  · rename_i g0 a0 g1 g2 a1_0 g3 g4 a1_1 g5
    obtain ⟨hg, h⟩ := bif_pair h
    simp only [Bool.and_eq_true] at hg
    obtain ⟨⟨⟨⟨⟨q0, q1⟩, q2⟩, q3⟩, q4⟩, q5⟩ := hg
    obtain rfl := ctsEq_eq _ _ q0
    obtain rfl := Nat.eq_of_beq_eq_true q1
    obtain rfl := ctsEq_eq _ _ q2
    obtain rfl := Nat.eq_of_beq_eq_true q3
    obtain rfl := ctsEq_eq _ _ q4
    obtain rfl := Nat.eq_of_beq_eq_true q5
    obtain ⟨h1, rfl⟩ := pair_inj h
    exact r178 a0 a1_0 a1_1 h1
  · cases h

/-! ### 162 slices.ContainsFunc[[]int,int] -/
noncomputable def c162 : Cfg := cfg Try.prog [(162, 999, [4])] [(178, m178)] [] [] []
def q162 (a0 : List AV) (a1_0 : AV) (a1_1 : AV) : Bool := q178 a0 a1_0 a1_1
def v162_0 (a0 : List AV) (a1_0 : AV) (a1_1 : AV) : Bool := decide ((v178_0 a0 a1_0 a1_1) ≥ 0)
theorem e162 (a0 : List AV) (a1_0 : AV) (a1_1 : AV) : funA c162 0 162 [AV.sl [.int .i64] a0, AV.fn 163 [AV.rptr [.int .i64] a1_0 0, AV.rptr [.int .i64] a1_1 0]] = (bif q178 a0 a1_0 a1_1 then some (AV.bool (decide ((v178_0 a0 a1_0 a1_1) ≥ 0)))
  else none) := by kernel_rfl
theorem r162 (a0 : List AV) (a1_0 : AV) (a1_1 : AV) (h : q162 a0 a1_0 a1_1 = true) : funA c162 0 162 [AV.sl [.int .i64] a0, AV.fn 163 [AV.rptr [.int .i64] a1_0 0, AV.rptr [.int .i64] a1_1 0]] = some (AV.bool (v162_0 a0 a1_0 a1_1)) := (e162 a0 a1_0 a1_1).trans ((brL1 (fun _ => rfl)) h)
def m162 : TModel
  | [.sl g0 a0, .fn g1 [.rptr g2 a1_0 g3, .rptr g4 a1_1 g5]] => bif ctsEq g0 ([.int .i64]) && Nat.beq g1 163 && ctsEq g2 ([.int .i64]) && Nat.beq g3 0 && ctsEq g4 ([.int .i64]) && Nat.beq g5 0 then some (q162 a0 a1_0 a1_1, AV.bool (v162_0 a0 a1_0 a1_1)) else none
  | _ => none
theorem k162 : Known Try.prog 162 := ⟨Try.f162, Try.func162, by kernel_rfl, by kernel_rfl⟩
theorem meets162 : Meets Try.prog 162 m162 := by
  refine meet (f := Try.f162) (l := []) (hs := [(162, 999, [4])]) (ts := [(178, m178)]) (ws := []) (is := []) (ls := []) (lvl := 0) mixed k162 Try.func162 (by kernel_rfl) noLoop (allT_cons meets178 allT_nil) allM_nil noI fun w xs us r hl hv h => ?_
  unfold m162 at h
  split at h
  · rename_i g0 a0 g1 g2 a1_0 g3 g4 a1_1 g5
    obtain ⟨hg, h⟩ := bif_pair h
    simp only [Bool.and_eq_true] at hg
    obtain ⟨⟨⟨⟨⟨q0, q1⟩, q2⟩, q3⟩, q4⟩, q5⟩ := hg
    obtain rfl := ctsEq_eq _ _ q0
    obtain rfl := Nat.eq_of_beq_eq_true q1
    obtain rfl := ctsEq_eq _ _ q2
    obtain rfl := Nat.eq_of_beq_eq_true q3
    obtain rfl := ctsEq_eq _ _ q4
    obtain rfl := Nat.eq_of_beq_eq_true q5
    obtain ⟨h1, rfl⟩ := pair_inj h
    exact r162 a0 a1_0 a1_1 h1
  · cases h

/-! ### 124 loop.example/g01984/impl.within -/
noncomputable def c124 : Cfg := cfg Try.prog [(124, 999, [6])] [(162, m162)] [] [] []
def q124 (a0 : List AV) (a1 : Int) (a2 : Int) : Bool := q162 a0 (AV.int .i64 a1) (AV.int .i64 a2)
def v124_0 (a0 : List AV) (a1 : Int) (a2 : Int) : Bool := !(v162_0 a0 (AV.int .i64 a1) (AV.int .i64 a2))
theorem e124 (a0 : List AV) (a1 : Int) (a2 : Int) : funA c124 0 124 [AV.sl [.int .i64] a0, AV.int .i64 a1, AV.int .i64 a2] = (bif q162 a0 (AV.int .i64 a1) (AV.int .i64 a2) then some (AV.bool (!(v162_0 a0 (AV.int .i64 a1) (AV.int .i64 a2))))
  else none) := by kernel_rfl
theorem r124 (a0 : List AV) (a1 : Int) (a2 : Int) (h : q124 a0 a1 a2 = true) : funA c124 0 124 [AV.sl [.int .i64] a0, AV.int .i64 a1, AV.int .i64 a2] = some (AV.bool (v124_0 a0 a1 a2)) := (e124 a0 a1 a2).trans ((brL1 (fun _ => rfl)) h)
def m124 : TModel
  | [.sl g0 a0, .int .i64 a1, .int .i64 a2] => bif ctsEq g0 ([.int .i64]) then some (q124 a0 a1 a2, AV.bool (v124_0 a0 a1 a2)) else none
  | _ => none
theorem k124 : Known Try.prog 124 := ⟨Try.f124, Try.func124, by kernel_rfl, by kernel_rfl⟩
theorem meets124 : Meets Try.prog 124 m124 := by
  refine meet (f := Try.f124) (l := []) (hs := [(124, 999, [6])]) (ts := [(162, m162)]) (ws := []) (is := []) (ls := []) (lvl := 0) mixed k124 Try.func124 (by kernel_rfl) noLoop (allT_cons meets162 allT_nil) allM_nil noI fun w xs us r hl hv h => ?_
  unfold m124 at h
  split at h
  · rename_i g0 a0 a1 a2
    obtain ⟨hg, h⟩ := bif_pair h
    have q0 := hg
    obtain rfl := ctsEq_eq _ _ q0
    obtain ⟨h1, rfl⟩ := pair_inj h
    exact r124 a0 a1 a2 h1
  · cases h

/-! ### 105 loop.example/g01984/impl.AreValues -/
noncomputable def c105 : Cfg := cfg Try.prog [(105, 999, [2])] [(124, m124)] [] [] []
def q105 (a0 : List AV) : Bool := (bif decide ((a0.length : Int) ≤ 64) then q124 a0 (-999) 999 else true)
def v105_0 (a0 : List AV) : Bool := (bif decide ((a0.length : Int) ≤ 64) then (v124_0 a0 (-999) 999) else false)
theorem e105 (a0 : List AV) : funA c105 0 105 [AV.sl [.int .i64] a0] = (bif decide ((a0.length : Int) ≤ 64) then (bif q124 a0 (-999) 999 then some (AV.bool (v124_0 a0 (-999) 999))
   else none)
  else some (AV.bool false)) := by kernel_rfl
theorem r105 (a0 : List AV) (h : q105 a0 = true) : funA c105 0 105 [AV.sl [.int .i64] a0] = some (AV.bool (v105_0 a0)) := (e105 a0).trans ((br (fun b => some (AV.bool (bif b then (v124_0 a0 (-999) 999) else false))) (brL1 (fun _ => rfl)) (fun _ => rfl)) h)
def m105 : TModel
  | [.sl g0 a0] => bif ctsEq g0 ([.int .i64]) then some (q105 a0, AV.bool (v105_0 a0)) else none
  | _ => none
theorem k105 : Known Try.prog 105 := ⟨Try.f105, Try.func105, by kernel_rfl, by kernel_rfl⟩
theorem meets105 : Meets Try.prog 105 m105 := by
  refine meet (f := Try.f105) (l := []) (hs := [(105, 999, [2])]) (ts := [(124, m124)]) (ws := []) (is := []) (ls := []) (lvl := 0) mixed k105 Try.func105 (by kernel_rfl) noLoop (allT_cons meets124 allT_nil) allM_nil noI fun w xs us r hl hv h => ?_
  unfold m105 at h
  split at h
  · rename_i g0 a0
    obtain ⟨hg, h⟩ := bif_pair h
    have q0 := hg
    obtain rfl := ctsEq_eq _ _ q0
    obtain ⟨h1, rfl⟩ := pair_inj h
    exact r105 a0 h1
  · cases h

/-! ### 168 loop.example/g01984/impl.IsRange -/
noncomputable def c168 : Cfg := cfg Try.prog [(168, 999, [2])] [] [] [] []
def q168 (a0_0 : Int) (a0_1 : Int) : Bool := true
def v168_0 (a0_0 : Int) (a0_1 : Int) : Bool := (bif decide ((-1000) ≤ a0_0) then (bif decide (a0_0 ≤ a0_1) then decide (a0_1 ≤ 1000) else false) else false)
theorem e168 (a0_0 : Int) (a0_1 : Int) : funA c168 0 168 [AV.agg [AV.int .i64 a0_0, AV.int .i64 a0_1]] = (bif decide ((-1000) ≤ a0_0) then (bif decide (a0_0 ≤ a0_1) then some (AV.bool (decide (a0_1 ≤ 1000)))
   else some (AV.bool false))
  else some (AV.bool false)) := by kernel_rfl
theorem r168 (a0_0 : Int) (a0_1 : Int) : funA c168 0 168 [AV.agg [AV.int .i64 a0_0, AV.int .i64 a0_1]] = some (AV.bool (v168_0 a0_0 a0_1)) := (e168 a0_0 a0_1).trans (of_tt (brT (fun b => some (AV.bool (bif b then (bif decide (a0_0 ≤ a0_1) then decide (a0_1 ≤ 1000) else false) else false))) (brT (fun b => some (AV.bool (bif b then decide (a0_1 ≤ 1000) else false))) (fun _ => rfl) (fun _ => rfl)) (fun _ => rfl)))
def m168 : TModel
  | [.agg [.int .i64 a0_0, .int .i64 a0_1]] => some (true, AV.bool (v168_0 a0_0 a0_1))
  | _ => none
theorem k168 : Known Try.prog 168 := ⟨Try.f168, Try.func168, by kernel_rfl, by kernel_rfl⟩
theorem meets168 : Meets Try.prog 168 m168 := by
  refine meet (f := Try.f168) (l := []) (hs := [(168, 999, [2])]) (ts := []) (ws := []) (is := []) (ls := []) (lvl := 0) mixed k168 Try.func168 (by kernel_rfl) noLoop allT_nil allM_nil noI fun w xs us r hl hv h => ?_
  unfold m168 at h
  split at h
  · rename_i a0_0 a0_1
    obtain ⟨h1, rfl⟩ := pair_inj h
    exact r168 a0_0 a0_1
  · cases h

/-! ### 167 loop.example/g01984/impl.areRanges$1 -/
noncomputable def c167 : Cfg := cfg Try.prog [(167, 999, [2])] [(168, m168)] [] [] []
def q167 (a0_0 : Int) (a0_1 : Int) : Bool := true
def v167_0 (a0_0 : Int) (a0_1 : Int) : Bool := !(v168_0 a0_0 a0_1)
theorem e167 (a0_0 : Int) (a0_1 : Int) : funA c167 0 167 [AV.agg [AV.int .i64 a0_0, AV.int .i64 a0_1]] = some (AV.bool (!(v168_0 a0_0 a0_1))) := by kernel_rfl
theorem r167 (a0_0 : Int) (a0_1 : Int) : funA c167 0 167 [AV.agg [AV.int .i64 a0_0, AV.int .i64 a0_1]] = some (AV.bool (v167_0 a0_0 a0_1)) := (e167 a0_0 a0_1).trans (of_tt (fun _ => rfl))
def m167 : TModel
  | [.agg [.int .i64 a0_0, .int .i64 a0_1]] => some (true, AV.bool (v167_0 a0_0 a0_1))
  | _ => none
theorem k167 : Known Try.prog 167 := ⟨Try.f167, Try.func167, by kernel_rfl, by kernel_rfl⟩
theorem meets167 : Meets Try.prog 167 m167 := by
  refine meet (f := Try.f167) (l := []) (hs := [(167, 999, [2])]) (ts := [(168, m168)]) (ws := []) (is := []) (ls := []) (lvl := 0) mixed k167 Try.func167 (by kernel_rfl) noLoop (allT_cons meets168 allT_nil) allM_nil noI fun w xs us r hl hv h => ?_
  unfold m167 at h
  split at h
  · rename_i a0_0 a0_1
    obtain ⟨h1, rfl⟩ := pair_inj h
    exact r167 a0_0 a0_1
  · cases h

/-! ### 179 slices.IndexFunc[[]loop.example/g01984/impl.Range,loop.example/g01984/impl.Range] -/
def F179_0 (t0 : List AV) (t7 : Int) (t8 : Int) : Out (Int) (Unit ⊕ Int) := (bif decide (t8 < t7) then (bif (decide (0 ≤ t8) && decide (t8 < (t0.length : Int))) then (bif (v167_0 (fI (t0.getD t8.toNat AV.undef) 0) (fI (t0.getD t8.toNat AV.undef) 1)) then .stop (.inr t8)
    else .next (IntKind.i64.wrap (t8 + 1)))
   else .fail)
  else .stop (.inl ()))
def R179_0 (t0 : List AV) (t7 : Int) : (Int) → Out (Int) (Unit ⊕ Int) := fun s : Int => F179_0 t0 t7 s
def l179_0 : LModel := fun _ _ st k => match st with
  | ⟨[(0, .sl g0 t0), (1, .fn g1 []), (7, .int .i64 t7), (8, .int .i64 t8)], []⟩ => bif ctsEq g0 ([.int .i64, .int .i64]) && Nat.beq g1 167 then ro (runW (R179_0 t0 t7) ((t7 - t8).toNat + 1) t8) none (sumE (fun _ : Unit => k (.exit 0) ⟨[], []⟩) (fun p : Int => k .ret ⟨[(4, AV.int .i64 p)], []⟩)) else none
  | _ => none
noncomputable def c179 : Cfg := cfg Try.prog [(179, 0, [0, 1, 7, 8]), (179, 999, [4]), (179, 1000, []), (179, 1001, [0, 1, 7, 8])] [(167, m167)] [] [] [(179, 0, l179_0)]
theorem s179_0 (ce : CallE) (t0 : List AV) (t7 : Int) (t8 : Int) (next : St → Option AV) (k : Kont) : stepA (codeA c179 ce [] 179 0 (sub [1, 0, 1, 0, 0] (body Try.f179))) (normA [] [0, 1, 7, 8]) next ⟨[(0, AV.sl [.int .i64, .int .i64] t0), (1, AV.fn 167 []), (7, AV.int .i64 t7), (8, AV.int .i64 t8)], []⟩ k = (bif decide (t8 < t7) then (bif (decide (0 ≤ t8) && decide (t8 < (t0.length : Int))) then (bif (v167_0 (fI (t0.getD t8.toNat AV.undef) 0) (fI (t0.getD t8.toNat AV.undef) 1)) then k .ret ⟨[(4, AV.int .i64 t8)], []⟩
    else next ⟨[(0, AV.sl [.int .i64, .int .i64] t0), (1, AV.fn 167 []), (7, AV.int .i64 t7), (8, AV.int .i64 (IntKind.i64.wrap (t8 + 1)))], []⟩)
   else none)
  else k (.exit 0) ⟨[], []⟩) := by kernel_rfl
theorem st179_0 (t0 : List AV) (t7 : Int) (ce : CallE) (k : Kont) (s : Int) (next : St → Option AV) : stepA (codeA c179 ce [] 179 0 (sub [1, 0, 1, 0, 0] (body Try.f179))) (normA [] [0, 1, 7, 8]) next ((fun s : Int => ⟨[(0, AV.sl [.int .i64, .int .i64] t0), (1, AV.fn 167 []), (7, AV.int .i64 t7), (8, AV.int .i64 s)], []⟩) s) k = (R179_0 t0 t7 s).el none (fun s => next ((fun s : Int => ⟨[(0, AV.sl [.int .i64, .int .i64] t0), (1, AV.fn 167 []), (7, AV.int .i64 t7), (8, AV.int .i64 s)], []⟩) s)) (sumE (fun _ : Unit => k (.exit 0) ⟨[], []⟩) (fun p : Int => k .ret ⟨[(4, AV.int .i64 p)], []⟩)) := (s179_0 ce t0 t7 s next k).trans (by unfold R179_0; unfold F179_0; simp only [el_cond, el_ro, el_sum, el_fail, el_next, el_stop] <;> rfl)
theorem ok179_0 {ce : CallE} : LoopOK c179 ce [] 179 0 (sub [1, 0, 1, 0, 0] (body Try.f179)) := by
  intro m hm st k r h
  obtain rfl : l179_0 = m := Option.some.inj hm
  unfold l179_0 at h
  split at h
  · rename_i g0 t0 g1 t7 t8
    obtain ⟨hg, h⟩ := bif_some h
    simp only [Bool.and_eq_true] at hg
    obtain ⟨q0, q1⟩ := hg
    obtain rfl := ctsEq_eq _ _ q0
    obtain rfl := Nat.eq_of_beq_eq_true q1
    refine ⟨((t7 - t8).toNat + 1), ?_⟩
    rw [← h]
    exact loop_run (fun s : Int => ⟨[(0, AV.sl [.int .i64, .int .i64] t0), (1, AV.fn 167 []), (7, AV.int .i64 t7), (8, AV.int .i64 s)], []⟩) (sumE (fun _ : Unit => k (.exit 0) ⟨[], []⟩) (fun p : Int => k .ret ⟨[(4, AV.int .i64 p)], []⟩)) (st179_0 t0 t7 ce k) _ t8
  · cases h
def q179 (a0 : List AV) : Bool := (ro (runW (R179_0 a0 (a0.length : Int)) (((a0.length : Int) - 0).toNat + 1) 0) false (sumE (fun _ => true) (fun p16 => true)))
def v179_0 (a0 : List AV) : Int := (ro (runW (R179_0 a0 (a0.length : Int)) (((a0.length : Int) - 0).toNat + 1) 0) 0 (sumE (fun _ => (-1)) (fun p16 => p16)))
theorem e179 (a0 : List AV) : funA c179 0 179 [AV.sl [.int .i64, .int .i64] a0, AV.fn 167 []] = (ro (runW (R179_0 a0 (a0.length : Int)) (((a0.length : Int) - 0).toNat + 1) 0) none (sumE (fun _ => some (AV.int .i64 (-1))) (fun p16 => some (AV.int .i64 p16)))) := by kernel_rfl
theorem r179 (a0 : List AV) (h : q179 a0 = true) : funA c179 0 179 [AV.sl [.int .i64, .int .i64] a0, AV.fn 167 []] = some (AV.int .i64 (v179_0 a0)) := (e179 a0).trans ((brO (fun o : Option (Unit ⊕ Int) => some (AV.int .i64 (ro o 0 (sumE (fun _ => (-1)) (fun p16 => p16))))) (brS (fun o : Unit ⊕ Int => some (AV.int .i64 ((sumE (fun _ => (-1)) (fun p16 => p16)) o))) (fun _ => (fun _ => rfl)) (fun p16 => (fun _ => rfl)))) h)
def m179 : TModel
  | [.sl g0 a0, .fn g1 []] => bif ctsEq g0 ([.int .i64, .int .i64]) && Nat.beq g1 167 then some (q179 a0, AV.int .i64 (v179_0 a0)) else none
  | _ => none
theorem k179 : Known Try.prog 179 := ⟨Try.f179, Try.func179, by kernel_rfl, by kernel_rfl⟩
theorem meets179 : Meets Try.prog 179 m179 := by
  refine meet (f := Try.f179) (l := [(0, sub [1, 0, 1, 0, 0] (body Try.f179))]) (hs := [(179, 0, [0, 1, 7, 8]), (179, 999, [4]), (179, 1000, []), (179, 1001, [0, 1, 7, 8])]) (ts := [(167, m167)]) (ws := []) (is := []) (ls := [(179, 0, l179_0)]) (lvl := 0) mixed k179 Try.func179 (by kernel_rfl) (loops_cons ok179_0 noLoop) (allT_cons meets167 allT_nil) allM_nil noI fun w xs us r hl hv h => ?_
  unfold m179 at h
  split at h
  · rename_i g0 a0 g1
    obtain ⟨hg, h⟩ := bif_pair h
    simp only [Bool.and_eq_true] at hg
    obtain ⟨q0, q1⟩ := hg
    obtain rfl := ctsEq_eq _ _ q0
    obtain rfl := Nat.eq_of_beq_eq_true q1
    obtain ⟨h1, rfl⟩ := pair_inj h
    exact r179 a0 h1
  · cases h

/-! ### 166 slices.ContainsFunc[[]loop.example/g01984/impl.Range,loop.example/g01984/impl.Range] -/
noncomputable def c166 : Cfg := cfg Try.prog [(166, 999, [4])] [(179, m179)] [] [] []
def q166 (a0 : List AV) : Bool := q179 a0
def v166_0 (a0 : List AV) : Bool := decide ((v179_0 a0) ≥ 0)
theorem e166 (a0 : List AV) : funA c166 0 166 [AV.sl [.int .i64, .int .i64] a0, AV.fn 167 []] = (bif q179 a0 then some (AV.bool (decide ((v179_0 a0) ≥ 0)))
  else none) := by kernel_rfl
theorem r166 (a0 : List AV) (h : q166 a0 = true) : funA c166 0 166 [AV.sl [.int .i64, .int .i64] a0, AV.fn 167 []] = some (AV.bool (v166_0 a0)) := (e166 a0).trans ((brL1 (fun _ => rfl)) h)
def m166 : TModel
  | [.sl g0 a0, .fn g1 []] => bif ctsEq g0 ([.int .i64, .int .i64]) && Nat.beq g1 167 then some (q166 a0, AV.bool (v166_0 a0)) else none
  | _ => none
theorem k166 : Known Try.prog 166 := ⟨Try.f166, Try.func166, by kernel_rfl, by kernel_rfl⟩
theorem meets166 : Meets Try.prog 166 m166 := by
  refine meet (f := Try.f166) (l := []) (hs := [(166, 999, [4])]) (ts := [(179, m179)]) (ws := []) (is := []) (ls := []) (lvl := 0) mixed k166 Try.func166 (by kernel_rfl) noLoop (allT_cons meets179 allT_nil) allM_nil noI fun w xs us r hl hv h => ?_
  unfold m166 at h
  split at h
  · rename_i g0 a0 g1
    obtain ⟨hg, h⟩ := bif_pair h
    simp only [Bool.and_eq_true] at hg
    obtain ⟨q0, q1⟩ := hg
    obtain rfl := ctsEq_eq _ _ q0
    obtain rfl := Nat.eq_of_beq_eq_true q1
    obtain ⟨h1, rfl⟩ := pair_inj h
    exact r166 a0 h1
  · cases h

/-! ### 137 loop.example/g01984/impl.areRanges -/
noncomputable def c137 : Cfg := cfg Try.prog [(137, 999, [2])] [(166, m166)] [] [] []
def q137 (a0 : List AV) : Bool := (bif decide ((a0.length : Int) ≤ 30) then q166 a0 else true)
def v137_0 (a0 : List AV) : Bool := (bif decide ((a0.length : Int) ≤ 30) then !(v166_0 a0) else false)
theorem e137 (a0 : List AV) : funA c137 0 137 [AV.sl [.int .i64, .int .i64] a0] = (bif decide ((a0.length : Int) ≤ 30) then (bif q166 a0 then some (AV.bool (!(v166_0 a0)))
   else none)
  else some (AV.bool false)) := by kernel_rfl
theorem r137 (a0 : List AV) (h : q137 a0 = true) : funA c137 0 137 [AV.sl [.int .i64, .int .i64] a0] = some (AV.bool (v137_0 a0)) := (e137 a0).trans ((br (fun b => some (AV.bool (bif b then !(v166_0 a0) else false))) (brL1 (fun _ => rfl)) (fun _ => rfl)) h)
def m137 : TModel
  | [.sl g0 a0] => bif ctsEq g0 ([.int .i64, .int .i64]) then some (q137 a0, AV.bool (v137_0 a0)) else none
  | _ => none
theorem k137 : Known Try.prog 137 := ⟨Try.f137, Try.func137, by kernel_rfl, by kernel_rfl⟩
theorem meets137 : Meets Try.prog 137 m137 := by
  refine meet (f := Try.f137) (l := []) (hs := [(137, 999, [2])]) (ts := [(166, m166)]) (ws := []) (is := []) (ls := []) (lvl := 0) mixed k137 Try.func137 (by kernel_rfl) noLoop (allT_cons meets166 allT_nil) allM_nil noI fun w xs us r hl hv h => ?_
  unfold m137 at h
  split at h
  · rename_i g0 a0
    obtain ⟨hg, h⟩ := bif_pair h
    have q0 := hg
    obtain rfl := ctsEq_eq _ _ q0
    obtain ⟨h1, rfl⟩ := pair_inj h
    exact r137 a0 h1
  · cases h

/-! ### 161 loop.example/g01984/impl.InRange -/
noncomputable def c161 : Cfg := cfg Try.prog [(161, 999, [4])] [(168, m168)] [] [] []
def q161 (a0_0 : Int) (a0_1 : Int) (a1 : Int) : Bool := true
def v161_0 (a0_0 : Int) (a0_1 : Int) (a1 : Int) : Bool := (bif (v168_0 a0_0 a0_1) then (bif decide (a0_0 ≤ a1) then decide (a1 < a0_1) else false) else false)
theorem e161 (a0_0 : Int) (a0_1 : Int) (a1 : Int) : funA c161 0 161 [AV.agg [AV.int .i64 a0_0, AV.int .i64 a0_1], AV.int .i64 a1] = (bif (v168_0 a0_0 a0_1) then (bif decide (a0_0 ≤ a1) then some (AV.bool (decide (a1 < a0_1)))
   else some (AV.bool false))
  else some (AV.bool false)) := by kernel_rfl
theorem r161 (a0_0 : Int) (a0_1 : Int) (a1 : Int) : funA c161 0 161 [AV.agg [AV.int .i64 a0_0, AV.int .i64 a0_1], AV.int .i64 a1] = some (AV.bool (v161_0 a0_0 a0_1 a1)) := (e161 a0_0 a0_1 a1).trans (of_tt (brT (fun b => some (AV.bool (bif b then (bif decide (a0_0 ≤ a1) then decide (a1 < a0_1) else false) else false))) (brT (fun b => some (AV.bool (bif b then decide (a1 < a0_1) else false))) (fun _ => rfl) (fun _ => rfl)) (fun _ => rfl)))
def m161 : TModel
  | [.agg [.int .i64 a0_0, .int .i64 a0_1], .int .i64 a1] => some (true, AV.bool (v161_0 a0_0 a0_1 a1))
  | _ => none
theorem k161 : Known Try.prog 161 := ⟨Try.f161, Try.func161, by kernel_rfl, by kernel_rfl⟩
theorem meets161 : Meets Try.prog 161 m161 := by
  refine meet (f := Try.f161) (l := []) (hs := [(161, 999, [4])]) (ts := [(168, m168)]) (ws := []) (is := []) (ls := []) (lvl := 0) mixed k161 Try.func161 (by kernel_rfl) noLoop (allT_cons meets168 allT_nil) allM_nil noI fun w xs us r hl hv h => ?_
  unfold m161 at h
  split at h
  · rename_i a0_0 a0_1 a1
    obtain ⟨h1, rfl⟩ := pair_inj h
    exact r161 a0_0 a0_1 a1
  · cases h

/-! ### 138 loop.example/g01984/impl.QueriesFor -/
def F138_0 (t1 : Int) (t12 : List AV) (t13 : Int) (t14 : Int) (h0 : List AV) : Out ((Int × (List AV))) (((List AV))) := (bif decide (t14 < t13) then (bif (decide (0 ≤ t14) && decide (t14 < (t12.length : Int))) then (bif (v161_0 (fI (t12.getD t14.toNat AV.undef) 0) (fI (t12.getD t14.toNat AV.undef) 1) t1) then (bif (decide ((h0.length + ([AV.int .i64 t14]).length) * 8 ≤ 140737488355328) && decide ((h0.length + ([AV.int .i64 t14]).length) ≤ 140737488355328)) then .next (IntKind.i64.wrap (t14 + 1), h0 ++ ([AV.int .i64 t14]))
     else .fail)
    else .next (IntKind.i64.wrap (t14 + 1), h0))
   else .fail)
  else .stop h0)
def R138_0 (t1 : Int) (t12 : List AV) (t13 : Int) : ((Int × (List AV))) → Out ((Int × (List AV))) (((List AV))) := fun s : Int × (List AV) => F138_0 t1 t12 t13 s.1 s.2
def l138_0 : LModel := fun _ _ st k => match st with
  | ⟨[(1, .int .i64 t1), (5, .own g0), (12, .sl g1 t12), (13, .int .i64 t13), (14, .int .i64 t14)], [(g2, ⟨false, g3, h0⟩)]⟩ => bif nmEq g0 ([0, 5]) && ctsEq g1 ([.int .i64, .int .i64]) && nmEq g2 ([0, 5]) && ctsEq g3 ([.int .i64]) then ro (runW (R138_0 t1 t12 t13) ((t13 - t14).toNat + 1) (t14, h0)) none (fun p : (List AV) => k (.exit 0) ⟨[(5, AV.own [0, 5])], [([0, 5], ⟨false, [.int .i64], p⟩)]⟩) else none
  | _ => none
noncomputable def c138 : Cfg := cfg Try.prog [(138, 0, [1, 5, 12, 13, 14]), (138, 999, [4]), (138, 1000, [5]), (138, 1001, [1, 5, 12, 13, 14])] [(137, m137), (161, m161)] [] [] [(138, 0, l138_0)]
theorem s138_0 (ce : CallE) (t1 : Int) (t12 : List AV) (t13 : Int) (t14 : Int) (h0 : List AV) (next : St → Option AV) (k : Kont) : stepA (codeA c138 ce [] 138 0 (sub [1, 1, 1, 0, 1, 0, 0] (body Try.f138))) (normA [] [1, 5, 12, 13, 14]) next ⟨[(1, AV.int .i64 t1), (5, AV.own [0, 5]), (12, AV.sl [.int .i64, .int .i64] t12), (13, AV.int .i64 t13), (14, AV.int .i64 t14)], [([0, 5], ⟨false, [.int .i64], h0⟩)]⟩ k = (bif decide (t14 < t13) then (bif (decide (0 ≤ t14) && decide (t14 < (t12.length : Int))) then (bif (v161_0 (fI (t12.getD t14.toNat AV.undef) 0) (fI (t12.getD t14.toNat AV.undef) 1) t1) then (bif (decide ((h0.length + ([AV.int .i64 t14]).length) * 8 ≤ 140737488355328) && decide ((h0.length + ([AV.int .i64 t14]).length) ≤ 140737488355328)) then next ⟨[(1, AV.int .i64 t1), (5, AV.own [0, 5]), (12, AV.sl [.int .i64, .int .i64] t12), (13, AV.int .i64 t13), (14, AV.int .i64 (IntKind.i64.wrap (t14 + 1)))], [([0, 5], ⟨false, [.int .i64], h0 ++ ([AV.int .i64 t14])⟩)]⟩
     else none)
    else next ⟨[(1, AV.int .i64 t1), (5, AV.own [0, 5]), (12, AV.sl [.int .i64, .int .i64] t12), (13, AV.int .i64 t13), (14, AV.int .i64 (IntKind.i64.wrap (t14 + 1)))], [([0, 5], ⟨false, [.int .i64], h0⟩)]⟩)
   else none)
  else k (.exit 0) ⟨[(5, AV.own [0, 5])], [([0, 5], ⟨false, [.int .i64], h0⟩)]⟩) := by kernel_rfl
theorem st138_0 (t1 : Int) (t12 : List AV) (t13 : Int) (ce : CallE) (k : Kont) (s : (Int × (List AV))) (next : St → Option AV) : stepA (codeA c138 ce [] 138 0 (sub [1, 1, 1, 0, 1, 0, 0] (body Try.f138))) (normA [] [1, 5, 12, 13, 14]) next ((fun s : Int × (List AV) => ⟨[(1, AV.int .i64 t1), (5, AV.own [0, 5]), (12, AV.sl [.int .i64, .int .i64] t12), (13, AV.int .i64 t13), (14, AV.int .i64 s.1)], [([0, 5], ⟨false, [.int .i64], s.2⟩)]⟩) s) k = (R138_0 t1 t12 t13 s).el none (fun s => next ((fun s : Int × (List AV) => ⟨[(1, AV.int .i64 t1), (5, AV.own [0, 5]), (12, AV.sl [.int .i64, .int .i64] t12), (13, AV.int .i64 t13), (14, AV.int .i64 s.1)], [([0, 5], ⟨false, [.int .i64], s.2⟩)]⟩) s)) (fun p : (List AV) => k (.exit 0) ⟨[(5, AV.own [0, 5])], [([0, 5], ⟨false, [.int .i64], p⟩)]⟩) := (s138_0 ce t1 t12 t13 s.1 s.2 next k).trans (by unfold R138_0; unfold F138_0; simp only [el_cond, el_ro, el_sum, el_fail, el_next, el_stop] <;> rfl)
theorem ok138_0 {ce : CallE} : LoopOK c138 ce [] 138 0 (sub [1, 1, 1, 0, 1, 0, 0] (body Try.f138)) := by
  intro m hm st k r h
  obtain rfl : l138_0 = m := Option.some.inj hm
  unfold l138_0 at h
  split at h
  · rename_i t1 g0 g1 t12 t13 t14 g2 g3 h0
    obtain ⟨hg, h⟩ := bif_some h
    simp only [Bool.and_eq_true] at hg
    obtain ⟨⟨⟨q0, q1⟩, q2⟩, q3⟩ := hg
    obtain rfl := (nmEq_iff _ _).1 q0
    obtain rfl := ctsEq_eq _ _ q1
    obtain rfl := (nmEq_iff _ _).1 q2
    obtain rfl := ctsEq_eq _ _ q3
    refine ⟨((t13 - t14).toNat + 1), ?_⟩
    rw [← h]
    exact loop_run (fun s : Int × (List AV) => ⟨[(1, AV.int .i64 t1), (5, AV.own [0, 5]), (12, AV.sl [.int .i64, .int .i64] t12), (13, AV.int .i64 t13), (14, AV.int .i64 s.1)], [([0, 5], ⟨false, [.int .i64], s.2⟩)]⟩) (fun p : (List AV) => k (.exit 0) ⟨[(5, AV.own [0, 5])], [([0, 5], ⟨false, [.int .i64], p⟩)]⟩) (st138_0 t1 t12 t13 ce k) _ (t14, h0)
  · cases h
def q138 (a0 : List AV) (a1 : Int) : Bool := (q137 a0 && (bif !(v137_0 a0) then true else (ro (runW (R138_0 a1 a0 (a0.length : Int)) (((a0.length : Int) - 0).toNat + 1) (0, ([] : List AV))) false (fun p17 => true))))
def v138_0 (a0 : List AV) (a1 : Int) : List AV := (bif !(v137_0 a0) then ([] : List AV) else (ro (runW (R138_0 a1 a0 (a0.length : Int)) (((a0.length : Int) - 0).toNat + 1) (0, ([] : List AV))) [] (fun p17 => p17)))
theorem e138 (a0 : List AV) (a1 : Int) : funA c138 0 138 [AV.sl [.int .i64, .int .i64] a0, AV.int .i64 a1] = (bif q137 a0 then (bif !(v137_0 a0) then some (AV.fl [.int .i64] ([] : List AV))
   else (ro (runW (R138_0 a1 a0 (a0.length : Int)) (((a0.length : Int) - 0).toNat + 1) (0, ([] : List AV))) none (fun p17 => some (AV.fl [.int .i64] p17))))
  else none) := by kernel_rfl
theorem r138 (a0 : List AV) (a1 : Int) (h : q138 a0 a1 = true) : funA c138 0 138 [AV.sl [.int .i64, .int .i64] a0, AV.int .i64 a1] = some (AV.fl [.int .i64] (v138_0 a0 a1)) := (e138 a0 a1).trans ((brL (br (fun b => some (AV.fl [.int .i64] (bif b then ([] : List AV) else (ro (runW (R138_0 a1 a0 (a0.length : Int)) (((a0.length : Int) - 0).toNat + 1) (0, ([] : List AV))) [] (fun p17 => p17))))) (fun _ => rfl) (brO (fun o : Option (((List AV))) => some (AV.fl [.int .i64] (ro o [] (fun p17 => p17)))) (fun p17 => (fun _ => rfl))))) h)
def m138 : TModel
  | [.sl g0 a0, .int .i64 a1] => bif ctsEq g0 ([.int .i64, .int .i64]) then some (q138 a0 a1, AV.fl [.int .i64] (v138_0 a0 a1)) else none
  | _ => none
theorem k138 : Known Try.prog 138 := ⟨Try.f138, Try.func138, by kernel_rfl, by kernel_rfl⟩
theorem meets138 : Meets Try.prog 138 m138 := by
  refine meet (f := Try.f138) (l := [(0, sub [1, 1, 1, 0, 1, 0, 0] (body Try.f138))]) (hs := [(138, 0, [1, 5, 12, 13, 14]), (138, 999, [4]), (138, 1000, [5]), (138, 1001, [1, 5, 12, 13, 14])]) (ts := [(137, m137), (161, m161)]) (ws := []) (is := []) (ls := [(138, 0, l138_0)]) (lvl := 0) mixed k138 Try.func138 (by kernel_rfl) (loops_cons ok138_0 noLoop) (allT_cons meets137 (allT_cons meets161 allT_nil)) allM_nil noI fun w xs us r hl hv h => ?_
  unfold m138 at h
  split at h
  · rename_i g0 a0 a1
    obtain ⟨hg, h⟩ := bif_pair h
    have q0 := hg
    obtain rfl := ctsEq_eq _ _ q0
    obtain ⟨h1, rfl⟩ := pair_inj h
    exact r138 a0 a1 h1
  · cases h

/-! ### 87 loop.example/g01984/impl.HeatOf -/
def F87_0 (t1 : List AV) (t17 : List AV) (t18 : Int) (t19 : Int) (h0 : List AV) : Out ((Int × (List AV))) (((List AV))) := (bif decide (t19 < t18) then (bif (decide (0 ≤ t19) && decide (t19 < (t17.length : Int))) then (bif q138 t1 (fI (t17.getD t19.toNat AV.undef) 0) then (bif (decide ((h0.length + ([AV.int .i64 ((v138_0 t1 (fI (t17.getD t19.toNat AV.undef) 0)).length : Int)]).length) * 8 ≤ 140737488355328) && decide ((h0.length + ([AV.int .i64 ((v138_0 t1 (fI (t17.getD t19.toNat AV.undef) 0)).length : Int)]).length) ≤ 140737488355328)) then .next (IntKind.i64.wrap (t19 + 1), h0 ++ ([AV.int .i64 ((v138_0 t1 (fI (t17.getD t19.toNat AV.undef) 0)).length : Int)]))
     else .fail)
    else .fail)
   else .fail)
  else .stop h0)
def R87_0 (t1 : List AV) (t17 : List AV) (t18 : Int) : ((Int × (List AV))) → Out ((Int × (List AV))) (((List AV))) := fun s : Int × (List AV) => F87_0 t1 t17 t18 s.1 s.2
def l87_0 : LModel := fun _ _ st k => match st with
  | ⟨[(1, .sl g0 t1), (5, .own g1), (17, .sl g2 t17), (18, .int .i64 t18), (19, .int .i64 t19)], [(g3, ⟨false, g4, h0⟩)]⟩ => bif ctsEq g0 ([.int .i64, .int .i64]) && nmEq g1 ([0, 5]) && ctsEq g2 ([.int .i64]) && nmEq g3 ([0, 5]) && ctsEq g4 ([.int .i64]) then ro (runW (R87_0 t1 t17 t18) ((t18 - t19).toNat + 1) (t19, h0)) none (fun p : (List AV) => k (.exit 0) ⟨[(5, AV.own [0, 5])], [([0, 5], ⟨false, [.int .i64], p⟩)]⟩) else none
  | _ => none
noncomputable def c87 : Cfg := cfg Try.prog [(87, 0, [1, 5, 17, 18, 19]), (87, 999, [4]), (87, 1000, [5]), (87, 1001, [1, 5, 17, 18, 19])] [(105, m105), (137, m137), (138, m138)] [] [] [(87, 0, l87_0)]
theorem s87_0 (ce : CallE) (t1 : List AV) (t17 : List AV) (t18 : Int) (t19 : Int) (h0 : List AV) (next : St → Option AV) (k : Kont) : stepA (codeA c87 ce [] 87 0 (sub [1, 1, 1, 0, 1, 0, 0] (body Try.f87))) (normA [] [1, 5, 17, 18, 19]) next ⟨[(1, AV.sl [.int .i64, .int .i64] t1), (5, AV.own [0, 5]), (17, AV.sl [.int .i64] t17), (18, AV.int .i64 t18), (19, AV.int .i64 t19)], [([0, 5], ⟨false, [.int .i64], h0⟩)]⟩ k = (bif decide (t19 < t18) then (bif (decide (0 ≤ t19) && decide (t19 < (t17.length : Int))) then (bif q138 t1 (fI (t17.getD t19.toNat AV.undef) 0) then (bif (decide ((h0.length + ([AV.int .i64 ((v138_0 t1 (fI (t17.getD t19.toNat AV.undef) 0)).length : Int)]).length) * 8 ≤ 140737488355328) && decide ((h0.length + ([AV.int .i64 ((v138_0 t1 (fI (t17.getD t19.toNat AV.undef) 0)).length : Int)]).length) ≤ 140737488355328)) then next ⟨[(1, AV.sl [.int .i64, .int .i64] t1), (5, AV.own [0, 5]), (17, AV.sl [.int .i64] t17), (18, AV.int .i64 t18), (19, AV.int .i64 (IntKind.i64.wrap (t19 + 1)))], [([0, 5], ⟨false, [.int .i64], h0 ++ ([AV.int .i64 ((v138_0 t1 (fI (t17.getD t19.toNat AV.undef) 0)).length : Int)])⟩)]⟩
     else none)
    else none)
   else none)
  else k (.exit 0) ⟨[(5, AV.own [0, 5])], [([0, 5], ⟨false, [.int .i64], h0⟩)]⟩) := by kernel_rfl
theorem st87_0 (t1 : List AV) (t17 : List AV) (t18 : Int) (ce : CallE) (k : Kont) (s : (Int × (List AV))) (next : St → Option AV) : stepA (codeA c87 ce [] 87 0 (sub [1, 1, 1, 0, 1, 0, 0] (body Try.f87))) (normA [] [1, 5, 17, 18, 19]) next ((fun s : Int × (List AV) => ⟨[(1, AV.sl [.int .i64, .int .i64] t1), (5, AV.own [0, 5]), (17, AV.sl [.int .i64] t17), (18, AV.int .i64 t18), (19, AV.int .i64 s.1)], [([0, 5], ⟨false, [.int .i64], s.2⟩)]⟩) s) k = (R87_0 t1 t17 t18 s).el none (fun s => next ((fun s : Int × (List AV) => ⟨[(1, AV.sl [.int .i64, .int .i64] t1), (5, AV.own [0, 5]), (17, AV.sl [.int .i64] t17), (18, AV.int .i64 t18), (19, AV.int .i64 s.1)], [([0, 5], ⟨false, [.int .i64], s.2⟩)]⟩) s)) (fun p : (List AV) => k (.exit 0) ⟨[(5, AV.own [0, 5])], [([0, 5], ⟨false, [.int .i64], p⟩)]⟩) := (s87_0 ce t1 t17 t18 s.1 s.2 next k).trans (by unfold R87_0; unfold F87_0; simp only [el_cond, el_ro, el_sum, el_fail, el_next, el_stop] <;> rfl)
theorem ok87_0 {ce : CallE} : LoopOK c87 ce [] 87 0 (sub [1, 1, 1, 0, 1, 0, 0] (body Try.f87)) := by
  intro m hm st k r h
  obtain rfl : l87_0 = m := Option.some.inj hm
  unfold l87_0 at h
  split at h
  · rename_i g0 t1 g1 g2 t17 t18 t19 g3 g4 h0
    obtain ⟨hg, h⟩ := bif_some h
    simp only [Bool.and_eq_true] at hg
    obtain ⟨⟨⟨⟨q0, q1⟩, q2⟩, q3⟩, q4⟩ := hg
    obtain rfl := ctsEq_eq _ _ q0
    obtain rfl := (nmEq_iff _ _).1 q1
    obtain rfl := ctsEq_eq _ _ q2
    obtain rfl := (nmEq_iff _ _).1 q3
    obtain rfl := ctsEq_eq _ _ q4
    refine ⟨((t18 - t19).toNat + 1), ?_⟩
    rw [← h]
    exact loop_run (fun s : Int × (List AV) => ⟨[(1, AV.sl [.int .i64, .int .i64] t1), (5, AV.own [0, 5]), (17, AV.sl [.int .i64] t17), (18, AV.int .i64 t18), (19, AV.int .i64 s.1)], [([0, 5], ⟨false, [.int .i64], s.2⟩)]⟩) (fun p : (List AV) => k (.exit 0) ⟨[(5, AV.own [0, 5])], [([0, 5], ⟨false, [.int .i64], p⟩)]⟩) (st87_0 t1 t17 t18 ce k) _ (t19, h0)
  · cases h
def q87 (a0 : List AV) (a1 : List AV) : Bool := (q105 a0 && (bif !(v105_0 a0) then true else (q137 a1 && (bif !(v137_0 a1) then true else (ro (runW (R87_0 a1 a0 (a0.length : Int)) (((a0.length : Int) - 0).toNat + 1) (0, ([] : List AV))) false (fun p18 => true))))))
def v87_0 (a0 : List AV) (a1 : List AV) : List AV := (bif !(v105_0 a0) then ([] : List AV) else (bif !(v137_0 a1) then ([] : List AV) else (ro (runW (R87_0 a1 a0 (a0.length : Int)) (((a0.length : Int) - 0).toNat + 1) (0, ([] : List AV))) [] (fun p18 => p18))))
theorem e87 (a0 : List AV) (a1 : List AV) : funA c87 0 87 [AV.sl [.int .i64] a0, AV.sl [.int .i64, .int .i64] a1] = (bif q105 a0 then (bif !(v105_0 a0) then some (AV.fl [.int .i64] ([] : List AV))
   else (bif q137 a1 then (bif !(v137_0 a1) then some (AV.fl [.int .i64] ([] : List AV))
     else (ro (runW (R87_0 a1 a0 (a0.length : Int)) (((a0.length : Int) - 0).toNat + 1) (0, ([] : List AV))) none (fun p18 => some (AV.fl [.int .i64] p18))))
    else none))
  else none) := by kernel_rfl
theorem r87 (a0 : List AV) (a1 : List AV) (h : q87 a0 a1 = true) : funA c87 0 87 [AV.sl [.int .i64] a0, AV.sl [.int .i64, .int .i64] a1] = some (AV.fl [.int .i64] (v87_0 a0 a1)) := (e87 a0 a1).trans ((brL (br (fun b => some (AV.fl [.int .i64] (bif b then ([] : List AV) else (bif !(v137_0 a1) then ([] : List AV) else (ro (runW (R87_0 a1 a0 (a0.length : Int)) (((a0.length : Int) - 0).toNat + 1) (0, ([] : List AV))) [] (fun p18 => p18)))))) (fun _ => rfl) (brL (br (fun b => some (AV.fl [.int .i64] (bif b then ([] : List AV) else (ro (runW (R87_0 a1 a0 (a0.length : Int)) (((a0.length : Int) - 0).toNat + 1) (0, ([] : List AV))) [] (fun p18 => p18))))) (fun _ => rfl) (brO (fun o : Option (((List AV))) => some (AV.fl [.int .i64] (ro o [] (fun p18 => p18)))) (fun p18 => (fun _ => rfl))))))) h)
def m87 : TModel
  | [.sl g0 a0, .sl g1 a1] => bif ctsEq g0 ([.int .i64]) && ctsEq g1 ([.int .i64, .int .i64]) then some (q87 a0 a1, AV.fl [.int .i64] (v87_0 a0 a1)) else none
  | _ => none
theorem k87 : Known Try.prog 87 := ⟨Try.f87, Try.func87, by kernel_rfl, by kernel_rfl⟩
theorem meets87 : Meets Try.prog 87 m87 := by
  refine meet (f := Try.f87) (l := [(0, sub [1, 1, 1, 0, 1, 0, 0] (body Try.f87))]) (hs := [(87, 0, [1, 5, 17, 18, 19]), (87, 999, [4]), (87, 1000, [5]), (87, 1001, [1, 5, 17, 18, 19])]) (ts := [(105, m105), (137, m137), (138, m138)]) (ws := []) (is := []) (ls := [(87, 0, l87_0)]) (lvl := 0) mixed k87 Try.func87 (by kernel_rfl) (loops_cons ok87_0 noLoop) (allT_cons meets105 (allT_cons meets137 (allT_cons meets138 allT_nil))) allM_nil noI fun w xs us r hl hv h => ?_
  unfold m87 at h
  split at h
  · rename_i g0 a0 g1 a1
    obtain ⟨hg, h⟩ := bif_pair h
    simp only [Bool.and_eq_true] at hg
    obtain ⟨q0, q1⟩ := hg
    obtain rfl := ctsEq_eq _ _ q0
    obtain rfl := ctsEq_eq _ _ q1
    obtain ⟨h1, rfl⟩ := pair_inj h
    exact r87 a0 a1 h1
  · cases h

/-! ### 88 slices.Max[[]int,int] -/
def F88_0 (t0 : List AV) (t3 : Int) (t4 : Int) : Out ((Int × Int)) (Int) := (bif decide (t4 < (t0.length : Int)) then (bif (decide (0 ≤ t4) && decide (t4 < (t0.length : Int))) then .next ((if fI (t0.getD t4.toNat AV.undef) 0 > t3 then fI (t0.getD t4.toNat AV.undef) 0 else t3), IntKind.i64.wrap (t4 + 1))
   else .fail)
  else .stop t3)
def R88_0 (t0 : List AV) : ((Int × Int)) → Out ((Int × Int)) (Int) := fun s : Int × Int => F88_0 t0 s.1 s.2
def l88_0 : LModel := fun _ _ st k => match st with
  | ⟨[(0, .sl g0 t0), (3, .int .i64 t3), (4, .int .i64 t4)], []⟩ => bif ctsEq g0 ([.int .i64]) then ro (runW (R88_0 t0) (((t0.length : Int) - t4).toNat + 1) (t3, t4)) none (fun p : Int => k (.exit 0) ⟨[(3, AV.int .i64 p)], []⟩) else none
  | _ => none
noncomputable def c88 : Cfg := cfg Try.prog [(88, 0, [0, 3, 4]), (88, 999, [2]), (88, 1000, [3]), (88, 1001, [0, 3, 4])] [] [] [] [(88, 0, l88_0)]
theorem s88_0 (ce : CallE) (t0 : List AV) (t3 : Int) (t4 : Int) (next : St → Option AV) (k : Kont) : stepA (codeA c88 ce [] 88 0 (sub [1, 1, 1, 0, 1, 0, 0] (body Try.f88))) (normA [] [0, 3, 4]) next ⟨[(0, AV.sl [.int .i64] t0), (3, AV.int .i64 t3), (4, AV.int .i64 t4)], []⟩ k = (bif decide (t4 < (t0.length : Int)) then (bif (decide (0 ≤ t4) && decide (t4 < (t0.length : Int))) then next ⟨[(0, AV.sl [.int .i64] t0), (3, AV.int .i64 (if fI (t0.getD t4.toNat AV.undef) 0 > t3 then fI (t0.getD t4.toNat AV.undef) 0 else t3)), (4, AV.int .i64 (IntKind.i64.wrap (t4 + 1)))], []⟩
   else none)
  else k (.exit 0) ⟨[(3, AV.int .i64 t3)], []⟩) := by kernel_rfl
theorem st88_0 (t0 : List AV) (ce : CallE) (k : Kont) (s : (Int × Int)) (next : St → Option AV) : stepA (codeA c88 ce [] 88 0 (sub [1, 1, 1, 0, 1, 0, 0] (body Try.f88))) (normA [] [0, 3, 4]) next ((fun s : Int × Int => ⟨[(0, AV.sl [.int .i64] t0), (3, AV.int .i64 s.1), (4, AV.int .i64 s.2)], []⟩) s) k = (R88_0 t0 s).el none (fun s => next ((fun s : Int × Int => ⟨[(0, AV.sl [.int .i64] t0), (3, AV.int .i64 s.1), (4, AV.int .i64 s.2)], []⟩) s)) (fun p : Int => k (.exit 0) ⟨[(3, AV.int .i64 p)], []⟩) := (s88_0 ce t0 s.1 s.2 next k).trans (by unfold R88_0; unfold F88_0; simp only [el_cond, el_ro, el_sum, el_fail, el_next, el_stop] <;> rfl)
theorem ok88_0 {ce : CallE} : LoopOK c88 ce [] 88 0 (sub [1, 1, 1, 0, 1, 0, 0] (body Try.f88)) := by
  intro m hm st k r h
  obtain rfl : l88_0 = m := Option.some.inj hm
  unfold l88_0 at h
  split at h
  · rename_i g0 t0 t3 t4
    obtain ⟨hg, h⟩ := bif_some h
    have q0 := hg
    obtain rfl := ctsEq_eq _ _ q0
    refine ⟨(((t0.length : Int) - t4).toNat + 1), ?_⟩
    rw [← h]
    exact loop_run (fun s : Int × Int => ⟨[(0, AV.sl [.int .i64] t0), (3, AV.int .i64 s.1), (4, AV.int .i64 s.2)], []⟩) (fun p : Int => k (.exit 0) ⟨[(3, AV.int .i64 p)], []⟩) (st88_0 t0 ce k) _ (t3, t4)
  · cases h
def q88 (a0 : List AV) : Bool := (!(decide ((a0.length : Int) < 1)) && ((decide (0 ≤ 0) && decide (0 < (a0.length : Int))) && (ro (runW (R88_0 a0) (((a0.length : Int) - 1).toNat + 1) (fI (a0.getD (0 : Int).toNat AV.undef) 0, 1)) false (fun p19 => true))))
def v88_0 (a0 : List AV) : Int := (ro (runW (R88_0 a0) (((a0.length : Int) - 1).toNat + 1) (fI (a0.getD (0 : Int).toNat AV.undef) 0, 1)) 0 (fun p19 => p19))
theorem e88 (a0 : List AV) : funA c88 0 88 [AV.sl [.int .i64] a0] = (bif decide ((a0.length : Int) < 1) then none
  else (bif (decide (0 ≤ 0) && decide (0 < (a0.length : Int))) then (ro (runW (R88_0 a0) (((a0.length : Int) - 1).toNat + 1) (fI (a0.getD (0 : Int).toNat AV.undef) 0, 1)) none (fun p19 => some (AV.int .i64 p19)))
   else none)) := by kernel_rfl
theorem r88 (a0 : List AV) (h : q88 a0 = true) : funA c88 0 88 [AV.sl [.int .i64] a0] = some (AV.int .i64 (v88_0 a0)) := (e88 a0).trans ((brR (brL (brO (fun o : Option (Int) => some (AV.int .i64 (ro o 0 (fun p19 => p19)))) (fun p19 => (fun _ => rfl))))) h)
def m88 : TModel
  | [.sl g0 a0] => bif ctsEq g0 ([.int .i64]) then some (q88 a0, AV.int .i64 (v88_0 a0)) else none
  | _ => none
theorem k88 : Known Try.prog 88 := ⟨Try.f88, Try.func88, by kernel_rfl, by kernel_rfl⟩
theorem meets88 : Meets Try.prog 88 m88 := by
  refine meet (f := Try.f88) (l := [(0, sub [1, 1, 1, 0, 1, 0, 0] (body Try.f88))]) (hs := [(88, 0, [0, 3, 4]), (88, 999, [2]), (88, 1000, [3]), (88, 1001, [0, 3, 4])]) (ts := []) (ws := []) (is := []) (ls := [(88, 0, l88_0)]) (lvl := 0) mixed k88 Try.func88 (by kernel_rfl) (loops_cons ok88_0 noLoop) allT_nil allM_nil noI fun w xs us r hl hv h => ?_
  unfold m88 at h
  split at h
  · rename_i g0 a0
    obtain ⟨hg, h⟩ := bif_pair h
    have q0 := hg
    obtain rfl := ctsEq_eq _ _ q0
    obtain ⟨h1, rfl⟩ := pair_inj h
    exact r88 a0 h1
  · cases h

/-! ### 139 slices.Clone[[]int,int] -/
noncomputable def c139 : Cfg := cfg Try.prog [(139, 999, [2])] [] [] [] []
def q139 (a0 : List AV) : Bool := decide (a0.length * 8 ≤ 140737488355328) && decide (a0.length ≤ 140737488355328)
def v139_0 (a0 : List AV) : List AV := a0
theorem e139 (a0 : List AV) : funA c139 0 139 [AV.sl [.int .i64] a0] = (bif decide (0 < a0.length) then (bif (decide ((([] : List AV).length + a0.length) * 8 ≤ 140737488355328) && decide ((([] : List AV).length + a0.length) ≤ 140737488355328)) then some (AV.fl [.int .i64] (([] : List AV) ++ a0))
   else none)
  else none) := by kernel_rfl
theorem e139n (b : Bool) : funA c139 0 139 [AV.sle b [.int .i64]] = some (AV.fl [.int .i64] []) := by cases b <;> kernel_rfl
def m139 : TModel
  | [.sl g0 a0] => bif ctsEq g0 [.int .i64] then some (q139 a0, AV.fl [.int .i64] (v139_0 a0)) else none
  | _ => none
theorem k139 : Known Try.prog 139 := ⟨Try.f139, Try.func139, by kernel_rfl, by kernel_rfl⟩
theorem meets139 : Meets Try.prog 139 m139 := by
  refine meet_nil (f := Try.f139) (l := []) (hs := [(139, 999, [2])]) (ts := []) (ws := []) (is := []) (ls := []) (lvl := 0) (tys := [.int .i64]) mixed k139 Try.func139 (by kernel_rfl) noLoop allT_nil allM_nil noI (fun xs r h => ?_) (fun b r h => ?_) (fun ys r h0 h => ?_)
  · unfold m139 at h
    split at h
    · rename_i g0 a0
      obtain ⟨hg, h⟩ := bif_pair h
      obtain rfl := ctsEq_eq _ _ hg
      exact ⟨a0, rfl⟩
    · cases h
  · obtain ⟨hg, h⟩ := bif_pair (g := ctsEq [.int .i64] [.int .i64]) h
    obtain ⟨_, rfl⟩ := pair_inj h
    exact e139n b
  · obtain ⟨hg, h⟩ := bif_pair (g := ctsEq [.int .i64] [.int .i64]) h
    obtain ⟨hq, rfl⟩ := pair_inj h
    refine (e139 ys).trans ?_
    unfold q139 at hq
    have e : ([] : List AV).length + ys.length = ys.length := by simp
    rw [e, hq, decide_eq_true h0]
    rfl

/-! ### 140 slices.Sort[[]int,int] -/
def q140 (b0 : List AV) : Bool := decide (b0.length * 8 ≤ 140737488355328)
def v140_0 (b0 : List AV) : List AV := sortL b0
def m140 : WModel := sortM
theorem k140 : Known Try.prog 140 := ⟨Try.f140, Try.func140, by kernel_rfl, by kernel_rfl⟩
theorem meets140 : MeetsM Try.prog 140 m140 := sort_meets ⟨k140, fun blk off cap zs w h1 h2 h3 => Any.slices_Sort_int lays189 blk off cap zs w h1 h2 h3, fun p cap w => Any.slices_Sort_int_none lays189 p cap w⟩

/-! ### 89 loop.example/g01984/impl.SortInts -/
noncomputable def c89 : Cfg := cfg Try.prog [(89, 999, [2])] [(139, m139)] [(140, m140)] [] []
def q89 (a0 : List AV) : Bool := (q139 a0 && q140 (v139_0 a0))
def v89_0 (a0 : List AV) : List AV := (v140_0 (v139_0 a0))
theorem e89 (a0 : List AV) : funA c89 0 89 [AV.sl [.int .i64] a0] = (bif q139 a0 then (bif q140 (v139_0 a0) then some (AV.fl [.int .i64] (v140_0 (v139_0 a0)))
   else none)
  else none) := by kernel_rfl
theorem r89 (a0 : List AV) (h : q89 a0 = true) : funA c89 0 89 [AV.sl [.int .i64] a0] = some (AV.fl [.int .i64] (v89_0 a0)) := (e89 a0).trans ((brL (brL1 (fun _ => rfl))) h)
def m89 : TModel
  | [.sl g0 a0] => bif ctsEq g0 ([.int .i64]) then some (q89 a0, AV.fl [.int .i64] (v89_0 a0)) else none
  | _ => none
theorem k89 : Known Try.prog 89 := ⟨Try.f89, Try.func89, by kernel_rfl, by kernel_rfl⟩
theorem meets89 : Meets Try.prog 89 m89 := by
  refine meet (f := Try.f89) (l := []) (hs := [(89, 999, [2])]) (ts := [(139, m139)]) (ws := [(140, m140)]) (is := []) (ls := []) (lvl := 0) mixed k89 Try.func89 (by kernel_rfl) noLoop (allT_cons meets139 allT_nil) (allM_cons meets140 allM_nil) noI fun w xs us r hl hv h => ?_
  unfold m89 at h
  split at h
  · rename_i g0 a0
    obtain ⟨hg, h⟩ := bif_pair h
    have q0 := hg
    obtain rfl := ctsEq_eq _ _ q0
    obtain ⟨h1, rfl⟩ := pair_inj h
    exact r89 a0 h1
  · cases h

/-! ### 90 slices.Index[[]int,int] -/
def F90_0 (t0 : List AV) (t1 : Int) (t7 : Int) (t8 : Int) : Out (Int) (Unit ⊕ Int) := (bif decide (t8 < t7) then (bif (decide (0 ≤ t8) && decide (t8 < (t0.length : Int))) then (bif decide (t1 = fI (t0.getD t8.toNat AV.undef) 0) then .stop (.inr t8)
    else .next (IntKind.i64.wrap (t8 + 1)))
   else .fail)
  else .stop (.inl ()))
def R90_0 (t0 : List AV) (t1 : Int) (t7 : Int) : (Int) → Out (Int) (Unit ⊕ Int) := fun s : Int => F90_0 t0 t1 t7 s
def l90_0 : LModel := fun _ _ st k => match st with
  | ⟨[(0, .sl g0 t0), (1, .int .i64 t1), (7, .int .i64 t7), (8, .int .i64 t8)], []⟩ => bif ctsEq g0 ([.int .i64]) then ro (runW (R90_0 t0 t1 t7) ((t7 - t8).toNat + 1) t8) none (sumE (fun _ : Unit => k (.exit 0) ⟨[], []⟩) (fun p : Int => k .ret ⟨[(4, AV.int .i64 p)], []⟩)) else none
  | _ => none
noncomputable def c90 : Cfg := cfg Try.prog [(90, 0, [0, 1, 7, 8]), (90, 999, [4]), (90, 1000, []), (90, 1001, [0, 1, 7, 8])] [] [] [] [(90, 0, l90_0)]
theorem s90_0 (ce : CallE) (t0 : List AV) (t1 : Int) (t7 : Int) (t8 : Int) (next : St → Option AV) (k : Kont) : stepA (codeA c90 ce [] 90 0 (sub [1, 0, 1, 0, 0] (body Try.f90))) (normA [] [0, 1, 7, 8]) next ⟨[(0, AV.sl [.int .i64] t0), (1, AV.int .i64 t1), (7, AV.int .i64 t7), (8, AV.int .i64 t8)], []⟩ k = (bif decide (t8 < t7) then (bif (decide (0 ≤ t8) && decide (t8 < (t0.length : Int))) then (bif decide (t1 = fI (t0.getD t8.toNat AV.undef) 0) then k .ret ⟨[(4, AV.int .i64 t8)], []⟩
    else next ⟨[(0, AV.sl [.int .i64] t0), (1, AV.int .i64 t1), (7, AV.int .i64 t7), (8, AV.int .i64 (IntKind.i64.wrap (t8 + 1)))], []⟩)
   else none)
  else k (.exit 0) ⟨[], []⟩) := by kernel_rfl
theorem st90_0 (t0 : List AV) (t1 : Int) (t7 : Int) (ce : CallE) (k : Kont) (s : Int) (next : St → Option AV) : stepA (codeA c90 ce [] 90 0 (sub [1, 0, 1, 0, 0] (body Try.f90))) (normA [] [0, 1, 7, 8]) next ((fun s : Int => ⟨[(0, AV.sl [.int .i64] t0), (1, AV.int .i64 t1), (7, AV.int .i64 t7), (8, AV.int .i64 s)], []⟩) s) k = (R90_0 t0 t1 t7 s).el none (fun s => next ((fun s : Int => ⟨[(0, AV.sl [.int .i64] t0), (1, AV.int .i64 t1), (7, AV.int .i64 t7), (8, AV.int .i64 s)], []⟩) s)) (sumE (fun _ : Unit => k (.exit 0) ⟨[], []⟩) (fun p : Int => k .ret ⟨[(4, AV.int .i64 p)], []⟩)) := (s90_0 ce t0 t1 t7 s next k).trans (by unfold R90_0; unfold F90_0; simp only [el_cond, el_ro, el_sum, el_fail, el_next, el_stop] <;> rfl)
theorem ok90_0 {ce : CallE} : LoopOK c90 ce [] 90 0 (sub [1, 0, 1, 0, 0] (body Try.f90)) := by
  intro m hm st k r h
  obtain rfl : l90_0 = m := Option.some.inj hm
  unfold l90_0 at h
  split at h
  · rename_i g0 t0 t1 t7 t8
    obtain ⟨hg, h⟩ := bif_some h
    have q0 := hg
    obtain rfl := ctsEq_eq _ _ q0
    refine ⟨((t7 - t8).toNat + 1), ?_⟩
    rw [← h]
    exact loop_run (fun s : Int => ⟨[(0, AV.sl [.int .i64] t0), (1, AV.int .i64 t1), (7, AV.int .i64 t7), (8, AV.int .i64 s)], []⟩) (sumE (fun _ : Unit => k (.exit 0) ⟨[], []⟩) (fun p : Int => k .ret ⟨[(4, AV.int .i64 p)], []⟩)) (st90_0 t0 t1 t7 ce k) _ t8
  · cases h
def q90 (a0 : List AV) (a1 : Int) : Bool := (ro (runW (R90_0 a0 a1 (a0.length : Int)) (((a0.length : Int) - 0).toNat + 1) 0) false (sumE (fun _ => true) (fun p22 => true)))
def v90_0 (a0 : List AV) (a1 : Int) : Int := (ro (runW (R90_0 a0 a1 (a0.length : Int)) (((a0.length : Int) - 0).toNat + 1) 0) 0 (sumE (fun _ => (-1)) (fun p22 => p22)))
theorem e90 (a0 : List AV) (a1 : Int) : funA c90 0 90 [AV.sl [.int .i64] a0, AV.int .i64 a1] = (ro (runW (R90_0 a0 a1 (a0.length : Int)) (((a0.length : Int) - 0).toNat + 1) 0) none (sumE (fun _ => some (AV.int .i64 (-1))) (fun p22 => some (AV.int .i64 p22)))) := by kernel_rfl
theorem r90 (a0 : List AV) (a1 : Int) (h : q90 a0 a1 = true) : funA c90 0 90 [AV.sl [.int .i64] a0, AV.int .i64 a1] = some (AV.int .i64 (v90_0 a0 a1)) := (e90 a0 a1).trans ((brO (fun o : Option (Unit ⊕ Int) => some (AV.int .i64 (ro o 0 (sumE (fun _ => (-1)) (fun p22 => p22))))) (brS (fun o : Unit ⊕ Int => some (AV.int .i64 ((sumE (fun _ => (-1)) (fun p22 => p22)) o))) (fun _ => (fun _ => rfl)) (fun p22 => (fun _ => rfl)))) h)
def m90 : TModel
  | [.sl g0 a0, .int .i64 a1] => bif ctsEq g0 ([.int .i64]) then some (q90 a0 a1, AV.int .i64 (v90_0 a0 a1)) else none
  | _ => none
theorem k90 : Known Try.prog 90 := ⟨Try.f90, Try.func90, by kernel_rfl, by kernel_rfl⟩
theorem meets90 : Meets Try.prog 90 m90 := by
  refine meet (f := Try.f90) (l := [(0, sub [1, 0, 1, 0, 0] (body Try.f90))]) (hs := [(90, 0, [0, 1, 7, 8]), (90, 999, [4]), (90, 1000, []), (90, 1001, [0, 1, 7, 8])]) (ts := []) (ws := []) (is := []) (ls := [(90, 0, l90_0)]) (lvl := 0) mixed k90 Try.func90 (by kernel_rfl) (loops_cons ok90_0 noLoop) allT_nil allM_nil noI fun w xs us r hl hv h => ?_
  unfold m90 at h
  split at h
  · rename_i g0 a0 a1
    obtain ⟨hg, h⟩ := bif_pair h
    have q0 := hg
    obtain rfl := ctsEq_eq _ _ q0
    obtain ⟨h1, rfl⟩ := pair_inj h
    exact r90 a0 a1 h1
  · cases h

/-! ### 32 loop.example/g01984/impl.HottestRange -/
def F32_2 (t0 : List AV) (t7 : Int) (t8 : Int) (t43 : Int) (h0_0 : Int) (h0_1 : Int) (h1 : List AV) (h2 : List AV) (t11 : Int) (t44 : Int) : Out ((Int × Int)) (Int) := (bif decide (t44 < t43) then (bif (decide (0 ≤ t44) && decide (t44 < (h2.length : Int))) then (bif decide (fI (h2.getD t44.toNat AV.undef) 0 < t8) then .next (t11, IntKind.i64.wrap (t44 + 1))
    else (bif q90 t0 (fI (h2.getD t44.toNat AV.undef) 0) then (bif (decide (0 ≤ (v90_0 t0 (fI (h2.getD t44.toNat AV.undef) 0))) && decide ((v90_0 t0 (fI (h2.getD t44.toNat AV.undef) 0)) < (h1.length : Int))) then (bif !decide (fI (h1.getD (v90_0 t0 (fI (h2.getD t44.toNat AV.undef) 0)).toNat AV.undef) 0 = t7) then .stop t11
       else .next (fI (h2.getD t44.toNat AV.undef) 0, IntKind.i64.wrap (t44 + 1)))
      else .fail)
     else .fail))
   else .fail)
  else .stop t11)
def R32_2 (t0 : List AV) (t7 : Int) (t8 : Int) (t43 : Int) (h0_0 : Int) (h0_1 : Int) (h1 : List AV) (h2 : List AV) : ((Int × Int)) → Out ((Int × Int)) (Int) := fun s : Int × Int => F32_2 t0 t7 t8 t43 h0_0 h0_1 h1 h2 s.1 s.2
def l32_2 : LModel := fun _ _ st k => match st with
  | ⟨[(0, .sl g0 t0), (4, .ptr g1 g2 g3), (6, .own g4), (7, .int .i64 t7), (8, .int .i64 t8), (11, .int .i64 t11), (42, .own g5), (43, .int .i64 t43), (44, .int .i64 t44)], [(g6, ⟨true, [], [.agg [.int .i64 h0_0, .int .i64 h0_1]]⟩), (g7, ⟨false, g8, h1⟩), (g9, ⟨false, g10, h2⟩)]⟩ => bif ctsEq g0 ([.int .i64]) && nmEq g1 ([0, 4]) && Nat.beq g2 0 && Nat.beq g3 0 && nmEq g4 ([0, 6]) && nmEq g5 ([0, 42]) && nmEq g6 ([0, 4]) && nmEq g7 ([0, 6]) && ctsEq g8 ([.int .i64]) && nmEq g9 ([0, 42]) && ctsEq g10 ([.int .i64]) then ro (runW (R32_2 t0 t7 t8 t43 h0_0 h0_1 h1 h2) ((t43 - t44).toNat + 1) (t11, t44)) none (fun p : Int => k (.exit 2) ⟨[(4, AV.ptr [0, 4] 0 0), (7, AV.int .i64 t7), (8, AV.int .i64 t8), (11, AV.int .i64 p)], [([0, 4], ⟨true, [], [AV.agg [AV.int .i64 h0_0, AV.int .i64 h0_1]]⟩), ([0, 6], ⟨false, [.int .i64], h1⟩), ([0, 42], ⟨false, [.int .i64], h2⟩)]⟩) else none
  | _ => none
def F32_0 (t0 : List AV) (t7 : Int) (t23 : List AV) (t24 : Int) (h0_0 : Int) (h0_1 : Int) (h1 : List AV) (t8 : Int) (t25 : Int) : Out ((Int × Int)) (Int) := (bif decide (t25 < t24) then (bif (decide (0 ≤ t25) && decide (t25 < (t23.length : Int))) then (bif (decide (0 ≤ t25) && decide (t25 < (h1.length : Int))) then (bif decide (fI (h1.getD t25.toNat AV.undef) 0 = t7) then .next ((if fI (t23.getD t25.toNat AV.undef) 0 < t8 then fI (t23.getD t25.toNat AV.undef) 0 else t8), IntKind.i64.wrap (t25 + 1))
     else .next (t8, IntKind.i64.wrap (t25 + 1)))
    else .fail)
   else .fail)
  else .stop t8)
def R32_0 (t0 : List AV) (t7 : Int) (t23 : List AV) (t24 : Int) (h0_0 : Int) (h0_1 : Int) (h1 : List AV) : ((Int × Int)) → Out ((Int × Int)) (Int) := fun s : Int × Int => F32_0 t0 t7 t23 t24 h0_0 h0_1 h1 s.1 s.2
def l32_0 : LModel := fun _ _ st k => match st with
  | ⟨[(0, .sl g0 t0), (4, .ptr g1 g2 g3), (6, .own g4), (7, .int .i64 t7), (8, .int .i64 t8), (23, .sl g5 t23), (24, .int .i64 t24), (25, .int .i64 t25)], [(g6, ⟨true, [], [.agg [.int .i64 h0_0, .int .i64 h0_1]]⟩), (g7, ⟨false, g8, h1⟩)]⟩ => bif ctsEq g0 ([.int .i64]) && nmEq g1 ([0, 4]) && Nat.beq g2 0 && Nat.beq g3 0 && nmEq g4 ([0, 6]) && ctsEq g5 ([.int .i64]) && nmEq g6 ([0, 4]) && nmEq g7 ([0, 6]) && ctsEq g8 ([.int .i64]) then ro (runW (R32_0 t0 t7 t23 t24 h0_0 h0_1 h1) ((t24 - t25).toNat + 1) (t8, t25)) none (fun p : Int => k (.exit 0) ⟨[(0, AV.sl [.int .i64] t0), (4, AV.ptr [0, 4] 0 0), (6, AV.own [0, 6]), (7, AV.int .i64 t7), (8, AV.int .i64 p)], [([0, 4], ⟨true, [], [AV.agg [AV.int .i64 h0_0, AV.int .i64 h0_1]]⟩), ([0, 6], ⟨false, [.int .i64], h1⟩)]⟩) else none
  | _ => none
noncomputable def c32 : Cfg := cfg Try.prog [(32, 0, [0, 4, 6, 7, 8, 23, 24, 25]), (32, 2, [0, 4, 6, 7, 8, 11, 42, 43, 44]), (32, 999, [4, 5]), (32, 1000, [0, 4, 6, 7, 8]), (32, 1001, [0, 4, 6, 7, 8, 23, 24, 25]), (32, 1002, [4, 7, 8, 11]), (32, 1003, [0, 4, 6, 7, 8, 11, 42, 43, 44])] [(87, m87), (88, m88), (89, m89), (90, m90)] [] [] [(32, 0, l32_0), (32, 2, l32_2)]
theorem s32_2 (ce : CallE) (t0 : List AV) (t7 : Int) (t8 : Int) (t11 : Int) (t43 : Int) (t44 : Int) (h0_0 : Int) (h0_1 : Int) (h1 : List AV) (h2 : List AV) (next : St → Option AV) (k : Kont) : stepA (codeA c32 ce [] 32 2 (sub [1, 1, 1, 1, 1, 1, 1, 0, 1, 0, 0] (body Try.f32))) (normA [] [0, 4, 6, 7, 8, 11, 42, 43, 44]) next ⟨[(0, AV.sl [.int .i64] t0), (4, AV.ptr [0, 4] 0 0), (6, AV.own [0, 6]), (7, AV.int .i64 t7), (8, AV.int .i64 t8), (11, AV.int .i64 t11), (42, AV.own [0, 42]), (43, AV.int .i64 t43), (44, AV.int .i64 t44)], [([0, 4], ⟨true, [], [AV.agg [AV.int .i64 h0_0, AV.int .i64 h0_1]]⟩), ([0, 6], ⟨false, [.int .i64], h1⟩), ([0, 42], ⟨false, [.int .i64], h2⟩)]⟩ k = (bif decide (t44 < t43) then (bif (decide (0 ≤ t44) && decide (t44 < (h2.length : Int))) then (bif decide (fI (h2.getD t44.toNat AV.undef) 0 < t8) then next ⟨[(0, AV.sl [.int .i64] t0), (4, AV.ptr [0, 4] 0 0), (6, AV.own [0, 6]), (7, AV.int .i64 t7), (8, AV.int .i64 t8), (11, AV.int .i64 t11), (42, AV.own [0, 42]), (43, AV.int .i64 t43), (44, AV.int .i64 (IntKind.i64.wrap (t44 + 1)))], [([0, 4], ⟨true, [], [AV.agg [AV.int .i64 h0_0, AV.int .i64 h0_1]]⟩), ([0, 6], ⟨false, [.int .i64], h1⟩), ([0, 42], ⟨false, [.int .i64], h2⟩)]⟩
    else (bif q90 t0 (fI (h2.getD t44.toNat AV.undef) 0) then (bif (decide (0 ≤ (v90_0 t0 (fI (h2.getD t44.toNat AV.undef) 0))) && decide ((v90_0 t0 (fI (h2.getD t44.toNat AV.undef) 0)) < (h1.length : Int))) then (bif !decide (fI (h1.getD (v90_0 t0 (fI (h2.getD t44.toNat AV.undef) 0)).toNat AV.undef) 0 = t7) then k (.exit 2) ⟨[(4, AV.ptr [0, 4] 0 0), (7, AV.int .i64 t7), (8, AV.int .i64 t8), (11, AV.int .i64 t11)], [([0, 4], ⟨true, [], [AV.agg [AV.int .i64 h0_0, AV.int .i64 h0_1]]⟩), ([0, 6], ⟨false, [.int .i64], h1⟩), ([0, 42], ⟨false, [.int .i64], h2⟩)]⟩
       else next ⟨[(0, AV.sl [.int .i64] t0), (4, AV.ptr [0, 4] 0 0), (6, AV.own [0, 6]), (7, AV.int .i64 t7), (8, AV.int .i64 t8), (11, AV.int .i64 (fI (h2.getD t44.toNat AV.undef) 0)), (42, AV.own [0, 42]), (43, AV.int .i64 t43), (44, AV.int .i64 (IntKind.i64.wrap (t44 + 1)))], [([0, 4], ⟨true, [], [AV.agg [AV.int .i64 h0_0, AV.int .i64 h0_1]]⟩), ([0, 6], ⟨false, [.int .i64], h1⟩), ([0, 42], ⟨false, [.int .i64], h2⟩)]⟩)
      else none)
     else none))
   else none)
  else k (.exit 2) ⟨[(4, AV.ptr [0, 4] 0 0), (7, AV.int .i64 t7), (8, AV.int .i64 t8), (11, AV.int .i64 t11)], [([0, 4], ⟨true, [], [AV.agg [AV.int .i64 h0_0, AV.int .i64 h0_1]]⟩), ([0, 6], ⟨false, [.int .i64], h1⟩), ([0, 42], ⟨false, [.int .i64], h2⟩)]⟩) := by kernel_rfl
theorem st32_2 (t0 : List AV) (t7 : Int) (t8 : Int) (t43 : Int) (h0_0 : Int) (h0_1 : Int) (h1 : List AV) (h2 : List AV) (ce : CallE) (k : Kont) (s : (Int × Int)) (next : St → Option AV) : stepA (codeA c32 ce [] 32 2 (sub [1, 1, 1, 1, 1, 1, 1, 0, 1, 0, 0] (body Try.f32))) (normA [] [0, 4, 6, 7, 8, 11, 42, 43, 44]) next ((fun s : Int × Int => ⟨[(0, AV.sl [.int .i64] t0), (4, AV.ptr [0, 4] 0 0), (6, AV.own [0, 6]), (7, AV.int .i64 t7), (8, AV.int .i64 t8), (11, AV.int .i64 s.1), (42, AV.own [0, 42]), (43, AV.int .i64 t43), (44, AV.int .i64 s.2)], [([0, 4], ⟨true, [], [AV.agg [AV.int .i64 h0_0, AV.int .i64 h0_1]]⟩), ([0, 6], ⟨false, [.int .i64], h1⟩), ([0, 42], ⟨false, [.int .i64], h2⟩)]⟩) s) k = (R32_2 t0 t7 t8 t43 h0_0 h0_1 h1 h2 s).el none (fun s => next ((fun s : Int × Int => ⟨[(0, AV.sl [.int .i64] t0), (4, AV.ptr [0, 4] 0 0), (6, AV.own [0, 6]), (7, AV.int .i64 t7), (8, AV.int .i64 t8), (11, AV.int .i64 s.1), (42, AV.own [0, 42]), (43, AV.int .i64 t43), (44, AV.int .i64 s.2)], [([0, 4], ⟨true, [], [AV.agg [AV.int .i64 h0_0, AV.int .i64 h0_1]]⟩), ([0, 6], ⟨false, [.int .i64], h1⟩), ([0, 42], ⟨false, [.int .i64], h2⟩)]⟩) s)) (fun p : Int => k (.exit 2) ⟨[(4, AV.ptr [0, 4] 0 0), (7, AV.int .i64 t7), (8, AV.int .i64 t8), (11, AV.int .i64 p)], [([0, 4], ⟨true, [], [AV.agg [AV.int .i64 h0_0, AV.int .i64 h0_1]]⟩), ([0, 6], ⟨false, [.int .i64], h1⟩), ([0, 42], ⟨false, [.int .i64], h2⟩)]⟩) := (s32_2 ce t0 t7 t8 s.1 t43 s.2 h0_0 h0_1 h1 h2 next k).trans (by unfold R32_2; unfold F32_2; simp only [el_cond, el_ro, el_sum, el_fail, el_next, el_stop] <;> rfl)
theorem ok32_2 {ce : CallE} : LoopOK c32 ce [] 32 2 (sub [1, 1, 1, 1, 1, 1, 1, 0, 1, 0, 0] (body Try.f32)) := by
  intro m hm st k r h
  obtain rfl : l32_2 = m := Option.some.inj hm
  unfold l32_2 at h
  split at h
  · rename_i g0 t0 g1 g2 g3 g4 t7 t8 t11 g5 t43 t44 g6 h0_0 h0_1 g7 g8 h1 g9 g10 h2
    obtain ⟨hg, h⟩ := bif_some h
    simp only [Bool.and_eq_true] at hg
    obtain ⟨⟨⟨⟨⟨⟨⟨⟨⟨⟨q0, q1⟩, q2⟩, q3⟩, q4⟩, q5⟩, q6⟩, q7⟩, q8⟩, q9⟩, q10⟩ := hg
    obtain rfl := ctsEq_eq _ _ q0
    obtain rfl := (nmEq_iff _ _).1 q1
    obtain rfl := Nat.eq_of_beq_eq_true q2
    obtain rfl := Nat.eq_of_beq_eq_true q3
    obtain rfl := (nmEq_iff _ _).1 q4
    obtain rfl := (nmEq_iff _ _).1 q5
    obtain rfl := (nmEq_iff _ _).1 q6
    obtain rfl := (nmEq_iff _ _).1 q7
    obtain rfl := ctsEq_eq _ _ q8
    obtain rfl := (nmEq_iff _ _).1 q9
    obtain rfl := ctsEq_eq _ _ q10
    refine ⟨((t43 - t44).toNat + 1), ?_⟩
    rw [← h]
    exact loop_run (fun s : Int × Int => ⟨[(0, AV.sl [.int .i64] t0), (4, AV.ptr [0, 4] 0 0), (6, AV.own [0, 6]), (7, AV.int .i64 t7), (8, AV.int .i64 t8), (11, AV.int .i64 s.1), (42, AV.own [0, 42]), (43, AV.int .i64 t43), (44, AV.int .i64 s.2)], [([0, 4], ⟨true, [], [AV.agg [AV.int .i64 h0_0, AV.int .i64 h0_1]]⟩), ([0, 6], ⟨false, [.int .i64], h1⟩), ([0, 42], ⟨false, [.int .i64], h2⟩)]⟩) (fun p : Int => k (.exit 2) ⟨[(4, AV.ptr [0, 4] 0 0), (7, AV.int .i64 t7), (8, AV.int .i64 t8), (11, AV.int .i64 p)], [([0, 4], ⟨true, [], [AV.agg [AV.int .i64 h0_0, AV.int .i64 h0_1]]⟩), ([0, 6], ⟨false, [.int .i64], h1⟩), ([0, 42], ⟨false, [.int .i64], h2⟩)]⟩) (st32_2 t0 t7 t8 t43 h0_0 h0_1 h1 h2 ce k) _ (t11, t44)
  · cases h
theorem s32_0 (ce : CallE) (t0 : List AV) (t7 : Int) (t8 : Int) (t23 : List AV) (t24 : Int) (t25 : Int) (h0_0 : Int) (h0_1 : Int) (h1 : List AV) (next : St → Option AV) (k : Kont) : stepA (codeA c32 ce [] 32 0 (sub [1, 1, 1, 1, 1, 0, 1, 0, 0] (body Try.f32))) (normA [] [0, 4, 6, 7, 8, 23, 24, 25]) next ⟨[(0, AV.sl [.int .i64] t0), (4, AV.ptr [0, 4] 0 0), (6, AV.own [0, 6]), (7, AV.int .i64 t7), (8, AV.int .i64 t8), (23, AV.sl [.int .i64] t23), (24, AV.int .i64 t24), (25, AV.int .i64 t25)], [([0, 4], ⟨true, [], [AV.agg [AV.int .i64 h0_0, AV.int .i64 h0_1]]⟩), ([0, 6], ⟨false, [.int .i64], h1⟩)]⟩ k = (bif decide (t25 < t24) then (bif (decide (0 ≤ t25) && decide (t25 < (t23.length : Int))) then (bif (decide (0 ≤ t25) && decide (t25 < (h1.length : Int))) then (bif decide (fI (h1.getD t25.toNat AV.undef) 0 = t7) then next ⟨[(0, AV.sl [.int .i64] t0), (4, AV.ptr [0, 4] 0 0), (6, AV.own [0, 6]), (7, AV.int .i64 t7), (8, AV.int .i64 (if fI (t23.getD t25.toNat AV.undef) 0 < t8 then fI (t23.getD t25.toNat AV.undef) 0 else t8)), (23, AV.sl [.int .i64] t23), (24, AV.int .i64 t24), (25, AV.int .i64 (IntKind.i64.wrap (t25 + 1)))], [([0, 4], ⟨true, [], [AV.agg [AV.int .i64 h0_0, AV.int .i64 h0_1]]⟩), ([0, 6], ⟨false, [.int .i64], h1⟩)]⟩
     else next ⟨[(0, AV.sl [.int .i64] t0), (4, AV.ptr [0, 4] 0 0), (6, AV.own [0, 6]), (7, AV.int .i64 t7), (8, AV.int .i64 t8), (23, AV.sl [.int .i64] t23), (24, AV.int .i64 t24), (25, AV.int .i64 (IntKind.i64.wrap (t25 + 1)))], [([0, 4], ⟨true, [], [AV.agg [AV.int .i64 h0_0, AV.int .i64 h0_1]]⟩), ([0, 6], ⟨false, [.int .i64], h1⟩)]⟩)
    else none)
   else none)
  else k (.exit 0) ⟨[(0, AV.sl [.int .i64] t0), (4, AV.ptr [0, 4] 0 0), (6, AV.own [0, 6]), (7, AV.int .i64 t7), (8, AV.int .i64 t8)], [([0, 4], ⟨true, [], [AV.agg [AV.int .i64 h0_0, AV.int .i64 h0_1]]⟩), ([0, 6], ⟨false, [.int .i64], h1⟩)]⟩) := by kernel_rfl
theorem st32_0 (t0 : List AV) (t7 : Int) (t23 : List AV) (t24 : Int) (h0_0 : Int) (h0_1 : Int) (h1 : List AV) (ce : CallE) (k : Kont) (s : (Int × Int)) (next : St → Option AV) : stepA (codeA c32 ce [] 32 0 (sub [1, 1, 1, 1, 1, 0, 1, 0, 0] (body Try.f32))) (normA [] [0, 4, 6, 7, 8, 23, 24, 25]) next ((fun s : Int × Int => ⟨[(0, AV.sl [.int .i64] t0), (4, AV.ptr [0, 4] 0 0), (6, AV.own [0, 6]), (7, AV.int .i64 t7), (8, AV.int .i64 s.1), (23, AV.sl [.int .i64] t23), (24, AV.int .i64 t24), (25, AV.int .i64 s.2)], [([0, 4], ⟨true, [], [AV.agg [AV.int .i64 h0_0, AV.int .i64 h0_1]]⟩), ([0, 6], ⟨false, [.int .i64], h1⟩)]⟩) s) k = (R32_0 t0 t7 t23 t24 h0_0 h0_1 h1 s).el none (fun s => next ((fun s : Int × Int => ⟨[(0, AV.sl [.int .i64] t0), (4, AV.ptr [0, 4] 0 0), (6, AV.own [0, 6]), (7, AV.int .i64 t7), (8, AV.int .i64 s.1), (23, AV.sl [.int .i64] t23), (24, AV.int .i64 t24), (25, AV.int .i64 s.2)], [([0, 4], ⟨true, [], [AV.agg [AV.int .i64 h0_0, AV.int .i64 h0_1]]⟩), ([0, 6], ⟨false, [.int .i64], h1⟩)]⟩) s)) (fun p : Int => k (.exit 0) ⟨[(0, AV.sl [.int .i64] t0), (4, AV.ptr [0, 4] 0 0), (6, AV.own [0, 6]), (7, AV.int .i64 t7), (8, AV.int .i64 p)], [([0, 4], ⟨true, [], [AV.agg [AV.int .i64 h0_0, AV.int .i64 h0_1]]⟩), ([0, 6], ⟨false, [.int .i64], h1⟩)]⟩) := (s32_0 ce t0 t7 s.1 t23 t24 s.2 h0_0 h0_1 h1 next k).trans (by unfold R32_0; unfold F32_0; simp only [el_cond, el_ro, el_sum, el_fail, el_next, el_stop] <;> rfl)
theorem ok32_0 {ce : CallE} : LoopOK c32 ce [] 32 0 (sub [1, 1, 1, 1, 1, 0, 1, 0, 0] (body Try.f32)) := by
  intro m hm st k r h
  obtain rfl : l32_0 = m := Option.some.inj hm
  unfold l32_0 at h
  split at h
  · rename_i g0 t0 g1 g2 g3 g4 t7 t8 g5 t23 t24 t25 g6 h0_0 h0_1 g7 g8 h1
    obtain ⟨hg, h⟩ := bif_some h
    simp only [Bool.and_eq_true] at hg
    obtain ⟨⟨⟨⟨⟨⟨⟨⟨q0, q1⟩, q2⟩, q3⟩, q4⟩, q5⟩, q6⟩, q7⟩, q8⟩ := hg
    obtain rfl := ctsEq_eq _ _ q0
    obtain rfl := (nmEq_iff _ _).1 q1
    obtain rfl := Nat.eq_of_beq_eq_true q2
    obtain rfl := Nat.eq_of_beq_eq_true q3
    obtain rfl := (nmEq_iff _ _).1 q4
    obtain rfl := ctsEq_eq _ _ q5
    obtain rfl := (nmEq_iff _ _).1 q6
    obtain rfl := (nmEq_iff _ _).1 q7
    obtain rfl := ctsEq_eq _ _ q8
    refine ⟨((t24 - t25).toNat + 1), ?_⟩
    rw [← h]
    exact loop_run (fun s : Int × Int => ⟨[(0, AV.sl [.int .i64] t0), (4, AV.ptr [0, 4] 0 0), (6, AV.own [0, 6]), (7, AV.int .i64 t7), (8, AV.int .i64 s.1), (23, AV.sl [.int .i64] t23), (24, AV.int .i64 t24), (25, AV.int .i64 s.2)], [([0, 4], ⟨true, [], [AV.agg [AV.int .i64 h0_0, AV.int .i64 h0_1]]⟩), ([0, 6], ⟨false, [.int .i64], h1⟩)]⟩) (fun p : Int => k (.exit 0) ⟨[(0, AV.sl [.int .i64] t0), (4, AV.ptr [0, 4] 0 0), (6, AV.own [0, 6]), (7, AV.int .i64 t7), (8, AV.int .i64 p)], [([0, 4], ⟨true, [], [AV.agg [AV.int .i64 h0_0, AV.int .i64 h0_1]]⟩), ([0, 6], ⟨false, [.int .i64], h1⟩)]⟩) (st32_0 t0 t7 t23 t24 h0_0 h0_1 h1 ce k) _ (t8, t25)
  · cases h
def q32 (a0 : List AV) (a1 : List AV) : Bool := (q87 a0 a1 && (bif decide (((v87_0 a0 a1).length : Int) = 0) then true else (q88 (v87_0 a0 a1) && (ro (runW (R32_0 a0 (v88_0 (v87_0 a0 a1)) a0 (a0.length : Int) 0 0 (v87_0 a0 a1)) (((a0.length : Int) - 0).toNat + 1) (1000, 0)) false (fun p20 => (q89 a0 && (ro (runW (R32_2 a0 (v88_0 (v87_0 a0 a1)) p20 ((v89_0 a0).length : Int) 0 0 (v87_0 a0 a1) (v89_0 a0)) ((((v89_0 a0).length : Int) - 0).toNat + 1) (p20, 0)) false (fun p23 => true))))))))
def v32_0 (a0 : List AV) (a1 : List AV) : Int := (bif decide (((v87_0 a0 a1).length : Int) = 0) then 0 else (ro (runW (R32_0 a0 (v88_0 (v87_0 a0 a1)) a0 (a0.length : Int) 0 0 (v87_0 a0 a1)) (((a0.length : Int) - 0).toNat + 1) (1000, 0)) 0 (fun p20 => p20)))
def v32_1 (a0 : List AV) (a1 : List AV) : Int := (bif decide (((v87_0 a0 a1).length : Int) = 0) then 0 else (ro (runW (R32_0 a0 (v88_0 (v87_0 a0 a1)) a0 (a0.length : Int) 0 0 (v87_0 a0 a1)) (((a0.length : Int) - 0).toNat + 1) (1000, 0)) 0 (fun p20 => (ro (runW (R32_2 a0 (v88_0 (v87_0 a0 a1)) p20 ((v89_0 a0).length : Int) 0 0 (v87_0 a0 a1) (v89_0 a0)) ((((v89_0 a0).length : Int) - 0).toNat + 1) (p20, 0)) 0 (fun p23 => IntKind.i64.wrap (p23 + 1))))))
def v32_2 (a0 : List AV) (a1 : List AV) : Int := (bif decide (((v87_0 a0 a1).length : Int) = 0) then 0 else (v88_0 (v87_0 a0 a1)))
theorem e32 (a0 : List AV) (a1 : List AV) : funA c32 0 32 [AV.sl [.int .i64] a0, AV.sl [.int .i64, .int .i64] a1] = (bif q87 a0 a1 then (bif decide (((v87_0 a0 a1).length : Int) = 0) then some (AV.tup [AV.agg [AV.int .i64 0, AV.int .i64 0], AV.int .i64 0])
   else (bif q88 (v87_0 a0 a1) then (ro (runW (R32_0 a0 (v88_0 (v87_0 a0 a1)) a0 (a0.length : Int) 0 0 (v87_0 a0 a1)) (((a0.length : Int) - 0).toNat + 1) (1000, 0)) none (fun p20 => (bif q89 a0 then (ro (runW (R32_2 a0 (v88_0 (v87_0 a0 a1)) p20 ((v89_0 a0).length : Int) 0 0 (v87_0 a0 a1) (v89_0 a0)) ((((v89_0 a0).length : Int) - 0).toNat + 1) (p20, 0)) none (fun p23 => some (AV.tup [AV.agg [AV.int .i64 p20, AV.int .i64 (IntKind.i64.wrap (p23 + 1))], AV.int .i64 (v88_0 (v87_0 a0 a1))])))
      else none)))
    else none))
  else none) := by kernel_rfl
theorem r32 (a0 : List AV) (a1 : List AV) (h : q32 a0 a1 = true) : funA c32 0 32 [AV.sl [.int .i64] a0, AV.sl [.int .i64, .int .i64] a1] = some (AV.tup [AV.agg [AV.int .i64 (v32_0 a0 a1), AV.int .i64 (v32_1 a0 a1)], AV.int .i64 (v32_2 a0 a1)]) := (e32 a0 a1).trans ((brL (br (fun b => some (AV.tup [AV.agg [AV.int .i64 (bif b then 0 else (ro (runW (R32_0 a0 (v88_0 (v87_0 a0 a1)) a0 (a0.length : Int) 0 0 (v87_0 a0 a1)) (((a0.length : Int) - 0).toNat + 1) (1000, 0)) 0 (fun p20 => p20))), AV.int .i64 (bif b then 0 else (ro (runW (R32_0 a0 (v88_0 (v87_0 a0 a1)) a0 (a0.length : Int) 0 0 (v87_0 a0 a1)) (((a0.length : Int) - 0).toNat + 1) (1000, 0)) 0 (fun p20 => (ro (runW (R32_2 a0 (v88_0 (v87_0 a0 a1)) p20 ((v89_0 a0).length : Int) 0 0 (v87_0 a0 a1) (v89_0 a0)) ((((v89_0 a0).length : Int) - 0).toNat + 1) (p20, 0)) 0 (fun p23 => IntKind.i64.wrap (p23 + 1))))))], AV.int .i64 (bif b then 0 else (v88_0 (v87_0 a0 a1)))])) (fun _ => rfl) (brL (brO (fun o : Option (Int) => some (AV.tup [AV.agg [AV.int .i64 (ro o 0 (fun p20 => p20)), AV.int .i64 (ro o 0 (fun p20 => (ro (runW (R32_2 a0 (v88_0 (v87_0 a0 a1)) p20 ((v89_0 a0).length : Int) 0 0 (v87_0 a0 a1) (v89_0 a0)) ((((v89_0 a0).length : Int) - 0).toNat + 1) (p20, 0)) 0 (fun p23 => IntKind.i64.wrap (p23 + 1)))))], AV.int .i64 (v88_0 (v87_0 a0 a1))])) (fun p20 => (brL (brO (fun o : Option (Int) => some (AV.tup [AV.agg [AV.int .i64 p20, AV.int .i64 (ro o 0 (fun p23 => IntKind.i64.wrap (p23 + 1)))], AV.int .i64 (v88_0 (v87_0 a0 a1))])) (fun p23 => (fun _ => rfl))))))))) h)
def m32 : TModel
  | [.sl g0 a0, .sl g1 a1] => bif ctsEq g0 ([.int .i64]) && ctsEq g1 ([.int .i64, .int .i64]) then some (q32 a0 a1, AV.tup [AV.agg [AV.int .i64 (v32_0 a0 a1), AV.int .i64 (v32_1 a0 a1)], AV.int .i64 (v32_2 a0 a1)]) else none
  | _ => none
theorem k32 : Known Try.prog 32 := ⟨Try.f32, Try.func32, by kernel_rfl, by kernel_rfl⟩
theorem meets32 : Meets Try.prog 32 m32 := by
  refine meet (f := Try.f32) (l := [(0, sub [1, 1, 1, 1, 1, 0, 1, 0, 0] (body Try.f32)), (2, sub [1, 1, 1, 1, 1, 1, 1, 0, 1, 0, 0] (body Try.f32))]) (hs := [(32, 0, [0, 4, 6, 7, 8, 23, 24, 25]), (32, 2, [0, 4, 6, 7, 8, 11, 42, 43, 44]), (32, 999, [4, 5]), (32, 1000, [0, 4, 6, 7, 8]), (32, 1001, [0, 4, 6, 7, 8, 23, 24, 25]), (32, 1002, [4, 7, 8, 11]), (32, 1003, [0, 4, 6, 7, 8, 11, 42, 43, 44])]) (ts := [(87, m87), (88, m88), (89, m89), (90, m90)]) (ws := []) (is := []) (ls := [(32, 0, l32_0), (32, 2, l32_2)]) (lvl := 0) mixed k32 Try.func32 (by kernel_rfl) (loops_cons ok32_0 (loops_cons ok32_2 noLoop)) (allT_cons meets87 (allT_cons meets88 (allT_cons meets89 (allT_cons meets90 allT_nil)))) allM_nil noI fun w xs us r hl hv h => ?_
  unfold m32 at h
  split at h
  · rename_i g0 a0 g1 a1
    obtain ⟨hg, h⟩ := bif_pair h
    simp only [Bool.and_eq_true] at hg
    obtain ⟨q0, q1⟩ := hg
    obtain rfl := ctsEq_eq _ _ q0
    obtain rfl := ctsEq_eq _ _ q1
    obtain ⟨h1, rfl⟩ := pair_inj h
    exact r32 a0 a1 h1
  · cases h

/-! ### 33 loop.example/g01984/laws.eqRange -/
noncomputable def c33 : Cfg := cfg Try.prog [(33, 999, [4])] [] [] [] []
def q33 (a0_0 : Int) (a0_1 : Int) (a1_0 : Int) (a1_1 : Int) : Bool := true
def v33_0 (a0_0 : Int) (a0_1 : Int) (a1_0 : Int) (a1_1 : Int) : Bool := (bif !decide (a0_0 = a1_0) then false else (bif !decide (a0_1 = a1_1) then false else true))
theorem e33 (a0_0 : Int) (a0_1 : Int) (a1_0 : Int) (a1_1 : Int) : funA c33 0 33 [AV.agg [AV.int .i64 a0_0, AV.int .i64 a0_1], AV.agg [AV.int .i64 a1_0, AV.int .i64 a1_1]] = (bif !decide (a0_0 = a1_0) then some (AV.bool false)
  else (bif !decide (a0_1 = a1_1) then some (AV.bool false)
   else some (AV.bool true))) := by kernel_rfl
theorem r33 (a0_0 : Int) (a0_1 : Int) (a1_0 : Int) (a1_1 : Int) : funA c33 0 33 [AV.agg [AV.int .i64 a0_0, AV.int .i64 a0_1], AV.agg [AV.int .i64 a1_0, AV.int .i64 a1_1]] = some (AV.bool (v33_0 a0_0 a0_1 a1_0 a1_1)) := (e33 a0_0 a0_1 a1_0 a1_1).trans (of_tt (brT (fun b => some (AV.bool (bif b then false else (bif !decide (a0_1 = a1_1) then false else true)))) (fun _ => rfl) (brT (fun b => some (AV.bool (bif b then false else true))) (fun _ => rfl) (fun _ => rfl))))
def m33 : TModel
  | [.agg [.int .i64 a0_0, .int .i64 a0_1], .agg [.int .i64 a1_0, .int .i64 a1_1]] => some (true, AV.bool (v33_0 a0_0 a0_1 a1_0 a1_1))
  | _ => none
theorem k33 : Known Try.prog 33 := ⟨Try.f33, Try.func33, by kernel_rfl, by kernel_rfl⟩
theorem meets33 : Meets Try.prog 33 m33 := by
  refine meet (f := Try.f33) (l := []) (hs := [(33, 999, [4])]) (ts := []) (ws := []) (is := []) (ls := []) (lvl := 0) mixed k33 Try.func33 (by kernel_rfl) noLoop allT_nil allM_nil noI fun w xs us r hl hv h => ?_
  unfold m33 at h
  split at h
  · rename_i a0_0 a0_1 a1_0 a1_1
    obtain ⟨h1, rfl⟩ := pair_inj h
    exact r33 a0_0 a0_1 a1_0 a1_1
  · cases h

/-! ### 34 loop.example/g01984/laws.eqIntS -/
def F34_0 (t0 : List AV) (t1 : List AV) (t5 : Int) : Out (Int) (Unit ⊕ Unit) := (bif decide (t5 < (t0.length : Int)) then (bif (decide (0 ≤ t5) && decide (t5 < (t0.length : Int))) then (bif (decide (0 ≤ t5) && decide (t5 < (t1.length : Int))) then (bif !decide (fI (t0.getD t5.toNat AV.undef) 0 = fI (t1.getD t5.toNat AV.undef) 0) then .stop (.inr ())
     else .next (IntKind.i64.wrap (t5 + 1)))
    else .fail)
   else .fail)
  else .stop (.inl ()))
def R34_0 (t0 : List AV) (t1 : List AV) : (Int) → Out (Int) (Unit ⊕ Unit) := fun s : Int => F34_0 t0 t1 s
def l34_0 : LModel := fun _ _ st k => match st with
  | ⟨[(0, .sl g0 t0), (1, .sl g1 t1), (5, .int .i64 t5)], []⟩ => bif ctsEq g0 ([.int .i64]) && ctsEq g1 ([.int .i64]) then ro (runW (R34_0 t0 t1) (((t0.length : Int) - t5).toNat + 1) t5) none (sumE (fun _ : Unit => k (.exit 0) ⟨[], []⟩) (fun _ : Unit => k .ret ⟨[(4, AV.bool false)], []⟩)) else none
  | _ => none
noncomputable def c34 : Cfg := cfg Try.prog [(34, 0, [0, 1, 5]), (34, 999, [4]), (34, 1000, []), (34, 1001, [0, 1, 5])] [] [] [] [(34, 0, l34_0)]
theorem s34_0 (ce : CallE) (t0 : List AV) (t1 : List AV) (t5 : Int) (next : St → Option AV) (k : Kont) : stepA (codeA c34 ce [] 34 0 (sub [1, 1, 0, 1, 0, 0] (body Try.f34))) (normA [] [0, 1, 5]) next ⟨[(0, AV.sl [.int .i64] t0), (1, AV.sl [.int .i64] t1), (5, AV.int .i64 t5)], []⟩ k = (bif decide (t5 < (t0.length : Int)) then (bif (decide (0 ≤ t5) && decide (t5 < (t0.length : Int))) then (bif (decide (0 ≤ t5) && decide (t5 < (t1.length : Int))) then (bif !decide (fI (t0.getD t5.toNat AV.undef) 0 = fI (t1.getD t5.toNat AV.undef) 0) then k .ret ⟨[(4, AV.bool false)], []⟩
     else next ⟨[(0, AV.sl [.int .i64] t0), (1, AV.sl [.int .i64] t1), (5, AV.int .i64 (IntKind.i64.wrap (t5 + 1)))], []⟩)
    else none)
   else none)
  else k (.exit 0) ⟨[], []⟩) := by kernel_rfl
theorem st34_0 (t0 : List AV) (t1 : List AV) (ce : CallE) (k : Kont) (s : Int) (next : St → Option AV) : stepA (codeA c34 ce [] 34 0 (sub [1, 1, 0, 1, 0, 0] (body Try.f34))) (normA [] [0, 1, 5]) next ((fun s : Int => ⟨[(0, AV.sl [.int .i64] t0), (1, AV.sl [.int .i64] t1), (5, AV.int .i64 s)], []⟩) s) k = (R34_0 t0 t1 s).el none (fun s => next ((fun s : Int => ⟨[(0, AV.sl [.int .i64] t0), (1, AV.sl [.int .i64] t1), (5, AV.int .i64 s)], []⟩) s)) (sumE (fun _ : Unit => k (.exit 0) ⟨[], []⟩) (fun _ : Unit => k .ret ⟨[(4, AV.bool false)], []⟩)) := (s34_0 ce t0 t1 s next k).trans (by unfold R34_0; unfold F34_0; simp only [el_cond, el_ro, el_sum, el_fail, el_next, el_stop] <;> rfl)
theorem ok34_0 {ce : CallE} : LoopOK c34 ce [] 34 0 (sub [1, 1, 0, 1, 0, 0] (body Try.f34)) := by
  intro m hm st k r h
  obtain rfl : l34_0 = m := Option.some.inj hm
  unfold l34_0 at h
  split at h
  · rename_i g0 t0 g1 t1 t5
    obtain ⟨hg, h⟩ := bif_some h
    simp only [Bool.and_eq_true] at hg
    obtain ⟨q0, q1⟩ := hg
    obtain rfl := ctsEq_eq _ _ q0
    obtain rfl := ctsEq_eq _ _ q1
    refine ⟨(((t0.length : Int) - t5).toNat + 1), ?_⟩
    rw [← h]
    exact loop_run (fun s : Int => ⟨[(0, AV.sl [.int .i64] t0), (1, AV.sl [.int .i64] t1), (5, AV.int .i64 s)], []⟩) (sumE (fun _ : Unit => k (.exit 0) ⟨[], []⟩) (fun _ : Unit => k .ret ⟨[(4, AV.bool false)], []⟩)) (st34_0 t0 t1 ce k) _ t5
  · cases h
def q34 (a0 : List AV) (a1 : List AV) : Bool := (bif !decide ((a0.length : Int) = (a1.length : Int)) then true else (ro (runW (R34_0 a0 a1) (((a0.length : Int) - 0).toNat + 1) 0) false (sumE (fun _ => true) (fun _ => true))))
def v34_0 (a0 : List AV) (a1 : List AV) : Bool := (bif !decide ((a0.length : Int) = (a1.length : Int)) then false else (ro (runW (R34_0 a0 a1) (((a0.length : Int) - 0).toNat + 1) 0) false (sumE (fun _ => true) (fun _ => false))))
theorem e34 (a0 : List AV) (a1 : List AV) : funA c34 0 34 [AV.sl [.int .i64] a0, AV.sl [.int .i64] a1] = (bif !decide ((a0.length : Int) = (a1.length : Int)) then some (AV.bool false)
  else (ro (runW (R34_0 a0 a1) (((a0.length : Int) - 0).toNat + 1) 0) none (sumE (fun _ => some (AV.bool true)) (fun _ => some (AV.bool false))))) := by kernel_rfl
theorem r34 (a0 : List AV) (a1 : List AV) (h : q34 a0 a1 = true) : funA c34 0 34 [AV.sl [.int .i64] a0, AV.sl [.int .i64] a1] = some (AV.bool (v34_0 a0 a1)) := (e34 a0 a1).trans ((br (fun b => some (AV.bool (bif b then false else (ro (runW (R34_0 a0 a1) (((a0.length : Int) - 0).toNat + 1) 0) false (sumE (fun _ => true) (fun _ => false)))))) (fun _ => rfl) (brO (fun o : Option (Unit ⊕ Unit) => some (AV.bool (ro o false (sumE (fun _ => true) (fun _ => false))))) (brS (fun o : Unit ⊕ Unit => some (AV.bool ((sumE (fun _ => true) (fun _ => false)) o))) (fun _ => (fun _ => rfl)) (fun _ => (fun _ => rfl))))) h)
def m34 : TModel
  | [.sl g0 a0, .sl g1 a1] => bif ctsEq g0 ([.int .i64]) && ctsEq g1 ([.int .i64]) then some (q34 a0 a1, AV.bool (v34_0 a0 a1)) else none
  | _ => none
theorem k34 : Known Try.prog 34 := ⟨Try.f34, Try.func34, by kernel_rfl, by kernel_rfl⟩
theorem meets34 : Meets Try.prog 34 m34 := by
  refine meet (f := Try.f34) (l := [(0, sub [1, 1, 0, 1, 0, 0] (body Try.f34))]) (hs := [(34, 0, [0, 1, 5]), (34, 999, [4]), (34, 1000, []), (34, 1001, [0, 1, 5])]) (ts := []) (ws := []) (is := []) (ls := [(34, 0, l34_0)]) (lvl := 0) mixed k34 Try.func34 (by kernel_rfl) (loops_cons ok34_0 noLoop) allT_nil allM_nil noI fun w xs us r hl hv h => ?_
  unfold m34 at h
  split at h
  · rename_i g0 a0 g1 a1
    obtain ⟨hg, h⟩ := bif_pair h
    simp only [Bool.and_eq_true] at hg
    obtain ⟨q0, q1⟩ := hg
    obtain rfl := ctsEq_eq _ _ q0
    obtain rfl := ctsEq_eq _ _ q1
    obtain ⟨h1, rfl⟩ := pair_inj h
    exact r34 a0 a1 h1
  · cases h

/-! ### 35 loop.example/g01984/laws.eqRangeS -/
def F35_0 (t0 : List AV) (t1 : List AV) (t5 : Int) : Out (Int) (Unit ⊕ Unit) := (bif decide (t5 < (t0.length : Int)) then (bif (decide (0 ≤ t5) && decide (t5 < (t0.length : Int))) then (bif (decide (0 ≤ t5) && decide (t5 < (t1.length : Int))) then (bif !(v33_0 (fI (t0.getD t5.toNat AV.undef) 0) (fI (t0.getD t5.toNat AV.undef) 1) (fI (t1.getD t5.toNat AV.undef) 0) (fI (t1.getD t5.toNat AV.undef) 1)) then .stop (.inr ())
     else .next (IntKind.i64.wrap (t5 + 1)))
    else .fail)
   else .fail)
  else .stop (.inl ()))
def R35_0 (t0 : List AV) (t1 : List AV) : (Int) → Out (Int) (Unit ⊕ Unit) := fun s : Int => F35_0 t0 t1 s
def l35_0 : LModel := fun _ _ st k => match st with
  | ⟨[(0, .sl g0 t0), (1, .sl g1 t1), (5, .int .i64 t5)], []⟩ => bif ctsEq g0 ([.int .i64, .int .i64]) && ctsEq g1 ([.int .i64, .int .i64]) then ro (runW (R35_0 t0 t1) (((t0.length : Int) - t5).toNat + 1) t5) none (sumE (fun _ : Unit => k (.exit 0) ⟨[], []⟩) (fun _ : Unit => k .ret ⟨[(4, AV.bool false)], []⟩)) else none
  | _ => none
noncomputable def c35 : Cfg := cfg Try.prog [(35, 0, [0, 1, 5]), (35, 999, [4]), (35, 1000, []), (35, 1001, [0, 1, 5])] [(33, m33)] [] [] [(35, 0, l35_0)]
theorem s35_0 (ce : CallE) (t0 : List AV) (t1 : List AV) (t5 : Int) (next : St → Option AV) (k : Kont) : stepA (codeA c35 ce [] 35 0 (sub [1, 1, 0, 1, 0, 0] (body Try.f35))) (normA [] [0, 1, 5]) next ⟨[(0, AV.sl [.int .i64, .int .i64] t0), (1, AV.sl [.int .i64, .int .i64] t1), (5, AV.int .i64 t5)], []⟩ k = (bif decide (t5 < (t0.length : Int)) then (bif (decide (0 ≤ t5) && decide (t5 < (t0.length : Int))) then (bif (decide (0 ≤ t5) && decide (t5 < (t1.length : Int))) then (bif !(v33_0 (fI (t0.getD t5.toNat AV.undef) 0) (fI (t0.getD t5.toNat AV.undef) 1) (fI (t1.getD t5.toNat AV.undef) 0) (fI (t1.getD t5.toNat AV.undef) 1)) then k .ret ⟨[(4, AV.bool false)], []⟩
     else next ⟨[(0, AV.sl [.int .i64, .int .i64] t0), (1, AV.sl [.int .i64, .int .i64] t1), (5, AV.int .i64 (IntKind.i64.wrap (t5 + 1)))], []⟩)
    else none)
   else none)
  else k (.exit 0) ⟨[], []⟩) := by kernel_rfl
theorem st35_0 (t0 : List AV) (t1 : List AV) (ce : CallE) (k : Kont) (s : Int) (next : St → Option AV) : stepA (codeA c35 ce [] 35 0 (sub [1, 1, 0, 1, 0, 0] (body Try.f35))) (normA [] [0, 1, 5]) next ((fun s : Int => ⟨[(0, AV.sl [.int .i64, .int .i64] t0), (1, AV.sl [.int .i64, .int .i64] t1), (5, AV.int .i64 s)], []⟩) s) k = (R35_0 t0 t1 s).el none (fun s => next ((fun s : Int => ⟨[(0, AV.sl [.int .i64, .int .i64] t0), (1, AV.sl [.int .i64, .int .i64] t1), (5, AV.int .i64 s)], []⟩) s)) (sumE (fun _ : Unit => k (.exit 0) ⟨[], []⟩) (fun _ : Unit => k .ret ⟨[(4, AV.bool false)], []⟩)) := (s35_0 ce t0 t1 s next k).trans (by unfold R35_0; unfold F35_0; simp only [el_cond, el_ro, el_sum, el_fail, el_next, el_stop] <;> rfl)
theorem ok35_0 {ce : CallE} : LoopOK c35 ce [] 35 0 (sub [1, 1, 0, 1, 0, 0] (body Try.f35)) := by
  intro m hm st k r h
  obtain rfl : l35_0 = m := Option.some.inj hm
  unfold l35_0 at h
  split at h
  · rename_i g0 t0 g1 t1 t5
    obtain ⟨hg, h⟩ := bif_some h
    simp only [Bool.and_eq_true] at hg
    obtain ⟨q0, q1⟩ := hg
    obtain rfl := ctsEq_eq _ _ q0
    obtain rfl := ctsEq_eq _ _ q1
    refine ⟨(((t0.length : Int) - t5).toNat + 1), ?_⟩
    rw [← h]
    exact loop_run (fun s : Int => ⟨[(0, AV.sl [.int .i64, .int .i64] t0), (1, AV.sl [.int .i64, .int .i64] t1), (5, AV.int .i64 s)], []⟩) (sumE (fun _ : Unit => k (.exit 0) ⟨[], []⟩) (fun _ : Unit => k .ret ⟨[(4, AV.bool false)], []⟩)) (st35_0 t0 t1 ce k) _ t5
  · cases h
def q35 (a0 : List AV) (a1 : List AV) : Bool := (bif !decide ((a0.length : Int) = (a1.length : Int)) then true else (ro (runW (R35_0 a0 a1) (((a0.length : Int) - 0).toNat + 1) 0) false (sumE (fun _ => true) (fun _ => true))))
def v35_0 (a0 : List AV) (a1 : List AV) : Bool := (bif !decide ((a0.length : Int) = (a1.length : Int)) then false else (ro (runW (R35_0 a0 a1) (((a0.length : Int) - 0).toNat + 1) 0) false (sumE (fun _ => true) (fun _ => false))))
theorem e35 (a0 : List AV) (a1 : List AV) : funA c35 0 35 [AV.sl [.int .i64, .int .i64] a0, AV.sl [.int .i64, .int .i64] a1] = (bif !decide ((a0.length : Int) = (a1.length : Int)) then some (AV.bool false)
  else (ro (runW (R35_0 a0 a1) (((a0.length : Int) - 0).toNat + 1) 0) none (sumE (fun _ => some (AV.bool true)) (fun _ => some (AV.bool false))))) := by kernel_rfl
theorem r35 (a0 : List AV) (a1 : List AV) (h : q35 a0 a1 = true) : funA c35 0 35 [AV.sl [.int .i64, .int .i64] a0, AV.sl [.int .i64, .int .i64] a1] = some (AV.bool (v35_0 a0 a1)) := (e35 a0 a1).trans ((br (fun b => some (AV.bool (bif b then false else (ro (runW (R35_0 a0 a1) (((a0.length : Int) - 0).toNat + 1) 0) false (sumE (fun _ => true) (fun _ => false)))))) (fun _ => rfl) (brO (fun o : Option (Unit ⊕ Unit) => some (AV.bool (ro o false (sumE (fun _ => true) (fun _ => false))))) (brS (fun o : Unit ⊕ Unit => some (AV.bool ((sumE (fun _ => true) (fun _ => false)) o))) (fun _ => (fun _ => rfl)) (fun _ => (fun _ => rfl))))) h)
def m35 : TModel
  | [.sl g0 a0, .sl g1 a1] => bif ctsEq g0 ([.int .i64, .int .i64]) && ctsEq g1 ([.int .i64, .int .i64]) then some (q35 a0 a1, AV.bool (v35_0 a0 a1)) else none
  | _ => none
theorem k35 : Known Try.prog 35 := ⟨Try.f35, Try.func35, by kernel_rfl, by kernel_rfl⟩
theorem meets35 : Meets Try.prog 35 m35 := by
  refine meet (f := Try.f35) (l := [(0, sub [1, 1, 0, 1, 0, 0] (body Try.f35))]) (hs := [(35, 0, [0, 1, 5]), (35, 999, [4]), (35, 1000, []), (35, 1001, [0, 1, 5])]) (ts := [(33, m33)]) (ws := []) (is := []) (ls := [(35, 0, l35_0)]) (lvl := 0) mixed k35 Try.func35 (by kernel_rfl) (loops_cons ok35_0 noLoop) (allT_cons meets33 allT_nil) allM_nil noI fun w xs us r hl hv h => ?_
  unfold m35 at h
  split at h
  · rename_i g0 a0 g1 a1
    obtain ⟨hg, h⟩ := bif_pair h
    simp only [Bool.and_eq_true] at hg
    obtain ⟨q0, q1⟩ := hg
    obtain rfl := ctsEq_eq _ _ q0
    obtain rfl := ctsEq_eq _ _ q1
    obtain ⟨h1, rfl⟩ := pair_inj h
    exact r35 a0 a1 h1
  · cases h

/-! ### 7 loop.example/g01984/laws.FnExactHottestRange -/
noncomputable def c7 : Cfg := cfg Try.prog [(7, 999, [4])] [(28, m28), (29, m29), (30, m30), (31, m31), (32, m32), (33, m33), (34, m34), (35, m35)] [] [] []
def raw7 (a0 : List AV) (a1 : List AV) : Option AV := (bif decide ((a0.length : Int) > 1048576) then some (AV.bool true)
  else (bif decide ((v28_0 a1 1048576) < 0) then some (AV.bool true)
   else (bif q30 a0 then (bif q31 a1 then (bif q29 (v30_0 a0) (v31_0 a1) then (bif q30 a0 then (bif q31 a1 then (bif q32 (v30_0 a0) (v31_0 a1) then (bif !(v33_0 (v32_0 (v30_0 a0) (v31_0 a1)) (v32_1 (v30_0 a0) (v31_0 a1)) (v29_0 (v30_0 a0) (v31_0 a1)) (v29_1 (v30_0 a0) (v31_0 a1))) then some (AV.bool false)
          else (bif !decide ((v32_2 (v30_0 a0) (v31_0 a1)) = (v29_2 (v30_0 a0) (v31_0 a1))) then some (AV.bool false)
           else (bif q30 a0 then (bif q34 (v30_0 a0) (v30_0 a0) then (bif !(v34_0 (v30_0 a0) (v30_0 a0)) then some (AV.bool false)
              else (bif q31 a1 then (bif q35 (v31_0 a1) (v31_0 a1) then (bif !(v35_0 (v31_0 a1) (v31_0 a1)) then some (AV.bool false)
                 else some (AV.bool true))
                else none)
               else none))
             else none)
            else none)))
         else none)
        else none)
       else none)
      else none)
     else none)
    else none)))
theorem e7 (a0 : List AV) (a1 : List AV) : funA c7 0 7 [AV.sl [.int .i64] a0, AV.sl [.int .i64, .int .i64] a1] = raw7 a0 a1 := by kernel_rfl
def m7 : TModel
  | [.sl g0 a0, .sl g1 a1] => bif ctsEq g0 ([.int .i64]) && ctsEq g1 ([.int .i64, .int .i64]) then (raw7 a0 a1).map fun r => (true, r) else none
  | _ => none
theorem k7 : Known Try.prog 7 := ⟨Try.f7, Try.func7, by kernel_rfl, by kernel_rfl⟩
theorem meets7 : Meets Try.prog 7 m7 := by
  refine meet (f := Try.f7) (l := []) (hs := [(7, 999, [4])]) (ts := [(28, m28), (29, m29), (30, m30), (31, m31), (32, m32), (33, m33), (34, m34), (35, m35)]) (ws := []) (is := []) (ls := []) (lvl := 0) mixed k7 Try.func7 (by kernel_rfl) noLoop (allT_cons meets28 (allT_cons meets29 (allT_cons meets30 (allT_cons meets31 (allT_cons meets32 (allT_cons meets33 (allT_cons meets34 (allT_cons meets35 allT_nil)))))))) allM_nil noI fun w xs us r hl hv h => ?_
  unfold m7 at h
  split at h
  · rename_i g0 a0 g1 a1
    obtain ⟨hg, h⟩ := bif_pair h
    simp only [Bool.and_eq_true] at hg
    obtain ⟨q0, q1⟩ := hg
    obtain rfl := ctsEq_eq _ _ q0
    obtain rfl := ctsEq_eq _ _ q1
    obtain ⟨r', h1, h2⟩ := Option.map_eq_some_iff.1 h
    obtain ⟨_, rfl⟩ := Prod.mk.inj h2
    exact (e7 a0 a1).trans h1
  · cases h
end Go.Proofs.Ytepfklcdpkpepaa
