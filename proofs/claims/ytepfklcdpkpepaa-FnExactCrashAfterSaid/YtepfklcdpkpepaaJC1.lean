/- The walk of what this claim reaches: printed by a program, each equation checked by the kernel. -/
import Derived.Test.YtepfklcdpkpepaaINS
import Derived.Test.YtepfklcdpkpepaaProg
import Derived.KernelRfl
namespace Go.Proofs.Ytepfklcdpkpepaa
open Go Go.Proofs.VE
set_option linter.unusedVariables false
set_option linter.unusedSimpArgs false
set_option maxRecDepth 100000
set_option maxHeartbeats 4000000
theorem mixed : Try.prog.follows .mixedOrders = true := by kernel_rfl
/-! ### 51 loop.example/g01984/laws.szEntryS -/
noncomputable def c51 : Cfg := cfg Try.prog [(51, 999, [4])] [] [] [] []
def q51 (a0 : List AV) (a1 : Int) : Bool := true
def v51_0 (a0 : List AV) (a1 : Int) : Int := (bif decide (IntKind.i64.wrap (a1 - (a0.length : Int)) < 0) then (-1) else IntKind.i64.wrap (a1 - (a0.length : Int)))
theorem e51 (a0 : List AV) (a1 : Int) : funA c51 0 51 [AV.sl [.int .i64, .int .i64, .int .i64, .int .i64] a0, AV.int .i64 a1] = (bif decide (IntKind.i64.wrap (a1 - (a0.length : Int)) < 0) then some (AV.int .i64 (-1))
  else some (AV.int .i64 (IntKind.i64.wrap (a1 - (a0.length : Int))))) := by kernel_rfl
theorem r51 (a0 : List AV) (a1 : Int) : funA c51 0 51 [AV.sl [.int .i64, .int .i64, .int .i64, .int .i64] a0, AV.int .i64 a1] = some (AV.int .i64 (v51_0 a0 a1)) := (e51 a0 a1).trans (of_tt (brT (fun b => some (AV.int .i64 (bif b then (-1) else IntKind.i64.wrap (a1 - (a0.length : Int))))) (fun _ => rfl) (fun _ => rfl)))
def m51 : TModel
  | [.sl g0 a0, .int .i64 a1] => bif ctsEq g0 ([.int .i64, .int .i64, .int .i64, .int .i64]) then some (true, AV.int .i64 (v51_0 a0 a1)) else none
  | _ => none
theorem k51 : Known Try.prog 51 := ⟨Try.f51, Try.func51, by kernel_rfl, by kernel_rfl⟩
theorem meets51 : Meets Try.prog 51 m51 := by
  refine meet (f := Try.f51) (l := []) (hs := [(51, 999, [4])]) (ts := []) (ws := []) (is := []) (ls := []) (lvl := 0) mixed k51 Try.func51 (by kernel_rfl) noLoop allT_nil allM_nil noI fun w xs us r hl hv h => ?_
  unfold m51 at h
  split at h
  · rename_i g0 a0 a1
    obtain ⟨hg, h⟩ := bif_pair h
    have q0 := hg
    obtain rfl := ctsEq_eq _ _ q0
    obtain ⟨h1, rfl⟩ := pair_inj h
    exact r51 a0 a1
  · cases h

/-! ### 30 loop.example/g01984/laws.toIntS -/
def F30_0 (t0 : List AV) (t4 : Int) (h0 : List AV) : Out ((Int × (List AV))) (((List AV))) := (bif decide (t4 < (t0.length : Int)) then (bif (decide (0 ≤ t4) && decide (t4 < (t0.length : Int))) then (bif (decide (0 ≤ t4) && decide (t4 < (h0.length : Int))) then .next (IntKind.i64.wrap (t4 + 1), h0.set t4.toNat (AV.agg [AV.int .i64 (fI (t0.getD t4.toNat AV.undef) 0)]))
    else .fail)
   else .fail)
  else .stop h0)
def R30_0 (t0 : List AV) : ((Int × (List AV))) → Out ((Int × (List AV))) (((List AV))) := fun s : Int × (List AV) => F30_0 t0 s.1 s.2
def l30_0 : LModel := fun _ _ st k => match st with
  | ⟨[(0, .sl g0 t0), (3, .own g1), (4, .int .i64 t4)], [(g2, ⟨false, g3, h0⟩)]⟩ => bif ctsEq g0 ([.int .i64]) && nmEq g1 ([0, 3]) && nmEq g2 ([0, 3]) && ctsEq g3 ([.int .i64]) then ro (runW (R30_0 t0) (((t0.length : Int) - t4).toNat + 1) (t4, h0)) none (fun p : (List AV) => k (.exit 0) ⟨[(3, AV.own [0, 3])], [([0, 3], ⟨false, [.int .i64], p⟩)]⟩) else none
  | _ => none
noncomputable def c30 : Cfg := cfg Try.prog [(30, 0, [0, 3, 4]), (30, 999, [2]), (30, 1000, [3]), (30, 1001, [0, 3, 4])] [] [] [] [(30, 0, l30_0)]
theorem s30_0 (ce : CallE) (t0 : List AV) (t4 : Int) (h0 : List AV) (next : St → Option AV) (k : Kont) : stepA (codeA c30 ce [] 30 0 (sub [1, 1, 0, 1, 0, 0] (body Try.f30))) (normA [] [0, 3, 4]) next ⟨[(0, AV.sl [.int .i64] t0), (3, AV.own [0, 3]), (4, AV.int .i64 t4)], [([0, 3], ⟨false, [.int .i64], h0⟩)]⟩ k = (bif decide (t4 < (t0.length : Int)) then (bif (decide (0 ≤ t4) && decide (t4 < (t0.length : Int))) then (bif (decide (0 ≤ t4) && decide (t4 < (h0.length : Int))) then next ⟨[(0, AV.sl [.int .i64] t0), (3, AV.own [0, 3]), (4, AV.int .i64 (IntKind.i64.wrap (t4 + 1)))], [([0, 3], ⟨false, [.int .i64], h0.set t4.toNat (AV.agg [AV.int .i64 (fI (t0.getD t4.toNat AV.undef) 0)])⟩)]⟩
    else none)
   else none)
  else k (.exit 0) ⟨[(3, AV.own [0, 3])], [([0, 3], ⟨false, [.int .i64], h0⟩)]⟩) := by kernel_rfl
theorem st30_0 (t0 : List AV) (ce : CallE) (k : Kont) (s : (Int × (List AV))) (next : St → Option AV) : stepA (codeA c30 ce [] 30 0 (sub [1, 1, 0, 1, 0, 0] (body Try.f30))) (normA [] [0, 3, 4]) next ((fun s : Int × (List AV) => ⟨[(0, AV.sl [.int .i64] t0), (3, AV.own [0, 3]), (4, AV.int .i64 s.1)], [([0, 3], ⟨false, [.int .i64], s.2⟩)]⟩) s) k = (R30_0 t0 s).el none (fun s => next ((fun s : Int × (List AV) => ⟨[(0, AV.sl [.int .i64] t0), (3, AV.own [0, 3]), (4, AV.int .i64 s.1)], [([0, 3], ⟨false, [.int .i64], s.2⟩)]⟩) s)) (fun p : (List AV) => k (.exit 0) ⟨[(3, AV.own [0, 3])], [([0, 3], ⟨false, [.int .i64], p⟩)]⟩) := (s30_0 ce t0 s.1 s.2 next k).trans (by unfold R30_0; unfold F30_0; simp only [el_cond, el_ro, el_sum, el_fail, el_next, el_stop] <;> rfl)
theorem ok30_0 {ce : CallE} : LoopOK c30 ce [] 30 0 (sub [1, 1, 0, 1, 0, 0] (body Try.f30)) := by
  intro m hm st k r h
  obtain rfl : l30_0 = m := Option.some.inj hm
  unfold l30_0 at h
  split at h
  · rename_i g0 t0 g1 t4 g2 g3 h0
    obtain ⟨hg, h⟩ := bif_some h
    simp only [Bool.and_eq_true] at hg
    obtain ⟨⟨⟨q0, q1⟩, q2⟩, q3⟩ := hg
    obtain rfl := ctsEq_eq _ _ q0
    obtain rfl := (nmEq_iff _ _).1 q1
    obtain rfl := (nmEq_iff _ _).1 q2
    obtain rfl := ctsEq_eq _ _ q3
    refine ⟨(((t0.length : Int) - t4).toNat + 1), ?_⟩
    rw [← h]
    exact loop_run (fun s : Int × (List AV) => ⟨[(0, AV.sl [.int .i64] t0), (3, AV.own [0, 3]), (4, AV.int .i64 s.1)], [([0, 3], ⟨false, [.int .i64], s.2⟩)]⟩) (fun p : (List AV) => k (.exit 0) ⟨[(3, AV.own [0, 3])], [([0, 3], ⟨false, [.int .i64], p⟩)]⟩) (st30_0 t0 ce k) _ (t4, h0)
  · cases h
def q30 (a0 : List AV) : Bool := ((decide (0 ≤ (a0.length : Int)) && decide ((a0.length : Int) ≤ (a0.length : Int)) && decide ((a0.length : Int) * 8 ≤ 140737488355328) && decide ((a0.length : Int) ≤ 140737488355328)) && (ro (runW (R30_0 a0) (((a0.length : Int) - 0).toNat + 1) (0, List.replicate (Int.toNat (a0.length : Int)) (AV.int .i64 0))) false (fun p1 => true)))
def v30_0 (a0 : List AV) : List AV := (ro (runW (R30_0 a0) (((a0.length : Int) - 0).toNat + 1) (0, List.replicate (Int.toNat (a0.length : Int)) (AV.int .i64 0))) [] (fun p1 => p1))
theorem e30 (a0 : List AV) : funA c30 0 30 [AV.sl [.int .i64] a0] = (bif (decide (0 ≤ (a0.length : Int)) && decide ((a0.length : Int) ≤ (a0.length : Int)) && decide ((a0.length : Int) * 8 ≤ 140737488355328) && decide ((a0.length : Int) ≤ 140737488355328)) then (ro (runW (R30_0 a0) (((a0.length : Int) - 0).toNat + 1) (0, List.replicate (Int.toNat (a0.length : Int)) (AV.int .i64 0))) none (fun p1 => some (AV.fl [.int .i64] p1)))
  else none) := by kernel_rfl
theorem r30 (a0 : List AV) (h : q30 a0 = true) : funA c30 0 30 [AV.sl [.int .i64] a0] = some (AV.fl [.int .i64] (v30_0 a0)) := (e30 a0).trans ((brL (brO (fun o : Option (((List AV))) => some (AV.fl [.int .i64] (ro o [] (fun p1 => p1)))) (fun p1 => (fun _ => rfl)))) h)
def m30 : TModel
  | [.sl g0 a0] => bif ctsEq g0 ([.int .i64]) then some (q30 a0, AV.fl [.int .i64] (v30_0 a0)) else none
  | _ => none
theorem k30 : Known Try.prog 30 := ⟨Try.f30, Try.func30, by kernel_rfl, by kernel_rfl⟩
theorem meets30 : Meets Try.prog 30 m30 := by
  refine meet (f := Try.f30) (l := [(0, sub [1, 1, 0, 1, 0, 0] (body Try.f30))]) (hs := [(30, 0, [0, 3, 4]), (30, 999, [2]), (30, 1000, [3]), (30, 1001, [0, 3, 4])]) (ts := []) (ws := []) (is := []) (ls := [(30, 0, l30_0)]) (lvl := 0) mixed k30 Try.func30 (by kernel_rfl) (loops_cons ok30_0 noLoop) allT_nil allM_nil noI fun w xs us r hl hv h => ?_
  unfold m30 at h
  split at h
  · rename_i g0 a0
    obtain ⟨hg, h⟩ := bif_pair h
    have q0 := hg
    obtain rfl := ctsEq_eq _ _ q0
    obtain ⟨h1, rfl⟩ := pair_inj h
    exact r30 a0 h1
  · cases h

/-! ### 113 loop.example/g01984/laws.toEntry -/
noncomputable def c113 : Cfg := cfg Try.prog [(113, 999, [2])] [] [] [] []
def q113 (a0_0 : Int) (a0_1 : Int) (a0_2 : Int) (a0_3 : Int) : Bool := true
def v113_0 (a0_0 : Int) (a0_1 : Int) (a0_2 : Int) (a0_3 : Int) : Int := a0_0
def v113_1 (a0_0 : Int) (a0_1 : Int) (a0_2 : Int) (a0_3 : Int) : Int := a0_1
def v113_2 (a0_0 : Int) (a0_1 : Int) (a0_2 : Int) (a0_3 : Int) : Int := a0_2
def v113_3 (a0_0 : Int) (a0_1 : Int) (a0_2 : Int) (a0_3 : Int) : Int := a0_3
theorem e113 (a0_0 : Int) (a0_1 : Int) (a0_2 : Int) (a0_3 : Int) : funA c113 0 113 [AV.agg [AV.int .i64 a0_0, AV.int .i64 a0_1, AV.int .i64 a0_2, AV.int .i64 a0_3]] = some (AV.agg [AV.int .i64 a0_0, AV.int .i64 a0_1, AV.int .i64 a0_2, AV.int .i64 a0_3]) := by kernel_rfl
theorem r113 (a0_0 : Int) (a0_1 : Int) (a0_2 : Int) (a0_3 : Int) : funA c113 0 113 [AV.agg [AV.int .i64 a0_0, AV.int .i64 a0_1, AV.int .i64 a0_2, AV.int .i64 a0_3]] = some (AV.agg [AV.int .i64 (v113_0 a0_0 a0_1 a0_2 a0_3), AV.int .i64 (v113_1 a0_0 a0_1 a0_2 a0_3), AV.int .i64 (v113_2 a0_0 a0_1 a0_2 a0_3), AV.int .i64 (v113_3 a0_0 a0_1 a0_2 a0_3)]) := (e113 a0_0 a0_1 a0_2 a0_3).trans (of_tt (fun _ => rfl))
def m113 : TModel
  | [.agg [.int .i64 a0_0, .int .i64 a0_1, .int .i64 a0_2, .int .i64 a0_3]] => some (true, AV.agg [AV.int .i64 (v113_0 a0_0 a0_1 a0_2 a0_3), AV.int .i64 (v113_1 a0_0 a0_1 a0_2 a0_3), AV.int .i64 (v113_2 a0_0 a0_1 a0_2 a0_3), AV.int .i64 (v113_3 a0_0 a0_1 a0_2 a0_3)])
  | _ => none
theorem k113 : Known Try.prog 113 := ⟨Try.f113, Try.func113, by kernel_rfl, by kernel_rfl⟩
theorem meets113 : Meets Try.prog 113 m113 := by
  refine meet (f := Try.f113) (l := []) (hs := [(113, 999, [2])]) (ts := []) (ws := []) (is := []) (ls := []) (lvl := 0) mixed k113 Try.func113 (by kernel_rfl) noLoop allT_nil allM_nil noI fun w xs us r hl hv h => ?_
  unfold m113 at h
  split at h
  · rename_i a0_0 a0_1 a0_2 a0_3
    obtain ⟨h1, rfl⟩ := pair_inj h
    exact r113 a0_0 a0_1 a0_2 a0_3
  · cases h

/-! ### 53 loop.example/g01984/laws.toEntryS -/
def F53_0 (t0 : List AV) (t4 : Int) (h0 : List AV) : Out ((Int × (List AV))) (((List AV))) := (bif decide (t4 < (t0.length : Int)) then (bif (decide (0 ≤ t4) && decide (t4 < (t0.length : Int))) then (bif (decide (0 ≤ t4) && decide (t4 < (h0.length : Int))) then .next (IntKind.i64.wrap (t4 + 1), h0.set t4.toNat (AV.agg [AV.int .i64 (v113_0 (fI (t0.getD t4.toNat AV.undef) 0) (fI (t0.getD t4.toNat AV.undef) 1) (fI (t0.getD t4.toNat AV.undef) 2) (fI (t0.getD t4.toNat AV.undef) 3)), AV.int .i64 (v113_1 (fI (t0.getD t4.toNat AV.undef) 0) (fI (t0.getD t4.toNat AV.undef) 1) (fI (t0.getD t4.toNat AV.undef) 2) (fI (t0.getD t4.toNat AV.undef) 3)), AV.int .i64 (v113_2 (fI (t0.getD t4.toNat AV.undef) 0) (fI (t0.getD t4.toNat AV.undef) 1) (fI (t0.getD t4.toNat AV.undef) 2) (fI (t0.getD t4.toNat AV.undef) 3)), AV.int .i64 (v113_3 (fI (t0.getD t4.toNat AV.undef) 0) (fI (t0.getD t4.toNat AV.undef) 1) (fI (t0.getD t4.toNat AV.undef) 2) (fI (t0.getD t4.toNat AV.undef) 3))]))
    else .fail)
   else .fail)
  else .stop h0)
def R53_0 (t0 : List AV) : ((Int × (List AV))) → Out ((Int × (List AV))) (((List AV))) := fun s : Int × (List AV) => F53_0 t0 s.1 s.2
def l53_0 : LModel := fun _ _ st k => match st with
  | ⟨[(0, .sl g0 t0), (3, .own g1), (4, .int .i64 t4)], [(g2, ⟨false, g3, h0⟩)]⟩ => bif ctsEq g0 ([.int .i64, .int .i64, .int .i64, .int .i64]) && nmEq g1 ([0, 3]) && nmEq g2 ([0, 3]) && ctsEq g3 ([.int .i64, .int .i64, .int .i64, .int .i64]) then ro (runW (R53_0 t0) (((t0.length : Int) - t4).toNat + 1) (t4, h0)) none (fun p : (List AV) => k (.exit 0) ⟨[(3, AV.own [0, 3])], [([0, 3], ⟨false, [.int .i64, .int .i64, .int .i64, .int .i64], p⟩)]⟩) else none
  | _ => none
noncomputable def c53 : Cfg := cfg Try.prog [(53, 0, [0, 3, 4]), (53, 999, [2]), (53, 1000, [3]), (53, 1001, [0, 3, 4])] [(113, m113)] [] [] [(53, 0, l53_0)]
theorem s53_0 (ce : CallE) (t0 : List AV) (t4 : Int) (h0 : List AV) (next : St → Option AV) (k : Kont) : stepA (codeA c53 ce [] 53 0 (sub [1, 1, 0, 1, 0, 0] (body Try.f53))) (normA [] [0, 3, 4]) next ⟨[(0, AV.sl [.int .i64, .int .i64, .int .i64, .int .i64] t0), (3, AV.own [0, 3]), (4, AV.int .i64 t4)], [([0, 3], ⟨false, [.int .i64, .int .i64, .int .i64, .int .i64], h0⟩)]⟩ k = (bif decide (t4 < (t0.length : Int)) then (bif (decide (0 ≤ t4) && decide (t4 < (t0.length : Int))) then (bif (decide (0 ≤ t4) && decide (t4 < (h0.length : Int))) then next ⟨[(0, AV.sl [.int .i64, .int .i64, .int .i64, .int .i64] t0), (3, AV.own [0, 3]), (4, AV.int .i64 (IntKind.i64.wrap (t4 + 1)))], [([0, 3], ⟨false, [.int .i64, .int .i64, .int .i64, .int .i64], h0.set t4.toNat (AV.agg [AV.int .i64 (v113_0 (fI (t0.getD t4.toNat AV.undef) 0) (fI (t0.getD t4.toNat AV.undef) 1) (fI (t0.getD t4.toNat AV.undef) 2) (fI (t0.getD t4.toNat AV.undef) 3)), AV.int .i64 (v113_1 (fI (t0.getD t4.toNat AV.undef) 0) (fI (t0.getD t4.toNat AV.undef) 1) (fI (t0.getD t4.toNat AV.undef) 2) (fI (t0.getD t4.toNat AV.undef) 3)), AV.int .i64 (v113_2 (fI (t0.getD t4.toNat AV.undef) 0) (fI (t0.getD t4.toNat AV.undef) 1) (fI (t0.getD t4.toNat AV.undef) 2) (fI (t0.getD t4.toNat AV.undef) 3)), AV.int .i64 (v113_3 (fI (t0.getD t4.toNat AV.undef) 0) (fI (t0.getD t4.toNat AV.undef) 1) (fI (t0.getD t4.toNat AV.undef) 2) (fI (t0.getD t4.toNat AV.undef) 3))])⟩)]⟩
    else none)
   else none)
  else k (.exit 0) ⟨[(3, AV.own [0, 3])], [([0, 3], ⟨false, [.int .i64, .int .i64, .int .i64, .int .i64], h0⟩)]⟩) := by kernel_rfl
theorem st53_0 (t0 : List AV) (ce : CallE) (k : Kont) (s : (Int × (List AV))) (next : St → Option AV) : stepA (codeA c53 ce [] 53 0 (sub [1, 1, 0, 1, 0, 0] (body Try.f53))) (normA [] [0, 3, 4]) next ((fun s : Int × (List AV) => ⟨[(0, AV.sl [.int .i64, .int .i64, .int .i64, .int .i64] t0), (3, AV.own [0, 3]), (4, AV.int .i64 s.1)], [([0, 3], ⟨false, [.int .i64, .int .i64, .int .i64, .int .i64], s.2⟩)]⟩) s) k = (R53_0 t0 s).el none (fun s => next ((fun s : Int × (List AV) => ⟨[(0, AV.sl [.int .i64, .int .i64, .int .i64, .int .i64] t0), (3, AV.own [0, 3]), (4, AV.int .i64 s.1)], [([0, 3], ⟨false, [.int .i64, .int .i64, .int .i64, .int .i64], s.2⟩)]⟩) s)) (fun p : (List AV) => k (.exit 0) ⟨[(3, AV.own [0, 3])], [([0, 3], ⟨false, [.int .i64, .int .i64, .int .i64, .int .i64], p⟩)]⟩) := (s53_0 ce t0 s.1 s.2 next k).trans (by unfold R53_0; unfold F53_0; simp only [el_cond, el_ro, el_sum, el_fail, el_next, el_stop] <;> rfl)
theorem ok53_0 {ce : CallE} : LoopOK c53 ce [] 53 0 (sub [1, 1, 0, 1, 0, 0] (body Try.f53)) := by
  intro m hm st k r h
  obtain rfl : l53_0 = m := Option.some.inj hm
  unfold l53_0 at h
  split at h
  · rename_i g0 t0 g1 t4 g2 g3 h0
    obtain ⟨hg, h⟩ := bif_some h
    simp only [Bool.and_eq_true] at hg
    obtain ⟨⟨⟨q0, q1⟩, q2⟩, q3⟩ := hg
    obtain rfl := ctsEq_eq _ _ q0
    obtain rfl := (nmEq_iff _ _).1 q1
    obtain rfl := (nmEq_iff _ _).1 q2
    obtain rfl := ctsEq_eq _ _ q3
    refine ⟨(((t0.length : Int) - t4).toNat + 1), ?_⟩
    rw [← h]
    exact loop_run (fun s : Int × (List AV) => ⟨[(0, AV.sl [.int .i64, .int .i64, .int .i64, .int .i64] t0), (3, AV.own [0, 3]), (4, AV.int .i64 s.1)], [([0, 3], ⟨false, [.int .i64, .int .i64, .int .i64, .int .i64], s.2⟩)]⟩) (fun p : (List AV) => k (.exit 0) ⟨[(3, AV.own [0, 3])], [([0, 3], ⟨false, [.int .i64, .int .i64, .int .i64, .int .i64], p⟩)]⟩) (st53_0 t0 ce k) _ (t4, h0)
  · cases h
def q53 (a0 : List AV) : Bool := ((decide (0 ≤ (a0.length : Int)) && decide ((a0.length : Int) ≤ (a0.length : Int)) && decide ((a0.length : Int) * 32 ≤ 140737488355328) && decide ((a0.length : Int) ≤ 140737488355328)) && (ro (runW (R53_0 a0) (((a0.length : Int) - 0).toNat + 1) (0, List.replicate (Int.toNat (a0.length : Int)) (AV.agg [AV.int .i64 0, AV.int .i64 0, AV.int .i64 0, AV.int .i64 0]))) false (fun p2 => true)))
def v53_0 (a0 : List AV) : List AV := (ro (runW (R53_0 a0) (((a0.length : Int) - 0).toNat + 1) (0, List.replicate (Int.toNat (a0.length : Int)) (AV.agg [AV.int .i64 0, AV.int .i64 0, AV.int .i64 0, AV.int .i64 0]))) [] (fun p2 => p2))
theorem e53 (a0 : List AV) : funA c53 0 53 [AV.sl [.int .i64, .int .i64, .int .i64, .int .i64] a0] = (bif (decide (0 ≤ (a0.length : Int)) && decide ((a0.length : Int) ≤ (a0.length : Int)) && decide ((a0.length : Int) * 32 ≤ 140737488355328) && decide ((a0.length : Int) ≤ 140737488355328)) then (ro (runW (R53_0 a0) (((a0.length : Int) - 0).toNat + 1) (0, List.replicate (Int.toNat (a0.length : Int)) (AV.agg [AV.int .i64 0, AV.int .i64 0, AV.int .i64 0, AV.int .i64 0]))) none (fun p2 => some (AV.fl [.int .i64, .int .i64, .int .i64, .int .i64] p2)))
  else none) := by kernel_rfl
theorem r53 (a0 : List AV) (h : q53 a0 = true) : funA c53 0 53 [AV.sl [.int .i64, .int .i64, .int .i64, .int .i64] a0] = some (AV.fl [.int .i64, .int .i64, .int .i64, .int .i64] (v53_0 a0)) := (e53 a0).trans ((brL (brO (fun o : Option (((List AV))) => some (AV.fl [.int .i64, .int .i64, .int .i64, .int .i64] (ro o [] (fun p2 => p2)))) (fun p2 => (fun _ => rfl)))) h)
def m53 : TModel
  | [.sl g0 a0] => bif ctsEq g0 ([.int .i64, .int .i64, .int .i64, .int .i64]) then some (q53 a0, AV.fl [.int .i64, .int .i64, .int .i64, .int .i64] (v53_0 a0)) else none
  | _ => none
theorem k53 : Known Try.prog 53 := ⟨Try.f53, Try.func53, by kernel_rfl, by kernel_rfl⟩
theorem meets53 : Meets Try.prog 53 m53 := by
  refine meet (f := Try.f53) (l := [(0, sub [1, 1, 0, 1, 0, 0] (body Try.f53))]) (hs := [(53, 0, [0, 3, 4]), (53, 999, [2]), (53, 1000, [3]), (53, 1001, [0, 3, 4])]) (ts := [(113, m113)]) (ws := []) (is := []) (ls := [(53, 0, l53_0)]) (lvl := 0) mixed k53 Try.func53 (by kernel_rfl) (loops_cons ok53_0 noLoop) (allT_cons meets113 allT_nil) allM_nil noI fun w xs us r hl hv h => ?_
  unfold m53 at h
  split at h
  · rename_i g0 a0
    obtain ⟨hg, h⟩ := bif_pair h
    have q0 := hg
    obtain rfl := ctsEq_eq _ _ q0
    obtain ⟨h1, rfl⟩ := pair_inj h
    exact r53 a0 h1
  · cases h

/-! ### 68 loop.example/g01984/spec.l1In -/
noncomputable def c68 : Cfg := cfg Try.prog [(68, 999, [6])] [] [] [] []
def q68 (a0 : Int) (a1 : Int) (a2 : Int) : Bool := true
def v68_0 (a0 : Int) (a1 : Int) (a2 : Int) : Bool := (bif decide (a0 ≥ a1) then decide (a0 ≤ a2) else false)
theorem e68 (a0 : Int) (a1 : Int) (a2 : Int) : funA c68 0 68 [AV.int .i64 a0, AV.int .i64 a1, AV.int .i64 a2] = (bif decide (a0 ≥ a1) then some (AV.bool (decide (a0 ≤ a2)))
  else some (AV.bool false)) := by kernel_rfl
theorem r68 (a0 : Int) (a1 : Int) (a2 : Int) : funA c68 0 68 [AV.int .i64 a0, AV.int .i64 a1, AV.int .i64 a2] = some (AV.bool (v68_0 a0 a1 a2)) := (e68 a0 a1 a2).trans (of_tt (brT (fun b => some (AV.bool (bif b then decide (a0 ≤ a2) else false))) (fun _ => rfl) (fun _ => rfl)))
def m68 : TModel
  | [.int .i64 a0, .int .i64 a1, .int .i64 a2] => some (true, AV.bool (v68_0 a0 a1 a2))
  | _ => none
theorem k68 : Known Try.prog 68 := ⟨Try.f68, Try.func68, by kernel_rfl, by kernel_rfl⟩
theorem meets68 : Meets Try.prog 68 m68 := by
  refine meet (f := Try.f68) (l := []) (hs := [(68, 999, [6])]) (ts := []) (ws := []) (is := []) (ls := []) (lvl := 0) mixed k68 Try.func68 (by kernel_rfl) noLoop allT_nil allM_nil noI fun w xs us r hl hv h => ?_
  unfold m68 at h
  split at h
  · rename_i a0 a1 a2
    obtain ⟨h1, rfl⟩ := pair_inj h
    exact r68 a0 a1 a2
  · cases h

/-! ### 103 loop.example/g01984/spec.AreValues -/
def F103_0 (t0 : List AV) (t3 : Int) : Out (Int) (Unit ⊕ Unit) := (bif decide (t3 < (t0.length : Int)) then (bif (decide (0 ≤ t3) && decide (t3 < (t0.length : Int))) then (bif !(v68_0 (fI (t0.getD t3.toNat AV.undef) 0) (-999) 999) then .stop (.inr ())
    else .next (IntKind.i64.wrap (t3 + 1)))
   else .fail)
  else .stop (.inl ()))
def R103_0 (t0 : List AV) : (Int) → Out (Int) (Unit ⊕ Unit) := fun s : Int => F103_0 t0 s
def l103_0 : LModel := fun _ _ st k => match st with
  | ⟨[(0, .sl g0 t0), (3, .int .i64 t3)], []⟩ => bif ctsEq g0 ([.int .i64]) then ro (runW (R103_0 t0) (((t0.length : Int) - t3).toNat + 1) t3) none (sumE (fun _ : Unit => k (.exit 0) ⟨[(0, AV.sl [.int .i64] t0)], []⟩) (fun _ : Unit => k .ret ⟨[(2, AV.bool false)], []⟩)) else none
  | _ => none
noncomputable def c103 : Cfg := cfg Try.prog [(103, 0, [0, 3]), (103, 999, [2]), (103, 1000, [0]), (103, 1001, [0, 3])] [(68, m68)] [] [] [(103, 0, l103_0)]
theorem s103_0 (ce : CallE) (t0 : List AV) (t3 : Int) (next : St → Option AV) (k : Kont) : stepA (codeA c103 ce [] 103 0 (sub [1, 0, 1, 0, 0] (body Try.f103))) (normA [] [0, 3]) next ⟨[(0, AV.sl [.int .i64] t0), (3, AV.int .i64 t3)], []⟩ k = (bif decide (t3 < (t0.length : Int)) then (bif (decide (0 ≤ t3) && decide (t3 < (t0.length : Int))) then (bif !(v68_0 (fI (t0.getD t3.toNat AV.undef) 0) (-999) 999) then k .ret ⟨[(2, AV.bool false)], []⟩
    else next ⟨[(0, AV.sl [.int .i64] t0), (3, AV.int .i64 (IntKind.i64.wrap (t3 + 1)))], []⟩)
   else none)
  else k (.exit 0) ⟨[(0, AV.sl [.int .i64] t0)], []⟩) := by kernel_rfl
theorem st103_0 (t0 : List AV) (ce : CallE) (k : Kont) (s : Int) (next : St → Option AV) : stepA (codeA c103 ce [] 103 0 (sub [1, 0, 1, 0, 0] (body Try.f103))) (normA [] [0, 3]) next ((fun s : Int => ⟨[(0, AV.sl [.int .i64] t0), (3, AV.int .i64 s)], []⟩) s) k = (R103_0 t0 s).el none (fun s => next ((fun s : Int => ⟨[(0, AV.sl [.int .i64] t0), (3, AV.int .i64 s)], []⟩) s)) (sumE (fun _ : Unit => k (.exit 0) ⟨[(0, AV.sl [.int .i64] t0)], []⟩) (fun _ : Unit => k .ret ⟨[(2, AV.bool false)], []⟩)) := (s103_0 ce t0 s next k).trans (by unfold R103_0; unfold F103_0; simp only [el_cond, el_ro, el_sum, el_fail, el_next, el_stop] <;> rfl)
theorem ok103_0 {ce : CallE} : LoopOK c103 ce [] 103 0 (sub [1, 0, 1, 0, 0] (body Try.f103)) := by
  intro m hm st k r h
  obtain rfl : l103_0 = m := Option.some.inj hm
  unfold l103_0 at h
  split at h
  · rename_i g0 t0 t3
    obtain ⟨hg, h⟩ := bif_some h
    have q0 := hg
    obtain rfl := ctsEq_eq _ _ q0
    refine ⟨(((t0.length : Int) - t3).toNat + 1), ?_⟩
    rw [← h]
    exact loop_run (fun s : Int => ⟨[(0, AV.sl [.int .i64] t0), (3, AV.int .i64 s)], []⟩) (sumE (fun _ : Unit => k (.exit 0) ⟨[(0, AV.sl [.int .i64] t0)], []⟩) (fun _ : Unit => k .ret ⟨[(2, AV.bool false)], []⟩)) (st103_0 t0 ce k) _ t3
  · cases h
def q103 (a0 : List AV) : Bool := (ro (runW (R103_0 a0) (((a0.length : Int) - 0).toNat + 1) 0) false (sumE (fun _ => true) (fun _ => true)))
def v103_0 (a0 : List AV) : Bool := (ro (runW (R103_0 a0) (((a0.length : Int) - 0).toNat + 1) 0) false (sumE (fun _ => decide ((a0.length : Int) ≤ 64)) (fun _ => false)))
theorem e103 (a0 : List AV) : funA c103 0 103 [AV.sl [.int .i64] a0] = (ro (runW (R103_0 a0) (((a0.length : Int) - 0).toNat + 1) 0) none (sumE (fun _ => some (AV.bool (decide ((a0.length : Int) ≤ 64)))) (fun _ => some (AV.bool false)))) := by kernel_rfl
theorem r103 (a0 : List AV) (h : q103 a0 = true) : funA c103 0 103 [AV.sl [.int .i64] a0] = some (AV.bool (v103_0 a0)) := (e103 a0).trans ((brO (fun o : Option (Unit ⊕ Unit) => some (AV.bool (ro o false (sumE (fun _ => decide ((a0.length : Int) ≤ 64)) (fun _ => false))))) (brS (fun o : Unit ⊕ Unit => some (AV.bool ((sumE (fun _ => decide ((a0.length : Int) ≤ 64)) (fun _ => false)) o))) (fun _ => (fun _ => rfl)) (fun _ => (fun _ => rfl)))) h)
def m103 : TModel
  | [.sl g0 a0] => bif ctsEq g0 ([.int .i64]) then some (q103 a0, AV.bool (v103_0 a0)) else none
  | _ => none
theorem k103 : Known Try.prog 103 := ⟨Try.f103, Try.func103, by kernel_rfl, by kernel_rfl⟩
theorem meets103 : Meets Try.prog 103 m103 := by
  refine meet (f := Try.f103) (l := [(0, sub [1, 0, 1, 0, 0] (body Try.f103))]) (hs := [(103, 0, [0, 3]), (103, 999, [2]), (103, 1000, [0]), (103, 1001, [0, 3])]) (ts := [(68, m68)]) (ws := []) (is := []) (ls := [(103, 0, l103_0)]) (lvl := 0) mixed k103 Try.func103 (by kernel_rfl) (loops_cons ok103_0 noLoop) (allT_cons meets68 allT_nil) allM_nil noI fun w xs us r hl hv h => ?_
  unfold m103 at h
  split at h
  · rename_i g0 a0
    obtain ⟨hg, h⟩ := bif_pair h
    have q0 := hg
    obtain rfl := ctsEq_eq _ _ q0
    obtain ⟨h1, rfl⟩ := pair_inj h
    exact r103 a0 h1
  · cases h

/-! ### 102 loop.example/g01984/spec.NewCracker -/
def F102_0_s0 (t0 : List AV) (h0 : List AV) (t4 : Int) : Out (Int ⊕ (Int × (List AV))) (Unit ⊕ ((List AV))) := (bif decide (t4 < (t0.length : Int)) then (bif (decide ((([AV.int .i64 t4]).length) * 8 ≤ 140737488355328) && decide ((([AV.int .i64 t4]).length) ≤ 140737488355328)) then .next (.inr (IntKind.i64.wrap (t4 + 1), [AV.int .i64 t4]))
   else .fail)
  else .stop (.inl ()))
def F102_0_s1 (t0 : List AV) (h0 : List AV) (t4 : Int) (h1 : List AV) : Out (Int ⊕ (Int × (List AV))) (Unit ⊕ ((List AV))) := (bif decide (t4 < (t0.length : Int)) then (bif (decide ((h1.length + ([AV.int .i64 t4]).length) * 8 ≤ 140737488355328) && decide ((h1.length + ([AV.int .i64 t4]).length) ≤ 140737488355328)) then .next (.inr (IntKind.i64.wrap (t4 + 1), h1 ++ ([AV.int .i64 t4])))
   else .fail)
  else .stop (.inr h1))
def R102_0 (t0 : List AV) (h0 : List AV) : (Int ⊕ (Int × (List AV))) → Out (Int ⊕ (Int × (List AV))) (Unit ⊕ ((List AV))) := sumE (fun s : Int => F102_0_s0 t0 h0 s) (fun s : Int × (List AV) => F102_0_s1 t0 h0 s.1 s.2)
def l102_0 : LModel := fun _ _ st k => match st with
  | ⟨[(0, .sl g0 t0), (2, .ptr g1 g2 g3), (3, .ptr g4 g5 g6), (4, .int .i64 t4)], [(g7, ⟨false, g8, h0⟩), (g9, ⟨true, [], [.agg [.snil, .snil, .snil]]⟩), (g10, ⟨true, [], [.agg [.own g11, .snil, .snil]]⟩)]⟩ => bif ctsEq g0 ([.int .i64]) && nmEq g1 ([0, 2]) && Nat.beq g2 0 && Nat.beq g3 0 && nmEq g4 ([0, 3]) && Nat.beq g5 0 && Nat.beq g6 0 && nmEq g7 ([0, 0, 3]) && ctsEq g8 ([.int .i64]) && nmEq g9 ([0, 2]) && nmEq g10 ([0, 3]) && nmEq g11 ([0, 0, 3]) then ro (runW (R102_0 t0 h0) (((t0.length : Int) - t4).toNat + 1) (.inl t4)) none (sumE (fun _ : Unit => k (.exit 0) ⟨[(2, AV.ptr [0, 2] 0 0), (3, AV.ptr [0, 3] 0 0)], [([0, 0, 3], ⟨false, [.int .i64], h0⟩), ([0, 2], ⟨true, [], [AV.agg [AV.snil, AV.snil, AV.snil]]⟩), ([0, 3], ⟨true, [], [AV.agg [AV.own [0, 0, 3], AV.snil, AV.snil]]⟩)]⟩) (fun p : (List AV) => k (.exit 0) ⟨[(2, AV.ptr [0, 2] 0 0), (3, AV.ptr [0, 3] 0 0)], [([0, 0, 3], ⟨false, [.int .i64], h0⟩), ([0, 1, 3], ⟨false, [.int .i64], p⟩), ([0, 2], ⟨true, [], [AV.agg [AV.snil, AV.snil, AV.snil]]⟩), ([0, 3], ⟨true, [], [AV.agg [AV.own [0, 0, 3], AV.own [0, 1, 3], AV.snil]]⟩)]⟩)) else none
  | ⟨[(0, .sl g0 t0), (2, .ptr g1 g2 g3), (3, .ptr g4 g5 g6), (4, .int .i64 t4)], [(g7, ⟨false, g8, h0⟩), (g9, ⟨false, g10, h1⟩), (g11, ⟨true, [], [.agg [.snil, .snil, .snil]]⟩), (g12, ⟨true, [], [.agg [.own g13, .own g14, .snil]]⟩)]⟩ => bif ctsEq g0 ([.int .i64]) && nmEq g1 ([0, 2]) && Nat.beq g2 0 && Nat.beq g3 0 && nmEq g4 ([0, 3]) && Nat.beq g5 0 && Nat.beq g6 0 && nmEq g7 ([0, 0, 3]) && ctsEq g8 ([.int .i64]) && nmEq g9 ([0, 1, 3]) && ctsEq g10 ([.int .i64]) && nmEq g11 ([0, 2]) && nmEq g12 ([0, 3]) && nmEq g13 ([0, 0, 3]) && nmEq g14 ([0, 1, 3]) then ro (runW (R102_0 t0 h0) (((t0.length : Int) - t4).toNat + 1) (.inr (t4, h1))) none (sumE (fun _ : Unit => k (.exit 0) ⟨[(2, AV.ptr [0, 2] 0 0), (3, AV.ptr [0, 3] 0 0)], [([0, 0, 3], ⟨false, [.int .i64], h0⟩), ([0, 2], ⟨true, [], [AV.agg [AV.snil, AV.snil, AV.snil]]⟩), ([0, 3], ⟨true, [], [AV.agg [AV.own [0, 0, 3], AV.snil, AV.snil]]⟩)]⟩) (fun p : (List AV) => k (.exit 0) ⟨[(2, AV.ptr [0, 2] 0 0), (3, AV.ptr [0, 3] 0 0)], [([0, 0, 3], ⟨false, [.int .i64], h0⟩), ([0, 1, 3], ⟨false, [.int .i64], p⟩), ([0, 2], ⟨true, [], [AV.agg [AV.snil, AV.snil, AV.snil]]⟩), ([0, 3], ⟨true, [], [AV.agg [AV.own [0, 0, 3], AV.own [0, 1, 3], AV.snil]]⟩)]⟩)) else none
  | _ => none
noncomputable def c102 : Cfg := cfg Try.prog [(102, 0, [0, 2, 3, 4]), (102, 999, [2]), (102, 1000, [2, 3]), (102, 1001, [0, 2, 3, 4])] [(103, m103)] [] [] [(102, 0, l102_0)]
theorem s102_0_s0 (ce : CallE) (t0 : List AV) (t4 : Int) (h0 : List AV) (next : St → Option AV) (k : Kont) : stepA (codeA c102 ce [] 102 0 (sub [1, 1, 1, 0, 1, 0, 0] (body Try.f102))) (normA [] [0, 2, 3, 4]) next ⟨[(0, AV.sl [.int .i64] t0), (2, AV.ptr [0, 2] 0 0), (3, AV.ptr [0, 3] 0 0), (4, AV.int .i64 t4)], [([0, 0, 3], ⟨false, [.int .i64], h0⟩), ([0, 2], ⟨true, [], [AV.agg [AV.snil, AV.snil, AV.snil]]⟩), ([0, 3], ⟨true, [], [AV.agg [AV.own [0, 0, 3], AV.snil, AV.snil]]⟩)]⟩ k = (bif decide (t4 < (t0.length : Int)) then (bif (decide ((([AV.int .i64 t4]).length) * 8 ≤ 140737488355328) && decide ((([AV.int .i64 t4]).length) ≤ 140737488355328)) then next ⟨[(0, AV.sl [.int .i64] t0), (2, AV.ptr [0, 2] 0 0), (3, AV.ptr [0, 3] 0 0), (4, AV.int .i64 (IntKind.i64.wrap (t4 + 1)))], [([0, 0, 3], ⟨false, [.int .i64], h0⟩), ([0, 1, 3], ⟨false, [.int .i64], [AV.int .i64 t4]⟩), ([0, 2], ⟨true, [], [AV.agg [AV.snil, AV.snil, AV.snil]]⟩), ([0, 3], ⟨true, [], [AV.agg [AV.own [0, 0, 3], AV.own [0, 1, 3], AV.snil]]⟩)]⟩
   else none)
  else k (.exit 0) ⟨[(2, AV.ptr [0, 2] 0 0), (3, AV.ptr [0, 3] 0 0)], [([0, 0, 3], ⟨false, [.int .i64], h0⟩), ([0, 2], ⟨true, [], [AV.agg [AV.snil, AV.snil, AV.snil]]⟩), ([0, 3], ⟨true, [], [AV.agg [AV.own [0, 0, 3], AV.snil, AV.snil]]⟩)]⟩) := by kernel_rfl
theorem s102_0_s1 (ce : CallE) (t0 : List AV) (t4 : Int) (h0 : List AV) (h1 : List AV) (next : St → Option AV) (k : Kont) : stepA (codeA c102 ce [] 102 0 (sub [1, 1, 1, 0, 1, 0, 0] (body Try.f102))) (normA [] [0, 2, 3, 4]) next ⟨[(0, AV.sl [.int .i64] t0), (2, AV.ptr [0, 2] 0 0), (3, AV.ptr [0, 3] 0 0), (4, AV.int .i64 t4)], [([0, 0, 3], ⟨false, [.int .i64], h0⟩), ([0, 1, 3], ⟨false, [.int .i64], h1⟩), ([0, 2], ⟨true, [], [AV.agg [AV.snil, AV.snil, AV.snil]]⟩), ([0, 3], ⟨true, [], [AV.agg [AV.own [0, 0, 3], AV.own [0, 1, 3], AV.snil]]⟩)]⟩ k = (bif decide (t4 < (t0.length : Int)) then (bif (decide ((h1.length + ([AV.int .i64 t4]).length) * 8 ≤ 140737488355328) && decide ((h1.length + ([AV.int .i64 t4]).length) ≤ 140737488355328)) then next ⟨[(0, AV.sl [.int .i64] t0), (2, AV.ptr [0, 2] 0 0), (3, AV.ptr [0, 3] 0 0), (4, AV.int .i64 (IntKind.i64.wrap (t4 + 1)))], [([0, 0, 3], ⟨false, [.int .i64], h0⟩), ([0, 1, 3], ⟨false, [.int .i64], h1 ++ ([AV.int .i64 t4])⟩), ([0, 2], ⟨true, [], [AV.agg [AV.snil, AV.snil, AV.snil]]⟩), ([0, 3], ⟨true, [], [AV.agg [AV.own [0, 0, 3], AV.own [0, 1, 3], AV.snil]]⟩)]⟩
   else none)
  else k (.exit 0) ⟨[(2, AV.ptr [0, 2] 0 0), (3, AV.ptr [0, 3] 0 0)], [([0, 0, 3], ⟨false, [.int .i64], h0⟩), ([0, 1, 3], ⟨false, [.int .i64], h1⟩), ([0, 2], ⟨true, [], [AV.agg [AV.snil, AV.snil, AV.snil]]⟩), ([0, 3], ⟨true, [], [AV.agg [AV.own [0, 0, 3], AV.own [0, 1, 3], AV.snil]]⟩)]⟩) := by kernel_rfl
theorem st102_0 (t0 : List AV) (h0 : List AV) (ce : CallE) (k : Kont) (s : Int ⊕ (Int × (List AV))) (next : St → Option AV) : stepA (codeA c102 ce [] 102 0 (sub [1, 1, 1, 0, 1, 0, 0] (body Try.f102))) (normA [] [0, 2, 3, 4]) next ((sumE (fun s : Int => ⟨[(0, AV.sl [.int .i64] t0), (2, AV.ptr [0, 2] 0 0), (3, AV.ptr [0, 3] 0 0), (4, AV.int .i64 s)], [([0, 0, 3], ⟨false, [.int .i64], h0⟩), ([0, 2], ⟨true, [], [AV.agg [AV.snil, AV.snil, AV.snil]]⟩), ([0, 3], ⟨true, [], [AV.agg [AV.own [0, 0, 3], AV.snil, AV.snil]]⟩)]⟩) (fun s : Int × (List AV) => ⟨[(0, AV.sl [.int .i64] t0), (2, AV.ptr [0, 2] 0 0), (3, AV.ptr [0, 3] 0 0), (4, AV.int .i64 s.1)], [([0, 0, 3], ⟨false, [.int .i64], h0⟩), ([0, 1, 3], ⟨false, [.int .i64], s.2⟩), ([0, 2], ⟨true, [], [AV.agg [AV.snil, AV.snil, AV.snil]]⟩), ([0, 3], ⟨true, [], [AV.agg [AV.own [0, 0, 3], AV.own [0, 1, 3], AV.snil]]⟩)]⟩)) s) k = (R102_0 t0 h0 s).el none (fun s => next ((sumE (fun s : Int => ⟨[(0, AV.sl [.int .i64] t0), (2, AV.ptr [0, 2] 0 0), (3, AV.ptr [0, 3] 0 0), (4, AV.int .i64 s)], [([0, 0, 3], ⟨false, [.int .i64], h0⟩), ([0, 2], ⟨true, [], [AV.agg [AV.snil, AV.snil, AV.snil]]⟩), ([0, 3], ⟨true, [], [AV.agg [AV.own [0, 0, 3], AV.snil, AV.snil]]⟩)]⟩) (fun s : Int × (List AV) => ⟨[(0, AV.sl [.int .i64] t0), (2, AV.ptr [0, 2] 0 0), (3, AV.ptr [0, 3] 0 0), (4, AV.int .i64 s.1)], [([0, 0, 3], ⟨false, [.int .i64], h0⟩), ([0, 1, 3], ⟨false, [.int .i64], s.2⟩), ([0, 2], ⟨true, [], [AV.agg [AV.snil, AV.snil, AV.snil]]⟩), ([0, 3], ⟨true, [], [AV.agg [AV.own [0, 0, 3], AV.own [0, 1, 3], AV.snil]]⟩)]⟩)) s)) (sumE (fun _ : Unit => k (.exit 0) ⟨[(2, AV.ptr [0, 2] 0 0), (3, AV.ptr [0, 3] 0 0)], [([0, 0, 3], ⟨false, [.int .i64], h0⟩), ([0, 2], ⟨true, [], [AV.agg [AV.snil, AV.snil, AV.snil]]⟩), ([0, 3], ⟨true, [], [AV.agg [AV.own [0, 0, 3], AV.snil, AV.snil]]⟩)]⟩) (fun p : (List AV) => k (.exit 0) ⟨[(2, AV.ptr [0, 2] 0 0), (3, AV.ptr [0, 3] 0 0)], [([0, 0, 3], ⟨false, [.int .i64], h0⟩), ([0, 1, 3], ⟨false, [.int .i64], p⟩), ([0, 2], ⟨true, [], [AV.agg [AV.snil, AV.snil, AV.snil]]⟩), ([0, 3], ⟨true, [], [AV.agg [AV.own [0, 0, 3], AV.own [0, 1, 3], AV.snil]]⟩)]⟩)) := (match s with | .inl s => (s102_0_s0 ce t0 s h0 next k).trans (by unfold R102_0; unfold F102_0_s0; simp only [el_cond, el_ro, el_sum, el_fail, el_next, el_stop] <;> rfl) | .inr s => (s102_0_s1 ce t0 s.1 h0 s.2 next k).trans (by unfold R102_0; unfold F102_0_s1; simp only [el_cond, el_ro, el_sum, el_fail, el_next, el_stop] <;> rfl))
theorem ok102_0 {ce : CallE} : LoopOK c102 ce [] 102 0 (sub [1, 1, 1, 0, 1, 0, 0] (body Try.f102)) := by
  intro m hm st k r h
  obtain rfl : l102_0 = m := Option.some.inj hm
  unfold l102_0 at h
  split at h
  · rename_i g0 t0 g1 g2 g3 g4 g5 g6 t4 g7 g8 h0 g9 g10 g11
    obtain ⟨hg, h⟩ := bif_some h
    simp only [Bool.and_eq_true] at hg
    obtain ⟨⟨⟨⟨⟨⟨⟨⟨⟨⟨⟨q0, q1⟩, q2⟩, q3⟩, q4⟩, q5⟩, q6⟩, q7⟩, q8⟩, q9⟩, q10⟩, q11⟩ := hg
    obtain rfl := ctsEq_eq _ _ q0
    obtain rfl := (nmEq_iff _ _).1 q1
    obtain rfl := Nat.eq_of_beq_eq_true q2
    obtain rfl := Nat.eq_of_beq_eq_true q3
    obtain rfl := (nmEq_iff _ _).1 q4
    obtain rfl := Nat.eq_of_beq_eq_true q5
    obtain rfl := Nat.eq_of_beq_eq_true q6
    obtain rfl := (nmEq_iff _ _).1 q7
    obtain rfl := ctsEq_eq _ _ q8
    obtain rfl := (nmEq_iff _ _).1 q9
    obtain rfl := (nmEq_iff _ _).1 q10
    obtain rfl := (nmEq_iff _ _).1 q11
    refine ⟨(((t0.length : Int) - t4).toNat + 1), ?_⟩
    rw [← h]
    exact loop_run (sumE (fun s : Int => ⟨[(0, AV.sl [.int .i64] t0), (2, AV.ptr [0, 2] 0 0), (3, AV.ptr [0, 3] 0 0), (4, AV.int .i64 s)], [([0, 0, 3], ⟨false, [.int .i64], h0⟩), ([0, 2], ⟨true, [], [AV.agg [AV.snil, AV.snil, AV.snil]]⟩), ([0, 3], ⟨true, [], [AV.agg [AV.own [0, 0, 3], AV.snil, AV.snil]]⟩)]⟩) (fun s : Int × (List AV) => ⟨[(0, AV.sl [.int .i64] t0), (2, AV.ptr [0, 2] 0 0), (3, AV.ptr [0, 3] 0 0), (4, AV.int .i64 s.1)], [([0, 0, 3], ⟨false, [.int .i64], h0⟩), ([0, 1, 3], ⟨false, [.int .i64], s.2⟩), ([0, 2], ⟨true, [], [AV.agg [AV.snil, AV.snil, AV.snil]]⟩), ([0, 3], ⟨true, [], [AV.agg [AV.own [0, 0, 3], AV.own [0, 1, 3], AV.snil]]⟩)]⟩)) (sumE (fun _ : Unit => k (.exit 0) ⟨[(2, AV.ptr [0, 2] 0 0), (3, AV.ptr [0, 3] 0 0)], [([0, 0, 3], ⟨false, [.int .i64], h0⟩), ([0, 2], ⟨true, [], [AV.agg [AV.snil, AV.snil, AV.snil]]⟩), ([0, 3], ⟨true, [], [AV.agg [AV.own [0, 0, 3], AV.snil, AV.snil]]⟩)]⟩) (fun p : (List AV) => k (.exit 0) ⟨[(2, AV.ptr [0, 2] 0 0), (3, AV.ptr [0, 3] 0 0)], [([0, 0, 3], ⟨false, [.int .i64], h0⟩), ([0, 1, 3], ⟨false, [.int .i64], p⟩), ([0, 2], ⟨true, [], [AV.agg [AV.snil, AV.snil, AV.snil]]⟩), ([0, 3], ⟨true, [], [AV.agg [AV.own [0, 0, 3], AV.own [0, 1, 3], AV.snil]]⟩)]⟩)) (st102_0 t0 h0 ce k) _ (.inl t4)
  · rename_i g0 t0 g1 g2 g3 g4 g5 g6 t4 g7 g8 h0 g9 g10 h1 g11 g12 g13 g14
    obtain ⟨hg, h⟩ := bif_some h
    simp only [Bool.and_eq_true] at hg
    obtain ⟨⟨⟨⟨⟨⟨⟨⟨⟨⟨⟨⟨⟨⟨q0, q1⟩, q2⟩, q3⟩, q4⟩, q5⟩, q6⟩, q7⟩, q8⟩, q9⟩, q10⟩, q11⟩, q12⟩, q13⟩, q14⟩ := hg
    obtain rfl := ctsEq_eq _ _ q0
    obtain rfl := (nmEq_iff _ _).1 q1
    obtain rfl := Nat.eq_of_beq_eq_true q2
    obtain rfl := Nat.eq_of_beq_eq_true q3
    obtain rfl := (nmEq_iff _ _).1 q4
    obtain rfl := Nat.eq_of_beq_eq_true q5
    obtain rfl := Nat.eq_of_beq_eq_true q6
    obtain rfl := (nmEq_iff _ _).1 q7
    obtain rfl := ctsEq_eq _ _ q8
    obtain rfl := (nmEq_iff _ _).1 q9
    obtain rfl := ctsEq_eq _ _ q10
    obtain rfl := (nmEq_iff _ _).1 q11
    obtain rfl := (nmEq_iff _ _).1 q12
    obtain rfl := (nmEq_iff _ _).1 q13
    obtain rfl := (nmEq_iff _ _).1 q14
    refine ⟨(((t0.length : Int) - t4).toNat + 1), ?_⟩
    rw [← h]
    exact loop_run (sumE (fun s : Int => ⟨[(0, AV.sl [.int .i64] t0), (2, AV.ptr [0, 2] 0 0), (3, AV.ptr [0, 3] 0 0), (4, AV.int .i64 s)], [([0, 0, 3], ⟨false, [.int .i64], h0⟩), ([0, 2], ⟨true, [], [AV.agg [AV.snil, AV.snil, AV.snil]]⟩), ([0, 3], ⟨true, [], [AV.agg [AV.own [0, 0, 3], AV.snil, AV.snil]]⟩)]⟩) (fun s : Int × (List AV) => ⟨[(0, AV.sl [.int .i64] t0), (2, AV.ptr [0, 2] 0 0), (3, AV.ptr [0, 3] 0 0), (4, AV.int .i64 s.1)], [([0, 0, 3], ⟨false, [.int .i64], h0⟩), ([0, 1, 3], ⟨false, [.int .i64], s.2⟩), ([0, 2], ⟨true, [], [AV.agg [AV.snil, AV.snil, AV.snil]]⟩), ([0, 3], ⟨true, [], [AV.agg [AV.own [0, 0, 3], AV.own [0, 1, 3], AV.snil]]⟩)]⟩)) (sumE (fun _ : Unit => k (.exit 0) ⟨[(2, AV.ptr [0, 2] 0 0), (3, AV.ptr [0, 3] 0 0)], [([0, 0, 3], ⟨false, [.int .i64], h0⟩), ([0, 2], ⟨true, [], [AV.agg [AV.snil, AV.snil, AV.snil]]⟩), ([0, 3], ⟨true, [], [AV.agg [AV.own [0, 0, 3], AV.snil, AV.snil]]⟩)]⟩) (fun p : (List AV) => k (.exit 0) ⟨[(2, AV.ptr [0, 2] 0 0), (3, AV.ptr [0, 3] 0 0)], [([0, 0, 3], ⟨false, [.int .i64], h0⟩), ([0, 1, 3], ⟨false, [.int .i64], p⟩), ([0, 2], ⟨true, [], [AV.agg [AV.snil, AV.snil, AV.snil]]⟩), ([0, 3], ⟨true, [], [AV.agg [AV.own [0, 0, 3], AV.own [0, 1, 3], AV.snil]]⟩)]⟩)) (st102_0 t0 h0 ce k) _ (.inr (t4, h1))
  · cases h
def q102 (a0 : List AV) : Bool := (q103 a0 && (bif !(v103_0 a0) then true else ((decide ((([] : List AV).length + a0.length) * 8 ≤ 140737488355328) && decide ((([] : List AV).length + a0.length) ≤ 140737488355328)) && (ro (runW (R102_0 a0 (([] : List AV) ++ a0)) (((a0.length : Int) - 0).toNat + 1) (.inl 0)) false (sumE (fun _ => true) (fun p6 => true))))))
def v102_0 (a0 : List AV) : List AV := (bif !(v103_0 a0) then ([] : List AV) else ([] : List AV) ++ a0)
def v102_1 (a0 : List AV) : List AV := (bif !(v103_0 a0) then ([] : List AV) else (ro (runW (R102_0 a0 (([] : List AV) ++ a0)) (((a0.length : Int) - 0).toNat + 1) (.inl 0)) [] (sumE (fun _ => ([] : List AV)) (fun p6 => p6))))
def v102_2 (a0 : List AV) : List AV := ([] : List AV)
theorem e102 (a0 : List AV) : funA c102 0 102 [AV.sl [.int .i64] a0] = (bif q103 a0 then (bif !(v103_0 a0) then some (AV.agg [AV.fl [.int .i64] ([] : List AV), AV.fl [.int .i64] ([] : List AV), AV.fl [.int .i64, .int .i64] ([] : List AV)])
   else (bif (decide ((([] : List AV).length + a0.length) * 8 ≤ 140737488355328) && decide ((([] : List AV).length + a0.length) ≤ 140737488355328)) then (ro (runW (R102_0 a0 (([] : List AV) ++ a0)) (((a0.length : Int) - 0).toNat + 1) (.inl 0)) none (sumE (fun _ => some (AV.agg [AV.fl [.int .i64] (([] : List AV) ++ a0), AV.fl [.int .i64] ([] : List AV), AV.fl [.int .i64, .int .i64] ([] : List AV)])) (fun p6 => some (AV.agg [AV.fl [.int .i64] (([] : List AV) ++ a0), AV.fl [.int .i64] p6, AV.fl [.int .i64, .int .i64] ([] : List AV)]))))
    else none))
  else none) := by kernel_rfl
theorem r102 (a0 : List AV) (h : q102 a0 = true) : funA c102 0 102 [AV.sl [.int .i64] a0] = some (AV.agg [AV.fl [.int .i64] (v102_0 a0), AV.fl [.int .i64] (v102_1 a0), AV.fl [.int .i64, .int .i64] (v102_2 a0)]) := (e102 a0).trans ((brL (br (fun b => some (AV.agg [AV.fl [.int .i64] (bif b then ([] : List AV) else ([] : List AV) ++ a0), AV.fl [.int .i64] (bif b then ([] : List AV) else (ro (runW (R102_0 a0 (([] : List AV) ++ a0)) (((a0.length : Int) - 0).toNat + 1) (.inl 0)) [] (sumE (fun _ => ([] : List AV)) (fun p6 => p6)))), AV.fl [.int .i64, .int .i64] ([] : List AV)])) (fun _ => rfl) (brL (brO (fun o : Option (Unit ⊕ ((List AV))) => some (AV.agg [AV.fl [.int .i64] (([] : List AV) ++ a0), AV.fl [.int .i64] (ro o [] (sumE (fun _ => ([] : List AV)) (fun p6 => p6))), AV.fl [.int .i64, .int .i64] ([] : List AV)])) (brS (fun o : Unit ⊕ ((List AV)) => some (AV.agg [AV.fl [.int .i64] (([] : List AV) ++ a0), AV.fl [.int .i64] ((sumE (fun _ => ([] : List AV)) (fun p6 => p6)) o), AV.fl [.int .i64, .int .i64] ([] : List AV)])) (fun _ => (fun _ => rfl)) (fun p6 => (fun _ => rfl))))))) h)
def m102 : TModel
  | [.sl g0 a0] => bif ctsEq g0 ([.int .i64]) then some (q102 a0, AV.agg [AV.fl [.int .i64] (v102_0 a0), AV.fl [.int .i64] (v102_1 a0), AV.fl [.int .i64, .int .i64] (v102_2 a0)]) else none
  | _ => none
theorem k102 : Known Try.prog 102 := ⟨Try.f102, Try.func102, by kernel_rfl, by kernel_rfl⟩
theorem meets102 : Meets Try.prog 102 m102 := by
  refine meet (f := Try.f102) (l := [(0, sub [1, 1, 1, 0, 1, 0, 0] (body Try.f102))]) (hs := [(102, 0, [0, 2, 3, 4]), (102, 999, [2]), (102, 1000, [2, 3]), (102, 1001, [0, 2, 3, 4])]) (ts := [(103, m103)]) (ws := []) (is := []) (ls := [(102, 0, l102_0)]) (lvl := 0) mixed k102 Try.func102 (by kernel_rfl) (loops_cons ok102_0 noLoop) (allT_cons meets103 allT_nil) allM_nil noI fun w xs us r hl hv h => ?_
  unfold m102 at h
  split at h
  · rename_i g0 a0
    obtain ⟨hg, h⟩ := bif_pair h
    have q0 := hg
    obtain rfl := ctsEq_eq _ _ q0
    obtain ⟨h1, rfl⟩ := pair_inj h
    exact r102 a0 h1
  · cases h

/-! ### 116 loop.example/g01984/spec.l4Has -/
def F116_0 (t0 : List AV) (t1 : Int) (t5 : Int) : Out (Int) (Unit ⊕ Unit) := (bif decide (t5 < (t0.length : Int)) then (bif (decide (0 ≤ t5) && decide (t5 < (t0.length : Int))) then (bif decide (fI (t0.getD t5.toNat AV.undef) 0 = t1) then .stop (.inr ())
    else .next (IntKind.i64.wrap (t5 + 1)))
   else .fail)
  else .stop (.inl ()))
def R116_0 (t0 : List AV) (t1 : Int) : (Int) → Out (Int) (Unit ⊕ Unit) := fun s : Int => F116_0 t0 t1 s
def l116_0 : LModel := fun _ _ st k => match st with
  | ⟨[(0, .sl g0 t0), (1, .int .i64 t1), (5, .int .i64 t5)], []⟩ => bif ctsEq g0 ([.int .i64]) then ro (runW (R116_0 t0 t1) (((t0.length : Int) - t5).toNat + 1) t5) none (sumE (fun _ : Unit => k (.exit 0) ⟨[], []⟩) (fun _ : Unit => k .ret ⟨[(4, AV.bool true)], []⟩)) else none
  | _ => none
noncomputable def c116 : Cfg := cfg Try.prog [(116, 0, [0, 1, 5]), (116, 999, [4]), (116, 1000, []), (116, 1001, [0, 1, 5])] [] [] [] [(116, 0, l116_0)]
theorem s116_0 (ce : CallE) (t0 : List AV) (t1 : Int) (t5 : Int) (next : St → Option AV) (k : Kont) : stepA (codeA c116 ce [] 116 0 (sub [1, 0, 1, 0, 0] (body Try.f116))) (normA [] [0, 1, 5]) next ⟨[(0, AV.sl [.int .i64] t0), (1, AV.int .i64 t1), (5, AV.int .i64 t5)], []⟩ k = (bif decide (t5 < (t0.length : Int)) then (bif (decide (0 ≤ t5) && decide (t5 < (t0.length : Int))) then (bif decide (fI (t0.getD t5.toNat AV.undef) 0 = t1) then k .ret ⟨[(4, AV.bool true)], []⟩
    else next ⟨[(0, AV.sl [.int .i64] t0), (1, AV.int .i64 t1), (5, AV.int .i64 (IntKind.i64.wrap (t5 + 1)))], []⟩)
   else none)
  else k (.exit 0) ⟨[], []⟩) := by kernel_rfl
theorem st116_0 (t0 : List AV) (t1 : Int) (ce : CallE) (k : Kont) (s : Int) (next : St → Option AV) : stepA (codeA c116 ce [] 116 0 (sub [1, 0, 1, 0, 0] (body Try.f116))) (normA [] [0, 1, 5]) next ((fun s : Int => ⟨[(0, AV.sl [.int .i64] t0), (1, AV.int .i64 t1), (5, AV.int .i64 s)], []⟩) s) k = (R116_0 t0 t1 s).el none (fun s => next ((fun s : Int => ⟨[(0, AV.sl [.int .i64] t0), (1, AV.int .i64 t1), (5, AV.int .i64 s)], []⟩) s)) (sumE (fun _ : Unit => k (.exit 0) ⟨[], []⟩) (fun _ : Unit => k .ret ⟨[(4, AV.bool true)], []⟩)) := (s116_0 ce t0 t1 s next k).trans (by unfold R116_0; unfold F116_0; simp only [el_cond, el_ro, el_sum, el_fail, el_next, el_stop] <;> rfl)
theorem ok116_0 {ce : CallE} : LoopOK c116 ce [] 116 0 (sub [1, 0, 1, 0, 0] (body Try.f116)) := by
  intro m hm st k r h
  obtain rfl : l116_0 = m := Option.some.inj hm
  unfold l116_0 at h
  split at h
  · rename_i g0 t0 t1 t5
    obtain ⟨hg, h⟩ := bif_some h
    have q0 := hg
    obtain rfl := ctsEq_eq _ _ q0
    refine ⟨(((t0.length : Int) - t5).toNat + 1), ?_⟩
    rw [← h]
    exact loop_run (fun s : Int => ⟨[(0, AV.sl [.int .i64] t0), (1, AV.int .i64 t1), (5, AV.int .i64 s)], []⟩) (sumE (fun _ : Unit => k (.exit 0) ⟨[], []⟩) (fun _ : Unit => k .ret ⟨[(4, AV.bool true)], []⟩)) (st116_0 t0 t1 ce k) _ t5
  · cases h
def q116 (a0 : List AV) (a1 : Int) : Bool := (ro (runW (R116_0 a0 a1) (((a0.length : Int) - 0).toNat + 1) 0) false (sumE (fun _ => true) (fun _ => true)))
def v116_0 (a0 : List AV) (a1 : Int) : Bool := (ro (runW (R116_0 a0 a1) (((a0.length : Int) - 0).toNat + 1) 0) false (sumE (fun _ => false) (fun _ => true)))
theorem e116 (a0 : List AV) (a1 : Int) : funA c116 0 116 [AV.sl [.int .i64] a0, AV.int .i64 a1] = (ro (runW (R116_0 a0 a1) (((a0.length : Int) - 0).toNat + 1) 0) none (sumE (fun _ => some (AV.bool false)) (fun _ => some (AV.bool true)))) := by kernel_rfl
theorem r116 (a0 : List AV) (a1 : Int) (h : q116 a0 a1 = true) : funA c116 0 116 [AV.sl [.int .i64] a0, AV.int .i64 a1] = some (AV.bool (v116_0 a0 a1)) := (e116 a0 a1).trans ((brO (fun o : Option (Unit ⊕ Unit) => some (AV.bool (ro o false (sumE (fun _ => false) (fun _ => true))))) (brS (fun o : Unit ⊕ Unit => some (AV.bool ((sumE (fun _ => false) (fun _ => true)) o))) (fun _ => (fun _ => rfl)) (fun _ => (fun _ => rfl)))) h)
def m116 : TModel
  | [.sl g0 a0, .int .i64 a1] => bif ctsEq g0 ([.int .i64]) then some (q116 a0 a1, AV.bool (v116_0 a0 a1)) else none
  | _ => none
theorem k116 : Known Try.prog 116 := ⟨Try.f116, Try.func116, by kernel_rfl, by kernel_rfl⟩
theorem meets116 : Meets Try.prog 116 m116 := by
  refine meet (f := Try.f116) (l := [(0, sub [1, 0, 1, 0, 0] (body Try.f116))]) (hs := [(116, 0, [0, 1, 5]), (116, 999, [4]), (116, 1000, []), (116, 1001, [0, 1, 5])]) (ts := []) (ws := []) (is := []) (ls := [(116, 0, l116_0)]) (lvl := 0) mixed k116 Try.func116 (by kernel_rfl) (loops_cons ok116_0 noLoop) allT_nil allM_nil noI fun w xs us r hl hv h => ?_
  unfold m116 at h
  split at h
  · rename_i g0 a0 a1
    obtain ⟨hg, h⟩ := bif_pair h
    have q0 := hg
    obtain rfl := ctsEq_eq _ _ q0
    obtain ⟨h1, rfl⟩ := pair_inj h
    exact r116 a0 a1 h1
  · cases h

/-! ### 122 loop.example/g01984/spec.l4Pivots -/
def F122_2 (t0 : List AV) (t1 : List AV) (t5 : Int) (h0_0 : Int) (h0_1 : Int) (t7 : Int) : Out (Int) (Unit ⊕ Unit) := (bif decide (t7 < (t0.length : Int)) then (bif (decide (0 ≤ t7) && decide (t7 < (t0.length : Int))) then (bif !(decide (fI (t0.getD t7.toNat AV.undef) 0 < h0_0) == decide (t7 < h0_1)) then .stop (.inr ())
    else .next (IntKind.i64.wrap (t7 + 1)))
   else .fail)
  else .stop (.inl ()))
def R122_2 (t0 : List AV) (t1 : List AV) (t5 : Int) (h0_0 : Int) (h0_1 : Int) : (Int) → Out (Int) (Unit ⊕ Unit) := fun s : Int => F122_2 t0 t1 t5 h0_0 h0_1 s
def l122_2 : LModel := fun _ _ st k => match st with
  | ⟨[(0, .sl g0 t0), (1, .sl g1 t1), (5, .int .i64 t5), (6, .ptr g2 g3 g4), (7, .int .i64 t7)], [(g5, ⟨true, [], [.agg [.int .i64 h0_0, .int .i64 h0_1]]⟩)]⟩ => bif ctsEq g0 ([.int .i64]) && ctsEq g1 ([.int .i64, .int .i64]) && nmEq g2 ([0, 6]) && Nat.beq g3 0 && Nat.beq g4 0 && nmEq g5 ([0, 6]) then ro (runW (R122_2 t0 t1 t5 h0_0 h0_1) (((t0.length : Int) - t7).toNat + 1) t7) none (sumE (fun _ : Unit => k (.exit 2) ⟨[(0, AV.sl [.int .i64] t0), (1, AV.sl [.int .i64, .int .i64] t1), (5, AV.int .i64 t5)], [([0, 6], ⟨true, [], [AV.agg [AV.int .i64 h0_0, AV.int .i64 h0_1]]⟩)]⟩) (fun _ : Unit => k .ret ⟨[(4, AV.bool false)], [([0, 6], ⟨true, [], [AV.agg [AV.int .i64 h0_0, AV.int .i64 h0_1]]⟩)]⟩)) else none
  | _ => none
def F122_0 (t0 : List AV) (t1 : List AV) (t5 : Int) : Out (Int) (Unit ⊕ (Int × Int) ⊕ (Int × Int)) := (bif decide (t5 < (t1.length : Int)) then (bif (decide (0 ≤ t5) && decide (t5 < (t1.length : Int))) then (bif !(v68_0 (fI (t1.getD t5.toNat AV.undef) 0) (-1000) 1000) then .stop (.inr (.inl (fI (t1.getD t5.toNat AV.undef) 0, fI (t1.getD t5.toNat AV.undef) 1)))
    else (bif !(v68_0 (fI (t1.getD t5.toNat AV.undef) 1) 0 (t0.length : Int)) then .stop (.inr (.inl (fI (t1.getD t5.toNat AV.undef) 0, fI (t1.getD t5.toNat AV.undef) 1)))
     else (bif decide (t5 > 0) then (bif (decide (0 ≤ IntKind.i64.wrap (t5 - 1)) && decide (IntKind.i64.wrap (t5 - 1) < (t1.length : Int))) then (bif decide (fI (t1.getD t5.toNat AV.undef) 0 ≤ fI (t1.getD (IntKind.i64.wrap (t5 - 1)).toNat AV.undef) 0) then .stop (.inr (.inl (fI (t1.getD t5.toNat AV.undef) 0, fI (t1.getD t5.toNat AV.undef) 1)))
        else (bif (decide (0 ≤ IntKind.i64.wrap (t5 - 1)) && decide (IntKind.i64.wrap (t5 - 1) < (t1.length : Int))) then (bif decide (fI (t1.getD t5.toNat AV.undef) 1 < fI (t1.getD (IntKind.i64.wrap (t5 - 1)).toNat AV.undef) 1) then .stop (.inr (.inl (fI (t1.getD t5.toNat AV.undef) 0, fI (t1.getD t5.toNat AV.undef) 1)))
          else (ro (runW (R122_2 t0 t1 t5 (fI (t1.getD t5.toNat AV.undef) 0) (fI (t1.getD t5.toNat AV.undef) 1)) (((t0.length : Int) - 0).toNat + 1) 0) .fail (sumE (fun _ => .next (IntKind.i64.wrap (t5 + 1))) (fun _ => .stop (.inr (.inr (fI (t1.getD t5.toNat AV.undef) 0, fI (t1.getD t5.toNat AV.undef) 1)))))))
         else .fail))
       else .fail)
      else (ro (runW (R122_2 t0 t1 t5 (fI (t1.getD t5.toNat AV.undef) 0) (fI (t1.getD t5.toNat AV.undef) 1)) (((t0.length : Int) - 0).toNat + 1) 0) .fail (sumE (fun _ => .next (IntKind.i64.wrap (t5 + 1))) (fun _ => .stop (.inr (.inr (fI (t1.getD t5.toNat AV.undef) 0, fI (t1.getD t5.toNat AV.undef) 1)))))))))
   else .fail)
  else .stop (.inl ()))
def R122_0 (t0 : List AV) (t1 : List AV) : (Int) → Out (Int) (Unit ⊕ (Int × Int) ⊕ (Int × Int)) := fun s : Int => F122_0 t0 t1 s
def l122_0 : LModel := fun _ _ st k => match st with
  | ⟨[(0, .sl g0 t0), (1, .sl g1 t1), (5, .int .i64 t5)], []⟩ => bif ctsEq g0 ([.int .i64]) && ctsEq g1 ([.int .i64, .int .i64]) then ro (runW (R122_0 t0 t1) (((t1.length : Int) - t5).toNat + 1) t5) none (sumE (fun _ : Unit => k (.exit 0) ⟨[], []⟩) (sumE (fun p : Int × Int => k .ret ⟨[(4, AV.bool false)], [([1, 6], ⟨true, [], [AV.agg [AV.int .i64 p.1, AV.int .i64 p.2]]⟩)]⟩) (fun p : Int × Int => k .ret ⟨[(4, AV.bool false)], [([0, 6], ⟨true, [], [AV.agg [AV.int .i64 p.1, AV.int .i64 p.2]]⟩)]⟩))) else none
  | _ => none
noncomputable def c122 : Cfg := cfg Try.prog [(122, 0, [0, 1, 5]), (122, 2, [0, 1, 5, 6, 7]), (122, 999, [4]), (122, 1000, []), (122, 1001, [0, 1, 5]), (122, 1002, [0, 1, 5]), (122, 1003, [0, 1, 5, 6, 7])] [(68, m68)] [] [] [(122, 0, l122_0), (122, 2, l122_2)]
theorem s122_2 (ce : CallE) (t0 : List AV) (t1 : List AV) (t5 : Int) (t7 : Int) (h0_0 : Int) (h0_1 : Int) (next : St → Option AV) (k : Kont) : stepA (codeA c122 ce [] 122 2 (sub [1, 0, 1, 0, 0, 1, 0, 0, 1, 1, 1, 0, 0] (body Try.f122))) (normA [] [0, 1, 5, 6, 7]) next ⟨[(0, AV.sl [.int .i64] t0), (1, AV.sl [.int .i64, .int .i64] t1), (5, AV.int .i64 t5), (6, AV.ptr [0, 6] 0 0), (7, AV.int .i64 t7)], [([0, 6], ⟨true, [], [AV.agg [AV.int .i64 h0_0, AV.int .i64 h0_1]]⟩)]⟩ k = (bif decide (t7 < (t0.length : Int)) then (bif (decide (0 ≤ t7) && decide (t7 < (t0.length : Int))) then (bif !(decide (fI (t0.getD t7.toNat AV.undef) 0 < h0_0) == decide (t7 < h0_1)) then k .ret ⟨[(4, AV.bool false)], [([0, 6], ⟨true, [], [AV.agg [AV.int .i64 h0_0, AV.int .i64 h0_1]]⟩)]⟩
    else next ⟨[(0, AV.sl [.int .i64] t0), (1, AV.sl [.int .i64, .int .i64] t1), (5, AV.int .i64 t5), (6, AV.ptr [0, 6] 0 0), (7, AV.int .i64 (IntKind.i64.wrap (t7 + 1)))], [([0, 6], ⟨true, [], [AV.agg [AV.int .i64 h0_0, AV.int .i64 h0_1]]⟩)]⟩)
   else none)
  else k (.exit 2) ⟨[(0, AV.sl [.int .i64] t0), (1, AV.sl [.int .i64, .int .i64] t1), (5, AV.int .i64 t5)], [([0, 6], ⟨true, [], [AV.agg [AV.int .i64 h0_0, AV.int .i64 h0_1]]⟩)]⟩) := by kernel_rfl
theorem st122_2 (t0 : List AV) (t1 : List AV) (t5 : Int) (h0_0 : Int) (h0_1 : Int) (ce : CallE) (k : Kont) (s : Int) (next : St → Option AV) : stepA (codeA c122 ce [] 122 2 (sub [1, 0, 1, 0, 0, 1, 0, 0, 1, 1, 1, 0, 0] (body Try.f122))) (normA [] [0, 1, 5, 6, 7]) next ((fun s : Int => ⟨[(0, AV.sl [.int .i64] t0), (1, AV.sl [.int .i64, .int .i64] t1), (5, AV.int .i64 t5), (6, AV.ptr [0, 6] 0 0), (7, AV.int .i64 s)], [([0, 6], ⟨true, [], [AV.agg [AV.int .i64 h0_0, AV.int .i64 h0_1]]⟩)]⟩) s) k = (R122_2 t0 t1 t5 h0_0 h0_1 s).el none (fun s => next ((fun s : Int => ⟨[(0, AV.sl [.int .i64] t0), (1, AV.sl [.int .i64, .int .i64] t1), (5, AV.int .i64 t5), (6, AV.ptr [0, 6] 0 0), (7, AV.int .i64 s)], [([0, 6], ⟨true, [], [AV.agg [AV.int .i64 h0_0, AV.int .i64 h0_1]]⟩)]⟩) s)) (sumE (fun _ : Unit => k (.exit 2) ⟨[(0, AV.sl [.int .i64] t0), (1, AV.sl [.int .i64, .int .i64] t1), (5, AV.int .i64 t5)], [([0, 6], ⟨true, [], [AV.agg [AV.int .i64 h0_0, AV.int .i64 h0_1]]⟩)]⟩) (fun _ : Unit => k .ret ⟨[(4, AV.bool false)], [([0, 6], ⟨true, [], [AV.agg [AV.int .i64 h0_0, AV.int .i64 h0_1]]⟩)]⟩)) := (s122_2 ce t0 t1 t5 s h0_0 h0_1 next k).trans (by unfold R122_2; unfold F122_2; simp only [el_cond, el_ro, el_sum, el_fail, el_next, el_stop] <;> rfl)
theorem ok122_2 {ce : CallE} : LoopOK c122 ce [] 122 2 (sub [1, 0, 1, 0, 0, 1, 0, 0, 1, 1, 1, 0, 0] (body Try.f122)) := by
  intro m hm st k r h
  obtain rfl : l122_2 = m := Option.some.inj hm
  unfold l122_2 at h
  split at h
  · rename_i g0 t0 g1 t1 t5 g2 g3 g4 t7 g5 h0_0 h0_1
    obtain ⟨hg, h⟩ := bif_some h
    simp only [Bool.and_eq_true] at hg
    obtain ⟨⟨⟨⟨⟨q0, q1⟩, q2⟩, q3⟩, q4⟩, q5⟩ := hg
    obtain rfl := ctsEq_eq _ _ q0
    obtain rfl := ctsEq_eq _ _ q1
    obtain rfl := (nmEq_iff _ _).1 q2
    obtain rfl := Nat.eq_of_beq_eq_true q3
    obtain rfl := Nat.eq_of_beq_eq_true q4
    obtain rfl := (nmEq_iff _ _).1 q5
    refine ⟨(((t0.length : Int) - t7).toNat + 1), ?_⟩
    rw [← h]
    exact loop_run (fun s : Int => ⟨[(0, AV.sl [.int .i64] t0), (1, AV.sl [.int .i64, .int .i64] t1), (5, AV.int .i64 t5), (6, AV.ptr [0, 6] 0 0), (7, AV.int .i64 s)], [([0, 6], ⟨true, [], [AV.agg [AV.int .i64 h0_0, AV.int .i64 h0_1]]⟩)]⟩) (sumE (fun _ : Unit => k (.exit 2) ⟨[(0, AV.sl [.int .i64] t0), (1, AV.sl [.int .i64, .int .i64] t1), (5, AV.int .i64 t5)], [([0, 6], ⟨true, [], [AV.agg [AV.int .i64 h0_0, AV.int .i64 h0_1]]⟩)]⟩) (fun _ : Unit => k .ret ⟨[(4, AV.bool false)], [([0, 6], ⟨true, [], [AV.agg [AV.int .i64 h0_0, AV.int .i64 h0_1]]⟩)]⟩)) (st122_2 t0 t1 t5 h0_0 h0_1 ce k) _ t7
  · cases h
theorem s122_0 (ce : CallE) (t0 : List AV) (t1 : List AV) (t5 : Int) (next : St → Option AV) (k : Kont) : stepA (codeA c122 ce [] 122 0 (sub [1, 0, 1, 0, 0] (body Try.f122))) (normA [] [0, 1, 5]) next ⟨[(0, AV.sl [.int .i64] t0), (1, AV.sl [.int .i64, .int .i64] t1), (5, AV.int .i64 t5)], []⟩ k = (bif decide (t5 < (t1.length : Int)) then (bif (decide (0 ≤ t5) && decide (t5 < (t1.length : Int))) then (bif !(v68_0 (fI (t1.getD t5.toNat AV.undef) 0) (-1000) 1000) then k .ret ⟨[(4, AV.bool false)], [([1, 6], ⟨true, [], [AV.agg [AV.int .i64 (fI (t1.getD t5.toNat AV.undef) 0), AV.int .i64 (fI (t1.getD t5.toNat AV.undef) 1)]]⟩)]⟩
    else (bif !(v68_0 (fI (t1.getD t5.toNat AV.undef) 1) 0 (t0.length : Int)) then k .ret ⟨[(4, AV.bool false)], [([1, 6], ⟨true, [], [AV.agg [AV.int .i64 (fI (t1.getD t5.toNat AV.undef) 0), AV.int .i64 (fI (t1.getD t5.toNat AV.undef) 1)]]⟩)]⟩
     else (bif decide (t5 > 0) then (bif (decide (0 ≤ IntKind.i64.wrap (t5 - 1)) && decide (IntKind.i64.wrap (t5 - 1) < (t1.length : Int))) then (bif decide (fI (t1.getD t5.toNat AV.undef) 0 ≤ fI (t1.getD (IntKind.i64.wrap (t5 - 1)).toNat AV.undef) 0) then k .ret ⟨[(4, AV.bool false)], [([1, 6], ⟨true, [], [AV.agg [AV.int .i64 (fI (t1.getD t5.toNat AV.undef) 0), AV.int .i64 (fI (t1.getD t5.toNat AV.undef) 1)]]⟩)]⟩
        else (bif (decide (0 ≤ IntKind.i64.wrap (t5 - 1)) && decide (IntKind.i64.wrap (t5 - 1) < (t1.length : Int))) then (bif decide (fI (t1.getD t5.toNat AV.undef) 1 < fI (t1.getD (IntKind.i64.wrap (t5 - 1)).toNat AV.undef) 1) then k .ret ⟨[(4, AV.bool false)], [([1, 6], ⟨true, [], [AV.agg [AV.int .i64 (fI (t1.getD t5.toNat AV.undef) 0), AV.int .i64 (fI (t1.getD t5.toNat AV.undef) 1)]]⟩)]⟩
          else (ro (runW (R122_2 t0 t1 t5 (fI (t1.getD t5.toNat AV.undef) 0) (fI (t1.getD t5.toNat AV.undef) 1)) (((t0.length : Int) - 0).toNat + 1) 0) none (sumE (fun _ => next ⟨[(0, AV.sl [.int .i64] t0), (1, AV.sl [.int .i64, .int .i64] t1), (5, AV.int .i64 (IntKind.i64.wrap (t5 + 1)))], []⟩) (fun _ => k .ret ⟨[(4, AV.bool false)], [([0, 6], ⟨true, [], [AV.agg [AV.int .i64 (fI (t1.getD t5.toNat AV.undef) 0), AV.int .i64 (fI (t1.getD t5.toNat AV.undef) 1)]]⟩)]⟩))))
         else none))
       else none)
      else (ro (runW (R122_2 t0 t1 t5 (fI (t1.getD t5.toNat AV.undef) 0) (fI (t1.getD t5.toNat AV.undef) 1)) (((t0.length : Int) - 0).toNat + 1) 0) none (sumE (fun _ => next ⟨[(0, AV.sl [.int .i64] t0), (1, AV.sl [.int .i64, .int .i64] t1), (5, AV.int .i64 (IntKind.i64.wrap (t5 + 1)))], []⟩) (fun _ => k .ret ⟨[(4, AV.bool false)], [([0, 6], ⟨true, [], [AV.agg [AV.int .i64 (fI (t1.getD t5.toNat AV.undef) 0), AV.int .i64 (fI (t1.getD t5.toNat AV.undef) 1)]]⟩)]⟩))))))
   else none)
  else k (.exit 0) ⟨[], []⟩) := by kernel_rfl
theorem st122_0 (t0 : List AV) (t1 : List AV) (ce : CallE) (k : Kont) (s : Int) (next : St → Option AV) : stepA (codeA c122 ce [] 122 0 (sub [1, 0, 1, 0, 0] (body Try.f122))) (normA [] [0, 1, 5]) next ((fun s : Int => ⟨[(0, AV.sl [.int .i64] t0), (1, AV.sl [.int .i64, .int .i64] t1), (5, AV.int .i64 s)], []⟩) s) k = (R122_0 t0 t1 s).el none (fun s => next ((fun s : Int => ⟨[(0, AV.sl [.int .i64] t0), (1, AV.sl [.int .i64, .int .i64] t1), (5, AV.int .i64 s)], []⟩) s)) (sumE (fun _ : Unit => k (.exit 0) ⟨[], []⟩) (sumE (fun p : Int × Int => k .ret ⟨[(4, AV.bool false)], [([1, 6], ⟨true, [], [AV.agg [AV.int .i64 p.1, AV.int .i64 p.2]]⟩)]⟩) (fun p : Int × Int => k .ret ⟨[(4, AV.bool false)], [([0, 6], ⟨true, [], [AV.agg [AV.int .i64 p.1, AV.int .i64 p.2]]⟩)]⟩))) := (s122_0 ce t0 t1 s next k).trans (by unfold R122_0; unfold F122_0; simp only [el_cond, el_ro, el_sum, el_fail, el_next, el_stop] <;> rfl)
theorem ok122_0 {ce : CallE} : LoopOK c122 ce [] 122 0 (sub [1, 0, 1, 0, 0] (body Try.f122)) := by
  intro m hm st k r h
  obtain rfl : l122_0 = m := Option.some.inj hm
  unfold l122_0 at h
  split at h
  · rename_i g0 t0 g1 t1 t5
    obtain ⟨hg, h⟩ := bif_some h
    simp only [Bool.and_eq_true] at hg
    obtain ⟨q0, q1⟩ := hg
    obtain rfl := ctsEq_eq _ _ q0
    obtain rfl := ctsEq_eq _ _ q1
    refine ⟨(((t1.length : Int) - t5).toNat + 1), ?_⟩
    rw [← h]
    exact loop_run (fun s : Int => ⟨[(0, AV.sl [.int .i64] t0), (1, AV.sl [.int .i64, .int .i64] t1), (5, AV.int .i64 s)], []⟩) (sumE (fun _ : Unit => k (.exit 0) ⟨[], []⟩) (sumE (fun p : Int × Int => k .ret ⟨[(4, AV.bool false)], [([1, 6], ⟨true, [], [AV.agg [AV.int .i64 p.1, AV.int .i64 p.2]]⟩)]⟩) (fun p : Int × Int => k .ret ⟨[(4, AV.bool false)], [([0, 6], ⟨true, [], [AV.agg [AV.int .i64 p.1, AV.int .i64 p.2]]⟩)]⟩))) (st122_0 t0 t1 ce k) _ t5
  · cases h
def q122 (a0 : List AV) (a1 : List AV) : Bool := (ro (runW (R122_0 a0 a1) (((a1.length : Int) - 0).toNat + 1) 0) false (sumE (fun _ => true) (sumE (fun p15 => true) (fun p16 => true))))
def v122_0 (a0 : List AV) (a1 : List AV) : Bool := (ro (runW (R122_0 a0 a1) (((a1.length : Int) - 0).toNat + 1) 0) false (sumE (fun _ => true) (sumE (fun p15 => false) (fun p16 => false))))
theorem e122 (a0 : List AV) (a1 : List AV) : funA c122 0 122 [AV.sl [.int .i64] a0, AV.sl [.int .i64, .int .i64] a1] = (ro (runW (R122_0 a0 a1) (((a1.length : Int) - 0).toNat + 1) 0) none (sumE (fun _ => some (AV.bool true)) (sumE (fun p15 => some (AV.bool false)) (fun p16 => some (AV.bool false))))) := by kernel_rfl
theorem r122 (a0 : List AV) (a1 : List AV) (h : q122 a0 a1 = true) : funA c122 0 122 [AV.sl [.int .i64] a0, AV.sl [.int .i64, .int .i64] a1] = some (AV.bool (v122_0 a0 a1)) := (e122 a0 a1).trans ((brO (fun o : Option (Unit ⊕ (Int × Int) ⊕ (Int × Int)) => some (AV.bool (ro o false (sumE (fun _ => true) (sumE (fun p15 => false) (fun p16 => false)))))) (brS (fun o : Unit ⊕ (Int × Int) ⊕ (Int × Int) => some (AV.bool ((sumE (fun _ => true) (sumE (fun p15 => false) (fun p16 => false))) o))) (fun _ => (fun _ => rfl)) (brS (fun o : (Int × Int) ⊕ (Int × Int) => some (AV.bool ((sumE (fun p15 => false) (fun p16 => false)) o))) (fun p15 => (fun _ => rfl)) (fun p16 => (fun _ => rfl))))) h)
def m122 : TModel
  | [.sl g0 a0, .sl g1 a1] => bif ctsEq g0 ([.int .i64]) && ctsEq g1 ([.int .i64, .int .i64]) then some (q122 a0 a1, AV.bool (v122_0 a0 a1)) else none
  | _ => none
theorem k122 : Known Try.prog 122 := ⟨Try.f122, Try.func122, by kernel_rfl, by kernel_rfl⟩
theorem meets122 : Meets Try.prog 122 m122 := by
  refine meet (f := Try.f122) (l := [(0, sub [1, 0, 1, 0, 0] (body Try.f122)), (2, sub [1, 0, 1, 0, 0, 1, 0, 0, 1, 1, 1, 0, 0] (body Try.f122))]) (hs := [(122, 0, [0, 1, 5]), (122, 2, [0, 1, 5, 6, 7]), (122, 999, [4]), (122, 1000, []), (122, 1001, [0, 1, 5]), (122, 1002, [0, 1, 5]), (122, 1003, [0, 1, 5, 6, 7])]) (ts := [(68, m68)]) (ws := []) (is := []) (ls := [(122, 0, l122_0), (122, 2, l122_2)]) (lvl := 0) mixed k122 Try.func122 (by kernel_rfl) (loops_cons ok122_0 (loops_cons ok122_2 noLoop)) (allT_cons meets68 allT_nil) allM_nil noI fun w xs us r hl hv h => ?_
  unfold m122 at h
  split at h
  · rename_i g0 a0 g1 a1
    obtain ⟨hg, h⟩ := bif_pair h
    simp only [Bool.and_eq_true] at hg
    obtain ⟨q0, q1⟩ := hg
    obtain rfl := ctsEq_eq _ _ q0
    obtain rfl := ctsEq_eq _ _ q1
    obtain ⟨h1, rfl⟩ := pair_inj h
    exact r122 a0 a1 h1
  · cases h

/-! ### 67 loop.example/g01984/spec.IsCracker -/
def F67_0 (h0_0 : List AV) (h0_1 : List AV) (h0_2 : List AV) (t3 : Int) : Out (Int) (Unit ⊕ Unit) := (bif decide (t3 < (h0_1.length : Int)) then (bif (decide (0 ≤ t3) && decide (t3 < (h0_1.length : Int))) then (bif !(v68_0 (fI (h0_1.getD t3.toNat AV.undef) 0) 0 999) then .stop (.inr ())
    else (bif (decide (0 ≤ 0) && decide (0 ≤ t3) && decide (t3 ≤ (h0_1.length : Int))) then (bif (decide (0 ≤ t3) && decide (t3 < (h0_1.length : Int))) then (bif q116 ((h0_1.take (Int.toNat t3)).drop (Int.toNat 0)) (fI (h0_1.getD t3.toNat AV.undef) 0) then (bif (v116_0 ((h0_1.take (Int.toNat t3)).drop (Int.toNat 0)) (fI (h0_1.getD t3.toNat AV.undef) 0)) then .stop (.inr ())
        else .next (IntKind.i64.wrap (t3 + 1)))
       else .fail)
      else .fail)
     else .fail))
   else .fail)
  else .stop (.inl ()))
def R67_0 (h0_0 : List AV) (h0_1 : List AV) (h0_2 : List AV) : (Int) → Out (Int) (Unit ⊕ Unit) := fun s : Int => F67_0 h0_0 h0_1 h0_2 s
def l67_0 : LModel := fun _ _ st k => match st with
  | ⟨[(1, .ptr g0 g1 g2), (3, .int .i64 t3)], [(g3, ⟨true, [], [.agg [.sl g4 h0_0, .sl g5 h0_1, .sl g6 h0_2]]⟩)]⟩ => bif nmEq g0 ([0, 1]) && Nat.beq g1 0 && Nat.beq g2 0 && nmEq g3 ([0, 1]) && ctsEq g4 ([.int .i64]) && ctsEq g5 ([.int .i64]) && ctsEq g6 ([.int .i64, .int .i64]) then ro (runW (R67_0 h0_0 h0_1 h0_2) (((h0_1.length : Int) - t3).toNat + 1) t3) none (sumE (fun _ : Unit => k (.exit 0) ⟨[(1, AV.ptr [0, 1] 0 0)], [([0, 1], ⟨true, [], [AV.agg [AV.sl [.int .i64] h0_0, AV.sl [.int .i64] h0_1, AV.sl [.int .i64, .int .i64] h0_2]]⟩)]⟩) (fun _ : Unit => k .ret ⟨[(2, AV.bool false)], [([0, 1], ⟨true, [], [AV.agg [AV.sl [.int .i64] h0_0, AV.sl [.int .i64] h0_1, AV.sl [.int .i64, .int .i64] h0_2]]⟩)]⟩)) else none
  | _ => none
noncomputable def c67 : Cfg := cfg Try.prog [(67, 0, [1, 3]), (67, 999, [2]), (67, 1000, [1]), (67, 1001, [1, 3])] [(68, m68), (103, m103), (116, m116), (122, m122)] [] [] [(67, 0, l67_0)]
theorem s67_0 (ce : CallE) (t3 : Int) (h0_0 : List AV) (h0_1 : List AV) (h0_2 : List AV) (next : St → Option AV) (k : Kont) : stepA (codeA c67 ce [] 67 0 (sub [1, 1, 0, 1, 0, 0] (body Try.f67))) (normA [] [1, 3]) next ⟨[(1, AV.ptr [0, 1] 0 0), (3, AV.int .i64 t3)], [([0, 1], ⟨true, [], [AV.agg [AV.sl [.int .i64] h0_0, AV.sl [.int .i64] h0_1, AV.sl [.int .i64, .int .i64] h0_2]]⟩)]⟩ k = (bif decide (t3 < (h0_1.length : Int)) then (bif (decide (0 ≤ t3) && decide (t3 < (h0_1.length : Int))) then (bif !(v68_0 (fI (h0_1.getD t3.toNat AV.undef) 0) 0 999) then k .ret ⟨[(2, AV.bool false)], [([0, 1], ⟨true, [], [AV.agg [AV.sl [.int .i64] h0_0, AV.sl [.int .i64] h0_1, AV.sl [.int .i64, .int .i64] h0_2]]⟩)]⟩
    else (bif (decide (0 ≤ 0) && decide (0 ≤ t3) && decide (t3 ≤ (h0_1.length : Int))) then (bif (decide (0 ≤ t3) && decide (t3 < (h0_1.length : Int))) then (bif q116 ((h0_1.take (Int.toNat t3)).drop (Int.toNat 0)) (fI (h0_1.getD t3.toNat AV.undef) 0) then (bif (v116_0 ((h0_1.take (Int.toNat t3)).drop (Int.toNat 0)) (fI (h0_1.getD t3.toNat AV.undef) 0)) then k .ret ⟨[(2, AV.bool false)], [([0, 1], ⟨true, [], [AV.agg [AV.sl [.int .i64] h0_0, AV.sl [.int .i64] h0_1, AV.sl [.int .i64, .int .i64] h0_2]]⟩)]⟩
        else next ⟨[(1, AV.ptr [0, 1] 0 0), (3, AV.int .i64 (IntKind.i64.wrap (t3 + 1)))], [([0, 1], ⟨true, [], [AV.agg [AV.sl [.int .i64] h0_0, AV.sl [.int .i64] h0_1, AV.sl [.int .i64, .int .i64] h0_2]]⟩)]⟩)
       else none)
      else none)
     else none))
   else none)
  else k (.exit 0) ⟨[(1, AV.ptr [0, 1] 0 0)], [([0, 1], ⟨true, [], [AV.agg [AV.sl [.int .i64] h0_0, AV.sl [.int .i64] h0_1, AV.sl [.int .i64, .int .i64] h0_2]]⟩)]⟩) := by kernel_rfl
theorem st67_0 (h0_0 : List AV) (h0_1 : List AV) (h0_2 : List AV) (ce : CallE) (k : Kont) (s : Int) (next : St → Option AV) : stepA (codeA c67 ce [] 67 0 (sub [1, 1, 0, 1, 0, 0] (body Try.f67))) (normA [] [1, 3]) next ((fun s : Int => ⟨[(1, AV.ptr [0, 1] 0 0), (3, AV.int .i64 s)], [([0, 1], ⟨true, [], [AV.agg [AV.sl [.int .i64] h0_0, AV.sl [.int .i64] h0_1, AV.sl [.int .i64, .int .i64] h0_2]]⟩)]⟩) s) k = (R67_0 h0_0 h0_1 h0_2 s).el none (fun s => next ((fun s : Int => ⟨[(1, AV.ptr [0, 1] 0 0), (3, AV.int .i64 s)], [([0, 1], ⟨true, [], [AV.agg [AV.sl [.int .i64] h0_0, AV.sl [.int .i64] h0_1, AV.sl [.int .i64, .int .i64] h0_2]]⟩)]⟩) s)) (sumE (fun _ : Unit => k (.exit 0) ⟨[(1, AV.ptr [0, 1] 0 0)], [([0, 1], ⟨true, [], [AV.agg [AV.sl [.int .i64] h0_0, AV.sl [.int .i64] h0_1, AV.sl [.int .i64, .int .i64] h0_2]]⟩)]⟩) (fun _ : Unit => k .ret ⟨[(2, AV.bool false)], [([0, 1], ⟨true, [], [AV.agg [AV.sl [.int .i64] h0_0, AV.sl [.int .i64] h0_1, AV.sl [.int .i64, .int .i64] h0_2]]⟩)]⟩)) := (s67_0 ce s h0_0 h0_1 h0_2 next k).trans (by unfold R67_0; unfold F67_0; simp only [el_cond, el_ro, el_sum, el_fail, el_next, el_stop] <;> rfl)
theorem ok67_0 {ce : CallE} : LoopOK c67 ce [] 67 0 (sub [1, 1, 0, 1, 0, 0] (body Try.f67)) := by
  intro m hm st k r h
  obtain rfl : l67_0 = m := Option.some.inj hm
  unfold l67_0 at h
  split at h
  · rename_i g0 g1 g2 t3 g3 g4 h0_0 g5 h0_1 g6 h0_2
    obtain ⟨hg, h⟩ := bif_some h
    simp only [Bool.and_eq_true] at hg
    obtain ⟨⟨⟨⟨⟨⟨q0, q1⟩, q2⟩, q3⟩, q4⟩, q5⟩, q6⟩ := hg
    obtain rfl := (nmEq_iff _ _).1 q0
    obtain rfl := Nat.eq_of_beq_eq_true q1
    obtain rfl := Nat.eq_of_beq_eq_true q2
    obtain rfl := (nmEq_iff _ _).1 q3
    obtain rfl := ctsEq_eq _ _ q4
    obtain rfl := ctsEq_eq _ _ q5
    obtain rfl := ctsEq_eq _ _ q6
    refine ⟨(((h0_1.length : Int) - t3).toNat + 1), ?_⟩
    rw [← h]
    exact loop_run (fun s : Int => ⟨[(1, AV.ptr [0, 1] 0 0), (3, AV.int .i64 s)], [([0, 1], ⟨true, [], [AV.agg [AV.sl [.int .i64] h0_0, AV.sl [.int .i64] h0_1, AV.sl [.int .i64, .int .i64] h0_2]]⟩)]⟩) (sumE (fun _ : Unit => k (.exit 0) ⟨[(1, AV.ptr [0, 1] 0 0)], [([0, 1], ⟨true, [], [AV.agg [AV.sl [.int .i64] h0_0, AV.sl [.int .i64] h0_1, AV.sl [.int .i64, .int .i64] h0_2]]⟩)]⟩) (fun _ : Unit => k .ret ⟨[(2, AV.bool false)], [([0, 1], ⟨true, [], [AV.agg [AV.sl [.int .i64] h0_0, AV.sl [.int .i64] h0_1, AV.sl [.int .i64, .int .i64] h0_2]]⟩)]⟩)) (st67_0 h0_0 h0_1 h0_2 ce k) _ t3
  · cases h
def q67 (a0_0 : List AV) (a0_1 : List AV) (a0_2 : List AV) : Bool := (q103 a0_0 && (bif !(v103_0 a0_0) then true else (bif !decide ((a0_1.length : Int) = (a0_0.length : Int)) then true else (ro (runW (R67_0 a0_0 a0_1 a0_2) (((a0_1.length : Int) - 0).toNat + 1) 0) false (sumE (fun _ => q122 a0_0 a0_2) (fun _ => true))))))
def v67_0 (a0_0 : List AV) (a0_1 : List AV) (a0_2 : List AV) : Bool := (bif !(v103_0 a0_0) then false else (bif !decide ((a0_1.length : Int) = (a0_0.length : Int)) then false else (ro (runW (R67_0 a0_0 a0_1 a0_2) (((a0_1.length : Int) - 0).toNat + 1) 0) false (sumE (fun _ => (v122_0 a0_0 a0_2)) (fun _ => false)))))
theorem e67 (a0_0 : List AV) (a0_1 : List AV) (a0_2 : List AV) : funA c67 0 67 [AV.agg [AV.sl [.int .i64] a0_0, AV.sl [.int .i64] a0_1, AV.sl [.int .i64, .int .i64] a0_2]] = (bif q103 a0_0 then (bif !(v103_0 a0_0) then some (AV.bool false)
   else (bif !decide ((a0_1.length : Int) = (a0_0.length : Int)) then some (AV.bool false)
    else (ro (runW (R67_0 a0_0 a0_1 a0_2) (((a0_1.length : Int) - 0).toNat + 1) 0) none (sumE (fun _ => (bif q122 a0_0 a0_2 then some (AV.bool (v122_0 a0_0 a0_2))
      else none)) (fun _ => some (AV.bool false))))))
  else none) := by kernel_rfl
theorem r67 (a0_0 : List AV) (a0_1 : List AV) (a0_2 : List AV) (h : q67 a0_0 a0_1 a0_2 = true) : funA c67 0 67 [AV.agg [AV.sl [.int .i64] a0_0, AV.sl [.int .i64] a0_1, AV.sl [.int .i64, .int .i64] a0_2]] = some (AV.bool (v67_0 a0_0 a0_1 a0_2)) := (e67 a0_0 a0_1 a0_2).trans ((brL (br (fun b => some (AV.bool (bif b then false else (bif !decide ((a0_1.length : Int) = (a0_0.length : Int)) then false else (ro (runW (R67_0 a0_0 a0_1 a0_2) (((a0_1.length : Int) - 0).toNat + 1) 0) false (sumE (fun _ => (v122_0 a0_0 a0_2)) (fun _ => false))))))) (fun _ => rfl) (br (fun b => some (AV.bool (bif b then false else (ro (runW (R67_0 a0_0 a0_1 a0_2) (((a0_1.length : Int) - 0).toNat + 1) 0) false (sumE (fun _ => (v122_0 a0_0 a0_2)) (fun _ => false)))))) (fun _ => rfl) (brO (fun o : Option (Unit ⊕ Unit) => some (AV.bool (ro o false (sumE (fun _ => (v122_0 a0_0 a0_2)) (fun _ => false))))) (brS (fun o : Unit ⊕ Unit => some (AV.bool ((sumE (fun _ => (v122_0 a0_0 a0_2)) (fun _ => false)) o))) (fun _ => (brL1 (fun _ => rfl))) (fun _ => (fun _ => rfl))))))) h)
def m67 : TModel
  | [.agg [.sl g0 a0_0, .sl g1 a0_1, .sl g2 a0_2]] => bif ctsEq g0 ([.int .i64]) && ctsEq g1 ([.int .i64]) && ctsEq g2 ([.int .i64, .int .i64]) then some (q67 a0_0 a0_1 a0_2, AV.bool (v67_0 a0_0 a0_1 a0_2)) else none
  | _ => none
theorem k67 : Known Try.prog 67 := ⟨Try.f67, Try.func67, by kernel_rfl, by kernel_rfl⟩
theorem meets67 : Meets Try.prog 67 m67 := by
  refine meet (f := Try.f67) (l := [(0, sub [1, 1, 0, 1, 0, 0] (body Try.f67))]) (hs := [(67, 0, [1, 3]), (67, 999, [2]), (67, 1000, [1]), (67, 1001, [1, 3])]) (ts := [(68, m68), (103, m103), (116, m116), (122, m122)]) (ws := []) (is := []) (ls := [(67, 0, l67_0)]) (lvl := 0) mixed k67 Try.func67 (by kernel_rfl) (loops_cons ok67_0 noLoop) (allT_cons meets68 (allT_cons meets103 (allT_cons meets116 (allT_cons meets122 allT_nil)))) allM_nil noI fun w xs us r hl hv h => ?_
  unfold m67 at h
  split at h
  · rename_i g0 a0_0 g1 a0_1 g2 a0_2
    obtain ⟨hg, h⟩ := bif_pair h
    simp only [Bool.and_eq_true] at hg
    obtain ⟨⟨q0, q1⟩, q2⟩ := hg
    obtain rfl := ctsEq_eq _ _ q0
    obtain rfl := ctsEq_eq _ _ q1
    obtain rfl := ctsEq_eq _ _ q2
    obtain ⟨h1, rfl⟩ := pair_inj h
    exact r67 a0_0 a0_1 a0_2 h1
  · cases h

/-! ### 144 loop.example/g01984/spec.l4Piece -/
def F144_2 (t1 : List AV) (t2 : Int) (t8 : Int) (t9 : Int) (t11 : Int) : Out ((Int × Int)) (Int) := (bif decide (t11 ≥ 0) then (bif (decide (0 ≤ t11) && decide (t11 < (t1.length : Int))) then (bif decide (fI (t1.getD t11.toNat AV.undef) 0 ≥ t2) then (bif (decide (0 ≤ t11) && decide (t11 < (t1.length : Int))) then .next (fI (t1.getD t11.toNat AV.undef) 1, IntKind.i64.wrap (t11 - 1))
     else .fail)
    else .next (t9, IntKind.i64.wrap (t11 - 1)))
   else .fail)
  else .stop t9)
def R144_2 (t1 : List AV) (t2 : Int) (t8 : Int) : ((Int × Int)) → Out ((Int × Int)) (Int) := fun s : Int × Int => F144_2 t1 t2 t8 s.1 s.2
def l144_2 : LModel := fun _ _ st k => match st with
  | ⟨[(1, .sl g0 t1), (2, .int .i64 t2), (8, .int .i64 t8), (9, .int .i64 t9), (11, .int .i64 t11)], []⟩ => bif ctsEq g0 ([.int .i64, .int .i64]) then ro (runW (R144_2 t1 t2 t8) ((t11 - 0 + 1).toNat + 1) (t9, t11)) none (fun p : Int => k (.exit 2) ⟨[(8, AV.int .i64 t8), (9, AV.int .i64 p)], []⟩) else none
  | _ => none
def F144_0 (t1 : List AV) (t2 : Int) (t9 : Int) (t8 : Int) (t10 : Int) : Out ((Int × Int)) (Int) := (bif decide (t10 < (t1.length : Int)) then (bif (decide (0 ≤ t10) && decide (t10 < (t1.length : Int))) then (bif decide (fI (t1.getD t10.toNat AV.undef) 0 ≤ t2) then (bif (decide (0 ≤ t10) && decide (t10 < (t1.length : Int))) then .next (fI (t1.getD t10.toNat AV.undef) 1, IntKind.i64.wrap (t10 + 1))
     else .fail)
    else .next (t8, IntKind.i64.wrap (t10 + 1)))
   else .fail)
  else .stop t8)
def R144_0 (t1 : List AV) (t2 : Int) (t9 : Int) : ((Int × Int)) → Out ((Int × Int)) (Int) := fun s : Int × Int => F144_0 t1 t2 t9 s.1 s.2
def l144_0 : LModel := fun _ _ st k => match st with
  | ⟨[(1, .sl g0 t1), (2, .int .i64 t2), (8, .int .i64 t8), (9, .int .i64 t9), (10, .int .i64 t10)], []⟩ => bif ctsEq g0 ([.int .i64, .int .i64]) then ro (runW (R144_0 t1 t2 t9) (((t1.length : Int) - t10).toNat + 1) (t8, t10)) none (fun p : Int => k (.exit 0) ⟨[(1, AV.sl [.int .i64, .int .i64] t1), (2, AV.int .i64 t2), (8, AV.int .i64 p), (9, AV.int .i64 t9)], []⟩) else none
  | _ => none
noncomputable def c144 : Cfg := cfg Try.prog [(144, 0, [1, 2, 8, 9, 10]), (144, 2, [1, 2, 8, 9, 11]), (144, 999, [6, 7]), (144, 1000, [1, 2, 8, 9]), (144, 1001, [1, 2, 8, 9, 10]), (144, 1002, [8, 9]), (144, 1003, [1, 2, 8, 9, 11])] [] [] [] [(144, 0, l144_0), (144, 2, l144_2)]
theorem s144_2 (ce : CallE) (t1 : List AV) (t2 : Int) (t8 : Int) (t9 : Int) (t11 : Int) (next : St → Option AV) (k : Kont) : stepA (codeA c144 ce [] 144 2 (sub [1, 1, 1, 1, 0, 1, 0, 0] (body Try.f144))) (normA [] [1, 2, 8, 9, 11]) next ⟨[(1, AV.sl [.int .i64, .int .i64] t1), (2, AV.int .i64 t2), (8, AV.int .i64 t8), (9, AV.int .i64 t9), (11, AV.int .i64 t11)], []⟩ k = (bif decide (t11 ≥ 0) then (bif (decide (0 ≤ t11) && decide (t11 < (t1.length : Int))) then (bif decide (fI (t1.getD t11.toNat AV.undef) 0 ≥ t2) then (bif (decide (0 ≤ t11) && decide (t11 < (t1.length : Int))) then next ⟨[(1, AV.sl [.int .i64, .int .i64] t1), (2, AV.int .i64 t2), (8, AV.int .i64 t8), (9, AV.int .i64 (fI (t1.getD t11.toNat AV.undef) 1)), (11, AV.int .i64 (IntKind.i64.wrap (t11 - 1)))], []⟩
     else none)
    else next ⟨[(1, AV.sl [.int .i64, .int .i64] t1), (2, AV.int .i64 t2), (8, AV.int .i64 t8), (9, AV.int .i64 t9), (11, AV.int .i64 (IntKind.i64.wrap (t11 - 1)))], []⟩)
   else none)
  else k (.exit 2) ⟨[(8, AV.int .i64 t8), (9, AV.int .i64 t9)], []⟩) := by kernel_rfl
theorem st144_2 (t1 : List AV) (t2 : Int) (t8 : Int) (ce : CallE) (k : Kont) (s : (Int × Int)) (next : St → Option AV) : stepA (codeA c144 ce [] 144 2 (sub [1, 1, 1, 1, 0, 1, 0, 0] (body Try.f144))) (normA [] [1, 2, 8, 9, 11]) next ((fun s : Int × Int => ⟨[(1, AV.sl [.int .i64, .int .i64] t1), (2, AV.int .i64 t2), (8, AV.int .i64 t8), (9, AV.int .i64 s.1), (11, AV.int .i64 s.2)], []⟩) s) k = (R144_2 t1 t2 t8 s).el none (fun s => next ((fun s : Int × Int => ⟨[(1, AV.sl [.int .i64, .int .i64] t1), (2, AV.int .i64 t2), (8, AV.int .i64 t8), (9, AV.int .i64 s.1), (11, AV.int .i64 s.2)], []⟩) s)) (fun p : Int => k (.exit 2) ⟨[(8, AV.int .i64 t8), (9, AV.int .i64 p)], []⟩) := (s144_2 ce t1 t2 t8 s.1 s.2 next k).trans (by unfold R144_2; unfold F144_2; simp only [el_cond, el_ro, el_sum, el_fail, el_next, el_stop] <;> rfl)
theorem ok144_2 {ce : CallE} : LoopOK c144 ce [] 144 2 (sub [1, 1, 1, 1, 0, 1, 0, 0] (body Try.f144)) := by
  intro m hm st k r h
  obtain rfl : l144_2 = m := Option.some.inj hm
  unfold l144_2 at h
  split at h
  · rename_i g0 t1 t2 t8 t9 t11
    obtain ⟨hg, h⟩ := bif_some h
    have q0 := hg
    obtain rfl := ctsEq_eq _ _ q0
    refine ⟨((t11 - 0 + 1).toNat + 1), ?_⟩
    rw [← h]
    exact loop_run (fun s : Int × Int => ⟨[(1, AV.sl [.int .i64, .int .i64] t1), (2, AV.int .i64 t2), (8, AV.int .i64 t8), (9, AV.int .i64 s.1), (11, AV.int .i64 s.2)], []⟩) (fun p : Int => k (.exit 2) ⟨[(8, AV.int .i64 t8), (9, AV.int .i64 p)], []⟩) (st144_2 t1 t2 t8 ce k) _ (t9, t11)
  · cases h
theorem s144_0 (ce : CallE) (t1 : List AV) (t2 : Int) (t8 : Int) (t9 : Int) (t10 : Int) (next : St → Option AV) (k : Kont) : stepA (codeA c144 ce [] 144 0 (sub [1, 1, 1, 0, 1, 0, 0] (body Try.f144))) (normA [] [1, 2, 8, 9, 10]) next ⟨[(1, AV.sl [.int .i64, .int .i64] t1), (2, AV.int .i64 t2), (8, AV.int .i64 t8), (9, AV.int .i64 t9), (10, AV.int .i64 t10)], []⟩ k = (bif decide (t10 < (t1.length : Int)) then (bif (decide (0 ≤ t10) && decide (t10 < (t1.length : Int))) then (bif decide (fI (t1.getD t10.toNat AV.undef) 0 ≤ t2) then (bif (decide (0 ≤ t10) && decide (t10 < (t1.length : Int))) then next ⟨[(1, AV.sl [.int .i64, .int .i64] t1), (2, AV.int .i64 t2), (8, AV.int .i64 (fI (t1.getD t10.toNat AV.undef) 1)), (9, AV.int .i64 t9), (10, AV.int .i64 (IntKind.i64.wrap (t10 + 1)))], []⟩
     else none)
    else next ⟨[(1, AV.sl [.int .i64, .int .i64] t1), (2, AV.int .i64 t2), (8, AV.int .i64 t8), (9, AV.int .i64 t9), (10, AV.int .i64 (IntKind.i64.wrap (t10 + 1)))], []⟩)
   else none)
  else k (.exit 0) ⟨[(1, AV.sl [.int .i64, .int .i64] t1), (2, AV.int .i64 t2), (8, AV.int .i64 t8), (9, AV.int .i64 t9)], []⟩) := by kernel_rfl
theorem st144_0 (t1 : List AV) (t2 : Int) (t9 : Int) (ce : CallE) (k : Kont) (s : (Int × Int)) (next : St → Option AV) : stepA (codeA c144 ce [] 144 0 (sub [1, 1, 1, 0, 1, 0, 0] (body Try.f144))) (normA [] [1, 2, 8, 9, 10]) next ((fun s : Int × Int => ⟨[(1, AV.sl [.int .i64, .int .i64] t1), (2, AV.int .i64 t2), (8, AV.int .i64 s.1), (9, AV.int .i64 t9), (10, AV.int .i64 s.2)], []⟩) s) k = (R144_0 t1 t2 t9 s).el none (fun s => next ((fun s : Int × Int => ⟨[(1, AV.sl [.int .i64, .int .i64] t1), (2, AV.int .i64 t2), (8, AV.int .i64 s.1), (9, AV.int .i64 t9), (10, AV.int .i64 s.2)], []⟩) s)) (fun p : Int => k (.exit 0) ⟨[(1, AV.sl [.int .i64, .int .i64] t1), (2, AV.int .i64 t2), (8, AV.int .i64 p), (9, AV.int .i64 t9)], []⟩) := (s144_0 ce t1 t2 s.1 t9 s.2 next k).trans (by unfold R144_0; unfold F144_0; simp only [el_cond, el_ro, el_sum, el_fail, el_next, el_stop] <;> rfl)
theorem ok144_0 {ce : CallE} : LoopOK c144 ce [] 144 0 (sub [1, 1, 1, 0, 1, 0, 0] (body Try.f144)) := by
  intro m hm st k r h
  obtain rfl : l144_0 = m := Option.some.inj hm
  unfold l144_0 at h
  split at h
  · rename_i g0 t1 t2 t8 t9 t10
    obtain ⟨hg, h⟩ := bif_some h
    have q0 := hg
    obtain rfl := ctsEq_eq _ _ q0
    refine ⟨(((t1.length : Int) - t10).toNat + 1), ?_⟩
    rw [← h]
    exact loop_run (fun s : Int × Int => ⟨[(1, AV.sl [.int .i64, .int .i64] t1), (2, AV.int .i64 t2), (8, AV.int .i64 s.1), (9, AV.int .i64 t9), (10, AV.int .i64 s.2)], []⟩) (fun p : Int => k (.exit 0) ⟨[(1, AV.sl [.int .i64, .int .i64] t1), (2, AV.int .i64 t2), (8, AV.int .i64 p), (9, AV.int .i64 t9)], []⟩) (st144_0 t1 t2 t9 ce k) _ (t8, t10)
  · cases h
def q144 (a0 : Int) (a1 : List AV) (a2 : Int) : Bool := (ro (runW (R144_0 a1 a2 a0) (((a1.length : Int) - 0).toNat + 1) (0, 0)) false (fun p18 => (ro (runW (R144_2 a1 a2 p18) (((IntKind.i64.wrap ((a1.length : Int) - 1)) - 0 + 1).toNat + 1) (a0, IntKind.i64.wrap ((a1.length : Int) - 1))) false (fun p19 => true))))
def v144_0 (a0 : Int) (a1 : List AV) (a2 : Int) : Int := (ro (runW (R144_0 a1 a2 a0) (((a1.length : Int) - 0).toNat + 1) (0, 0)) 0 (fun p18 => p18))
def v144_1 (a0 : Int) (a1 : List AV) (a2 : Int) : Int := (ro (runW (R144_0 a1 a2 a0) (((a1.length : Int) - 0).toNat + 1) (0, 0)) 0 (fun p18 => (ro (runW (R144_2 a1 a2 p18) (((IntKind.i64.wrap ((a1.length : Int) - 1)) - 0 + 1).toNat + 1) (a0, IntKind.i64.wrap ((a1.length : Int) - 1))) 0 (fun p19 => p19))))
theorem e144 (a0 : Int) (a1 : List AV) (a2 : Int) : funA c144 0 144 [AV.int .i64 a0, AV.sl [.int .i64, .int .i64] a1, AV.int .i64 a2] = (ro (runW (R144_0 a1 a2 a0) (((a1.length : Int) - 0).toNat + 1) (0, 0)) none (fun p18 => (ro (runW (R144_2 a1 a2 p18) (((IntKind.i64.wrap ((a1.length : Int) - 1)) - 0 + 1).toNat + 1) (a0, IntKind.i64.wrap ((a1.length : Int) - 1))) none (fun p19 => some (AV.tup [AV.int .i64 p18, AV.int .i64 p19]))))) := by kernel_rfl
theorem r144 (a0 : Int) (a1 : List AV) (a2 : Int) (h : q144 a0 a1 a2 = true) : funA c144 0 144 [AV.int .i64 a0, AV.sl [.int .i64, .int .i64] a1, AV.int .i64 a2] = some (AV.tup [AV.int .i64 (v144_0 a0 a1 a2), AV.int .i64 (v144_1 a0 a1 a2)]) := (e144 a0 a1 a2).trans ((brO (fun o : Option (Int) => some (AV.tup [AV.int .i64 (ro o 0 (fun p18 => p18)), AV.int .i64 (ro o 0 (fun p18 => (ro (runW (R144_2 a1 a2 p18) (((IntKind.i64.wrap ((a1.length : Int) - 1)) - 0 + 1).toNat + 1) (a0, IntKind.i64.wrap ((a1.length : Int) - 1))) 0 (fun p19 => p19))))])) (fun p18 => (brO (fun o : Option (Int) => some (AV.tup [AV.int .i64 p18, AV.int .i64 (ro o 0 (fun p19 => p19))])) (fun p19 => (fun _ => rfl))))) h)
def m144 : TModel
  | [.int .i64 a0, .sl g0 a1, .int .i64 a2] => bif ctsEq g0 ([.int .i64, .int .i64]) then some (q144 a0 a1 a2, AV.tup [AV.int .i64 (v144_0 a0 a1 a2), AV.int .i64 (v144_1 a0 a1 a2)]) else none
  | _ => none
theorem k144 : Known Try.prog 144 := ⟨Try.f144, Try.func144, by kernel_rfl, by kernel_rfl⟩
theorem meets144 : Meets Try.prog 144 m144 := by
  refine meet (f := Try.f144) (l := [(0, sub [1, 1, 1, 0, 1, 0, 0] (body Try.f144)), (2, sub [1, 1, 1, 1, 0, 1, 0, 0] (body Try.f144))]) (hs := [(144, 0, [1, 2, 8, 9, 10]), (144, 2, [1, 2, 8, 9, 11]), (144, 999, [6, 7]), (144, 1000, [1, 2, 8, 9]), (144, 1001, [1, 2, 8, 9, 10]), (144, 1002, [8, 9]), (144, 1003, [1, 2, 8, 9, 11])]) (ts := []) (ws := []) (is := []) (ls := [(144, 0, l144_0), (144, 2, l144_2)]) (lvl := 0) mixed k144 Try.func144 (by kernel_rfl) (loops_cons ok144_0 (loops_cons ok144_2 noLoop)) allT_nil allM_nil noI fun w xs us r hl hv h => ?_
  unfold m144 at h
  split at h
  · rename_i a0 g0 a1 a2
    obtain ⟨hg, h⟩ := bif_pair h
    have q0 := hg
    obtain rfl := ctsEq_eq _ _ q0
    obtain ⟨h1, rfl⟩ := pair_inj h
    exact r144 a0 a1 a2 h1
  · cases h

/-! ### 97 loop.example/g01984/spec.PieceOf -/
noncomputable def c97 : Cfg := cfg Try.prog [(97, 999, [4, 5])] [(67, m67), (68, m68), (144, m144)] [] [] []
def q97 (a0_0 : List AV) (a0_1 : List AV) (a0_2 : List AV) (a1 : Int) : Bool := (q67 a0_0 a0_1 a0_2 && (bif !(v67_0 a0_0 a0_1 a0_2) then true else (bif !(v68_0 a1 (-1000) 1000) then true else q144 (a0_0.length : Int) a0_2 a1)))
def v97_0 (a0_0 : List AV) (a0_1 : List AV) (a0_2 : List AV) (a1 : Int) : Int := (bif !(v67_0 a0_0 a0_1 a0_2) then 0 else (bif !(v68_0 a1 (-1000) 1000) then 0 else (v144_0 (a0_0.length : Int) a0_2 a1)))
def v97_1 (a0_0 : List AV) (a0_1 : List AV) (a0_2 : List AV) (a1 : Int) : Int := (bif !(v67_0 a0_0 a0_1 a0_2) then 0 else (bif !(v68_0 a1 (-1000) 1000) then 0 else (v144_1 (a0_0.length : Int) a0_2 a1)))
theorem e97 (a0_0 : List AV) (a0_1 : List AV) (a0_2 : List AV) (a1 : Int) : funA c97 0 97 [AV.agg [AV.sl [.int .i64] a0_0, AV.sl [.int .i64] a0_1, AV.sl [.int .i64, .int .i64] a0_2], AV.int .i64 a1] = (bif q67 a0_0 a0_1 a0_2 then (bif !(v67_0 a0_0 a0_1 a0_2) then some (AV.tup [AV.int .i64 0, AV.int .i64 0])
   else (bif !(v68_0 a1 (-1000) 1000) then some (AV.tup [AV.int .i64 0, AV.int .i64 0])
    else (bif q144 (a0_0.length : Int) a0_2 a1 then some (AV.tup [AV.int .i64 (v144_0 (a0_0.length : Int) a0_2 a1), AV.int .i64 (v144_1 (a0_0.length : Int) a0_2 a1)])
     else none)))
  else none) := by kernel_rfl
theorem r97 (a0_0 : List AV) (a0_1 : List AV) (a0_2 : List AV) (a1 : Int) (h : q97 a0_0 a0_1 a0_2 a1 = true) : funA c97 0 97 [AV.agg [AV.sl [.int .i64] a0_0, AV.sl [.int .i64] a0_1, AV.sl [.int .i64, .int .i64] a0_2], AV.int .i64 a1] = some (AV.tup [AV.int .i64 (v97_0 a0_0 a0_1 a0_2 a1), AV.int .i64 (v97_1 a0_0 a0_1 a0_2 a1)]) := (e97 a0_0 a0_1 a0_2 a1).trans ((brL (br (fun b => some (AV.tup [AV.int .i64 (bif b then 0 else (bif !(v68_0 a1 (-1000) 1000) then 0 else (v144_0 (a0_0.length : Int) a0_2 a1))), AV.int .i64 (bif b then 0 else (bif !(v68_0 a1 (-1000) 1000) then 0 else (v144_1 (a0_0.length : Int) a0_2 a1)))])) (fun _ => rfl) (br (fun b => some (AV.tup [AV.int .i64 (bif b then 0 else (v144_0 (a0_0.length : Int) a0_2 a1)), AV.int .i64 (bif b then 0 else (v144_1 (a0_0.length : Int) a0_2 a1))])) (fun _ => rfl) (brL1 (fun _ => rfl))))) h)
def m97 : TModel
  | [.agg [.sl g0 a0_0, .sl g1 a0_1, .sl g2 a0_2], .int .i64 a1] => bif ctsEq g0 ([.int .i64]) && ctsEq g1 ([.int .i64]) && ctsEq g2 ([.int .i64, .int .i64]) then some (q97 a0_0 a0_1 a0_2 a1, AV.tup [AV.int .i64 (v97_0 a0_0 a0_1 a0_2 a1), AV.int .i64 (v97_1 a0_0 a0_1 a0_2 a1)]) else none
  | _ => none
theorem k97 : Known Try.prog 97 := ⟨Try.f97, Try.func97, by kernel_rfl, by kernel_rfl⟩
theorem meets97 : Meets Try.prog 97 m97 := by
  refine meet (f := Try.f97) (l := []) (hs := [(97, 999, [4, 5])]) (ts := [(67, m67), (68, m68), (144, m144)]) (ws := []) (is := []) (ls := []) (lvl := 0) mixed k97 Try.func97 (by kernel_rfl) noLoop (allT_cons meets67 (allT_cons meets68 (allT_cons meets144 allT_nil))) allM_nil noI fun w xs us r hl hv h => ?_
  unfold m97 at h
  split at h
  · rename_i g0 a0_0 g1 a0_1 g2 a0_2 a1
    obtain ⟨hg, h⟩ := bif_pair h
    simp only [Bool.and_eq_true] at hg
    obtain ⟨⟨q0, q1⟩, q2⟩ := hg
    obtain rfl := ctsEq_eq _ _ q0
    obtain rfl := ctsEq_eq _ _ q1
    obtain rfl := ctsEq_eq _ _ q2
    obtain ⟨h1, rfl⟩ := pair_inj h
    exact r97 a0_0 a0_1 a0_2 a1 h1
  · cases h

/-! ### 95 loop.example/g01984/spec.FindPivot -/
def F95_0 (t1 : Int) (h0_0 : List AV) (h0_1 : List AV) (h0_2 : List AV) (t6 : Int) : Out (Int) (Unit ⊕ Int) := (bif decide (t6 < (h0_2.length : Int)) then (bif (decide (0 ≤ t6) && decide (t6 < (h0_2.length : Int))) then (bif decide (fI (h0_2.getD t6.toNat AV.undef) 0 = t1) then (bif (decide (0 ≤ t6) && decide (t6 < (h0_2.length : Int))) then .stop (.inr (fI (h0_2.getD t6.toNat AV.undef) 1))
     else .fail)
    else .next (IntKind.i64.wrap (t6 + 1)))
   else .fail)
  else .stop (.inl ()))
def R95_0 (t1 : Int) (h0_0 : List AV) (h0_1 : List AV) (h0_2 : List AV) : (Int) → Out (Int) (Unit ⊕ Int) := fun s : Int => F95_0 t1 h0_0 h0_1 h0_2 s
def l95_0 : LModel := fun _ _ st k => match st with
  | ⟨[(1, .int .i64 t1), (2, .ptr g0 g1 g2), (6, .int .i64 t6)], [(g3, ⟨true, [], [.agg [.sl g4 h0_0, .sl g5 h0_1, .sl g6 h0_2]]⟩)]⟩ => bif nmEq g0 ([0, 2]) && Nat.beq g1 0 && Nat.beq g2 0 && nmEq g3 ([0, 2]) && ctsEq g4 ([.int .i64]) && ctsEq g5 ([.int .i64]) && ctsEq g6 ([.int .i64, .int .i64]) then ro (runW (R95_0 t1 h0_0 h0_1 h0_2) (((h0_2.length : Int) - t6).toNat + 1) t6) none (sumE (fun _ : Unit => k (.exit 0) ⟨[], [([0, 2], ⟨true, [], [AV.agg [AV.sl [.int .i64] h0_0, AV.sl [.int .i64] h0_1, AV.sl [.int .i64, .int .i64] h0_2]]⟩)]⟩) (fun p : Int => k .ret ⟨[(4, AV.int .i64 p), (5, AV.bool true)], [([0, 2], ⟨true, [], [AV.agg [AV.sl [.int .i64] h0_0, AV.sl [.int .i64] h0_1, AV.sl [.int .i64, .int .i64] h0_2]]⟩)]⟩)) else none
  | _ => none
noncomputable def c95 : Cfg := cfg Try.prog [(95, 0, [1, 2, 6]), (95, 999, [4, 5]), (95, 1000, []), (95, 1001, [1, 2, 6])] [] [] [] [(95, 0, l95_0)]
theorem s95_0 (ce : CallE) (t1 : Int) (t6 : Int) (h0_0 : List AV) (h0_1 : List AV) (h0_2 : List AV) (next : St → Option AV) (k : Kont) : stepA (codeA c95 ce [] 95 0 (sub [1, 0, 1, 0, 0] (body Try.f95))) (normA [] [1, 2, 6]) next ⟨[(1, AV.int .i64 t1), (2, AV.ptr [0, 2] 0 0), (6, AV.int .i64 t6)], [([0, 2], ⟨true, [], [AV.agg [AV.sl [.int .i64] h0_0, AV.sl [.int .i64] h0_1, AV.sl [.int .i64, .int .i64] h0_2]]⟩)]⟩ k = (bif decide (t6 < (h0_2.length : Int)) then (bif (decide (0 ≤ t6) && decide (t6 < (h0_2.length : Int))) then (bif decide (fI (h0_2.getD t6.toNat AV.undef) 0 = t1) then (bif (decide (0 ≤ t6) && decide (t6 < (h0_2.length : Int))) then k .ret ⟨[(4, AV.int .i64 (fI (h0_2.getD t6.toNat AV.undef) 1)), (5, AV.bool true)], [([0, 2], ⟨true, [], [AV.agg [AV.sl [.int .i64] h0_0, AV.sl [.int .i64] h0_1, AV.sl [.int .i64, .int .i64] h0_2]]⟩)]⟩
     else none)
    else next ⟨[(1, AV.int .i64 t1), (2, AV.ptr [0, 2] 0 0), (6, AV.int .i64 (IntKind.i64.wrap (t6 + 1)))], [([0, 2], ⟨true, [], [AV.agg [AV.sl [.int .i64] h0_0, AV.sl [.int .i64] h0_1, AV.sl [.int .i64, .int .i64] h0_2]]⟩)]⟩)
   else none)
  else k (.exit 0) ⟨[], [([0, 2], ⟨true, [], [AV.agg [AV.sl [.int .i64] h0_0, AV.sl [.int .i64] h0_1, AV.sl [.int .i64, .int .i64] h0_2]]⟩)]⟩) := by kernel_rfl
theorem st95_0 (t1 : Int) (h0_0 : List AV) (h0_1 : List AV) (h0_2 : List AV) (ce : CallE) (k : Kont) (s : Int) (next : St → Option AV) : stepA (codeA c95 ce [] 95 0 (sub [1, 0, 1, 0, 0] (body Try.f95))) (normA [] [1, 2, 6]) next ((fun s : Int => ⟨[(1, AV.int .i64 t1), (2, AV.ptr [0, 2] 0 0), (6, AV.int .i64 s)], [([0, 2], ⟨true, [], [AV.agg [AV.sl [.int .i64] h0_0, AV.sl [.int .i64] h0_1, AV.sl [.int .i64, .int .i64] h0_2]]⟩)]⟩) s) k = (R95_0 t1 h0_0 h0_1 h0_2 s).el none (fun s => next ((fun s : Int => ⟨[(1, AV.int .i64 t1), (2, AV.ptr [0, 2] 0 0), (6, AV.int .i64 s)], [([0, 2], ⟨true, [], [AV.agg [AV.sl [.int .i64] h0_0, AV.sl [.int .i64] h0_1, AV.sl [.int .i64, .int .i64] h0_2]]⟩)]⟩) s)) (sumE (fun _ : Unit => k (.exit 0) ⟨[], [([0, 2], ⟨true, [], [AV.agg [AV.sl [.int .i64] h0_0, AV.sl [.int .i64] h0_1, AV.sl [.int .i64, .int .i64] h0_2]]⟩)]⟩) (fun p : Int => k .ret ⟨[(4, AV.int .i64 p), (5, AV.bool true)], [([0, 2], ⟨true, [], [AV.agg [AV.sl [.int .i64] h0_0, AV.sl [.int .i64] h0_1, AV.sl [.int .i64, .int .i64] h0_2]]⟩)]⟩)) := (s95_0 ce t1 s h0_0 h0_1 h0_2 next k).trans (by unfold R95_0; unfold F95_0; simp only [el_cond, el_ro, el_sum, el_fail, el_next, el_stop] <;> rfl)
theorem ok95_0 {ce : CallE} : LoopOK c95 ce [] 95 0 (sub [1, 0, 1, 0, 0] (body Try.f95)) := by
  intro m hm st k r h
  obtain rfl : l95_0 = m := Option.some.inj hm
  unfold l95_0 at h
  split at h
  · rename_i t1 g0 g1 g2 t6 g3 g4 h0_0 g5 h0_1 g6 h0_2
    obtain ⟨hg, h⟩ := bif_some h
    simp only [Bool.and_eq_true] at hg
    obtain ⟨⟨⟨⟨⟨⟨q0, q1⟩, q2⟩, q3⟩, q4⟩, q5⟩, q6⟩ := hg
    obtain rfl := (nmEq_iff _ _).1 q0
    obtain rfl := Nat.eq_of_beq_eq_true q1
    obtain rfl := Nat.eq_of_beq_eq_true q2
    obtain rfl := (nmEq_iff _ _).1 q3
    obtain rfl := ctsEq_eq _ _ q4
    obtain rfl := ctsEq_eq _ _ q5
    obtain rfl := ctsEq_eq _ _ q6
    refine ⟨(((h0_2.length : Int) - t6).toNat + 1), ?_⟩
    rw [← h]
    exact loop_run (fun s : Int => ⟨[(1, AV.int .i64 t1), (2, AV.ptr [0, 2] 0 0), (6, AV.int .i64 s)], [([0, 2], ⟨true, [], [AV.agg [AV.sl [.int .i64] h0_0, AV.sl [.int .i64] h0_1, AV.sl [.int .i64, .int .i64] h0_2]]⟩)]⟩) (sumE (fun _ : Unit => k (.exit 0) ⟨[], [([0, 2], ⟨true, [], [AV.agg [AV.sl [.int .i64] h0_0, AV.sl [.int .i64] h0_1, AV.sl [.int .i64, .int .i64] h0_2]]⟩)]⟩) (fun p : Int => k .ret ⟨[(4, AV.int .i64 p), (5, AV.bool true)], [([0, 2], ⟨true, [], [AV.agg [AV.sl [.int .i64] h0_0, AV.sl [.int .i64] h0_1, AV.sl [.int .i64, .int .i64] h0_2]]⟩)]⟩)) (st95_0 t1 h0_0 h0_1 h0_2 ce k) _ t6
  · cases h
def q95 (a0_0 : List AV) (a0_1 : List AV) (a0_2 : List AV) (a1 : Int) : Bool := (ro (runW (R95_0 a1 a0_0 a0_1 a0_2) (((a0_2.length : Int) - 0).toNat + 1) 0) false (sumE (fun _ => true) (fun p21 => true)))
def v95_0 (a0_0 : List AV) (a0_1 : List AV) (a0_2 : List AV) (a1 : Int) : Int := (ro (runW (R95_0 a1 a0_0 a0_1 a0_2) (((a0_2.length : Int) - 0).toNat + 1) 0) 0 (sumE (fun _ => 0) (fun p21 => p21)))
def v95_1 (a0_0 : List AV) (a0_1 : List AV) (a0_2 : List AV) (a1 : Int) : Bool := (ro (runW (R95_0 a1 a0_0 a0_1 a0_2) (((a0_2.length : Int) - 0).toNat + 1) 0) false (sumE (fun _ => false) (fun p21 => true)))
theorem e95 (a0_0 : List AV) (a0_1 : List AV) (a0_2 : List AV) (a1 : Int) : funA c95 0 95 [AV.agg [AV.sl [.int .i64] a0_0, AV.sl [.int .i64] a0_1, AV.sl [.int .i64, .int .i64] a0_2], AV.int .i64 a1] = (ro (runW (R95_0 a1 a0_0 a0_1 a0_2) (((a0_2.length : Int) - 0).toNat + 1) 0) none (sumE (fun _ => some (AV.tup [AV.int .i64 0, AV.bool false])) (fun p21 => some (AV.tup [AV.int .i64 p21, AV.bool true])))) := by kernel_rfl
theorem r95 (a0_0 : List AV) (a0_1 : List AV) (a0_2 : List AV) (a1 : Int) (h : q95 a0_0 a0_1 a0_2 a1 = true) : funA c95 0 95 [AV.agg [AV.sl [.int .i64] a0_0, AV.sl [.int .i64] a0_1, AV.sl [.int .i64, .int .i64] a0_2], AV.int .i64 a1] = some (AV.tup [AV.int .i64 (v95_0 a0_0 a0_1 a0_2 a1), AV.bool (v95_1 a0_0 a0_1 a0_2 a1)]) := (e95 a0_0 a0_1 a0_2 a1).trans ((brO (fun o : Option (Unit ⊕ Int) => some (AV.tup [AV.int .i64 (ro o 0 (sumE (fun _ => 0) (fun p21 => p21))), AV.bool (ro o false (sumE (fun _ => false) (fun p21 => true)))])) (brS (fun o : Unit ⊕ Int => some (AV.tup [AV.int .i64 ((sumE (fun _ => 0) (fun p21 => p21)) o), AV.bool ((sumE (fun _ => false) (fun p21 => true)) o)])) (fun _ => (fun _ => rfl)) (fun p21 => (fun _ => rfl)))) h)
def m95 : TModel
  | [.agg [.sl g0 a0_0, .sl g1 a0_1, .sl g2 a0_2], .int .i64 a1] => bif ctsEq g0 ([.int .i64]) && ctsEq g1 ([.int .i64]) && ctsEq g2 ([.int .i64, .int .i64]) then some (q95 a0_0 a0_1 a0_2 a1, AV.tup [AV.int .i64 (v95_0 a0_0 a0_1 a0_2 a1), AV.bool (v95_1 a0_0 a0_1 a0_2 a1)]) else none
  | _ => none
theorem k95 : Known Try.prog 95 := ⟨Try.f95, Try.func95, by kernel_rfl, by kernel_rfl⟩
theorem meets95 : Meets Try.prog 95 m95 := by
  refine meet (f := Try.f95) (l := [(0, sub [1, 0, 1, 0, 0] (body Try.f95))]) (hs := [(95, 0, [1, 2, 6]), (95, 999, [4, 5]), (95, 1000, []), (95, 1001, [1, 2, 6])]) (ts := []) (ws := []) (is := []) (ls := [(95, 0, l95_0)]) (lvl := 0) mixed k95 Try.func95 (by kernel_rfl) (loops_cons ok95_0 noLoop) allT_nil allM_nil noI fun w xs us r hl hv h => ?_
  unfold m95 at h
  split at h
  · rename_i g0 a0_0 g1 a0_1 g2 a0_2 a1
    obtain ⟨hg, h⟩ := bif_pair h
    simp only [Bool.and_eq_true] at hg
    obtain ⟨⟨q0, q1⟩, q2⟩ := hg
    obtain rfl := ctsEq_eq _ _ q0
    obtain rfl := ctsEq_eq _ _ q1
    obtain rfl := ctsEq_eq _ _ q2
    obtain ⟨h1, rfl⟩ := pair_inj h
    exact r95 a0_0 a0_1 a0_2 a1 h1
  · cases h

/-! ### 127 loop.example/g01984/spec.l4Copy -/
noncomputable def c127 : Cfg := cfg Try.prog [(127, 999, [2])] [] [] [] []
def q127 (a0_0 : List AV) (a0_1 : List AV) (a0_2 : List AV) : Bool := ((decide ((([] : List AV).length + a0_0.length) * 8 ≤ 140737488355328) && decide ((([] : List AV).length + a0_0.length) ≤ 140737488355328)) && ((decide ((([] : List AV).length + a0_1.length) * 8 ≤ 140737488355328) && decide ((([] : List AV).length + a0_1.length) ≤ 140737488355328)) && (decide ((([] : List AV).length + a0_2.length) * 16 ≤ 140737488355328) && decide ((([] : List AV).length + a0_2.length) ≤ 140737488355328))))
def v127_0 (a0_0 : List AV) (a0_1 : List AV) (a0_2 : List AV) : List AV := ([] : List AV) ++ a0_0
def v127_1 (a0_0 : List AV) (a0_1 : List AV) (a0_2 : List AV) : List AV := ([] : List AV) ++ a0_1
def v127_2 (a0_0 : List AV) (a0_1 : List AV) (a0_2 : List AV) : List AV := ([] : List AV) ++ a0_2
theorem e127 (a0_0 : List AV) (a0_1 : List AV) (a0_2 : List AV) : funA c127 0 127 [AV.agg [AV.sl [.int .i64] a0_0, AV.sl [.int .i64] a0_1, AV.sl [.int .i64, .int .i64] a0_2]] = (bif (decide ((([] : List AV).length + a0_0.length) * 8 ≤ 140737488355328) && decide ((([] : List AV).length + a0_0.length) ≤ 140737488355328)) then (bif (decide ((([] : List AV).length + a0_1.length) * 8 ≤ 140737488355328) && decide ((([] : List AV).length + a0_1.length) ≤ 140737488355328)) then (bif (decide ((([] : List AV).length + a0_2.length) * 16 ≤ 140737488355328) && decide ((([] : List AV).length + a0_2.length) ≤ 140737488355328)) then some (AV.agg [AV.fl [.int .i64] (([] : List AV) ++ a0_0), AV.fl [.int .i64] (([] : List AV) ++ a0_1), AV.fl [.int .i64, .int .i64] (([] : List AV) ++ a0_2)])
    else none)
   else none)
  else none) := by kernel_rfl
theorem r127 (a0_0 : List AV) (a0_1 : List AV) (a0_2 : List AV) (h : q127 a0_0 a0_1 a0_2 = true) : funA c127 0 127 [AV.agg [AV.sl [.int .i64] a0_0, AV.sl [.int .i64] a0_1, AV.sl [.int .i64, .int .i64] a0_2]] = some (AV.agg [AV.fl [.int .i64] (v127_0 a0_0 a0_1 a0_2), AV.fl [.int .i64] (v127_1 a0_0 a0_1 a0_2), AV.fl [.int .i64, .int .i64] (v127_2 a0_0 a0_1 a0_2)]) := (e127 a0_0 a0_1 a0_2).trans ((brL (brL (brL1 (fun _ => rfl)))) h)
def m127 : TModel
  | [.agg [.sl g0 a0_0, .sl g1 a0_1, .sl g2 a0_2]] => bif ctsEq g0 ([.int .i64]) && ctsEq g1 ([.int .i64]) && ctsEq g2 ([.int .i64, .int .i64]) then some (q127 a0_0 a0_1 a0_2, AV.agg [AV.fl [.int .i64] (v127_0 a0_0 a0_1 a0_2), AV.fl [.int .i64] (v127_1 a0_0 a0_1 a0_2), AV.fl [.int .i64, .int .i64] (v127_2 a0_0 a0_1 a0_2)]) else none
  | _ => none
theorem k127 : Known Try.prog 127 := ⟨Try.f127, Try.func127, by kernel_rfl, by kernel_rfl⟩
theorem meets127 : Meets Try.prog 127 m127 := by
  refine meet (f := Try.f127) (l := []) (hs := [(127, 999, [2])]) (ts := []) (ws := []) (is := []) (ls := []) (lvl := 0) mixed k127 Try.func127 (by kernel_rfl) noLoop allT_nil allM_nil noI fun w xs us r hl hv h => ?_
  unfold m127 at h
  split at h
  · rename_i g0 a0_0 g1 a0_1 g2 a0_2
    obtain ⟨hg, h⟩ := bif_pair h
    simp only [Bool.and_eq_true] at hg
    obtain ⟨⟨q0, q1⟩, q2⟩ := hg
    obtain rfl := ctsEq_eq _ _ q0
    obtain rfl := ctsEq_eq _ _ q1
    obtain rfl := ctsEq_eq _ _ q2
    obtain ⟨h1, rfl⟩ := pair_inj h
    exact r127 a0_0 a0_1 a0_2 h1
  · cases h

/-! ### 134 loop.example/g01984/spec.l5Swap -/
noncomputable def c134 : Cfg := cfg Try.prog [(134, 999, [])] [] [] [] []
def q134 (a1 : Int) (a2 : Int) (b0 : List AV) : Bool := ((decide (0 ≤ a1) && decide (a1 < (b0.length : Int))) && ((decide (0 ≤ a2) && decide (a2 < (b0.length : Int))) && ((decide (0 ≤ a1) && decide (a1 < (b0.length : Int))) && (decide (0 ≤ a2) && decide (a2 < ((b0.set a1.toNat (AV.agg [AV.int .i64 (fI (b0.getD a2.toNat AV.undef) 0)])).length : Int))))))
def v134_0 (a1 : Int) (a2 : Int) (b0 : List AV) : List AV := (b0.set a1.toNat (AV.agg [AV.int .i64 (fI (b0.getD a2.toNat AV.undef) 0)])).set a2.toNat (AV.agg [AV.int .i64 (fI (b0.getD a1.toNat AV.undef) 0)])
theorem e134 (a1 : Int) (a2 : Int) (b0 : List AV) (K : AV → List Blk → Option AV) : inlA c134 1 134 [AV.own [1], AV.int .i64 a1, AV.int .i64 a2] [0] (canH 1 [⟨false, [.int .i64], b0⟩]) (keepB 1 K) = (bif (decide (0 ≤ a1) && decide (a1 < (b0.length : Int))) then (bif (decide (0 ≤ a2) && decide (a2 < (b0.length : Int))) then (bif (decide (0 ≤ a1) && decide (a1 < (b0.length : Int))) then (bif (decide (0 ≤ a2) && decide (a2 < ((b0.set a1.toNat (AV.agg [AV.int .i64 (fI (b0.getD a2.toNat AV.undef) 0)])).length : Int))) then K (AV.tup []) [⟨false, [.int .i64], (b0.set a1.toNat (AV.agg [AV.int .i64 (fI (b0.getD a2.toNat AV.undef) 0)])).set a2.toNat (AV.agg [AV.int .i64 (fI (b0.getD a1.toNat AV.undef) 0)])⟩]
     else none)
    else none)
   else none)
  else none) := by kernel_rfl
theorem r134 (a1 : Int) (a2 : Int) (b0 : List AV) (K : AV → List Blk → Option AV) (h : q134 a1 a2 b0 = true) : inlA c134 1 134 [AV.own [1], AV.int .i64 a1, AV.int .i64 a2] [0] (canH 1 [⟨false, [.int .i64], b0⟩]) (keepB 1 K) = K (AV.tup []) [⟨false, [.int .i64], (v134_0 a1 a2 b0)⟩] := (e134 a1 a2 b0 K).trans ((brL (brL (brL (brL1 (fun _ => rfl))))) h)
def m134 : WModel
  | [.own g0, .int .i64 a1, .int .i64 a2], [⟨false, g1, b0⟩] => bif nmEq g0 ([1]) && ctsEq g1 ([.int .i64]) then some (q134 a1 a2 b0, AV.tup [], [⟨false, [.int .i64], (v134_0 a1 a2 b0)⟩]) else none
  | _, _ => none
theorem k134 : Known Try.prog 134 := ⟨Try.f134, Try.func134, by kernel_rfl, by kernel_rfl⟩
theorem meets134 : MeetsM Try.prog 134 m134 := by
  refine meetM (f := Try.f134) (l := []) (hs := [(134, 999, [])]) (ts := []) (ws := []) (is := []) (ls := []) (lvl := 0) mixed k134 Try.func134 (by kernel_rfl) noLoop allT_nil allM_nil noI fun C w xs us bs r bs' hl hv hh h K => ?_
  unfold m134 at h
  split at h
  · rename_i g0 a1 a2 g1 b0
    obtain ⟨hg, h⟩ := bif_pair h
    simp only [Bool.and_eq_true] at hg
    obtain ⟨q0, q1⟩ := hg
    obtain rfl := (nmEq_iff _ _).1 q0
    obtain rfl := ctsEq_eq _ _ q1
    obtain ⟨h1, rfl, rfl⟩ := trip_inj h
    exact r134 a1 a2 b0 K h1
  · cases h

/-! ### 110 loop.example/g01984/spec.ApplySwaps -/
def F110_0 (t1 : List AV) (h2_0 : List AV) (h2_1 : List AV) (h2_2 : List AV) (h3 : List AV) (t7 : Int) (h0 : List AV) (h1 : List AV) : Out ((Int × (List AV) × (List AV))) (((List AV) × (List AV)) ⊕ ((List AV) × (List AV) × (List AV) × (List AV) × (List AV))) := (bif decide (t7 < (t1.length : Int)) then (bif (decide (0 ≤ t7) && decide (t7 < (t1.length : Int))) then (bif (decide (0 ≤ t7) && decide (t7 < (t1.length : Int))) then (bif !(v68_0 (fI (t1.getD t7.toNat AV.undef) 0) 0 (IntKind.i64.wrap ((h0.length : Int) - 1))) then (bif q127 h2_0 h2_1 h2_2 then .stop (.inr (h0, h1, (v127_0 h2_0 h2_1 h2_2), (v127_1 h2_0 h2_1 h2_2), (v127_2 h2_0 h2_1 h2_2)))
      else .fail)
     else (bif !(v68_0 (fI (t1.getD t7.toNat AV.undef) 1) 0 (IntKind.i64.wrap ((h0.length : Int) - 1))) then (bif q127 h2_0 h2_1 h2_2 then .stop (.inr (h0, h1, (v127_0 h2_0 h2_1 h2_2), (v127_1 h2_0 h2_1 h2_2), (v127_2 h2_0 h2_1 h2_2)))
       else .fail)
      else (bif q134 (fI (t1.getD t7.toNat AV.undef) 0) (fI (t1.getD t7.toNat AV.undef) 1) h0 then (bif q134 (fI (t1.getD t7.toNat AV.undef) 0) (fI (t1.getD t7.toNat AV.undef) 1) h1 then .next (IntKind.i64.wrap (t7 + 1), (v134_0 (fI (t1.getD t7.toNat AV.undef) 0) (fI (t1.getD t7.toNat AV.undef) 1) h0), (v134_0 (fI (t1.getD t7.toNat AV.undef) 0) (fI (t1.getD t7.toNat AV.undef) 1) h1))
        else .fail)
       else .fail)))
    else .fail)
   else .fail)
  else .stop (.inl (h0, h1)))
def R110_0 (t1 : List AV) (h2_0 : List AV) (h2_1 : List AV) (h2_2 : List AV) (h3 : List AV) : ((Int × (List AV) × (List AV))) → Out ((Int × (List AV) × (List AV))) (((List AV) × (List AV)) ⊕ ((List AV) × (List AV) × (List AV) × (List AV) × (List AV))) := fun s : Int × (List AV) × (List AV) => F110_0 t1 h2_0 h2_1 h2_2 h3 s.1 s.2.1 s.2.2
def l110_0 : LModel := fun _ _ st k => match st with
  | ⟨[(1, .sl g0 t1), (2, .ptr g1 g2 g3), (4, .ptr g4 g5 g6), (6, .ptr g7 g8 g9), (7, .int .i64 t7)], [(g10, ⟨false, g11, h0⟩), (g12, ⟨false, g13, h1⟩), (g14, ⟨true, [], [.agg [.sl g15 h2_0, .sl g16 h2_1, .sl g17 h2_2]]⟩), (g18, ⟨false, g19, h3⟩), (g20, ⟨true, [], [.agg [.snil, .snil, .snil]]⟩), (g21, ⟨true, [], [.agg [.own g22, .own g23, .own g24]]⟩)]⟩ => bif ctsEq g0 ([.int .i64, .int .i64]) && nmEq g1 ([0, 2]) && Nat.beq g2 0 && Nat.beq g3 0 && nmEq g4 ([0, 4]) && Nat.beq g5 0 && Nat.beq g6 0 && nmEq g7 ([0, 6]) && Nat.beq g8 0 && Nat.beq g9 0 && nmEq g10 ([0, 0, 6]) && ctsEq g11 ([.int .i64]) && nmEq g12 ([0, 1, 6]) && ctsEq g13 ([.int .i64]) && nmEq g14 ([0, 2]) && ctsEq g15 ([.int .i64]) && ctsEq g16 ([.int .i64]) && ctsEq g17 ([.int .i64, .int .i64]) && nmEq g18 ([0, 2, 6]) && ctsEq g19 ([.int .i64, .int .i64]) && nmEq g20 ([0, 4]) && nmEq g21 ([0, 6]) && nmEq g22 ([0, 0, 6]) && nmEq g23 ([0, 1, 6]) && nmEq g24 ([0, 2, 6]) then ro (runW (R110_0 t1 h2_0 h2_1 h2_2 h3) (((t1.length : Int) - t7).toNat + 1) (t7, h0, h1)) none (sumE (fun p : (List AV) × (List AV) => k (.exit 0) ⟨[(4, AV.ptr [0, 4] 0 0), (6, AV.ptr [0, 6] 0 0)], [([0, 0, 6], ⟨false, [.int .i64], p.1⟩), ([0, 1, 6], ⟨false, [.int .i64], p.2⟩), ([0, 2], ⟨true, [], [AV.agg [AV.sl [.int .i64] h2_0, AV.sl [.int .i64] h2_1, AV.sl [.int .i64, .int .i64] h2_2]]⟩), ([0, 2, 6], ⟨false, [.int .i64, .int .i64], h3⟩), ([0, 4], ⟨true, [], [AV.agg [AV.snil, AV.snil, AV.snil]]⟩), ([0, 6], ⟨true, [], [AV.agg [AV.own [0, 0, 6], AV.own [0, 1, 6], AV.own [0, 2, 6]]]⟩)]⟩) (fun p : (List AV) × (List AV) × (List AV) × (List AV) × (List AV) => k .ret ⟨[(4, AV.ptr [0, 4] 0 0), (5, AV.bool false)], [([0, 0, 6], ⟨false, [.int .i64], p.1⟩), ([0, 1, 6], ⟨false, [.int .i64], p.2.1⟩), ([0, 1, 53], ⟨false, [.int .i64], p.2.2.1⟩), ([0, 2], ⟨true, [], [AV.agg [AV.sl [.int .i64] h2_0, AV.sl [.int .i64] h2_1, AV.sl [.int .i64, .int .i64] h2_2]]⟩), ([0, 2, 6], ⟨false, [.int .i64, .int .i64], h3⟩), ([0, 4], ⟨true, [], [AV.agg [AV.own [0, 1, 53], AV.own [1, 1, 53], AV.own [2, 1, 53]]]⟩), ([0, 6], ⟨true, [], [AV.agg [AV.own [0, 0, 6], AV.own [0, 1, 6], AV.own [0, 2, 6]]]⟩), ([1, 1, 53], ⟨false, [.int .i64], p.2.2.2.1⟩), ([2, 1, 53], ⟨false, [.int .i64, .int .i64], p.2.2.2.2⟩)]⟩)) else none
  | _ => none
noncomputable def c110 : Cfg := cfg Try.prog [(110, 0, [1, 2, 4, 6, 7]), (110, 999, [4, 5]), (110, 1000, [4, 6]), (110, 1001, [1, 2, 4, 6, 7])] [(68, m68), (127, m127)] [(134, m134)] [] [(110, 0, l110_0)]
theorem s110_0 (ce : CallE) (t1 : List AV) (t7 : Int) (h0 : List AV) (h1 : List AV) (h2_0 : List AV) (h2_1 : List AV) (h2_2 : List AV) (h3 : List AV) (next : St → Option AV) (k : Kont) : stepA (codeA c110 ce [] 110 0 (sub [1, 1, 1, 0, 1, 0, 0] (body Try.f110))) (normA [] [1, 2, 4, 6, 7]) next ⟨[(1, AV.sl [.int .i64, .int .i64] t1), (2, AV.ptr [0, 2] 0 0), (4, AV.ptr [0, 4] 0 0), (6, AV.ptr [0, 6] 0 0), (7, AV.int .i64 t7)], [([0, 0, 6], ⟨false, [.int .i64], h0⟩), ([0, 1, 6], ⟨false, [.int .i64], h1⟩), ([0, 2], ⟨true, [], [AV.agg [AV.sl [.int .i64] h2_0, AV.sl [.int .i64] h2_1, AV.sl [.int .i64, .int .i64] h2_2]]⟩), ([0, 2, 6], ⟨false, [.int .i64, .int .i64], h3⟩), ([0, 4], ⟨true, [], [AV.agg [AV.snil, AV.snil, AV.snil]]⟩), ([0, 6], ⟨true, [], [AV.agg [AV.own [0, 0, 6], AV.own [0, 1, 6], AV.own [0, 2, 6]]]⟩)]⟩ k = (bif decide (t7 < (t1.length : Int)) then (bif (decide (0 ≤ t7) && decide (t7 < (t1.length : Int))) then (bif (decide (0 ≤ t7) && decide (t7 < (t1.length : Int))) then (bif !(v68_0 (fI (t1.getD t7.toNat AV.undef) 0) 0 (IntKind.i64.wrap ((h0.length : Int) - 1))) then (bif q127 h2_0 h2_1 h2_2 then k .ret ⟨[(4, AV.ptr [0, 4] 0 0), (5, AV.bool false)], [([0, 0, 6], ⟨false, [.int .i64], h0⟩), ([0, 1, 6], ⟨false, [.int .i64], h1⟩), ([0, 1, 53], ⟨false, [.int .i64], (v127_0 h2_0 h2_1 h2_2)⟩), ([0, 2], ⟨true, [], [AV.agg [AV.sl [.int .i64] h2_0, AV.sl [.int .i64] h2_1, AV.sl [.int .i64, .int .i64] h2_2]]⟩), ([0, 2, 6], ⟨false, [.int .i64, .int .i64], h3⟩), ([0, 4], ⟨true, [], [AV.agg [AV.own [0, 1, 53], AV.own [1, 1, 53], AV.own [2, 1, 53]]]⟩), ([0, 6], ⟨true, [], [AV.agg [AV.own [0, 0, 6], AV.own [0, 1, 6], AV.own [0, 2, 6]]]⟩), ([1, 1, 53], ⟨false, [.int .i64], (v127_1 h2_0 h2_1 h2_2)⟩), ([2, 1, 53], ⟨false, [.int .i64, .int .i64], (v127_2 h2_0 h2_1 h2_2)⟩)]⟩
      else none)
     else (bif !(v68_0 (fI (t1.getD t7.toNat AV.undef) 1) 0 (IntKind.i64.wrap ((h0.length : Int) - 1))) then (bif q127 h2_0 h2_1 h2_2 then k .ret ⟨[(4, AV.ptr [0, 4] 0 0), (5, AV.bool false)], [([0, 0, 6], ⟨false, [.int .i64], h0⟩), ([0, 1, 6], ⟨false, [.int .i64], h1⟩), ([0, 1, 53], ⟨false, [.int .i64], (v127_0 h2_0 h2_1 h2_2)⟩), ([0, 2], ⟨true, [], [AV.agg [AV.sl [.int .i64] h2_0, AV.sl [.int .i64] h2_1, AV.sl [.int .i64, .int .i64] h2_2]]⟩), ([0, 2, 6], ⟨false, [.int .i64, .int .i64], h3⟩), ([0, 4], ⟨true, [], [AV.agg [AV.own [0, 1, 53], AV.own [1, 1, 53], AV.own [2, 1, 53]]]⟩), ([0, 6], ⟨true, [], [AV.agg [AV.own [0, 0, 6], AV.own [0, 1, 6], AV.own [0, 2, 6]]]⟩), ([1, 1, 53], ⟨false, [.int .i64], (v127_1 h2_0 h2_1 h2_2)⟩), ([2, 1, 53], ⟨false, [.int .i64, .int .i64], (v127_2 h2_0 h2_1 h2_2)⟩)]⟩
       else none)
      else (bif q134 (fI (t1.getD t7.toNat AV.undef) 0) (fI (t1.getD t7.toNat AV.undef) 1) h0 then (bif q134 (fI (t1.getD t7.toNat AV.undef) 0) (fI (t1.getD t7.toNat AV.undef) 1) h1 then next ⟨[(1, AV.sl [.int .i64, .int .i64] t1), (2, AV.ptr [0, 2] 0 0), (4, AV.ptr [0, 4] 0 0), (6, AV.ptr [0, 6] 0 0), (7, AV.int .i64 (IntKind.i64.wrap (t7 + 1)))], [([0, 0, 6], ⟨false, [.int .i64], (v134_0 (fI (t1.getD t7.toNat AV.undef) 0) (fI (t1.getD t7.toNat AV.undef) 1) h0)⟩), ([0, 1, 6], ⟨false, [.int .i64], (v134_0 (fI (t1.getD t7.toNat AV.undef) 0) (fI (t1.getD t7.toNat AV.undef) 1) h1)⟩), ([0, 2], ⟨true, [], [AV.agg [AV.sl [.int .i64] h2_0, AV.sl [.int .i64] h2_1, AV.sl [.int .i64, .int .i64] h2_2]]⟩), ([0, 2, 6], ⟨false, [.int .i64, .int .i64], h3⟩), ([0, 4], ⟨true, [], [AV.agg [AV.snil, AV.snil, AV.snil]]⟩), ([0, 6], ⟨true, [], [AV.agg [AV.own [0, 0, 6], AV.own [0, 1, 6], AV.own [0, 2, 6]]]⟩)]⟩
        else none)
       else none)))
    else none)
   else none)
  else k (.exit 0) ⟨[(4, AV.ptr [0, 4] 0 0), (6, AV.ptr [0, 6] 0 0)], [([0, 0, 6], ⟨false, [.int .i64], h0⟩), ([0, 1, 6], ⟨false, [.int .i64], h1⟩), ([0, 2], ⟨true, [], [AV.agg [AV.sl [.int .i64] h2_0, AV.sl [.int .i64] h2_1, AV.sl [.int .i64, .int .i64] h2_2]]⟩), ([0, 2, 6], ⟨false, [.int .i64, .int .i64], h3⟩), ([0, 4], ⟨true, [], [AV.agg [AV.snil, AV.snil, AV.snil]]⟩), ([0, 6], ⟨true, [], [AV.agg [AV.own [0, 0, 6], AV.own [0, 1, 6], AV.own [0, 2, 6]]]⟩)]⟩) := by kernel_rfl
theorem st110_0 (t1 : List AV) (h2_0 : List AV) (h2_1 : List AV) (h2_2 : List AV) (h3 : List AV) (ce : CallE) (k : Kont) (s : (Int × (List AV) × (List AV))) (next : St → Option AV) : stepA (codeA c110 ce [] 110 0 (sub [1, 1, 1, 0, 1, 0, 0] (body Try.f110))) (normA [] [1, 2, 4, 6, 7]) next ((fun s : Int × (List AV) × (List AV) => ⟨[(1, AV.sl [.int .i64, .int .i64] t1), (2, AV.ptr [0, 2] 0 0), (4, AV.ptr [0, 4] 0 0), (6, AV.ptr [0, 6] 0 0), (7, AV.int .i64 s.1)], [([0, 0, 6], ⟨false, [.int .i64], s.2.1⟩), ([0, 1, 6], ⟨false, [.int .i64], s.2.2⟩), ([0, 2], ⟨true, [], [AV.agg [AV.sl [.int .i64] h2_0, AV.sl [.int .i64] h2_1, AV.sl [.int .i64, .int .i64] h2_2]]⟩), ([0, 2, 6], ⟨false, [.int .i64, .int .i64], h3⟩), ([0, 4], ⟨true, [], [AV.agg [AV.snil, AV.snil, AV.snil]]⟩), ([0, 6], ⟨true, [], [AV.agg [AV.own [0, 0, 6], AV.own [0, 1, 6], AV.own [0, 2, 6]]]⟩)]⟩) s) k = (R110_0 t1 h2_0 h2_1 h2_2 h3 s).el none (fun s => next ((fun s : Int × (List AV) × (List AV) => ⟨[(1, AV.sl [.int .i64, .int .i64] t1), (2, AV.ptr [0, 2] 0 0), (4, AV.ptr [0, 4] 0 0), (6, AV.ptr [0, 6] 0 0), (7, AV.int .i64 s.1)], [([0, 0, 6], ⟨false, [.int .i64], s.2.1⟩), ([0, 1, 6], ⟨false, [.int .i64], s.2.2⟩), ([0, 2], ⟨true, [], [AV.agg [AV.sl [.int .i64] h2_0, AV.sl [.int .i64] h2_1, AV.sl [.int .i64, .int .i64] h2_2]]⟩), ([0, 2, 6], ⟨false, [.int .i64, .int .i64], h3⟩), ([0, 4], ⟨true, [], [AV.agg [AV.snil, AV.snil, AV.snil]]⟩), ([0, 6], ⟨true, [], [AV.agg [AV.own [0, 0, 6], AV.own [0, 1, 6], AV.own [0, 2, 6]]]⟩)]⟩) s)) (sumE (fun p : (List AV) × (List AV) => k (.exit 0) ⟨[(4, AV.ptr [0, 4] 0 0), (6, AV.ptr [0, 6] 0 0)], [([0, 0, 6], ⟨false, [.int .i64], p.1⟩), ([0, 1, 6], ⟨false, [.int .i64], p.2⟩), ([0, 2], ⟨true, [], [AV.agg [AV.sl [.int .i64] h2_0, AV.sl [.int .i64] h2_1, AV.sl [.int .i64, .int .i64] h2_2]]⟩), ([0, 2, 6], ⟨false, [.int .i64, .int .i64], h3⟩), ([0, 4], ⟨true, [], [AV.agg [AV.snil, AV.snil, AV.snil]]⟩), ([0, 6], ⟨true, [], [AV.agg [AV.own [0, 0, 6], AV.own [0, 1, 6], AV.own [0, 2, 6]]]⟩)]⟩) (fun p : (List AV) × (List AV) × (List AV) × (List AV) × (List AV) => k .ret ⟨[(4, AV.ptr [0, 4] 0 0), (5, AV.bool false)], [([0, 0, 6], ⟨false, [.int .i64], p.1⟩), ([0, 1, 6], ⟨false, [.int .i64], p.2.1⟩), ([0, 1, 53], ⟨false, [.int .i64], p.2.2.1⟩), ([0, 2], ⟨true, [], [AV.agg [AV.sl [.int .i64] h2_0, AV.sl [.int .i64] h2_1, AV.sl [.int .i64, .int .i64] h2_2]]⟩), ([0, 2, 6], ⟨false, [.int .i64, .int .i64], h3⟩), ([0, 4], ⟨true, [], [AV.agg [AV.own [0, 1, 53], AV.own [1, 1, 53], AV.own [2, 1, 53]]]⟩), ([0, 6], ⟨true, [], [AV.agg [AV.own [0, 0, 6], AV.own [0, 1, 6], AV.own [0, 2, 6]]]⟩), ([1, 1, 53], ⟨false, [.int .i64], p.2.2.2.1⟩), ([2, 1, 53], ⟨false, [.int .i64, .int .i64], p.2.2.2.2⟩)]⟩)) := (s110_0 ce t1 s.1 s.2.1 s.2.2 h2_0 h2_1 h2_2 h3 next k).trans (by unfold R110_0; unfold F110_0; simp only [el_cond, el_ro, el_sum, el_fail, el_next, el_stop] <;> rfl)
theorem ok110_0 {ce : CallE} : LoopOK c110 ce [] 110 0 (sub [1, 1, 1, 0, 1, 0, 0] (body Try.f110)) := by
  intro m hm st k r h
  obtain rfl : l110_0 = m := Option.some.inj hm
  unfold l110_0 at h
  split at h
  · rename_i g0 t1 g1 g2 g3 g4 g5 g6 g7 g8 g9 t7 g10 g11 h0 g12 g13 h1 g14 g15 h2_0 g16 h2_1 g17 h2_2 g18 g19 h3 g20 g21 g22 g23 g24
    obtain ⟨hg, h⟩ := bif_some h
    simp only [Bool.and_eq_true] at hg
    obtain ⟨⟨⟨⟨⟨⟨⟨⟨⟨⟨⟨⟨⟨⟨⟨⟨⟨⟨⟨⟨⟨⟨⟨⟨q0, q1⟩, q2⟩, q3⟩, q4⟩, q5⟩, q6⟩, q7⟩, q8⟩, q9⟩, q10⟩, q11⟩, q12⟩, q13⟩, q14⟩, q15⟩, q16⟩, q17⟩, q18⟩, q19⟩, q20⟩, q21⟩, q22⟩, q23⟩, q24⟩ := hg
    obtain rfl := ctsEq_eq _ _ q0
    obtain rfl := (nmEq_iff _ _).1 q1
    obtain rfl := Nat.eq_of_beq_eq_true q2
    obtain rfl := Nat.eq_of_beq_eq_true q3
    obtain rfl := (nmEq_iff _ _).1 q4
    obtain rfl := Nat.eq_of_beq_eq_true q5
    obtain rfl := Nat.eq_of_beq_eq_true q6
    obtain rfl := (nmEq_iff _ _).1 q7
    obtain rfl := Nat.eq_of_beq_eq_true q8
    obtain rfl := Nat.eq_of_beq_eq_true q9
    obtain rfl := (nmEq_iff _ _).1 q10
    obtain rfl := ctsEq_eq _ _ q11
    obtain rfl := (nmEq_iff _ _).1 q12
    obtain rfl := ctsEq_eq _ _ q13
    obtain rfl := (nmEq_iff _ _).1 q14
    obtain rfl := ctsEq_eq _ _ q15
    obtain rfl := ctsEq_eq _ _ q16
    obtain rfl := ctsEq_eq _ _ q17
    obtain rfl := (nmEq_iff _ _).1 q18
    obtain rfl := ctsEq_eq _ _ q19
    obtain rfl := (nmEq_iff _ _).1 q20
    obtain rfl := (nmEq_iff _ _).1 q21
    obtain rfl := (nmEq_iff _ _).1 q22
    obtain rfl := (nmEq_iff _ _).1 q23
    obtain rfl := (nmEq_iff _ _).1 q24
    refine ⟨(((t1.length : Int) - t7).toNat + 1), ?_⟩
    rw [← h]
    exact loop_run (fun s : Int × (List AV) × (List AV) => ⟨[(1, AV.sl [.int .i64, .int .i64] t1), (2, AV.ptr [0, 2] 0 0), (4, AV.ptr [0, 4] 0 0), (6, AV.ptr [0, 6] 0 0), (7, AV.int .i64 s.1)], [([0, 0, 6], ⟨false, [.int .i64], s.2.1⟩), ([0, 1, 6], ⟨false, [.int .i64], s.2.2⟩), ([0, 2], ⟨true, [], [AV.agg [AV.sl [.int .i64] h2_0, AV.sl [.int .i64] h2_1, AV.sl [.int .i64, .int .i64] h2_2]]⟩), ([0, 2, 6], ⟨false, [.int .i64, .int .i64], h3⟩), ([0, 4], ⟨true, [], [AV.agg [AV.snil, AV.snil, AV.snil]]⟩), ([0, 6], ⟨true, [], [AV.agg [AV.own [0, 0, 6], AV.own [0, 1, 6], AV.own [0, 2, 6]]]⟩)]⟩) (sumE (fun p : (List AV) × (List AV) => k (.exit 0) ⟨[(4, AV.ptr [0, 4] 0 0), (6, AV.ptr [0, 6] 0 0)], [([0, 0, 6], ⟨false, [.int .i64], p.1⟩), ([0, 1, 6], ⟨false, [.int .i64], p.2⟩), ([0, 2], ⟨true, [], [AV.agg [AV.sl [.int .i64] h2_0, AV.sl [.int .i64] h2_1, AV.sl [.int .i64, .int .i64] h2_2]]⟩), ([0, 2, 6], ⟨false, [.int .i64, .int .i64], h3⟩), ([0, 4], ⟨true, [], [AV.agg [AV.snil, AV.snil, AV.snil]]⟩), ([0, 6], ⟨true, [], [AV.agg [AV.own [0, 0, 6], AV.own [0, 1, 6], AV.own [0, 2, 6]]]⟩)]⟩) (fun p : (List AV) × (List AV) × (List AV) × (List AV) × (List AV) => k .ret ⟨[(4, AV.ptr [0, 4] 0 0), (5, AV.bool false)], [([0, 0, 6], ⟨false, [.int .i64], p.1⟩), ([0, 1, 6], ⟨false, [.int .i64], p.2.1⟩), ([0, 1, 53], ⟨false, [.int .i64], p.2.2.1⟩), ([0, 2], ⟨true, [], [AV.agg [AV.sl [.int .i64] h2_0, AV.sl [.int .i64] h2_1, AV.sl [.int .i64, .int .i64] h2_2]]⟩), ([0, 2, 6], ⟨false, [.int .i64, .int .i64], h3⟩), ([0, 4], ⟨true, [], [AV.agg [AV.own [0, 1, 53], AV.own [1, 1, 53], AV.own [2, 1, 53]]]⟩), ([0, 6], ⟨true, [], [AV.agg [AV.own [0, 0, 6], AV.own [0, 1, 6], AV.own [0, 2, 6]]]⟩), ([1, 1, 53], ⟨false, [.int .i64], p.2.2.2.1⟩), ([2, 1, 53], ⟨false, [.int .i64, .int .i64], p.2.2.2.2⟩)]⟩)) (st110_0 t1 h2_0 h2_1 h2_2 h3 ce k) _ (t7, h0, h1)
  · cases h
def q110 (a0_0 : List AV) (a0_1 : List AV) (a0_2 : List AV) (a1 : List AV) : Bool := (q127 a0_0 a0_1 a0_2 && (bif !decide (((v127_1 a0_0 a0_1 a0_2).length : Int) = ((v127_0 a0_0 a0_1 a0_2).length : Int)) then true else (ro (runW (R110_0 a1 a0_0 a0_1 a0_2 (v127_2 a0_0 a0_1 a0_2)) (((a1.length : Int) - 0).toNat + 1) (0, (v127_0 a0_0 a0_1 a0_2), (v127_1 a0_0 a0_1 a0_2))) false (sumE (fun p22 => true) (fun p23 => true)))))
def v110_0 (a0_0 : List AV) (a0_1 : List AV) (a0_2 : List AV) (a1 : List AV) : List AV := (bif !decide (((v127_1 a0_0 a0_1 a0_2).length : Int) = ((v127_0 a0_0 a0_1 a0_2).length : Int)) then (v127_0 a0_0 a0_1 a0_2) else (ro (runW (R110_0 a1 a0_0 a0_1 a0_2 (v127_2 a0_0 a0_1 a0_2)) (((a1.length : Int) - 0).toNat + 1) (0, (v127_0 a0_0 a0_1 a0_2), (v127_1 a0_0 a0_1 a0_2))) [] (sumE (fun p22 => p22.1) (fun p23 => p23.2.2.1))))
def v110_1 (a0_0 : List AV) (a0_1 : List AV) (a0_2 : List AV) (a1 : List AV) : List AV := (bif !decide (((v127_1 a0_0 a0_1 a0_2).length : Int) = ((v127_0 a0_0 a0_1 a0_2).length : Int)) then (v127_1 a0_0 a0_1 a0_2) else (ro (runW (R110_0 a1 a0_0 a0_1 a0_2 (v127_2 a0_0 a0_1 a0_2)) (((a1.length : Int) - 0).toNat + 1) (0, (v127_0 a0_0 a0_1 a0_2), (v127_1 a0_0 a0_1 a0_2))) [] (sumE (fun p22 => p22.2) (fun p23 => p23.2.2.2.1))))
def v110_2 (a0_0 : List AV) (a0_1 : List AV) (a0_2 : List AV) (a1 : List AV) : List AV := (bif !decide (((v127_1 a0_0 a0_1 a0_2).length : Int) = ((v127_0 a0_0 a0_1 a0_2).length : Int)) then (v127_2 a0_0 a0_1 a0_2) else (ro (runW (R110_0 a1 a0_0 a0_1 a0_2 (v127_2 a0_0 a0_1 a0_2)) (((a1.length : Int) - 0).toNat + 1) (0, (v127_0 a0_0 a0_1 a0_2), (v127_1 a0_0 a0_1 a0_2))) [] (sumE (fun p22 => (v127_2 a0_0 a0_1 a0_2)) (fun p23 => p23.2.2.2.2))))
def v110_3 (a0_0 : List AV) (a0_1 : List AV) (a0_2 : List AV) (a1 : List AV) : Bool := (bif !decide (((v127_1 a0_0 a0_1 a0_2).length : Int) = ((v127_0 a0_0 a0_1 a0_2).length : Int)) then false else (ro (runW (R110_0 a1 a0_0 a0_1 a0_2 (v127_2 a0_0 a0_1 a0_2)) (((a1.length : Int) - 0).toNat + 1) (0, (v127_0 a0_0 a0_1 a0_2), (v127_1 a0_0 a0_1 a0_2))) false (sumE (fun p22 => true) (fun p23 => false))))
theorem e110 (a0_0 : List AV) (a0_1 : List AV) (a0_2 : List AV) (a1 : List AV) : funA c110 0 110 [AV.agg [AV.sl [.int .i64] a0_0, AV.sl [.int .i64] a0_1, AV.sl [.int .i64, .int .i64] a0_2], AV.sl [.int .i64, .int .i64] a1] = (bif q127 a0_0 a0_1 a0_2 then (bif !decide (((v127_1 a0_0 a0_1 a0_2).length : Int) = ((v127_0 a0_0 a0_1 a0_2).length : Int)) then some (AV.tup [AV.agg [AV.fl [.int .i64] (v127_0 a0_0 a0_1 a0_2), AV.fl [.int .i64] (v127_1 a0_0 a0_1 a0_2), AV.fl [.int .i64, .int .i64] (v127_2 a0_0 a0_1 a0_2)], AV.bool false])
   else (ro (runW (R110_0 a1 a0_0 a0_1 a0_2 (v127_2 a0_0 a0_1 a0_2)) (((a1.length : Int) - 0).toNat + 1) (0, (v127_0 a0_0 a0_1 a0_2), (v127_1 a0_0 a0_1 a0_2))) none (sumE (fun p22 => some (AV.tup [AV.agg [AV.fl [.int .i64] p22.1, AV.fl [.int .i64] p22.2, AV.fl [.int .i64, .int .i64] (v127_2 a0_0 a0_1 a0_2)], AV.bool true])) (fun p23 => some (AV.tup [AV.agg [AV.fl [.int .i64] p23.2.2.1, AV.fl [.int .i64] p23.2.2.2.1, AV.fl [.int .i64, .int .i64] p23.2.2.2.2], AV.bool false])))))
  else none) := by kernel_rfl
theorem r110 (a0_0 : List AV) (a0_1 : List AV) (a0_2 : List AV) (a1 : List AV) (h : q110 a0_0 a0_1 a0_2 a1 = true) : funA c110 0 110 [AV.agg [AV.sl [.int .i64] a0_0, AV.sl [.int .i64] a0_1, AV.sl [.int .i64, .int .i64] a0_2], AV.sl [.int .i64, .int .i64] a1] = some (AV.tup [AV.agg [AV.fl [.int .i64] (v110_0 a0_0 a0_1 a0_2 a1), AV.fl [.int .i64] (v110_1 a0_0 a0_1 a0_2 a1), AV.fl [.int .i64, .int .i64] (v110_2 a0_0 a0_1 a0_2 a1)], AV.bool (v110_3 a0_0 a0_1 a0_2 a1)]) := (e110 a0_0 a0_1 a0_2 a1).trans ((brL (br (fun b => some (AV.tup [AV.agg [AV.fl [.int .i64] (bif b then (v127_0 a0_0 a0_1 a0_2) else (ro (runW (R110_0 a1 a0_0 a0_1 a0_2 (v127_2 a0_0 a0_1 a0_2)) (((a1.length : Int) - 0).toNat + 1) (0, (v127_0 a0_0 a0_1 a0_2), (v127_1 a0_0 a0_1 a0_2))) [] (sumE (fun p22 => p22.1) (fun p23 => p23.2.2.1)))), AV.fl [.int .i64] (bif b then (v127_1 a0_0 a0_1 a0_2) else (ro (runW (R110_0 a1 a0_0 a0_1 a0_2 (v127_2 a0_0 a0_1 a0_2)) (((a1.length : Int) - 0).toNat + 1) (0, (v127_0 a0_0 a0_1 a0_2), (v127_1 a0_0 a0_1 a0_2))) [] (sumE (fun p22 => p22.2) (fun p23 => p23.2.2.2.1)))), AV.fl [.int .i64, .int .i64] (bif b then (v127_2 a0_0 a0_1 a0_2) else (ro (runW (R110_0 a1 a0_0 a0_1 a0_2 (v127_2 a0_0 a0_1 a0_2)) (((a1.length : Int) - 0).toNat + 1) (0, (v127_0 a0_0 a0_1 a0_2), (v127_1 a0_0 a0_1 a0_2))) [] (sumE (fun p22 => (v127_2 a0_0 a0_1 a0_2)) (fun p23 => p23.2.2.2.2))))], AV.bool (bif b then false else (ro (runW (R110_0 a1 a0_0 a0_1 a0_2 (v127_2 a0_0 a0_1 a0_2)) (((a1.length : Int) - 0).toNat + 1) (0, (v127_0 a0_0 a0_1 a0_2), (v127_1 a0_0 a0_1 a0_2))) false (sumE (fun p22 => true) (fun p23 => false))))])) (fun _ => rfl) (brO (fun o : Option (((List AV) × (List AV)) ⊕ ((List AV) × (List AV) × (List AV) × (List AV) × (List AV))) => some (AV.tup [AV.agg [AV.fl [.int .i64] (ro o [] (sumE (fun p22 => p22.1) (fun p23 => p23.2.2.1))), AV.fl [.int .i64] (ro o [] (sumE (fun p22 => p22.2) (fun p23 => p23.2.2.2.1))), AV.fl [.int .i64, .int .i64] (ro o [] (sumE (fun p22 => (v127_2 a0_0 a0_1 a0_2)) (fun p23 => p23.2.2.2.2)))], AV.bool (ro o false (sumE (fun p22 => true) (fun p23 => false)))])) (brS (fun o : ((List AV) × (List AV)) ⊕ ((List AV) × (List AV) × (List AV) × (List AV) × (List AV)) => some (AV.tup [AV.agg [AV.fl [.int .i64] ((sumE (fun p22 => p22.1) (fun p23 => p23.2.2.1)) o), AV.fl [.int .i64] ((sumE (fun p22 => p22.2) (fun p23 => p23.2.2.2.1)) o), AV.fl [.int .i64, .int .i64] ((sumE (fun p22 => (v127_2 a0_0 a0_1 a0_2)) (fun p23 => p23.2.2.2.2)) o)], AV.bool ((sumE (fun p22 => true) (fun p23 => false)) o)])) (fun p22 => (fun _ => rfl)) (fun p23 => (fun _ => rfl)))))) h)
def m110 : TModel
  | [.agg [.sl g0 a0_0, .sl g1 a0_1, .sl g2 a0_2], .sl g3 a1] => bif ctsEq g0 ([.int .i64]) && ctsEq g1 ([.int .i64]) && ctsEq g2 ([.int .i64, .int .i64]) && ctsEq g3 ([.int .i64, .int .i64]) then some (q110 a0_0 a0_1 a0_2 a1, AV.tup [AV.agg [AV.fl [.int .i64] (v110_0 a0_0 a0_1 a0_2 a1), AV.fl [.int .i64] (v110_1 a0_0 a0_1 a0_2 a1), AV.fl [.int .i64, .int .i64] (v110_2 a0_0 a0_1 a0_2 a1)], AV.bool (v110_3 a0_0 a0_1 a0_2 a1)]) else none
  | _ => none
theorem k110 : Known Try.prog 110 := ⟨Try.f110, Try.func110, by kernel_rfl, by kernel_rfl⟩
theorem meets110 : Meets Try.prog 110 m110 := by
  refine meet (f := Try.f110) (l := [(0, sub [1, 1, 1, 0, 1, 0, 0] (body Try.f110))]) (hs := [(110, 0, [1, 2, 4, 6, 7]), (110, 999, [4, 5]), (110, 1000, [4, 6]), (110, 1001, [1, 2, 4, 6, 7])]) (ts := [(68, m68), (127, m127)]) (ws := [(134, m134)]) (is := []) (ls := [(110, 0, l110_0)]) (lvl := 0) mixed k110 Try.func110 (by kernel_rfl) (loops_cons ok110_0 noLoop) (allT_cons meets68 (allT_cons meets127 allT_nil)) (allM_cons meets134 allM_nil) noI fun w xs us r hl hv h => ?_
  unfold m110 at h
  split at h
  · rename_i g0 a0_0 g1 a0_1 g2 a0_2 g3 a1
    obtain ⟨hg, h⟩ := bif_pair h
    simp only [Bool.and_eq_true] at hg
    obtain ⟨⟨⟨q0, q1⟩, q2⟩, q3⟩ := hg
    obtain rfl := ctsEq_eq _ _ q0
    obtain rfl := ctsEq_eq _ _ q1
    obtain rfl := ctsEq_eq _ _ q2
    obtain rfl := ctsEq_eq _ _ q3
    obtain ⟨h1, rfl⟩ := pair_inj h
    exact r110 a0_0 a0_1 a0_2 a1 h1
  · cases h

/-! ### 111 loop.example/g01984/spec.AddPivot -/
def F111_0 (h0 : List AV) (h1 : List AV) (h2_0 : List AV) (h2_1 : List AV) (h2_2 : List AV) (h4_0 : Int) (h4_1 : Int) (t7 : Bool) (t8 : Int) (h3 : List AV) : Out ((Bool × Int × (List AV))) ((Bool × (List AV))) := (bif decide (t8 < (h2_2.length : Int)) then (bif !t7 then (bif (decide (0 ≤ t8) && decide (t8 < (h2_2.length : Int))) then (bif decide (fI (h2_2.getD t8.toNat AV.undef) 0 > h4_0) then (bif (decide ((h3.length + ([AV.agg [AV.int .i64 h4_0, AV.int .i64 h4_1]]).length) * 16 ≤ 140737488355328) && decide ((h3.length + ([AV.agg [AV.int .i64 h4_0, AV.int .i64 h4_1]]).length) ≤ 140737488355328)) then (bif (decide (0 ≤ t8) && decide (t8 < (h2_2.length : Int))) then (bif (decide (((h3 ++ ([AV.agg [AV.int .i64 h4_0, AV.int .i64 h4_1]])).length + ([AV.agg [AV.int .i64 (fI (h2_2.getD t8.toNat AV.undef) 0), AV.int .i64 (fI (h2_2.getD t8.toNat AV.undef) 1)]]).length) * 16 ≤ 140737488355328) && decide (((h3 ++ ([AV.agg [AV.int .i64 h4_0, AV.int .i64 h4_1]])).length + ([AV.agg [AV.int .i64 (fI (h2_2.getD t8.toNat AV.undef) 0), AV.int .i64 (fI (h2_2.getD t8.toNat AV.undef) 1)]]).length) ≤ 140737488355328)) then .next (true, IntKind.i64.wrap (t8 + 1), (h3 ++ ([AV.agg [AV.int .i64 h4_0, AV.int .i64 h4_1]])) ++ ([AV.agg [AV.int .i64 (fI (h2_2.getD t8.toNat AV.undef) 0), AV.int .i64 (fI (h2_2.getD t8.toNat AV.undef) 1)]]))
        else .fail)
       else .fail)
      else .fail)
     else (bif (decide (0 ≤ t8) && decide (t8 < (h2_2.length : Int))) then (bif (decide ((h3.length + ([AV.agg [AV.int .i64 (fI (h2_2.getD t8.toNat AV.undef) 0), AV.int .i64 (fI (h2_2.getD t8.toNat AV.undef) 1)]]).length) * 16 ≤ 140737488355328) && decide ((h3.length + ([AV.agg [AV.int .i64 (fI (h2_2.getD t8.toNat AV.undef) 0), AV.int .i64 (fI (h2_2.getD t8.toNat AV.undef) 1)]]).length) ≤ 140737488355328)) then .next (t7, IntKind.i64.wrap (t8 + 1), h3 ++ ([AV.agg [AV.int .i64 (fI (h2_2.getD t8.toNat AV.undef) 0), AV.int .i64 (fI (h2_2.getD t8.toNat AV.undef) 1)]]))
       else .fail)
      else .fail))
    else .fail)
   else (bif (decide (0 ≤ t8) && decide (t8 < (h2_2.length : Int))) then (bif (decide ((h3.length + ([AV.agg [AV.int .i64 (fI (h2_2.getD t8.toNat AV.undef) 0), AV.int .i64 (fI (h2_2.getD t8.toNat AV.undef) 1)]]).length) * 16 ≤ 140737488355328) && decide ((h3.length + ([AV.agg [AV.int .i64 (fI (h2_2.getD t8.toNat AV.undef) 0), AV.int .i64 (fI (h2_2.getD t8.toNat AV.undef) 1)]]).length) ≤ 140737488355328)) then .next (t7, IntKind.i64.wrap (t8 + 1), h3 ++ ([AV.agg [AV.int .i64 (fI (h2_2.getD t8.toNat AV.undef) 0), AV.int .i64 (fI (h2_2.getD t8.toNat AV.undef) 1)]]))
     else .fail)
    else .fail))
  else .stop (t7, h3))
def R111_0 (h0 : List AV) (h1 : List AV) (h2_0 : List AV) (h2_1 : List AV) (h2_2 : List AV) (h4_0 : Int) (h4_1 : Int) : ((Bool × Int × (List AV))) → Out ((Bool × Int × (List AV))) ((Bool × (List AV))) := fun s : Bool × Int × (List AV) => F111_0 h0 h1 h2_0 h2_1 h2_2 h4_0 h4_1 s.1 s.2.1 s.2.2
def l111_0 : LModel := fun _ _ st k => match st with
  | ⟨[(2, .ptr g0 g1 g2), (3, .ptr g3 g4 g5), (4, .ptr g6 g7 g8), (6, .ptr g9 g10 g11), (7, .bool t7), (8, .int .i64 t8)], [(g12, ⟨false, g13, h0⟩), (g14, ⟨false, g15, h1⟩), (g16, ⟨true, [], [.agg [.sl g17 h2_0, .sl g18 h2_1, .sl g19 h2_2]]⟩), (g20, ⟨false, g21, h3⟩), (g22, ⟨true, [], [.agg [.int .i64 h4_0, .int .i64 h4_1]]⟩), (g23, ⟨true, [], [.agg [.snil, .snil, .snil]]⟩), (g24, ⟨true, [], [.agg [.own g25, .own g26, .own g27]]⟩)]⟩ => bif nmEq g0 ([0, 2]) && Nat.beq g1 0 && Nat.beq g2 0 && nmEq g3 ([0, 3]) && Nat.beq g4 0 && Nat.beq g5 0 && nmEq g6 ([0, 4]) && Nat.beq g7 0 && Nat.beq g8 0 && nmEq g9 ([0, 6]) && Nat.beq g10 0 && Nat.beq g11 0 && nmEq g12 ([0, 0, 6]) && ctsEq g13 ([.int .i64]) && nmEq g14 ([0, 1, 6]) && ctsEq g15 ([.int .i64]) && nmEq g16 ([0, 2]) && ctsEq g17 ([.int .i64]) && ctsEq g18 ([.int .i64]) && ctsEq g19 ([.int .i64, .int .i64]) && nmEq g20 ([0, 2, 6]) && ctsEq g21 ([.int .i64, .int .i64]) && nmEq g22 ([0, 3]) && nmEq g23 ([0, 4]) && nmEq g24 ([0, 6]) && nmEq g25 ([0, 0, 6]) && nmEq g26 ([0, 1, 6]) && nmEq g27 ([0, 2, 6]) then ro (runW (R111_0 h0 h1 h2_0 h2_1 h2_2 h4_0 h4_1) (((h2_2.length : Int) - t8).toNat + 1) (t7, t8, h3)) none (fun p : Bool × (List AV) => k (.exit 0) ⟨[(2, AV.ptr [0, 2] 0 0), (3, AV.ptr [0, 3] 0 0), (4, AV.ptr [0, 4] 0 0), (6, AV.ptr [0, 6] 0 0), (7, AV.bool p.1)], [([0, 0, 6], ⟨false, [.int .i64], h0⟩), ([0, 1, 6], ⟨false, [.int .i64], h1⟩), ([0, 2], ⟨true, [], [AV.agg [AV.sl [.int .i64] h2_0, AV.sl [.int .i64] h2_1, AV.sl [.int .i64, .int .i64] h2_2]]⟩), ([0, 2, 6], ⟨false, [.int .i64, .int .i64], p.2⟩), ([0, 3], ⟨true, [], [AV.agg [AV.int .i64 h4_0, AV.int .i64 h4_1]]⟩), ([0, 4], ⟨true, [], [AV.agg [AV.snil, AV.snil, AV.snil]]⟩), ([0, 6], ⟨true, [], [AV.agg [AV.own [0, 0, 6], AV.own [0, 1, 6], AV.own [0, 2, 6]]]⟩)]⟩) else none
  | _ => none
noncomputable def c111 : Cfg := cfg Try.prog [(111, 0, [2, 3, 4, 6, 7, 8]), (111, 999, [4, 5]), (111, 1000, [2, 3, 4, 6, 7]), (111, 1001, [2, 3, 4, 6, 7, 8])] [(67, m67), (127, m127)] [] [] [(111, 0, l111_0)]
theorem s111_0 (ce : CallE) (t7 : Bool) (t8 : Int) (h0 : List AV) (h1 : List AV) (h2_0 : List AV) (h2_1 : List AV) (h2_2 : List AV) (h3 : List AV) (h4_0 : Int) (h4_1 : Int) (next : St → Option AV) (k : Kont) : stepA (codeA c111 ce [] 111 0 (sub [1, 1, 1, 1, 0, 1, 0, 0] (body Try.f111))) (normA [] [2, 3, 4, 6, 7, 8]) next ⟨[(2, AV.ptr [0, 2] 0 0), (3, AV.ptr [0, 3] 0 0), (4, AV.ptr [0, 4] 0 0), (6, AV.ptr [0, 6] 0 0), (7, AV.bool t7), (8, AV.int .i64 t8)], [([0, 0, 6], ⟨false, [.int .i64], h0⟩), ([0, 1, 6], ⟨false, [.int .i64], h1⟩), ([0, 2], ⟨true, [], [AV.agg [AV.sl [.int .i64] h2_0, AV.sl [.int .i64] h2_1, AV.sl [.int .i64, .int .i64] h2_2]]⟩), ([0, 2, 6], ⟨false, [.int .i64, .int .i64], h3⟩), ([0, 3], ⟨true, [], [AV.agg [AV.int .i64 h4_0, AV.int .i64 h4_1]]⟩), ([0, 4], ⟨true, [], [AV.agg [AV.snil, AV.snil, AV.snil]]⟩), ([0, 6], ⟨true, [], [AV.agg [AV.own [0, 0, 6], AV.own [0, 1, 6], AV.own [0, 2, 6]]]⟩)]⟩ k = (bif decide (t8 < (h2_2.length : Int)) then (bif !t7 then (bif (decide (0 ≤ t8) && decide (t8 < (h2_2.length : Int))) then (bif decide (fI (h2_2.getD t8.toNat AV.undef) 0 > h4_0) then (bif (decide ((h3.length + ([AV.agg [AV.int .i64 h4_0, AV.int .i64 h4_1]]).length) * 16 ≤ 140737488355328) && decide ((h3.length + ([AV.agg [AV.int .i64 h4_0, AV.int .i64 h4_1]]).length) ≤ 140737488355328)) then (bif (decide (0 ≤ t8) && decide (t8 < (h2_2.length : Int))) then (bif (decide (((h3 ++ ([AV.agg [AV.int .i64 h4_0, AV.int .i64 h4_1]])).length + ([AV.agg [AV.int .i64 (fI (h2_2.getD t8.toNat AV.undef) 0), AV.int .i64 (fI (h2_2.getD t8.toNat AV.undef) 1)]]).length) * 16 ≤ 140737488355328) && decide (((h3 ++ ([AV.agg [AV.int .i64 h4_0, AV.int .i64 h4_1]])).length + ([AV.agg [AV.int .i64 (fI (h2_2.getD t8.toNat AV.undef) 0), AV.int .i64 (fI (h2_2.getD t8.toNat AV.undef) 1)]]).length) ≤ 140737488355328)) then next ⟨[(2, AV.ptr [0, 2] 0 0), (3, AV.ptr [0, 3] 0 0), (4, AV.ptr [0, 4] 0 0), (6, AV.ptr [0, 6] 0 0), (7, AV.bool true), (8, AV.int .i64 (IntKind.i64.wrap (t8 + 1)))], [([0, 0, 6], ⟨false, [.int .i64], h0⟩), ([0, 1, 6], ⟨false, [.int .i64], h1⟩), ([0, 2], ⟨true, [], [AV.agg [AV.sl [.int .i64] h2_0, AV.sl [.int .i64] h2_1, AV.sl [.int .i64, .int .i64] h2_2]]⟩), ([0, 2, 6], ⟨false, [.int .i64, .int .i64], (h3 ++ ([AV.agg [AV.int .i64 h4_0, AV.int .i64 h4_1]])) ++ ([AV.agg [AV.int .i64 (fI (h2_2.getD t8.toNat AV.undef) 0), AV.int .i64 (fI (h2_2.getD t8.toNat AV.undef) 1)]])⟩), ([0, 3], ⟨true, [], [AV.agg [AV.int .i64 h4_0, AV.int .i64 h4_1]]⟩), ([0, 4], ⟨true, [], [AV.agg [AV.snil, AV.snil, AV.snil]]⟩), ([0, 6], ⟨true, [], [AV.agg [AV.own [0, 0, 6], AV.own [0, 1, 6], AV.own [0, 2, 6]]]⟩)]⟩
        else none)
       else none)
      else none)
     else (bif (decide (0 ≤ t8) && decide (t8 < (h2_2.length : Int))) then (bif (decide ((h3.length + ([AV.agg [AV.int .i64 (fI (h2_2.getD t8.toNat AV.undef) 0), AV.int .i64 (fI (h2_2.getD t8.toNat AV.undef) 1)]]).length) * 16 ≤ 140737488355328) && decide ((h3.length + ([AV.agg [AV.int .i64 (fI (h2_2.getD t8.toNat AV.undef) 0), AV.int .i64 (fI (h2_2.getD t8.toNat AV.undef) 1)]]).length) ≤ 140737488355328)) then next ⟨[(2, AV.ptr [0, 2] 0 0), (3, AV.ptr [0, 3] 0 0), (4, AV.ptr [0, 4] 0 0), (6, AV.ptr [0, 6] 0 0), (7, AV.bool t7), (8, AV.int .i64 (IntKind.i64.wrap (t8 + 1)))], [([0, 0, 6], ⟨false, [.int .i64], h0⟩), ([0, 1, 6], ⟨false, [.int .i64], h1⟩), ([0, 2], ⟨true, [], [AV.agg [AV.sl [.int .i64] h2_0, AV.sl [.int .i64] h2_1, AV.sl [.int .i64, .int .i64] h2_2]]⟩), ([0, 2, 6], ⟨false, [.int .i64, .int .i64], h3 ++ ([AV.agg [AV.int .i64 (fI (h2_2.getD t8.toNat AV.undef) 0), AV.int .i64 (fI (h2_2.getD t8.toNat AV.undef) 1)]])⟩), ([0, 3], ⟨true, [], [AV.agg [AV.int .i64 h4_0, AV.int .i64 h4_1]]⟩), ([0, 4], ⟨true, [], [AV.agg [AV.snil, AV.snil, AV.snil]]⟩), ([0, 6], ⟨true, [], [AV.agg [AV.own [0, 0, 6], AV.own [0, 1, 6], AV.own [0, 2, 6]]]⟩)]⟩
       else none)
      else none))
    else none)
   else (bif (decide (0 ≤ t8) && decide (t8 < (h2_2.length : Int))) then (bif (decide ((h3.length + ([AV.agg [AV.int .i64 (fI (h2_2.getD t8.toNat AV.undef) 0), AV.int .i64 (fI (h2_2.getD t8.toNat AV.undef) 1)]]).length) * 16 ≤ 140737488355328) && decide ((h3.length + ([AV.agg [AV.int .i64 (fI (h2_2.getD t8.toNat AV.undef) 0), AV.int .i64 (fI (h2_2.getD t8.toNat AV.undef) 1)]]).length) ≤ 140737488355328)) then next ⟨[(2, AV.ptr [0, 2] 0 0), (3, AV.ptr [0, 3] 0 0), (4, AV.ptr [0, 4] 0 0), (6, AV.ptr [0, 6] 0 0), (7, AV.bool t7), (8, AV.int .i64 (IntKind.i64.wrap (t8 + 1)))], [([0, 0, 6], ⟨false, [.int .i64], h0⟩), ([0, 1, 6], ⟨false, [.int .i64], h1⟩), ([0, 2], ⟨true, [], [AV.agg [AV.sl [.int .i64] h2_0, AV.sl [.int .i64] h2_1, AV.sl [.int .i64, .int .i64] h2_2]]⟩), ([0, 2, 6], ⟨false, [.int .i64, .int .i64], h3 ++ ([AV.agg [AV.int .i64 (fI (h2_2.getD t8.toNat AV.undef) 0), AV.int .i64 (fI (h2_2.getD t8.toNat AV.undef) 1)]])⟩), ([0, 3], ⟨true, [], [AV.agg [AV.int .i64 h4_0, AV.int .i64 h4_1]]⟩), ([0, 4], ⟨true, [], [AV.agg [AV.snil, AV.snil, AV.snil]]⟩), ([0, 6], ⟨true, [], [AV.agg [AV.own [0, 0, 6], AV.own [0, 1, 6], AV.own [0, 2, 6]]]⟩)]⟩
     else none)
    else none))
  else k (.exit 0) ⟨[(2, AV.ptr [0, 2] 0 0), (3, AV.ptr [0, 3] 0 0), (4, AV.ptr [0, 4] 0 0), (6, AV.ptr [0, 6] 0 0), (7, AV.bool t7)], [([0, 0, 6], ⟨false, [.int .i64], h0⟩), ([0, 1, 6], ⟨false, [.int .i64], h1⟩), ([0, 2], ⟨true, [], [AV.agg [AV.sl [.int .i64] h2_0, AV.sl [.int .i64] h2_1, AV.sl [.int .i64, .int .i64] h2_2]]⟩), ([0, 2, 6], ⟨false, [.int .i64, .int .i64], h3⟩), ([0, 3], ⟨true, [], [AV.agg [AV.int .i64 h4_0, AV.int .i64 h4_1]]⟩), ([0, 4], ⟨true, [], [AV.agg [AV.snil, AV.snil, AV.snil]]⟩), ([0, 6], ⟨true, [], [AV.agg [AV.own [0, 0, 6], AV.own [0, 1, 6], AV.own [0, 2, 6]]]⟩)]⟩) := by kernel_rfl
theorem st111_0 (h0 : List AV) (h1 : List AV) (h2_0 : List AV) (h2_1 : List AV) (h2_2 : List AV) (h4_0 : Int) (h4_1 : Int) (ce : CallE) (k : Kont) (s : (Bool × Int × (List AV))) (next : St → Option AV) : stepA (codeA c111 ce [] 111 0 (sub [1, 1, 1, 1, 0, 1, 0, 0] (body Try.f111))) (normA [] [2, 3, 4, 6, 7, 8]) next ((fun s : Bool × Int × (List AV) => ⟨[(2, AV.ptr [0, 2] 0 0), (3, AV.ptr [0, 3] 0 0), (4, AV.ptr [0, 4] 0 0), (6, AV.ptr [0, 6] 0 0), (7, AV.bool s.1), (8, AV.int .i64 s.2.1)], [([0, 0, 6], ⟨false, [.int .i64], h0⟩), ([0, 1, 6], ⟨false, [.int .i64], h1⟩), ([0, 2], ⟨true, [], [AV.agg [AV.sl [.int .i64] h2_0, AV.sl [.int .i64] h2_1, AV.sl [.int .i64, .int .i64] h2_2]]⟩), ([0, 2, 6], ⟨false, [.int .i64, .int .i64], s.2.2⟩), ([0, 3], ⟨true, [], [AV.agg [AV.int .i64 h4_0, AV.int .i64 h4_1]]⟩), ([0, 4], ⟨true, [], [AV.agg [AV.snil, AV.snil, AV.snil]]⟩), ([0, 6], ⟨true, [], [AV.agg [AV.own [0, 0, 6], AV.own [0, 1, 6], AV.own [0, 2, 6]]]⟩)]⟩) s) k = (R111_0 h0 h1 h2_0 h2_1 h2_2 h4_0 h4_1 s).el none (fun s => next ((fun s : Bool × Int × (List AV) => ⟨[(2, AV.ptr [0, 2] 0 0), (3, AV.ptr [0, 3] 0 0), (4, AV.ptr [0, 4] 0 0), (6, AV.ptr [0, 6] 0 0), (7, AV.bool s.1), (8, AV.int .i64 s.2.1)], [([0, 0, 6], ⟨false, [.int .i64], h0⟩), ([0, 1, 6], ⟨false, [.int .i64], h1⟩), ([0, 2], ⟨true, [], [AV.agg [AV.sl [.int .i64] h2_0, AV.sl [.int .i64] h2_1, AV.sl [.int .i64, .int .i64] h2_2]]⟩), ([0, 2, 6], ⟨false, [.int .i64, .int .i64], s.2.2⟩), ([0, 3], ⟨true, [], [AV.agg [AV.int .i64 h4_0, AV.int .i64 h4_1]]⟩), ([0, 4], ⟨true, [], [AV.agg [AV.snil, AV.snil, AV.snil]]⟩), ([0, 6], ⟨true, [], [AV.agg [AV.own [0, 0, 6], AV.own [0, 1, 6], AV.own [0, 2, 6]]]⟩)]⟩) s)) (fun p : Bool × (List AV) => k (.exit 0) ⟨[(2, AV.ptr [0, 2] 0 0), (3, AV.ptr [0, 3] 0 0), (4, AV.ptr [0, 4] 0 0), (6, AV.ptr [0, 6] 0 0), (7, AV.bool p.1)], [([0, 0, 6], ⟨false, [.int .i64], h0⟩), ([0, 1, 6], ⟨false, [.int .i64], h1⟩), ([0, 2], ⟨true, [], [AV.agg [AV.sl [.int .i64] h2_0, AV.sl [.int .i64] h2_1, AV.sl [.int .i64, .int .i64] h2_2]]⟩), ([0, 2, 6], ⟨false, [.int .i64, .int .i64], p.2⟩), ([0, 3], ⟨true, [], [AV.agg [AV.int .i64 h4_0, AV.int .i64 h4_1]]⟩), ([0, 4], ⟨true, [], [AV.agg [AV.snil, AV.snil, AV.snil]]⟩), ([0, 6], ⟨true, [], [AV.agg [AV.own [0, 0, 6], AV.own [0, 1, 6], AV.own [0, 2, 6]]]⟩)]⟩) := (s111_0 ce s.1 s.2.1 h0 h1 h2_0 h2_1 h2_2 s.2.2 h4_0 h4_1 next k).trans (by unfold R111_0; unfold F111_0; simp only [el_cond, el_ro, el_sum, el_fail, el_next, el_stop] <;> rfl)
theorem ok111_0 {ce : CallE} : LoopOK c111 ce [] 111 0 (sub [1, 1, 1, 1, 0, 1, 0, 0] (body Try.f111)) := by
  intro m hm st k r h
  obtain rfl : l111_0 = m := Option.some.inj hm
  unfold l111_0 at h
  split at h
  · rename_i g0 g1 g2 g3 g4 g5 g6 g7 g8 g9 g10 g11 t7 t8 g12 g13 h0 g14 g15 h1 g16 g17 h2_0 g18 h2_1 g19 h2_2 g20 g21 h3 g22 h4_0 h4_1 g23 g24 g25 g26 g27
    obtain ⟨hg, h⟩ := bif_some h
    simp only [Bool.and_eq_true] at hg
    obtain ⟨⟨⟨⟨⟨⟨⟨⟨⟨⟨⟨⟨⟨⟨⟨⟨⟨⟨⟨⟨⟨⟨⟨⟨⟨⟨⟨q0, q1⟩, q2⟩, q3⟩, q4⟩, q5⟩, q6⟩, q7⟩, q8⟩, q9⟩, q10⟩, q11⟩, q12⟩, q13⟩, q14⟩, q15⟩, q16⟩, q17⟩, q18⟩, q19⟩, q20⟩, q21⟩, q22⟩, q23⟩, q24⟩, q25⟩, q26⟩, q27⟩ := hg
    obtain rfl := (nmEq_iff _ _).1 q0
    obtain rfl := Nat.eq_of_beq_eq_true q1
    obtain rfl := Nat.eq_of_beq_eq_true q2
    obtain rfl := (nmEq_iff _ _).1 q3
    obtain rfl := Nat.eq_of_beq_eq_true q4
    obtain rfl := Nat.eq_of_beq_eq_true q5
    obtain rfl := (nmEq_iff _ _).1 q6
    obtain rfl := Nat.eq_of_beq_eq_true q7
    obtain rfl := Nat.eq_of_beq_eq_true q8
    obtain rfl := (nmEq_iff _ _).1 q9
    obtain rfl := Nat.eq_of_beq_eq_true q10
    obtain rfl := Nat.eq_of_beq_eq_true q11
    obtain rfl := (nmEq_iff _ _).1 q12
    obtain rfl := ctsEq_eq _ _ q13
    obtain rfl := (nmEq_iff _ _).1 q14
    obtain rfl := ctsEq_eq _ _ q15
    obtain rfl := (nmEq_iff _ _).1 q16
    obtain rfl := ctsEq_eq _ _ q17
    obtain rfl := ctsEq_eq _ _ q18
    obtain rfl := ctsEq_eq _ _ q19
    obtain rfl := (nmEq_iff _ _).1 q20
    obtain rfl := ctsEq_eq _ _ q21
    obtain rfl := (nmEq_iff _ _).1 q22
    obtain rfl := (nmEq_iff _ _).1 q23
    obtain rfl := (nmEq_iff _ _).1 q24
    obtain rfl := (nmEq_iff _ _).1 q25
    obtain rfl := (nmEq_iff _ _).1 q26
    obtain rfl := (nmEq_iff _ _).1 q27
    refine ⟨(((h2_2.length : Int) - t8).toNat + 1), ?_⟩
    rw [← h]
    exact loop_run (fun s : Bool × Int × (List AV) => ⟨[(2, AV.ptr [0, 2] 0 0), (3, AV.ptr [0, 3] 0 0), (4, AV.ptr [0, 4] 0 0), (6, AV.ptr [0, 6] 0 0), (7, AV.bool s.1), (8, AV.int .i64 s.2.1)], [([0, 0, 6], ⟨false, [.int .i64], h0⟩), ([0, 1, 6], ⟨false, [.int .i64], h1⟩), ([0, 2], ⟨true, [], [AV.agg [AV.sl [.int .i64] h2_0, AV.sl [.int .i64] h2_1, AV.sl [.int .i64, .int .i64] h2_2]]⟩), ([0, 2, 6], ⟨false, [.int .i64, .int .i64], s.2.2⟩), ([0, 3], ⟨true, [], [AV.agg [AV.int .i64 h4_0, AV.int .i64 h4_1]]⟩), ([0, 4], ⟨true, [], [AV.agg [AV.snil, AV.snil, AV.snil]]⟩), ([0, 6], ⟨true, [], [AV.agg [AV.own [0, 0, 6], AV.own [0, 1, 6], AV.own [0, 2, 6]]]⟩)]⟩) (fun p : Bool × (List AV) => k (.exit 0) ⟨[(2, AV.ptr [0, 2] 0 0), (3, AV.ptr [0, 3] 0 0), (4, AV.ptr [0, 4] 0 0), (6, AV.ptr [0, 6] 0 0), (7, AV.bool p.1)], [([0, 0, 6], ⟨false, [.int .i64], h0⟩), ([0, 1, 6], ⟨false, [.int .i64], h1⟩), ([0, 2], ⟨true, [], [AV.agg [AV.sl [.int .i64] h2_0, AV.sl [.int .i64] h2_1, AV.sl [.int .i64, .int .i64] h2_2]]⟩), ([0, 2, 6], ⟨false, [.int .i64, .int .i64], p.2⟩), ([0, 3], ⟨true, [], [AV.agg [AV.int .i64 h4_0, AV.int .i64 h4_1]]⟩), ([0, 4], ⟨true, [], [AV.agg [AV.snil, AV.snil, AV.snil]]⟩), ([0, 6], ⟨true, [], [AV.agg [AV.own [0, 0, 6], AV.own [0, 1, 6], AV.own [0, 2, 6]]]⟩)]⟩) (st111_0 h0 h1 h2_0 h2_1 h2_2 h4_0 h4_1 ce k) _ (t7, t8, h3)
  · cases h
def q111 (a0_0 : List AV) (a0_1 : List AV) (a0_2 : List AV) (a1_0 : Int) (a1_1 : Int) : Bool := (q127 a0_0 a0_1 a0_2 && (ro (runW (R111_0 (v127_0 a0_0 a0_1 a0_2) (v127_1 a0_0 a0_1 a0_2) a0_0 a0_1 a0_2 a1_0 a1_1) (((a0_2.length : Int) - 0).toNat + 1) (false, 0, ([] : List AV))) false (fun p24 => (bif !p24.1 then ((decide ((p24.2.length + ([AV.agg [AV.int .i64 a1_0, AV.int .i64 a1_1]]).length) * 16 ≤ 140737488355328) && decide ((p24.2.length + ([AV.agg [AV.int .i64 a1_0, AV.int .i64 a1_1]]).length) ≤ 140737488355328)) && (q67 a0_0 a0_1 a0_2 && (bif !(v67_0 a0_0 a0_1 a0_2) then q127 a0_0 a0_1 a0_2 else (q67 (v127_0 a0_0 a0_1 a0_2) (v127_1 a0_0 a0_1 a0_2) (p24.2 ++ ([AV.agg [AV.int .i64 a1_0, AV.int .i64 a1_1]])) && (bif !(v67_0 (v127_0 a0_0 a0_1 a0_2) (v127_1 a0_0 a0_1 a0_2) (p24.2 ++ ([AV.agg [AV.int .i64 a1_0, AV.int .i64 a1_1]]))) then q127 a0_0 a0_1 a0_2 else true))))) else (q67 a0_0 a0_1 a0_2 && (bif !(v67_0 a0_0 a0_1 a0_2) then q127 a0_0 a0_1 a0_2 else (q67 (v127_0 a0_0 a0_1 a0_2) (v127_1 a0_0 a0_1 a0_2) p24.2 && (bif !(v67_0 (v127_0 a0_0 a0_1 a0_2) (v127_1 a0_0 a0_1 a0_2) p24.2) then q127 a0_0 a0_1 a0_2 else true))))))))
def v111_0 (a0_0 : List AV) (a0_1 : List AV) (a0_2 : List AV) (a1_0 : Int) (a1_1 : Int) : List AV := (v127_0 a0_0 a0_1 a0_2)
def v111_1 (a0_0 : List AV) (a0_1 : List AV) (a0_2 : List AV) (a1_0 : Int) (a1_1 : Int) : List AV := (v127_1 a0_0 a0_1 a0_2)
def v111_2 (a0_0 : List AV) (a0_1 : List AV) (a0_2 : List AV) (a1_0 : Int) (a1_1 : Int) : List AV := (ro (runW (R111_0 (v127_0 a0_0 a0_1 a0_2) (v127_1 a0_0 a0_1 a0_2) a0_0 a0_1 a0_2 a1_0 a1_1) (((a0_2.length : Int) - 0).toNat + 1) (false, 0, ([] : List AV))) [] (fun p24 => (bif !p24.1 then (bif !(v67_0 a0_0 a0_1 a0_2) then (v127_2 a0_0 a0_1 a0_2) else (bif !(v67_0 (v127_0 a0_0 a0_1 a0_2) (v127_1 a0_0 a0_1 a0_2) (p24.2 ++ ([AV.agg [AV.int .i64 a1_0, AV.int .i64 a1_1]]))) then (v127_2 a0_0 a0_1 a0_2) else p24.2 ++ ([AV.agg [AV.int .i64 a1_0, AV.int .i64 a1_1]]))) else (bif !(v67_0 a0_0 a0_1 a0_2) then (v127_2 a0_0 a0_1 a0_2) else (bif !(v67_0 (v127_0 a0_0 a0_1 a0_2) (v127_1 a0_0 a0_1 a0_2) p24.2) then (v127_2 a0_0 a0_1 a0_2) else p24.2)))))
def v111_3 (a0_0 : List AV) (a0_1 : List AV) (a0_2 : List AV) (a1_0 : Int) (a1_1 : Int) : Bool := (ro (runW (R111_0 (v127_0 a0_0 a0_1 a0_2) (v127_1 a0_0 a0_1 a0_2) a0_0 a0_1 a0_2 a1_0 a1_1) (((a0_2.length : Int) - 0).toNat + 1) (false, 0, ([] : List AV))) false (fun p24 => (bif !p24.1 then (bif !(v67_0 a0_0 a0_1 a0_2) then false else (bif !(v67_0 (v127_0 a0_0 a0_1 a0_2) (v127_1 a0_0 a0_1 a0_2) (p24.2 ++ ([AV.agg [AV.int .i64 a1_0, AV.int .i64 a1_1]]))) then false else true)) else (bif !(v67_0 a0_0 a0_1 a0_2) then false else (bif !(v67_0 (v127_0 a0_0 a0_1 a0_2) (v127_1 a0_0 a0_1 a0_2) p24.2) then false else true)))))
theorem e111 (a0_0 : List AV) (a0_1 : List AV) (a0_2 : List AV) (a1_0 : Int) (a1_1 : Int) : funA c111 0 111 [AV.agg [AV.sl [.int .i64] a0_0, AV.sl [.int .i64] a0_1, AV.sl [.int .i64, .int .i64] a0_2], AV.agg [AV.int .i64 a1_0, AV.int .i64 a1_1]] = (bif q127 a0_0 a0_1 a0_2 then (ro (runW (R111_0 (v127_0 a0_0 a0_1 a0_2) (v127_1 a0_0 a0_1 a0_2) a0_0 a0_1 a0_2 a1_0 a1_1) (((a0_2.length : Int) - 0).toNat + 1) (false, 0, ([] : List AV))) none (fun p24 => (bif !p24.1 then (bif (decide ((p24.2.length + ([AV.agg [AV.int .i64 a1_0, AV.int .i64 a1_1]]).length) * 16 ≤ 140737488355328) && decide ((p24.2.length + ([AV.agg [AV.int .i64 a1_0, AV.int .i64 a1_1]]).length) ≤ 140737488355328)) then (bif q67 a0_0 a0_1 a0_2 then (bif !(v67_0 a0_0 a0_1 a0_2) then (bif q127 a0_0 a0_1 a0_2 then some (AV.tup [AV.agg [AV.fl [.int .i64] (v127_0 a0_0 a0_1 a0_2), AV.fl [.int .i64] (v127_1 a0_0 a0_1 a0_2), AV.fl [.int .i64, .int .i64] (v127_2 a0_0 a0_1 a0_2)], AV.bool false])
        else none)
       else (bif q67 (v127_0 a0_0 a0_1 a0_2) (v127_1 a0_0 a0_1 a0_2) (p24.2 ++ ([AV.agg [AV.int .i64 a1_0, AV.int .i64 a1_1]])) then (bif !(v67_0 (v127_0 a0_0 a0_1 a0_2) (v127_1 a0_0 a0_1 a0_2) (p24.2 ++ ([AV.agg [AV.int .i64 a1_0, AV.int .i64 a1_1]]))) then (bif q127 a0_0 a0_1 a0_2 then some (AV.tup [AV.agg [AV.fl [.int .i64] (v127_0 a0_0 a0_1 a0_2), AV.fl [.int .i64] (v127_1 a0_0 a0_1 a0_2), AV.fl [.int .i64, .int .i64] (v127_2 a0_0 a0_1 a0_2)], AV.bool false])
          else none)
         else some (AV.tup [AV.agg [AV.fl [.int .i64] (v127_0 a0_0 a0_1 a0_2), AV.fl [.int .i64] (v127_1 a0_0 a0_1 a0_2), AV.fl [.int .i64, .int .i64] (p24.2 ++ ([AV.agg [AV.int .i64 a1_0, AV.int .i64 a1_1]]))], AV.bool true]))
        else none))
      else none)
     else none)
    else (bif q67 a0_0 a0_1 a0_2 then (bif !(v67_0 a0_0 a0_1 a0_2) then (bif q127 a0_0 a0_1 a0_2 then some (AV.tup [AV.agg [AV.fl [.int .i64] (v127_0 a0_0 a0_1 a0_2), AV.fl [.int .i64] (v127_1 a0_0 a0_1 a0_2), AV.fl [.int .i64, .int .i64] (v127_2 a0_0 a0_1 a0_2)], AV.bool false])
       else none)
      else (bif q67 (v127_0 a0_0 a0_1 a0_2) (v127_1 a0_0 a0_1 a0_2) p24.2 then (bif !(v67_0 (v127_0 a0_0 a0_1 a0_2) (v127_1 a0_0 a0_1 a0_2) p24.2) then (bif q127 a0_0 a0_1 a0_2 then some (AV.tup [AV.agg [AV.fl [.int .i64] (v127_0 a0_0 a0_1 a0_2), AV.fl [.int .i64] (v127_1 a0_0 a0_1 a0_2), AV.fl [.int .i64, .int .i64] (v127_2 a0_0 a0_1 a0_2)], AV.bool false])
         else none)
        else some (AV.tup [AV.agg [AV.fl [.int .i64] (v127_0 a0_0 a0_1 a0_2), AV.fl [.int .i64] (v127_1 a0_0 a0_1 a0_2), AV.fl [.int .i64, .int .i64] p24.2], AV.bool true]))
       else none))
     else none))))
  else none) := by kernel_rfl
theorem r111 (a0_0 : List AV) (a0_1 : List AV) (a0_2 : List AV) (a1_0 : Int) (a1_1 : Int) (h : q111 a0_0 a0_1 a0_2 a1_0 a1_1 = true) : funA c111 0 111 [AV.agg [AV.sl [.int .i64] a0_0, AV.sl [.int .i64] a0_1, AV.sl [.int .i64, .int .i64] a0_2], AV.agg [AV.int .i64 a1_0, AV.int .i64 a1_1]] = some (AV.tup [AV.agg [AV.fl [.int .i64] (v111_0 a0_0 a0_1 a0_2 a1_0 a1_1), AV.fl [.int .i64] (v111_1 a0_0 a0_1 a0_2 a1_0 a1_1), AV.fl [.int .i64, .int .i64] (v111_2 a0_0 a0_1 a0_2 a1_0 a1_1)], AV.bool (v111_3 a0_0 a0_1 a0_2 a1_0 a1_1)]) := (e111 a0_0 a0_1 a0_2 a1_0 a1_1).trans ((brL (brO (fun o : Option ((Bool × (List AV))) => some (AV.tup [AV.agg [AV.fl [.int .i64] (v127_0 a0_0 a0_1 a0_2), AV.fl [.int .i64] (v127_1 a0_0 a0_1 a0_2), AV.fl [.int .i64, .int .i64] (ro o [] (fun p24 => (bif !p24.1 then (bif !(v67_0 a0_0 a0_1 a0_2) then (v127_2 a0_0 a0_1 a0_2) else (bif !(v67_0 (v127_0 a0_0 a0_1 a0_2) (v127_1 a0_0 a0_1 a0_2) (p24.2 ++ ([AV.agg [AV.int .i64 a1_0, AV.int .i64 a1_1]]))) then (v127_2 a0_0 a0_1 a0_2) else p24.2 ++ ([AV.agg [AV.int .i64 a1_0, AV.int .i64 a1_1]]))) else (bif !(v67_0 a0_0 a0_1 a0_2) then (v127_2 a0_0 a0_1 a0_2) else (bif !(v67_0 (v127_0 a0_0 a0_1 a0_2) (v127_1 a0_0 a0_1 a0_2) p24.2) then (v127_2 a0_0 a0_1 a0_2) else p24.2)))))], AV.bool (ro o false (fun p24 => (bif !p24.1 then (bif !(v67_0 a0_0 a0_1 a0_2) then false else (bif !(v67_0 (v127_0 a0_0 a0_1 a0_2) (v127_1 a0_0 a0_1 a0_2) (p24.2 ++ ([AV.agg [AV.int .i64 a1_0, AV.int .i64 a1_1]]))) then false else true)) else (bif !(v67_0 a0_0 a0_1 a0_2) then false else (bif !(v67_0 (v127_0 a0_0 a0_1 a0_2) (v127_1 a0_0 a0_1 a0_2) p24.2) then false else true)))))])) (fun p24 => (br (fun b => some (AV.tup [AV.agg [AV.fl [.int .i64] (v127_0 a0_0 a0_1 a0_2), AV.fl [.int .i64] (v127_1 a0_0 a0_1 a0_2), AV.fl [.int .i64, .int .i64] (bif b then (bif !(v67_0 a0_0 a0_1 a0_2) then (v127_2 a0_0 a0_1 a0_2) else (bif !(v67_0 (v127_0 a0_0 a0_1 a0_2) (v127_1 a0_0 a0_1 a0_2) (p24.2 ++ ([AV.agg [AV.int .i64 a1_0, AV.int .i64 a1_1]]))) then (v127_2 a0_0 a0_1 a0_2) else p24.2 ++ ([AV.agg [AV.int .i64 a1_0, AV.int .i64 a1_1]]))) else (bif !(v67_0 a0_0 a0_1 a0_2) then (v127_2 a0_0 a0_1 a0_2) else (bif !(v67_0 (v127_0 a0_0 a0_1 a0_2) (v127_1 a0_0 a0_1 a0_2) p24.2) then (v127_2 a0_0 a0_1 a0_2) else p24.2)))], AV.bool (bif b then (bif !(v67_0 a0_0 a0_1 a0_2) then false else (bif !(v67_0 (v127_0 a0_0 a0_1 a0_2) (v127_1 a0_0 a0_1 a0_2) (p24.2 ++ ([AV.agg [AV.int .i64 a1_0, AV.int .i64 a1_1]]))) then false else true)) else (bif !(v67_0 a0_0 a0_1 a0_2) then false else (bif !(v67_0 (v127_0 a0_0 a0_1 a0_2) (v127_1 a0_0 a0_1 a0_2) p24.2) then false else true)))])) (brL (brL (br (fun b => some (AV.tup [AV.agg [AV.fl [.int .i64] (v127_0 a0_0 a0_1 a0_2), AV.fl [.int .i64] (v127_1 a0_0 a0_1 a0_2), AV.fl [.int .i64, .int .i64] (bif b then (v127_2 a0_0 a0_1 a0_2) else (bif !(v67_0 (v127_0 a0_0 a0_1 a0_2) (v127_1 a0_0 a0_1 a0_2) (p24.2 ++ ([AV.agg [AV.int .i64 a1_0, AV.int .i64 a1_1]]))) then (v127_2 a0_0 a0_1 a0_2) else p24.2 ++ ([AV.agg [AV.int .i64 a1_0, AV.int .i64 a1_1]])))], AV.bool (bif b then false else (bif !(v67_0 (v127_0 a0_0 a0_1 a0_2) (v127_1 a0_0 a0_1 a0_2) (p24.2 ++ ([AV.agg [AV.int .i64 a1_0, AV.int .i64 a1_1]]))) then false else true))])) (brL1 (fun _ => rfl)) (brL (br (fun b => some (AV.tup [AV.agg [AV.fl [.int .i64] (v127_0 a0_0 a0_1 a0_2), AV.fl [.int .i64] (v127_1 a0_0 a0_1 a0_2), AV.fl [.int .i64, .int .i64] (bif b then (v127_2 a0_0 a0_1 a0_2) else p24.2 ++ ([AV.agg [AV.int .i64 a1_0, AV.int .i64 a1_1]]))], AV.bool (bif b then false else true)])) (brL1 (fun _ => rfl)) (fun _ => rfl)))))) (brL (br (fun b => some (AV.tup [AV.agg [AV.fl [.int .i64] (v127_0 a0_0 a0_1 a0_2), AV.fl [.int .i64] (v127_1 a0_0 a0_1 a0_2), AV.fl [.int .i64, .int .i64] (bif b then (v127_2 a0_0 a0_1 a0_2) else (bif !(v67_0 (v127_0 a0_0 a0_1 a0_2) (v127_1 a0_0 a0_1 a0_2) p24.2) then (v127_2 a0_0 a0_1 a0_2) else p24.2))], AV.bool (bif b then false else (bif !(v67_0 (v127_0 a0_0 a0_1 a0_2) (v127_1 a0_0 a0_1 a0_2) p24.2) then false else true))])) (brL1 (fun _ => rfl)) (brL (br (fun b => some (AV.tup [AV.agg [AV.fl [.int .i64] (v127_0 a0_0 a0_1 a0_2), AV.fl [.int .i64] (v127_1 a0_0 a0_1 a0_2), AV.fl [.int .i64, .int .i64] (bif b then (v127_2 a0_0 a0_1 a0_2) else p24.2)], AV.bool (bif b then false else true)])) (brL1 (fun _ => rfl)) (fun _ => rfl))))))))) h)
def m111 : TModel
  | [.agg [.sl g0 a0_0, .sl g1 a0_1, .sl g2 a0_2], .agg [.int .i64 a1_0, .int .i64 a1_1]] => bif ctsEq g0 ([.int .i64]) && ctsEq g1 ([.int .i64]) && ctsEq g2 ([.int .i64, .int .i64]) then some (q111 a0_0 a0_1 a0_2 a1_0 a1_1, AV.tup [AV.agg [AV.fl [.int .i64] (v111_0 a0_0 a0_1 a0_2 a1_0 a1_1), AV.fl [.int .i64] (v111_1 a0_0 a0_1 a0_2 a1_0 a1_1), AV.fl [.int .i64, .int .i64] (v111_2 a0_0 a0_1 a0_2 a1_0 a1_1)], AV.bool (v111_3 a0_0 a0_1 a0_2 a1_0 a1_1)]) else none
  | _ => none
theorem k111 : Known Try.prog 111 := ⟨Try.f111, Try.func111, by kernel_rfl, by kernel_rfl⟩
theorem meets111 : Meets Try.prog 111 m111 := by
  refine meet (f := Try.f111) (l := [(0, sub [1, 1, 1, 1, 0, 1, 0, 0] (body Try.f111))]) (hs := [(111, 0, [2, 3, 4, 6, 7, 8]), (111, 999, [4, 5]), (111, 1000, [2, 3, 4, 6, 7]), (111, 1001, [2, 3, 4, 6, 7, 8])]) (ts := [(67, m67), (127, m127)]) (ws := []) (is := []) (ls := [(111, 0, l111_0)]) (lvl := 0) mixed k111 Try.func111 (by kernel_rfl) (loops_cons ok111_0 noLoop) (allT_cons meets67 (allT_cons meets127 allT_nil)) allM_nil noI fun w xs us r hl hv h => ?_
  unfold m111 at h
  split at h
  · rename_i g0 a0_0 g1 a0_1 g2 a0_2 a1_0 a1_1
    obtain ⟨hg, h⟩ := bif_pair h
    simp only [Bool.and_eq_true] at hg
    obtain ⟨⟨q0, q1⟩, q2⟩ := hg
    obtain rfl := ctsEq_eq _ _ q0
    obtain rfl := ctsEq_eq _ _ q1
    obtain rfl := ctsEq_eq _ _ q2
    obtain ⟨h1, rfl⟩ := pair_inj h
    exact r111 a0_0 a0_1 a0_2 a1_0 a1_1 h1
  · cases h

/-! ### 112 loop.example/g01984/spec.UndoSwaps -/
def F112_0 (t1 : List AV) (h0_0 : List AV) (h0_1 : List AV) (h0_2 : List AV) (t7 : Int) (h2 : List AV) : Out ((Int × (List AV))) (((List AV))) := (bif decide (t7 ≥ 0) then (bif (decide (0 ≤ t7) && decide (t7 < (t1.length : Int))) then (bif (decide ((h2.length + ([AV.agg [AV.int .i64 (fI (t1.getD t7.toNat AV.undef) 0), AV.int .i64 (fI (t1.getD t7.toNat AV.undef) 1)]]).length) * 16 ≤ 140737488355328) && decide ((h2.length + ([AV.agg [AV.int .i64 (fI (t1.getD t7.toNat AV.undef) 0), AV.int .i64 (fI (t1.getD t7.toNat AV.undef) 1)]]).length) ≤ 140737488355328)) then .next (IntKind.i64.wrap (t7 - 1), h2 ++ ([AV.agg [AV.int .i64 (fI (t1.getD t7.toNat AV.undef) 0), AV.int .i64 (fI (t1.getD t7.toNat AV.undef) 1)]]))
    else .fail)
   else .fail)
  else .stop h2)
def R112_0 (t1 : List AV) (h0_0 : List AV) (h0_1 : List AV) (h0_2 : List AV) : ((Int × (List AV))) → Out ((Int × (List AV))) (((List AV))) := fun s : Int × (List AV) => F112_0 t1 h0_0 h0_1 h0_2 s.1 s.2
def l112_0 : LModel := fun _ _ st k => match st with
  | ⟨[(1, .sl g0 t1), (2, .ptr g1 g2 g3), (4, .ptr g4 g5 g6), (6, .own g7), (7, .int .i64 t7)], [(g8, ⟨true, [], [.agg [.sl g9 h0_0, .sl g10 h0_1, .sl g11 h0_2]]⟩), (g12, ⟨true, [], [.agg [.snil, .snil, .snil]]⟩), (g13, ⟨false, g14, h2⟩)]⟩ => bif ctsEq g0 ([.int .i64, .int .i64]) && nmEq g1 ([0, 2]) && Nat.beq g2 0 && Nat.beq g3 0 && nmEq g4 ([0, 4]) && Nat.beq g5 0 && Nat.beq g6 0 && nmEq g7 ([0, 6]) && nmEq g8 ([0, 2]) && ctsEq g9 ([.int .i64]) && ctsEq g10 ([.int .i64]) && ctsEq g11 ([.int .i64, .int .i64]) && nmEq g12 ([0, 4]) && nmEq g13 ([0, 6]) && ctsEq g14 ([.int .i64, .int .i64]) then ro (runW (R112_0 t1 h0_0 h0_1 h0_2) ((t7 - 0 + 1).toNat + 1) (t7, h2)) none (fun p : (List AV) => k (.exit 0) ⟨[(2, AV.ptr [0, 2] 0 0), (4, AV.ptr [0, 4] 0 0), (6, AV.own [0, 6])], [([0, 2], ⟨true, [], [AV.agg [AV.sl [.int .i64] h0_0, AV.sl [.int .i64] h0_1, AV.sl [.int .i64, .int .i64] h0_2]]⟩), ([0, 4], ⟨true, [], [AV.agg [AV.snil, AV.snil, AV.snil]]⟩), ([0, 6], ⟨false, [.int .i64, .int .i64], p⟩)]⟩) else none
  | _ => none
noncomputable def c112 : Cfg := cfg Try.prog [(112, 0, [1, 2, 4, 6, 7]), (112, 999, [4, 5]), (112, 1000, [2, 4, 6]), (112, 1001, [1, 2, 4, 6, 7])] [(110, m110)] [] [] [(112, 0, l112_0)]
theorem s112_0 (ce : CallE) (t1 : List AV) (t7 : Int) (h0_0 : List AV) (h0_1 : List AV) (h0_2 : List AV) (h2 : List AV) (next : St → Option AV) (k : Kont) : stepA (codeA c112 ce [] 112 0 (sub [1, 1, 0, 1, 0, 0] (body Try.f112))) (normA [] [1, 2, 4, 6, 7]) next ⟨[(1, AV.sl [.int .i64, .int .i64] t1), (2, AV.ptr [0, 2] 0 0), (4, AV.ptr [0, 4] 0 0), (6, AV.own [0, 6]), (7, AV.int .i64 t7)], [([0, 2], ⟨true, [], [AV.agg [AV.sl [.int .i64] h0_0, AV.sl [.int .i64] h0_1, AV.sl [.int .i64, .int .i64] h0_2]]⟩), ([0, 4], ⟨true, [], [AV.agg [AV.snil, AV.snil, AV.snil]]⟩), ([0, 6], ⟨false, [.int .i64, .int .i64], h2⟩)]⟩ k = (bif decide (t7 ≥ 0) then (bif (decide (0 ≤ t7) && decide (t7 < (t1.length : Int))) then (bif (decide ((h2.length + ([AV.agg [AV.int .i64 (fI (t1.getD t7.toNat AV.undef) 0), AV.int .i64 (fI (t1.getD t7.toNat AV.undef) 1)]]).length) * 16 ≤ 140737488355328) && decide ((h2.length + ([AV.agg [AV.int .i64 (fI (t1.getD t7.toNat AV.undef) 0), AV.int .i64 (fI (t1.getD t7.toNat AV.undef) 1)]]).length) ≤ 140737488355328)) then next ⟨[(1, AV.sl [.int .i64, .int .i64] t1), (2, AV.ptr [0, 2] 0 0), (4, AV.ptr [0, 4] 0 0), (6, AV.own [0, 6]), (7, AV.int .i64 (IntKind.i64.wrap (t7 - 1)))], [([0, 2], ⟨true, [], [AV.agg [AV.sl [.int .i64] h0_0, AV.sl [.int .i64] h0_1, AV.sl [.int .i64, .int .i64] h0_2]]⟩), ([0, 4], ⟨true, [], [AV.agg [AV.snil, AV.snil, AV.snil]]⟩), ([0, 6], ⟨false, [.int .i64, .int .i64], h2 ++ ([AV.agg [AV.int .i64 (fI (t1.getD t7.toNat AV.undef) 0), AV.int .i64 (fI (t1.getD t7.toNat AV.undef) 1)]])⟩)]⟩
    else none)
   else none)
  else k (.exit 0) ⟨[(2, AV.ptr [0, 2] 0 0), (4, AV.ptr [0, 4] 0 0), (6, AV.own [0, 6])], [([0, 2], ⟨true, [], [AV.agg [AV.sl [.int .i64] h0_0, AV.sl [.int .i64] h0_1, AV.sl [.int .i64, .int .i64] h0_2]]⟩), ([0, 4], ⟨true, [], [AV.agg [AV.snil, AV.snil, AV.snil]]⟩), ([0, 6], ⟨false, [.int .i64, .int .i64], h2⟩)]⟩) := by kernel_rfl
theorem st112_0 (t1 : List AV) (h0_0 : List AV) (h0_1 : List AV) (h0_2 : List AV) (ce : CallE) (k : Kont) (s : (Int × (List AV))) (next : St → Option AV) : stepA (codeA c112 ce [] 112 0 (sub [1, 1, 0, 1, 0, 0] (body Try.f112))) (normA [] [1, 2, 4, 6, 7]) next ((fun s : Int × (List AV) => ⟨[(1, AV.sl [.int .i64, .int .i64] t1), (2, AV.ptr [0, 2] 0 0), (4, AV.ptr [0, 4] 0 0), (6, AV.own [0, 6]), (7, AV.int .i64 s.1)], [([0, 2], ⟨true, [], [AV.agg [AV.sl [.int .i64] h0_0, AV.sl [.int .i64] h0_1, AV.sl [.int .i64, .int .i64] h0_2]]⟩), ([0, 4], ⟨true, [], [AV.agg [AV.snil, AV.snil, AV.snil]]⟩), ([0, 6], ⟨false, [.int .i64, .int .i64], s.2⟩)]⟩) s) k = (R112_0 t1 h0_0 h0_1 h0_2 s).el none (fun s => next ((fun s : Int × (List AV) => ⟨[(1, AV.sl [.int .i64, .int .i64] t1), (2, AV.ptr [0, 2] 0 0), (4, AV.ptr [0, 4] 0 0), (6, AV.own [0, 6]), (7, AV.int .i64 s.1)], [([0, 2], ⟨true, [], [AV.agg [AV.sl [.int .i64] h0_0, AV.sl [.int .i64] h0_1, AV.sl [.int .i64, .int .i64] h0_2]]⟩), ([0, 4], ⟨true, [], [AV.agg [AV.snil, AV.snil, AV.snil]]⟩), ([0, 6], ⟨false, [.int .i64, .int .i64], s.2⟩)]⟩) s)) (fun p : (List AV) => k (.exit 0) ⟨[(2, AV.ptr [0, 2] 0 0), (4, AV.ptr [0, 4] 0 0), (6, AV.own [0, 6])], [([0, 2], ⟨true, [], [AV.agg [AV.sl [.int .i64] h0_0, AV.sl [.int .i64] h0_1, AV.sl [.int .i64, .int .i64] h0_2]]⟩), ([0, 4], ⟨true, [], [AV.agg [AV.snil, AV.snil, AV.snil]]⟩), ([0, 6], ⟨false, [.int .i64, .int .i64], p⟩)]⟩) := (s112_0 ce t1 s.1 h0_0 h0_1 h0_2 s.2 next k).trans (by unfold R112_0; unfold F112_0; simp only [el_cond, el_ro, el_sum, el_fail, el_next, el_stop] <;> rfl)
theorem ok112_0 {ce : CallE} : LoopOK c112 ce [] 112 0 (sub [1, 1, 0, 1, 0, 0] (body Try.f112)) := by
  intro m hm st k r h
  obtain rfl : l112_0 = m := Option.some.inj hm
  unfold l112_0 at h
  split at h
  · rename_i g0 t1 g1 g2 g3 g4 g5 g6 g7 t7 g8 g9 h0_0 g10 h0_1 g11 h0_2 g12 g13 g14 h2
    obtain ⟨hg, h⟩ := bif_some h
    simp only [Bool.and_eq_true] at hg
    obtain ⟨⟨⟨⟨⟨⟨⟨⟨⟨⟨⟨⟨⟨⟨q0, q1⟩, q2⟩, q3⟩, q4⟩, q5⟩, q6⟩, q7⟩, q8⟩, q9⟩, q10⟩, q11⟩, q12⟩, q13⟩, q14⟩ := hg
    obtain rfl := ctsEq_eq _ _ q0
    obtain rfl := (nmEq_iff _ _).1 q1
    obtain rfl := Nat.eq_of_beq_eq_true q2
    obtain rfl := Nat.eq_of_beq_eq_true q3
    obtain rfl := (nmEq_iff _ _).1 q4
    obtain rfl := Nat.eq_of_beq_eq_true q5
    obtain rfl := Nat.eq_of_beq_eq_true q6
    obtain rfl := (nmEq_iff _ _).1 q7
    obtain rfl := (nmEq_iff _ _).1 q8
    obtain rfl := ctsEq_eq _ _ q9
    obtain rfl := ctsEq_eq _ _ q10
    obtain rfl := ctsEq_eq _ _ q11
    obtain rfl := (nmEq_iff _ _).1 q12
    obtain rfl := (nmEq_iff _ _).1 q13
    obtain rfl := ctsEq_eq _ _ q14
    refine ⟨((t7 - 0 + 1).toNat + 1), ?_⟩
    rw [← h]
    exact loop_run (fun s : Int × (List AV) => ⟨[(1, AV.sl [.int .i64, .int .i64] t1), (2, AV.ptr [0, 2] 0 0), (4, AV.ptr [0, 4] 0 0), (6, AV.own [0, 6]), (7, AV.int .i64 s.1)], [([0, 2], ⟨true, [], [AV.agg [AV.sl [.int .i64] h0_0, AV.sl [.int .i64] h0_1, AV.sl [.int .i64, .int .i64] h0_2]]⟩), ([0, 4], ⟨true, [], [AV.agg [AV.snil, AV.snil, AV.snil]]⟩), ([0, 6], ⟨false, [.int .i64, .int .i64], s.2⟩)]⟩) (fun p : (List AV) => k (.exit 0) ⟨[(2, AV.ptr [0, 2] 0 0), (4, AV.ptr [0, 4] 0 0), (6, AV.own [0, 6])], [([0, 2], ⟨true, [], [AV.agg [AV.sl [.int .i64] h0_0, AV.sl [.int .i64] h0_1, AV.sl [.int .i64, .int .i64] h0_2]]⟩), ([0, 4], ⟨true, [], [AV.agg [AV.snil, AV.snil, AV.snil]]⟩), ([0, 6], ⟨false, [.int .i64, .int .i64], p⟩)]⟩) (st112_0 t1 h0_0 h0_1 h0_2 ce k) _ (t7, h2)
  · cases h
def q112 (a0_0 : List AV) (a0_1 : List AV) (a0_2 : List AV) (a1 : List AV) : Bool := (ro (runW (R112_0 a1 a0_0 a0_1 a0_2) (((IntKind.i64.wrap ((a1.length : Int) - 1)) - 0 + 1).toNat + 1) (IntKind.i64.wrap ((a1.length : Int) - 1), ([] : List AV))) false (fun p26 => q110 a0_0 a0_1 a0_2 p26))
def v112_0 (a0_0 : List AV) (a0_1 : List AV) (a0_2 : List AV) (a1 : List AV) : List AV := (ro (runW (R112_0 a1 a0_0 a0_1 a0_2) (((IntKind.i64.wrap ((a1.length : Int) - 1)) - 0 + 1).toNat + 1) (IntKind.i64.wrap ((a1.length : Int) - 1), ([] : List AV))) [] (fun p26 => (v110_0 a0_0 a0_1 a0_2 p26)))
def v112_1 (a0_0 : List AV) (a0_1 : List AV) (a0_2 : List AV) (a1 : List AV) : List AV := (ro (runW (R112_0 a1 a0_0 a0_1 a0_2) (((IntKind.i64.wrap ((a1.length : Int) - 1)) - 0 + 1).toNat + 1) (IntKind.i64.wrap ((a1.length : Int) - 1), ([] : List AV))) [] (fun p26 => (v110_1 a0_0 a0_1 a0_2 p26)))
def v112_2 (a0_0 : List AV) (a0_1 : List AV) (a0_2 : List AV) (a1 : List AV) : List AV := (ro (runW (R112_0 a1 a0_0 a0_1 a0_2) (((IntKind.i64.wrap ((a1.length : Int) - 1)) - 0 + 1).toNat + 1) (IntKind.i64.wrap ((a1.length : Int) - 1), ([] : List AV))) [] (fun p26 => (v110_2 a0_0 a0_1 a0_2 p26)))
def v112_3 (a0_0 : List AV) (a0_1 : List AV) (a0_2 : List AV) (a1 : List AV) : Bool := (ro (runW (R112_0 a1 a0_0 a0_1 a0_2) (((IntKind.i64.wrap ((a1.length : Int) - 1)) - 0 + 1).toNat + 1) (IntKind.i64.wrap ((a1.length : Int) - 1), ([] : List AV))) false (fun p26 => (v110_3 a0_0 a0_1 a0_2 p26)))
theorem e112 (a0_0 : List AV) (a0_1 : List AV) (a0_2 : List AV) (a1 : List AV) : funA c112 0 112 [AV.agg [AV.sl [.int .i64] a0_0, AV.sl [.int .i64] a0_1, AV.sl [.int .i64, .int .i64] a0_2], AV.sl [.int .i64, .int .i64] a1] = (ro (runW (R112_0 a1 a0_0 a0_1 a0_2) (((IntKind.i64.wrap ((a1.length : Int) - 1)) - 0 + 1).toNat + 1) (IntKind.i64.wrap ((a1.length : Int) - 1), ([] : List AV))) none (fun p26 => (bif q110 a0_0 a0_1 a0_2 p26 then some (AV.tup [AV.agg [AV.fl [.int .i64] (v110_0 a0_0 a0_1 a0_2 p26), AV.fl [.int .i64] (v110_1 a0_0 a0_1 a0_2 p26), AV.fl [.int .i64, .int .i64] (v110_2 a0_0 a0_1 a0_2 p26)], AV.bool (v110_3 a0_0 a0_1 a0_2 p26)])
   else none))) := by kernel_rfl
theorem r112 (a0_0 : List AV) (a0_1 : List AV) (a0_2 : List AV) (a1 : List AV) (h : q112 a0_0 a0_1 a0_2 a1 = true) : funA c112 0 112 [AV.agg [AV.sl [.int .i64] a0_0, AV.sl [.int .i64] a0_1, AV.sl [.int .i64, .int .i64] a0_2], AV.sl [.int .i64, .int .i64] a1] = some (AV.tup [AV.agg [AV.fl [.int .i64] (v112_0 a0_0 a0_1 a0_2 a1), AV.fl [.int .i64] (v112_1 a0_0 a0_1 a0_2 a1), AV.fl [.int .i64, .int .i64] (v112_2 a0_0 a0_1 a0_2 a1)], AV.bool (v112_3 a0_0 a0_1 a0_2 a1)]) := (e112 a0_0 a0_1 a0_2 a1).trans ((brO (fun o : Option (((List AV))) => some (AV.tup [AV.agg [AV.fl [.int .i64] (ro o [] (fun p26 => (v110_0 a0_0 a0_1 a0_2 p26))), AV.fl [.int .i64] (ro o [] (fun p26 => (v110_1 a0_0 a0_1 a0_2 p26))), AV.fl [.int .i64, .int .i64] (ro o [] (fun p26 => (v110_2 a0_0 a0_1 a0_2 p26)))], AV.bool (ro o false (fun p26 => (v110_3 a0_0 a0_1 a0_2 p26)))])) (fun p26 => (brL1 (fun _ => rfl)))) h)
def m112 : TModel
  | [.agg [.sl g0 a0_0, .sl g1 a0_1, .sl g2 a0_2], .sl g3 a1] => bif ctsEq g0 ([.int .i64]) && ctsEq g1 ([.int .i64]) && ctsEq g2 ([.int .i64, .int .i64]) && ctsEq g3 ([.int .i64, .int .i64]) then some (q112 a0_0 a0_1 a0_2 a1, AV.tup [AV.agg [AV.fl [.int .i64] (v112_0 a0_0 a0_1 a0_2 a1), AV.fl [.int .i64] (v112_1 a0_0 a0_1 a0_2 a1), AV.fl [.int .i64, .int .i64] (v112_2 a0_0 a0_1 a0_2 a1)], AV.bool (v112_3 a0_0 a0_1 a0_2 a1)]) else none
  | _ => none
theorem k112 : Known Try.prog 112 := ⟨Try.f112, Try.func112, by kernel_rfl, by kernel_rfl⟩
theorem meets112 : Meets Try.prog 112 m112 := by
  refine meet (f := Try.f112) (l := [(0, sub [1, 1, 0, 1, 0, 0] (body Try.f112))]) (hs := [(112, 0, [1, 2, 4, 6, 7]), (112, 999, [4, 5]), (112, 1000, [2, 4, 6]), (112, 1001, [1, 2, 4, 6, 7])]) (ts := [(110, m110)]) (ws := []) (is := []) (ls := [(112, 0, l112_0)]) (lvl := 0) mixed k112 Try.func112 (by kernel_rfl) (loops_cons ok112_0 noLoop) (allT_cons meets110 allT_nil) allM_nil noI fun w xs us r hl hv h => ?_
  unfold m112 at h
  split at h
  · rename_i g0 a0_0 g1 a0_1 g2 a0_2 g3 a1
    obtain ⟨hg, h⟩ := bif_pair h
    simp only [Bool.and_eq_true] at hg
    obtain ⟨⟨⟨q0, q1⟩, q2⟩, q3⟩ := hg
    obtain rfl := ctsEq_eq _ _ q0
    obtain rfl := ctsEq_eq _ _ q1
    obtain rfl := ctsEq_eq _ _ q2
    obtain rfl := ctsEq_eq _ _ q3
    obtain ⟨h1, rfl⟩ := pair_inj h
    exact r112 a0_0 a0_1 a0_2 a1 h1
  · cases h
end Go.Proofs.Ytepfklcdpkpepaa
