/- The walk of what this claim reaches: printed by a program, each equation checked by the kernel. -/
import Derived.Test.YtdhhceamknidmaaVEzd
import Derived.Test.YtdhhceamknidmaaLAYP6
import Derived.Test.YtdhhceamknidmaaGL6
import Derived.Test.YtdhhceamknidmaaProg
import Derived.KernelRfl
namespace Go.Proofs.Ytdhhceamknidmaa
open Go Go.Proofs.VE
set_option linter.unusedVariables false
set_option linter.unusedSimpArgs false
set_option maxRecDepth 100000
set_option maxHeartbeats 4000000
theorem mixed : Try.prog.follows .mixedOrders = true := by kernel_rfl
/-! ### 79 loop.example/g01984/laws.szIntS -/
noncomputable def c79 : Cfg := cfg Try.prog [(79, 999, [4])] [] [] [] []
def q79 (a0 : List AV) (a1 : Int) : Bool := true
def v79_0 (a0 : List AV) (a1 : Int) : Int := (bif decide (IntKind.i64.wrap (a1 - (a0.length : Int)) < 0) then (-1) else IntKind.i64.wrap (a1 - (a0.length : Int)))
theorem e79 (a0 : List AV) (a1 : Int) : funA c79 0 79 [AV.sl [.int .i64] a0, AV.int .i64 a1] = (bif decide (IntKind.i64.wrap (a1 - (a0.length : Int)) < 0) then some (AV.int .i64 (-1))
  else some (AV.int .i64 (IntKind.i64.wrap (a1 - (a0.length : Int))))) := by kernel_rfl
theorem r79 (a0 : List AV) (a1 : Int) : funA c79 0 79 [AV.sl [.int .i64] a0, AV.int .i64 a1] = some (AV.int .i64 (v79_0 a0 a1)) := (e79 a0 a1).trans (of_tt (brT (fun b => some (AV.int .i64 (bif b then (-1) else IntKind.i64.wrap (a1 - (a0.length : Int))))) (fun _ => rfl) (fun _ => rfl)))
def m79 : TModel
  | [.sl g0 a0, .int .i64 a1] => bif ctsEq g0 ([.int .i64]) then some (true, AV.int .i64 (v79_0 a0 a1)) else none
  | _ => none
theorem k79 : Known Try.prog 79 := ⟨Try.f79, Try.func79, by kernel_rfl, by kernel_rfl⟩
theorem meets79 : Meets Try.prog 79 m79 := by
  refine meet (f := Try.f79) (l := []) (hs := [(79, 999, [4])]) (ts := []) (ws := []) (is := []) (ls := []) (lvl := 0) mixed k79 Try.func79 (by kernel_rfl) noLoop allT_nil allM_nil noI fun w xs us r hl hv h => ?_
  unfold m79 at h
  split at h
  · rename_i g0 a0 a1
    obtain ⟨hg, h⟩ := bif_pair h
    have q0 := hg
    obtain rfl := ctsEq_eq _ _ q0
    obtain ⟨h1, rfl⟩ := pair_inj h
    exact r79 a0 a1
  · cases h

/-! ### 88 loop.example/g01984/laws.szPivotS -/
noncomputable def c88 : Cfg := cfg Try.prog [(88, 999, [4])] [] [] [] []
def q88 (a0 : List AV) (a1 : Int) : Bool := true
def v88_0 (a0 : List AV) (a1 : Int) : Int := (bif decide (IntKind.i64.wrap (a1 - (a0.length : Int)) < 0) then (-1) else IntKind.i64.wrap (a1 - (a0.length : Int)))
theorem e88 (a0 : List AV) (a1 : Int) : funA c88 0 88 [AV.sl [.int .i64, .int .i64] a0, AV.int .i64 a1] = (bif decide (IntKind.i64.wrap (a1 - (a0.length : Int)) < 0) then some (AV.int .i64 (-1))
  else some (AV.int .i64 (IntKind.i64.wrap (a1 - (a0.length : Int))))) := by kernel_rfl
theorem r88 (a0 : List AV) (a1 : Int) : funA c88 0 88 [AV.sl [.int .i64, .int .i64] a0, AV.int .i64 a1] = some (AV.int .i64 (v88_0 a0 a1)) := (e88 a0 a1).trans (of_tt (brT (fun b => some (AV.int .i64 (bif b then (-1) else IntKind.i64.wrap (a1 - (a0.length : Int))))) (fun _ => rfl) (fun _ => rfl)))
def m88 : TModel
  | [.sl g0 a0, .int .i64 a1] => bif ctsEq g0 ([.int .i64, .int .i64]) then some (true, AV.int .i64 (v88_0 a0 a1)) else none
  | _ => none
theorem k88 : Known Try.prog 88 := ⟨Try.f88, Try.func88, by kernel_rfl, by kernel_rfl⟩
theorem meets88 : Meets Try.prog 88 m88 := by
  refine meet (f := Try.f88) (l := []) (hs := [(88, 999, [4])]) (ts := []) (ws := []) (is := []) (ls := []) (lvl := 0) mixed k88 Try.func88 (by kernel_rfl) noLoop allT_nil allM_nil noI fun w xs us r hl hv h => ?_
  unfold m88 at h
  split at h
  · rename_i g0 a0 a1
    obtain ⟨hg, h⟩ := bif_pair h
    have q0 := hg
    obtain rfl := ctsEq_eq _ _ q0
    obtain ⟨h1, rfl⟩ := pair_inj h
    exact r88 a0 a1
  · cases h

/-! ### 36 loop.example/g01984/laws.szCracker -/
noncomputable def c36 : Cfg := cfg Try.prog [(36, 999, [4])] [(79, m79), (88, m88)] [] [] []
def q36 (a0_0 : List AV) (a0_1 : List AV) (a0_2 : List AV) (a1 : Int) : Bool := true
def v36_0 (a0_0 : List AV) (a0_1 : List AV) (a0_2 : List AV) (a1 : Int) : Int := (bif decide ((v79_0 a0_0 a1) < 0) then (-1) else (bif decide ((v79_0 a0_1 (v79_0 a0_0 a1)) < 0) then (-1) else (bif decide ((v88_0 a0_2 (v79_0 a0_1 (v79_0 a0_0 a1))) < 0) then (-1) else (v88_0 a0_2 (v79_0 a0_1 (v79_0 a0_0 a1))))))
theorem e36 (a0_0 : List AV) (a0_1 : List AV) (a0_2 : List AV) (a1 : Int) : funA c36 0 36 [AV.agg [AV.sl [.int .i64] a0_0, AV.sl [.int .i64] a0_1, AV.sl [.int .i64, .int .i64] a0_2], AV.int .i64 a1] = (bif decide ((v79_0 a0_0 a1) < 0) then some (AV.int .i64 (-1))
  else (bif decide ((v79_0 a0_1 (v79_0 a0_0 a1)) < 0) then some (AV.int .i64 (-1))
  else (bif decide ((v88_0 a0_2 (v79_0 a0_1 (v79_0 a0_0 a1))) < 0) then some (AV.int .i64 (-1))
  else some (AV.int .i64 (v88_0 a0_2 (v79_0 a0_1 (v79_0 a0_0 a1))))))) := by kernel_rfl
theorem r36 (a0_0 : List AV) (a0_1 : List AV) (a0_2 : List AV) (a1 : Int) : funA c36 0 36 [AV.agg [AV.sl [.int .i64] a0_0, AV.sl [.int .i64] a0_1, AV.sl [.int .i64, .int .i64] a0_2], AV.int .i64 a1] = some (AV.int .i64 (v36_0 a0_0 a0_1 a0_2 a1)) := (e36 a0_0 a0_1 a0_2 a1).trans (of_tt (brT (fun b => some (AV.int .i64 (bif b then (-1) else (bif decide ((v79_0 a0_1 (v79_0 a0_0 a1)) < 0) then (-1) else (bif decide ((v88_0 a0_2 (v79_0 a0_1 (v79_0 a0_0 a1))) < 0) then (-1) else (v88_0 a0_2 (v79_0 a0_1 (v79_0 a0_0 a1)))))))) (fun _ => rfl) (brT (fun b => some (AV.int .i64 (bif b then (-1) else (bif decide ((v88_0 a0_2 (v79_0 a0_1 (v79_0 a0_0 a1))) < 0) then (-1) else (v88_0 a0_2 (v79_0 a0_1 (v79_0 a0_0 a1))))))) (fun _ => rfl) (brT (fun b => some (AV.int .i64 (bif b then (-1) else (v88_0 a0_2 (v79_0 a0_1 (v79_0 a0_0 a1)))))) (fun _ => rfl) (fun _ => rfl)))))
def m36 : TModel
  | [.agg [.sl g0 a0_0, .sl g1 a0_1, .sl g2 a0_2], .int .i64 a1] => bif ctsEq g0 ([.int .i64]) && ctsEq g1 ([.int .i64]) && ctsEq g2 ([.int .i64, .int .i64]) then some (true, AV.int .i64 (v36_0 a0_0 a0_1 a0_2 a1)) else none
  | _ => none
theorem k36 : Known Try.prog 36 := ⟨Try.f36, Try.func36, by kernel_rfl, by kernel_rfl⟩
theorem meets36 : Meets Try.prog 36 m36 := by
  refine meet (f := Try.f36) (l := []) (hs := [(36, 999, [4])]) (ts := [(79, m79), (88, m88)]) (ws := []) (is := []) (ls := []) (lvl := 0) mixed k36 Try.func36 (by kernel_rfl) noLoop (allT_cons meets79 (allT_cons meets88 allT_nil)) allM_nil noI fun w xs us r hl hv h => ?_
  unfold m36 at h
  split at h
  · rename_i g0 a0_0 g1 a0_1 g2 a0_2 a1
    obtain ⟨hg, h⟩ := bif_pair h
    simp only [Bool.and_eq_true] at hg
    obtain ⟨⟨q0, q1⟩, q2⟩ := hg
    obtain rfl := ctsEq_eq _ _ q0
    obtain rfl := ctsEq_eq _ _ q1
    obtain rfl := ctsEq_eq _ _ q2
    obtain ⟨h1, rfl⟩ := pair_inj h
    exact r36 a0_0 a0_1 a0_2 a1
  · cases h

/-! ### 27 loop.example/g01984/laws.toIntS -/
def F27_0 (t0 : List AV) (t4 : Int) (h0 : List AV) : Out ((Int × (List AV))) (((List AV))) := (bif decide (t4 < (t0.length : Int)) then (bif (decide (0 ≤ t4) && decide (t4 < (t0.length : Int))) then (bif (decide (0 ≤ t4) && decide (t4 < (h0.length : Int))) then .next (IntKind.i64.wrap (t4 + 1), h0.set t4.toNat (AV.agg [AV.int .i64 (fI (t0.getD t4.toNat AV.undef) 0)]))
  else .fail)
  else .fail)
  else .stop h0)
def R27_0 (t0 : List AV) : ((Int × (List AV))) → Out ((Int × (List AV))) (((List AV))) := fun s : Int × (List AV) => F27_0 t0 s.1 s.2
def l27_0 : LModel := fun _ _ st k => match st with
  | ⟨[(0, .sl g0 t0), (3, .own g1), (4, .int .i64 t4)], [(g2, ⟨false, g3, h0⟩)]⟩ => bif ctsEq g0 ([.int .i64]) && nmEq g1 ([0, 3]) && nmEq g2 ([0, 3]) && ctsEq g3 ([.int .i64]) then ro (runW (R27_0 t0) (((t0.length : Int) - t4 : Int).toNat + 1) (t4, h0)) none (fun p : (List AV) => k (.exit 0) ⟨[(3, AV.own [0, 3])], [([0, 3], ⟨false, [.int .i64], p⟩)]⟩) else none
  | _ => none
noncomputable def c27 : Cfg := cfg Try.prog [(27, 0, [0, 3, 4]), (27, 999, [2]), (27, 1000, [3]), (27, 1001, [0, 3, 4])] [] [] [] [(27, 0, l27_0)]
theorem s27_0 (ce : CallE) (t0 : List AV) (t4 : Int) (h0 : List AV) (next : St → Option AV) (k : Kont) : stepA (codeA c27 ce [] 27 0 (sub [1, 1, 0, 1, 0, 0] (body Try.f27))) (normA [] [0, 3, 4]) next ⟨[(0, AV.sl [.int .i64] t0), (3, AV.own [0, 3]), (4, AV.int .i64 t4)], [([0, 3], ⟨false, [.int .i64], h0⟩)]⟩ k = (bif decide (t4 < (t0.length : Int)) then (bif (decide (0 ≤ t4) && decide (t4 < (t0.length : Int))) then (bif (decide (0 ≤ t4) && decide (t4 < (h0.length : Int))) then next ⟨[(0, AV.sl [.int .i64] t0), (3, AV.own [0, 3]), (4, AV.int .i64 (IntKind.i64.wrap (t4 + 1)))], [([0, 3], ⟨false, [.int .i64], h0.set t4.toNat (AV.agg [AV.int .i64 (fI (t0.getD t4.toNat AV.undef) 0)])⟩)]⟩
  else none)
  else none)
  else k (.exit 0) ⟨[(3, AV.own [0, 3])], [([0, 3], ⟨false, [.int .i64], h0⟩)]⟩) := by kernel_rfl
theorem st27_0 (t0 : List AV) (ce : CallE) (k : Kont) (s : (Int × (List AV))) (next : St → Option AV) : stepA (codeA c27 ce [] 27 0 (sub [1, 1, 0, 1, 0, 0] (body Try.f27))) (normA [] [0, 3, 4]) next ((fun s : Int × (List AV) => ⟨[(0, AV.sl [.int .i64] t0), (3, AV.own [0, 3]), (4, AV.int .i64 s.1)], [([0, 3], ⟨false, [.int .i64], s.2⟩)]⟩) s) k = (R27_0 t0 s).el none (fun s => next ((fun s : Int × (List AV) => ⟨[(0, AV.sl [.int .i64] t0), (3, AV.own [0, 3]), (4, AV.int .i64 s.1)], [([0, 3], ⟨false, [.int .i64], s.2⟩)]⟩) s)) (fun p : (List AV) => k (.exit 0) ⟨[(3, AV.own [0, 3])], [([0, 3], ⟨false, [.int .i64], p⟩)]⟩) := (s27_0 ce t0 s.1 s.2 next k).trans (by unfold R27_0; unfold F27_0; simp only [el_cond, el_ro, el_sum, el_fail, el_next, el_stop] <;> rfl)
theorem ok27_0 {ce : CallE} : LoopOK c27 ce [] 27 0 (sub [1, 1, 0, 1, 0, 0] (body Try.f27)) := by
  intro m hm st k r h
  obtain rfl : l27_0 = m := Option.some.inj hm
  unfold l27_0 at h
  split at h
  · rename_i g0 t0 g1 t4 g2 g3 h0
    obtain ⟨hg, h⟩ := bif_some h
    simp only [Bool.and_eq_true] at hg
    obtain ⟨⟨⟨q0, q1⟩, q2⟩, q3⟩ := hg
    obtain rfl := ctsEq_eq _ _ q0
    obtain rfl := (nmEq_iff _ _).1 q1
    obtain rfl := (nmEq_iff _ _).1 q2
    obtain rfl := ctsEq_eq _ _ q3
    refine ⟨(((t0.length : Int) - t4 : Int).toNat + 1), ?_⟩
    rw [← h]
    exact loop_run (fun s : Int × (List AV) => ⟨[(0, AV.sl [.int .i64] t0), (3, AV.own [0, 3]), (4, AV.int .i64 s.1)], [([0, 3], ⟨false, [.int .i64], s.2⟩)]⟩) (fun p : (List AV) => k (.exit 0) ⟨[(3, AV.own [0, 3])], [([0, 3], ⟨false, [.int .i64], p⟩)]⟩) (st27_0 t0 ce k) _ (t4, h0)
  · cases h
def q27 (a0 : List AV) : Bool := ((decide (0 ≤ (a0.length : Int)) && decide ((a0.length : Int) ≤ (a0.length : Int)) && decide ((a0.length : Int) * 8 ≤ 140737488355328) && decide ((a0.length : Int) ≤ 140737488355328)) && (ro (runW (R27_0 a0) (((a0.length : Int) - 0 : Int).toNat + 1) (0, List.replicate (Int.toNat (a0.length : Int)) (AV.int .i64 0))) false (fun p1 => true)))
def v27_0 (a0 : List AV) : List AV := (ro (runW (R27_0 a0) (((a0.length : Int) - 0 : Int).toNat + 1) (0, List.replicate (Int.toNat (a0.length : Int)) (AV.int .i64 0))) [] (fun p1 => p1))
theorem e27 (a0 : List AV) : funA c27 0 27 [AV.sl [.int .i64] a0] = (bif (decide (0 ≤ (a0.length : Int)) && decide ((a0.length : Int) ≤ (a0.length : Int)) && decide ((a0.length : Int) * 8 ≤ 140737488355328) && decide ((a0.length : Int) ≤ 140737488355328)) then (ro (runW (R27_0 a0) (((a0.length : Int) - 0 : Int).toNat + 1) (0, List.replicate (Int.toNat (a0.length : Int)) (AV.int .i64 0))) none (fun p1 => some (AV.fl [.int .i64] p1)))
  else none) := by kernel_rfl
theorem r27 (a0 : List AV) (h : q27 a0 = true) : funA c27 0 27 [AV.sl [.int .i64] a0] = some (AV.fl [.int .i64] (v27_0 a0)) := (e27 a0).trans ((brL (brO (fun o : Option (((List AV))) => some (AV.fl [.int .i64] (ro o [] (fun p1 => p1)))) (fun p1 => (fun _ => rfl)))) h)
def m27 : TModel
  | [.sl g0 a0] => bif ctsEq g0 ([.int .i64]) then some (q27 a0, AV.fl [.int .i64] (v27_0 a0)) else none
  | _ => none
theorem k27 : Known Try.prog 27 := ⟨Try.f27, Try.func27, by kernel_rfl, by kernel_rfl⟩
theorem meets27 : Meets Try.prog 27 m27 := by
  refine meet (f := Try.f27) (l := [(0, sub [1, 1, 0, 1, 0, 0] (body Try.f27))]) (hs := [(27, 0, [0, 3, 4]), (27, 999, [2]), (27, 1000, [3]), (27, 1001, [0, 3, 4])]) (ts := []) (ws := []) (is := []) (ls := [(27, 0, l27_0)]) (lvl := 0) mixed k27 Try.func27 (by kernel_rfl) (loops_cons ok27_0 noLoop) allT_nil allM_nil noI fun w xs us r hl hv h => ?_
  unfold m27 at h
  split at h
  · rename_i g0 a0
    obtain ⟨hg, h⟩ := bif_pair h
    have q0 := hg
    obtain rfl := ctsEq_eq _ _ q0
    obtain ⟨h1, rfl⟩ := pair_inj h
    exact r27 a0 h1
  · cases h

/-! ### 121 loop.example/g01984/laws.toPivot -/
noncomputable def c121 : Cfg := cfg Try.prog [(121, 999, [2])] [] [] [] []
def q121 (a0_0 : Int) (a0_1 : Int) : Bool := true
def v121_0 (a0_0 : Int) (a0_1 : Int) : Int := a0_0
def v121_1 (a0_0 : Int) (a0_1 : Int) : Int := a0_1
theorem e121 (a0_0 : Int) (a0_1 : Int) : funA c121 0 121 [AV.agg [AV.int .i64 a0_0, AV.int .i64 a0_1]] = some (AV.agg [AV.int .i64 a0_0, AV.int .i64 a0_1]) := by kernel_rfl
theorem r121 (a0_0 : Int) (a0_1 : Int) : funA c121 0 121 [AV.agg [AV.int .i64 a0_0, AV.int .i64 a0_1]] = some (AV.agg [AV.int .i64 (v121_0 a0_0 a0_1), AV.int .i64 (v121_1 a0_0 a0_1)]) := (e121 a0_0 a0_1).trans (of_tt (fun _ => rfl))
def m121 : TModel
  | [.agg [.int .i64 a0_0, .int .i64 a0_1]] => some (true, AV.agg [AV.int .i64 (v121_0 a0_0 a0_1), AV.int .i64 (v121_1 a0_0 a0_1)])
  | _ => none
theorem k121 : Known Try.prog 121 := ⟨Try.f121, Try.func121, by kernel_rfl, by kernel_rfl⟩
theorem meets121 : Meets Try.prog 121 m121 := by
  refine meet (f := Try.f121) (l := []) (hs := [(121, 999, [2])]) (ts := []) (ws := []) (is := []) (ls := []) (lvl := 0) mixed k121 Try.func121 (by kernel_rfl) noLoop allT_nil allM_nil noI fun w xs us r hl hv h => ?_
  unfold m121 at h
  split at h
  · rename_i a0_0 a0_1
    obtain ⟨h1, rfl⟩ := pair_inj h
    exact r121 a0_0 a0_1
  · cases h

/-! ### 89 loop.example/g01984/laws.toPivotS -/
def F89_0 (t0 : List AV) (t4 : Int) (h0 : List AV) : Out ((Int × (List AV))) (((List AV))) := (bif decide (t4 < (t0.length : Int)) then (bif (decide (0 ≤ t4) && decide (t4 < (t0.length : Int))) then (bif (decide (0 ≤ t4) && decide (t4 < (h0.length : Int))) then .next (IntKind.i64.wrap (t4 + 1), h0.set t4.toNat (AV.agg [AV.int .i64 (v121_0 (fI (t0.getD t4.toNat AV.undef) 0) (fI (t0.getD t4.toNat AV.undef) 1)), AV.int .i64 (v121_1 (fI (t0.getD t4.toNat AV.undef) 0) (fI (t0.getD t4.toNat AV.undef) 1))]))
  else .fail)
  else .fail)
  else .stop h0)
def R89_0 (t0 : List AV) : ((Int × (List AV))) → Out ((Int × (List AV))) (((List AV))) := fun s : Int × (List AV) => F89_0 t0 s.1 s.2
def l89_0 : LModel := fun _ _ st k => match st with
  | ⟨[(0, .sl g0 t0), (3, .own g1), (4, .int .i64 t4)], [(g2, ⟨false, g3, h0⟩)]⟩ => bif ctsEq g0 ([.int .i64, .int .i64]) && nmEq g1 ([0, 3]) && nmEq g2 ([0, 3]) && ctsEq g3 ([.int .i64, .int .i64]) then ro (runW (R89_0 t0) (((t0.length : Int) - t4 : Int).toNat + 1) (t4, h0)) none (fun p : (List AV) => k (.exit 0) ⟨[(3, AV.own [0, 3])], [([0, 3], ⟨false, [.int .i64, .int .i64], p⟩)]⟩) else none
  | _ => none
noncomputable def c89 : Cfg := cfg Try.prog [(89, 0, [0, 3, 4]), (89, 999, [2]), (89, 1000, [3]), (89, 1001, [0, 3, 4])] [(121, m121)] [] [] [(89, 0, l89_0)]
theorem s89_0 (ce : CallE) (t0 : List AV) (t4 : Int) (h0 : List AV) (next : St → Option AV) (k : Kont) : stepA (codeA c89 ce [] 89 0 (sub [1, 1, 0, 1, 0, 0] (body Try.f89))) (normA [] [0, 3, 4]) next ⟨[(0, AV.sl [.int .i64, .int .i64] t0), (3, AV.own [0, 3]), (4, AV.int .i64 t4)], [([0, 3], ⟨false, [.int .i64, .int .i64], h0⟩)]⟩ k = (bif decide (t4 < (t0.length : Int)) then (bif (decide (0 ≤ t4) && decide (t4 < (t0.length : Int))) then (bif (decide (0 ≤ t4) && decide (t4 < (h0.length : Int))) then next ⟨[(0, AV.sl [.int .i64, .int .i64] t0), (3, AV.own [0, 3]), (4, AV.int .i64 (IntKind.i64.wrap (t4 + 1)))], [([0, 3], ⟨false, [.int .i64, .int .i64], h0.set t4.toNat (AV.agg [AV.int .i64 (v121_0 (fI (t0.getD t4.toNat AV.undef) 0) (fI (t0.getD t4.toNat AV.undef) 1)), AV.int .i64 (v121_1 (fI (t0.getD t4.toNat AV.undef) 0) (fI (t0.getD t4.toNat AV.undef) 1))])⟩)]⟩
  else none)
  else none)
  else k (.exit 0) ⟨[(3, AV.own [0, 3])], [([0, 3], ⟨false, [.int .i64, .int .i64], h0⟩)]⟩) := by kernel_rfl
theorem st89_0 (t0 : List AV) (ce : CallE) (k : Kont) (s : (Int × (List AV))) (next : St → Option AV) : stepA (codeA c89 ce [] 89 0 (sub [1, 1, 0, 1, 0, 0] (body Try.f89))) (normA [] [0, 3, 4]) next ((fun s : Int × (List AV) => ⟨[(0, AV.sl [.int .i64, .int .i64] t0), (3, AV.own [0, 3]), (4, AV.int .i64 s.1)], [([0, 3], ⟨false, [.int .i64, .int .i64], s.2⟩)]⟩) s) k = (R89_0 t0 s).el none (fun s => next ((fun s : Int × (List AV) => ⟨[(0, AV.sl [.int .i64, .int .i64] t0), (3, AV.own [0, 3]), (4, AV.int .i64 s.1)], [([0, 3], ⟨false, [.int .i64, .int .i64], s.2⟩)]⟩) s)) (fun p : (List AV) => k (.exit 0) ⟨[(3, AV.own [0, 3])], [([0, 3], ⟨false, [.int .i64, .int .i64], p⟩)]⟩) := (s89_0 ce t0 s.1 s.2 next k).trans (by unfold R89_0; unfold F89_0; simp only [el_cond, el_ro, el_sum, el_fail, el_next, el_stop] <;> rfl)
theorem ok89_0 {ce : CallE} : LoopOK c89 ce [] 89 0 (sub [1, 1, 0, 1, 0, 0] (body Try.f89)) := by
  intro m hm st k r h
  obtain rfl : l89_0 = m := Option.some.inj hm
  unfold l89_0 at h
  split at h
  · rename_i g0 t0 g1 t4 g2 g3 h0
    obtain ⟨hg, h⟩ := bif_some h
    simp only [Bool.and_eq_true] at hg
    obtain ⟨⟨⟨q0, q1⟩, q2⟩, q3⟩ := hg
    obtain rfl := ctsEq_eq _ _ q0
    obtain rfl := (nmEq_iff _ _).1 q1
    obtain rfl := (nmEq_iff _ _).1 q2
    obtain rfl := ctsEq_eq _ _ q3
    refine ⟨(((t0.length : Int) - t4 : Int).toNat + 1), ?_⟩
    rw [← h]
    exact loop_run (fun s : Int × (List AV) => ⟨[(0, AV.sl [.int .i64, .int .i64] t0), (3, AV.own [0, 3]), (4, AV.int .i64 s.1)], [([0, 3], ⟨false, [.int .i64, .int .i64], s.2⟩)]⟩) (fun p : (List AV) => k (.exit 0) ⟨[(3, AV.own [0, 3])], [([0, 3], ⟨false, [.int .i64, .int .i64], p⟩)]⟩) (st89_0 t0 ce k) _ (t4, h0)
  · cases h
def q89 (a0 : List AV) : Bool := ((decide (0 ≤ (a0.length : Int)) && decide ((a0.length : Int) ≤ (a0.length : Int)) && decide ((a0.length : Int) * 16 ≤ 140737488355328) && decide ((a0.length : Int) ≤ 140737488355328)) && (ro (runW (R89_0 a0) (((a0.length : Int) - 0 : Int).toNat + 1) (0, List.replicate (Int.toNat (a0.length : Int)) (AV.agg [AV.int .i64 0, AV.int .i64 0]))) false (fun p2 => true)))
def v89_0 (a0 : List AV) : List AV := (ro (runW (R89_0 a0) (((a0.length : Int) - 0 : Int).toNat + 1) (0, List.replicate (Int.toNat (a0.length : Int)) (AV.agg [AV.int .i64 0, AV.int .i64 0]))) [] (fun p2 => p2))
theorem e89 (a0 : List AV) : funA c89 0 89 [AV.sl [.int .i64, .int .i64] a0] = (bif (decide (0 ≤ (a0.length : Int)) && decide ((a0.length : Int) ≤ (a0.length : Int)) && decide ((a0.length : Int) * 16 ≤ 140737488355328) && decide ((a0.length : Int) ≤ 140737488355328)) then (ro (runW (R89_0 a0) (((a0.length : Int) - 0 : Int).toNat + 1) (0, List.replicate (Int.toNat (a0.length : Int)) (AV.agg [AV.int .i64 0, AV.int .i64 0]))) none (fun p2 => some (AV.fl [.int .i64, .int .i64] p2)))
  else none) := by kernel_rfl
theorem r89 (a0 : List AV) (h : q89 a0 = true) : funA c89 0 89 [AV.sl [.int .i64, .int .i64] a0] = some (AV.fl [.int .i64, .int .i64] (v89_0 a0)) := (e89 a0).trans ((brL (brO (fun o : Option (((List AV))) => some (AV.fl [.int .i64, .int .i64] (ro o [] (fun p2 => p2)))) (fun p2 => (fun _ => rfl)))) h)
def m89 : TModel
  | [.sl g0 a0] => bif ctsEq g0 ([.int .i64, .int .i64]) then some (q89 a0, AV.fl [.int .i64, .int .i64] (v89_0 a0)) else none
  | _ => none
theorem k89 : Known Try.prog 89 := ⟨Try.f89, Try.func89, by kernel_rfl, by kernel_rfl⟩
theorem meets89 : Meets Try.prog 89 m89 := by
  refine meet (f := Try.f89) (l := [(0, sub [1, 1, 0, 1, 0, 0] (body Try.f89))]) (hs := [(89, 0, [0, 3, 4]), (89, 999, [2]), (89, 1000, [3]), (89, 1001, [0, 3, 4])]) (ts := [(121, m121)]) (ws := []) (is := []) (ls := [(89, 0, l89_0)]) (lvl := 0) mixed k89 Try.func89 (by kernel_rfl) (loops_cons ok89_0 noLoop) (allT_cons meets121 allT_nil) allM_nil noI fun w xs us r hl hv h => ?_
  unfold m89 at h
  split at h
  · rename_i g0 a0
    obtain ⟨hg, h⟩ := bif_pair h
    have q0 := hg
    obtain rfl := ctsEq_eq _ _ q0
    obtain ⟨h1, rfl⟩ := pair_inj h
    exact r89 a0 h1
  · cases h

/-! ### 38 loop.example/g01984/laws.toCracker -/
noncomputable def c38 : Cfg := cfg Try.prog [(38, 999, [2])] [(27, m27), (89, m89)] [] [] []
def q38 (a0_0 : List AV) (a0_1 : List AV) (a0_2 : List AV) : Bool := (q27 a0_0 && (q27 a0_1 && q89 a0_2))
def v38_0 (a0_0 : List AV) (a0_1 : List AV) (a0_2 : List AV) : List AV := (v27_0 a0_0)
def v38_1 (a0_0 : List AV) (a0_1 : List AV) (a0_2 : List AV) : List AV := (v27_0 a0_1)
def v38_2 (a0_0 : List AV) (a0_1 : List AV) (a0_2 : List AV) : List AV := (v89_0 a0_2)
theorem e38 (a0_0 : List AV) (a0_1 : List AV) (a0_2 : List AV) : funA c38 0 38 [AV.agg [AV.sl [.int .i64] a0_0, AV.sl [.int .i64] a0_1, AV.sl [.int .i64, .int .i64] a0_2]] = (bif q27 a0_0 then (bif q27 a0_1 then (bif q89 a0_2 then some (AV.agg [AV.fl [.int .i64] (v27_0 a0_0), AV.fl [.int .i64] (v27_0 a0_1), AV.fl [.int .i64, .int .i64] (v89_0 a0_2)])
  else none)
  else none)
  else none) := by kernel_rfl
theorem r38 (a0_0 : List AV) (a0_1 : List AV) (a0_2 : List AV) (h : q38 a0_0 a0_1 a0_2 = true) : funA c38 0 38 [AV.agg [AV.sl [.int .i64] a0_0, AV.sl [.int .i64] a0_1, AV.sl [.int .i64, .int .i64] a0_2]] = some (AV.agg [AV.fl [.int .i64] (v38_0 a0_0 a0_1 a0_2), AV.fl [.int .i64] (v38_1 a0_0 a0_1 a0_2), AV.fl [.int .i64, .int .i64] (v38_2 a0_0 a0_1 a0_2)]) := (e38 a0_0 a0_1 a0_2).trans ((brL (brL (brL1 (fun _ => rfl)))) h)
def m38 : TModel
  | [.agg [.sl g0 a0_0, .sl g1 a0_1, .sl g2 a0_2]] => bif ctsEq g0 ([.int .i64]) && ctsEq g1 ([.int .i64]) && ctsEq g2 ([.int .i64, .int .i64]) then some (q38 a0_0 a0_1 a0_2, AV.agg [AV.fl [.int .i64] (v38_0 a0_0 a0_1 a0_2), AV.fl [.int .i64] (v38_1 a0_0 a0_1 a0_2), AV.fl [.int .i64, .int .i64] (v38_2 a0_0 a0_1 a0_2)]) else none
  | _ => none
theorem k38 : Known Try.prog 38 := ⟨Try.f38, Try.func38, by kernel_rfl, by kernel_rfl⟩
theorem meets38 : Meets Try.prog 38 m38 := by
  refine meet (f := Try.f38) (l := []) (hs := [(38, 999, [2])]) (ts := [(27, m27), (89, m89)]) (ws := []) (is := []) (ls := []) (lvl := 0) mixed k38 Try.func38 (by kernel_rfl) noLoop (allT_cons meets27 (allT_cons meets89 allT_nil)) allM_nil noI fun w xs us r hl hv h => ?_
  unfold m38 at h
  split at h
  · rename_i g0 a0_0 g1 a0_1 g2 a0_2
    obtain ⟨hg, h⟩ := bif_pair h
    simp only [Bool.and_eq_true] at hg
    obtain ⟨⟨q0, q1⟩, q2⟩ := hg
    obtain rfl := ctsEq_eq _ _ q0
    obtain rfl := ctsEq_eq _ _ q1
    obtain rfl := ctsEq_eq _ _ q2
    obtain ⟨h1, rfl⟩ := pair_inj h
    exact r38 a0_0 a0_1 a0_2 h1
  · cases h

/-! ### 67 loop.example/g01984/spec.l1In -/
noncomputable def c67 : Cfg := cfg Try.prog [(67, 999, [6])] [] [] [] []
def q67 (a0 : Int) (a1 : Int) (a2 : Int) : Bool := true
def v67_0 (a0 : Int) (a1 : Int) (a2 : Int) : Bool := (bif decide (a0 ≥ a1) then decide (a0 ≤ a2) else false)
theorem e67 (a0 : Int) (a1 : Int) (a2 : Int) : funA c67 0 67 [AV.int .i64 a0, AV.int .i64 a1, AV.int .i64 a2] = (bif decide (a0 ≥ a1) then some (AV.bool (decide (a0 ≤ a2)))
  else some (AV.bool false)) := by kernel_rfl
theorem r67 (a0 : Int) (a1 : Int) (a2 : Int) : funA c67 0 67 [AV.int .i64 a0, AV.int .i64 a1, AV.int .i64 a2] = some (AV.bool (v67_0 a0 a1 a2)) := (e67 a0 a1 a2).trans (of_tt (brT (fun b => some (AV.bool (bif b then decide (a0 ≤ a2) else false))) (fun _ => rfl) (fun _ => rfl)))
def m67 : TModel
  | [.int .i64 a0, .int .i64 a1, .int .i64 a2] => some (true, AV.bool (v67_0 a0 a1 a2))
  | _ => none
theorem k67 : Known Try.prog 67 := ⟨Try.f67, Try.func67, by kernel_rfl, by kernel_rfl⟩
theorem meets67 : Meets Try.prog 67 m67 := by
  refine meet (f := Try.f67) (l := []) (hs := [(67, 999, [6])]) (ts := []) (ws := []) (is := []) (ls := []) (lvl := 0) mixed k67 Try.func67 (by kernel_rfl) noLoop allT_nil allM_nil noI fun w xs us r hl hv h => ?_
  unfold m67 at h
  split at h
  · rename_i a0 a1 a2
    obtain ⟨h1, rfl⟩ := pair_inj h
    exact r67 a0 a1 a2
  · cases h

/-! ### 81 loop.example/g01984/spec.AreValues -/
def F81_0 (t0 : List AV) (t3 : Int) : Out (Int) (Unit ⊕ Unit) := (bif decide (t3 < (t0.length : Int)) then (bif (decide (0 ≤ t3) && decide (t3 < (t0.length : Int))) then (bif !(v67_0 (fI (t0.getD t3.toNat AV.undef) 0) (-999) 999) then .stop (.inr ())
  else .next (IntKind.i64.wrap (t3 + 1)))
  else .fail)
  else .stop (.inl ()))
def R81_0 (t0 : List AV) : (Int) → Out (Int) (Unit ⊕ Unit) := fun s : Int => F81_0 t0 s
def l81_0 : LModel := fun _ _ st k => match st with
  | ⟨[(0, .sl g0 t0), (3, .int .i64 t3)], []⟩ => bif ctsEq g0 ([.int .i64]) then ro (runW (R81_0 t0) (((t0.length : Int) - t3 : Int).toNat + 1) t3) none (sumE (fun _ : Unit => k (.exit 0) ⟨[(0, AV.sl [.int .i64] t0)], []⟩) (fun _ : Unit => k .ret ⟨[(2, AV.bool false)], []⟩)) else none
  | _ => none
noncomputable def c81 : Cfg := cfg Try.prog [(81, 0, [0, 3]), (81, 999, [2]), (81, 1000, [0]), (81, 1001, [0, 3])] [(67, m67)] [] [] [(81, 0, l81_0)]
theorem s81_0 (ce : CallE) (t0 : List AV) (t3 : Int) (next : St → Option AV) (k : Kont) : stepA (codeA c81 ce [] 81 0 (sub [1, 0, 1, 0, 0] (body Try.f81))) (normA [] [0, 3]) next ⟨[(0, AV.sl [.int .i64] t0), (3, AV.int .i64 t3)], []⟩ k = (bif decide (t3 < (t0.length : Int)) then (bif (decide (0 ≤ t3) && decide (t3 < (t0.length : Int))) then (bif !(v67_0 (fI (t0.getD t3.toNat AV.undef) 0) (-999) 999) then k .ret ⟨[(2, AV.bool false)], []⟩
  else next ⟨[(0, AV.sl [.int .i64] t0), (3, AV.int .i64 (IntKind.i64.wrap (t3 + 1)))], []⟩)
  else none)
  else k (.exit 0) ⟨[(0, AV.sl [.int .i64] t0)], []⟩) := by kernel_rfl
theorem st81_0 (t0 : List AV) (ce : CallE) (k : Kont) (s : Int) (next : St → Option AV) : stepA (codeA c81 ce [] 81 0 (sub [1, 0, 1, 0, 0] (body Try.f81))) (normA [] [0, 3]) next ((fun s : Int => ⟨[(0, AV.sl [.int .i64] t0), (3, AV.int .i64 s)], []⟩) s) k = (R81_0 t0 s).el none (fun s => next ((fun s : Int => ⟨[(0, AV.sl [.int .i64] t0), (3, AV.int .i64 s)], []⟩) s)) (sumE (fun _ : Unit => k (.exit 0) ⟨[(0, AV.sl [.int .i64] t0)], []⟩) (fun _ : Unit => k .ret ⟨[(2, AV.bool false)], []⟩)) := (s81_0 ce t0 s next k).trans (by unfold R81_0; unfold F81_0; simp only [el_cond, el_ro, el_sum, el_fail, el_next, el_stop] <;> rfl)
theorem ok81_0 {ce : CallE} : LoopOK c81 ce [] 81 0 (sub [1, 0, 1, 0, 0] (body Try.f81)) := by
  intro m hm st k r h
  obtain rfl : l81_0 = m := Option.some.inj hm
  unfold l81_0 at h
  split at h
  · rename_i g0 t0 t3
    obtain ⟨hg, h⟩ := bif_some h
    have q0 := hg
    obtain rfl := ctsEq_eq _ _ q0
    refine ⟨(((t0.length : Int) - t3 : Int).toNat + 1), ?_⟩
    rw [← h]
    exact loop_run (fun s : Int => ⟨[(0, AV.sl [.int .i64] t0), (3, AV.int .i64 s)], []⟩) (sumE (fun _ : Unit => k (.exit 0) ⟨[(0, AV.sl [.int .i64] t0)], []⟩) (fun _ : Unit => k .ret ⟨[(2, AV.bool false)], []⟩)) (st81_0 t0 ce k) _ t3
  · cases h
def q81 (a0 : List AV) : Bool := (ro (runW (R81_0 a0) (((a0.length : Int) - 0 : Int).toNat + 1) 0) false (sumE (fun _ => true) (fun _ => true)))
def v81_0 (a0 : List AV) : Bool := (ro (runW (R81_0 a0) (((a0.length : Int) - 0 : Int).toNat + 1) 0) false (sumE (fun _ => decide ((a0.length : Int) ≤ 64)) (fun _ => false)))
theorem e81 (a0 : List AV) : funA c81 0 81 [AV.sl [.int .i64] a0] = (ro (runW (R81_0 a0) (((a0.length : Int) - 0 : Int).toNat + 1) 0) none (sumE (fun _ => some (AV.bool (decide ((a0.length : Int) ≤ 64)))) (fun _ => some (AV.bool false)))) := by kernel_rfl
theorem r81 (a0 : List AV) (h : q81 a0 = true) : funA c81 0 81 [AV.sl [.int .i64] a0] = some (AV.bool (v81_0 a0)) := (e81 a0).trans ((brO (fun o : Option (Unit ⊕ Unit) => some (AV.bool (ro o false (sumE (fun _ => decide ((a0.length : Int) ≤ 64)) (fun _ => false))))) (brS (fun o : Unit ⊕ Unit => some (AV.bool ((sumE (fun _ => decide ((a0.length : Int) ≤ 64)) (fun _ => false)) o))) (fun _ => (fun _ => rfl)) (fun _ => (fun _ => rfl)))) h)
def m81 : TModel
  | [.sl g0 a0] => bif ctsEq g0 ([.int .i64]) then some (q81 a0, AV.bool (v81_0 a0)) else none
  | _ => none
theorem k81 : Known Try.prog 81 := ⟨Try.f81, Try.func81, by kernel_rfl, by kernel_rfl⟩
theorem meets81 : Meets Try.prog 81 m81 := by
  refine meet (f := Try.f81) (l := [(0, sub [1, 0, 1, 0, 0] (body Try.f81))]) (hs := [(81, 0, [0, 3]), (81, 999, [2]), (81, 1000, [0]), (81, 1001, [0, 3])]) (ts := [(67, m67)]) (ws := []) (is := []) (ls := [(81, 0, l81_0)]) (lvl := 0) mixed k81 Try.func81 (by kernel_rfl) (loops_cons ok81_0 noLoop) (allT_cons meets67 allT_nil) allM_nil noI fun w xs us r hl hv h => ?_
  unfold m81 at h
  split at h
  · rename_i g0 a0
    obtain ⟨hg, h⟩ := bif_pair h
    have q0 := hg
    obtain rfl := ctsEq_eq _ _ q0
    obtain ⟨h1, rfl⟩ := pair_inj h
    exact r81 a0 h1
  · cases h

/-! ### 91 loop.example/g01984/spec.l4Has -/
def F91_0 (t0 : List AV) (t1 : Int) (t5 : Int) : Out (Int) (Unit ⊕ Unit) := (bif decide (t5 < (t0.length : Int)) then (bif (decide (0 ≤ t5) && decide (t5 < (t0.length : Int))) then (bif decide (fI (t0.getD t5.toNat AV.undef) 0 = t1) then .stop (.inr ())
  else .next (IntKind.i64.wrap (t5 + 1)))
  else .fail)
  else .stop (.inl ()))
def R91_0 (t0 : List AV) (t1 : Int) : (Int) → Out (Int) (Unit ⊕ Unit) := fun s : Int => F91_0 t0 t1 s
def l91_0 : LModel := fun _ _ st k => match st with
  | ⟨[(0, .sl g0 t0), (1, .int .i64 t1), (5, .int .i64 t5)], []⟩ => bif ctsEq g0 ([.int .i64]) then ro (runW (R91_0 t0 t1) (((t0.length : Int) - t5 : Int).toNat + 1) t5) none (sumE (fun _ : Unit => k (.exit 0) ⟨[], []⟩) (fun _ : Unit => k .ret ⟨[(4, AV.bool true)], []⟩)) else none
  | _ => none
noncomputable def c91 : Cfg := cfg Try.prog [(91, 0, [0, 1, 5]), (91, 999, [4]), (91, 1000, []), (91, 1001, [0, 1, 5])] [] [] [] [(91, 0, l91_0)]
theorem s91_0 (ce : CallE) (t0 : List AV) (t1 : Int) (t5 : Int) (next : St → Option AV) (k : Kont) : stepA (codeA c91 ce [] 91 0 (sub [1, 0, 1, 0, 0] (body Try.f91))) (normA [] [0, 1, 5]) next ⟨[(0, AV.sl [.int .i64] t0), (1, AV.int .i64 t1), (5, AV.int .i64 t5)], []⟩ k = (bif decide (t5 < (t0.length : Int)) then (bif (decide (0 ≤ t5) && decide (t5 < (t0.length : Int))) then (bif decide (fI (t0.getD t5.toNat AV.undef) 0 = t1) then k .ret ⟨[(4, AV.bool true)], []⟩
  else next ⟨[(0, AV.sl [.int .i64] t0), (1, AV.int .i64 t1), (5, AV.int .i64 (IntKind.i64.wrap (t5 + 1)))], []⟩)
  else none)
  else k (.exit 0) ⟨[], []⟩) := by kernel_rfl
theorem st91_0 (t0 : List AV) (t1 : Int) (ce : CallE) (k : Kont) (s : Int) (next : St → Option AV) : stepA (codeA c91 ce [] 91 0 (sub [1, 0, 1, 0, 0] (body Try.f91))) (normA [] [0, 1, 5]) next ((fun s : Int => ⟨[(0, AV.sl [.int .i64] t0), (1, AV.int .i64 t1), (5, AV.int .i64 s)], []⟩) s) k = (R91_0 t0 t1 s).el none (fun s => next ((fun s : Int => ⟨[(0, AV.sl [.int .i64] t0), (1, AV.int .i64 t1), (5, AV.int .i64 s)], []⟩) s)) (sumE (fun _ : Unit => k (.exit 0) ⟨[], []⟩) (fun _ : Unit => k .ret ⟨[(4, AV.bool true)], []⟩)) := (s91_0 ce t0 t1 s next k).trans (by unfold R91_0; unfold F91_0; simp only [el_cond, el_ro, el_sum, el_fail, el_next, el_stop] <;> rfl)
theorem ok91_0 {ce : CallE} : LoopOK c91 ce [] 91 0 (sub [1, 0, 1, 0, 0] (body Try.f91)) := by
  intro m hm st k r h
  obtain rfl : l91_0 = m := Option.some.inj hm
  unfold l91_0 at h
  split at h
  · rename_i g0 t0 t1 t5
    obtain ⟨hg, h⟩ := bif_some h
    have q0 := hg
    obtain rfl := ctsEq_eq _ _ q0
    refine ⟨(((t0.length : Int) - t5 : Int).toNat + 1), ?_⟩
    rw [← h]
    exact loop_run (fun s : Int => ⟨[(0, AV.sl [.int .i64] t0), (1, AV.int .i64 t1), (5, AV.int .i64 s)], []⟩) (sumE (fun _ : Unit => k (.exit 0) ⟨[], []⟩) (fun _ : Unit => k .ret ⟨[(4, AV.bool true)], []⟩)) (st91_0 t0 t1 ce k) _ t5
  · cases h
def q91 (a0 : List AV) (a1 : Int) : Bool := (ro (runW (R91_0 a0 a1) (((a0.length : Int) - 0 : Int).toNat + 1) 0) false (sumE (fun _ => true) (fun _ => true)))
def v91_0 (a0 : List AV) (a1 : Int) : Bool := (ro (runW (R91_0 a0 a1) (((a0.length : Int) - 0 : Int).toNat + 1) 0) false (sumE (fun _ => false) (fun _ => true)))
theorem e91 (a0 : List AV) (a1 : Int) : funA c91 0 91 [AV.sl [.int .i64] a0, AV.int .i64 a1] = (ro (runW (R91_0 a0 a1) (((a0.length : Int) - 0 : Int).toNat + 1) 0) none (sumE (fun _ => some (AV.bool false)) (fun _ => some (AV.bool true)))) := by kernel_rfl
theorem r91 (a0 : List AV) (a1 : Int) (h : q91 a0 a1 = true) : funA c91 0 91 [AV.sl [.int .i64] a0, AV.int .i64 a1] = some (AV.bool (v91_0 a0 a1)) := (e91 a0 a1).trans ((brO (fun o : Option (Unit ⊕ Unit) => some (AV.bool (ro o false (sumE (fun _ => false) (fun _ => true))))) (brS (fun o : Unit ⊕ Unit => some (AV.bool ((sumE (fun _ => false) (fun _ => true)) o))) (fun _ => (fun _ => rfl)) (fun _ => (fun _ => rfl)))) h)
def m91 : TModel
  | [.sl g0 a0, .int .i64 a1] => bif ctsEq g0 ([.int .i64]) then some (q91 a0 a1, AV.bool (v91_0 a0 a1)) else none
  | _ => none
theorem k91 : Known Try.prog 91 := ⟨Try.f91, Try.func91, by kernel_rfl, by kernel_rfl⟩
theorem meets91 : Meets Try.prog 91 m91 := by
  refine meet (f := Try.f91) (l := [(0, sub [1, 0, 1, 0, 0] (body Try.f91))]) (hs := [(91, 0, [0, 1, 5]), (91, 999, [4]), (91, 1000, []), (91, 1001, [0, 1, 5])]) (ts := []) (ws := []) (is := []) (ls := [(91, 0, l91_0)]) (lvl := 0) mixed k91 Try.func91 (by kernel_rfl) (loops_cons ok91_0 noLoop) allT_nil allM_nil noI fun w xs us r hl hv h => ?_
  unfold m91 at h
  split at h
  · rename_i g0 a0 a1
    obtain ⟨hg, h⟩ := bif_pair h
    have q0 := hg
    obtain rfl := ctsEq_eq _ _ q0
    obtain ⟨h1, rfl⟩ := pair_inj h
    exact r91 a0 a1 h1
  · cases h

/-! ### 110 loop.example/g01984/spec.l4Pivots -/
def F110_2 (t0 : List AV) (t1 : List AV) (t5 : Int) (h0_0 : Int) (h0_1 : Int) (t7 : Int) : Out (Int) (Unit ⊕ Unit) := (bif decide (t7 < (t0.length : Int)) then (bif (decide (0 ≤ t7) && decide (t7 < (t0.length : Int))) then (bif !(decide (fI (t0.getD t7.toNat AV.undef) 0 < h0_0) == decide (t7 < h0_1)) then .stop (.inr ())
  else .next (IntKind.i64.wrap (t7 + 1)))
  else .fail)
  else .stop (.inl ()))
def R110_2 (t0 : List AV) (t1 : List AV) (t5 : Int) (h0_0 : Int) (h0_1 : Int) : (Int) → Out (Int) (Unit ⊕ Unit) := fun s : Int => F110_2 t0 t1 t5 h0_0 h0_1 s
def l110_2 : LModel := fun _ _ st k => match st with
  | ⟨[(0, .sl g0 t0), (1, .sl g1 t1), (5, .int .i64 t5), (6, .ptr g2 g3 g4), (7, .int .i64 t7)], [(g5, ⟨true, [], [.agg [.int .i64 h0_0, .int .i64 h0_1]]⟩)]⟩ => bif ctsEq g0 ([.int .i64]) && ctsEq g1 ([.int .i64, .int .i64]) && nmEq g2 ([0, 6]) && Nat.beq g3 0 && Nat.beq g4 0 && nmEq g5 ([0, 6]) then ro (runW (R110_2 t0 t1 t5 h0_0 h0_1) (((t0.length : Int) - t7 : Int).toNat + 1) t7) none (sumE (fun _ : Unit => k (.exit 2) ⟨[(0, AV.sl [.int .i64] t0), (1, AV.sl [.int .i64, .int .i64] t1), (5, AV.int .i64 t5)], [([0, 6], ⟨true, [], [AV.agg [AV.int .i64 h0_0, AV.int .i64 h0_1]]⟩)]⟩) (fun _ : Unit => k .ret ⟨[(4, AV.bool false)], [([0, 6], ⟨true, [], [AV.agg [AV.int .i64 h0_0, AV.int .i64 h0_1]]⟩)]⟩)) else none
  | _ => none
def F110_0 (t0 : List AV) (t1 : List AV) (t5 : Int) : Out (Int) (Unit ⊕ (Int × Int) ⊕ (Int × Int)) := (bif decide (t5 < (t1.length : Int)) then (bif (decide (0 ≤ t5) && decide (t5 < (t1.length : Int))) then (bif !(v67_0 (fI (t1.getD t5.toNat AV.undef) 0) (-1000) 1000) then .stop (.inr (.inl (fI (t1.getD t5.toNat AV.undef) 0, fI (t1.getD t5.toNat AV.undef) 1)))
  else (bif !(v67_0 (fI (t1.getD t5.toNat AV.undef) 1) 0 (t0.length : Int)) then .stop (.inr (.inl (fI (t1.getD t5.toNat AV.undef) 0, fI (t1.getD t5.toNat AV.undef) 1)))
  else (bif decide (t5 > 0) then (bif (decide (0 ≤ IntKind.i64.wrap (t5 - 1)) && decide (IntKind.i64.wrap (t5 - 1) < (t1.length : Int))) then (bif decide (fI (t1.getD t5.toNat AV.undef) 0 ≤ fI (t1.getD (IntKind.i64.wrap (t5 - 1)).toNat AV.undef) 0) then .stop (.inr (.inl (fI (t1.getD t5.toNat AV.undef) 0, fI (t1.getD t5.toNat AV.undef) 1)))
  else (bif (decide (0 ≤ IntKind.i64.wrap (t5 - 1)) && decide (IntKind.i64.wrap (t5 - 1) < (t1.length : Int))) then (bif decide (fI (t1.getD t5.toNat AV.undef) 1 < fI (t1.getD (IntKind.i64.wrap (t5 - 1)).toNat AV.undef) 1) then .stop (.inr (.inl (fI (t1.getD t5.toNat AV.undef) 0, fI (t1.getD t5.toNat AV.undef) 1)))
  else (ro (runW (R110_2 t0 t1 t5 (fI (t1.getD t5.toNat AV.undef) 0) (fI (t1.getD t5.toNat AV.undef) 1)) (((t0.length : Int) - 0 : Int).toNat + 1) 0) .fail (sumE (fun _ => .next (IntKind.i64.wrap (t5 + 1))) (fun _ => .stop (.inr (.inr (fI (t1.getD t5.toNat AV.undef) 0, fI (t1.getD t5.toNat AV.undef) 1)))))))
  else .fail))
  else .fail)
  else (ro (runW (R110_2 t0 t1 t5 (fI (t1.getD t5.toNat AV.undef) 0) (fI (t1.getD t5.toNat AV.undef) 1)) (((t0.length : Int) - 0 : Int).toNat + 1) 0) .fail (sumE (fun _ => .next (IntKind.i64.wrap (t5 + 1))) (fun _ => .stop (.inr (.inr (fI (t1.getD t5.toNat AV.undef) 0, fI (t1.getD t5.toNat AV.undef) 1)))))))))
  else .fail)
  else .stop (.inl ()))
def R110_0 (t0 : List AV) (t1 : List AV) : (Int) → Out (Int) (Unit ⊕ (Int × Int) ⊕ (Int × Int)) := fun s : Int => F110_0 t0 t1 s
def l110_0 : LModel := fun _ _ st k => match st with
  | ⟨[(0, .sl g0 t0), (1, .sl g1 t1), (5, .int .i64 t5)], []⟩ => bif ctsEq g0 ([.int .i64]) && ctsEq g1 ([.int .i64, .int .i64]) then ro (runW (R110_0 t0 t1) (((t1.length : Int) - t5 : Int).toNat + 1) t5) none (sumE (fun _ : Unit => k (.exit 0) ⟨[], []⟩) (sumE (fun p : Int × Int => k .ret ⟨[(4, AV.bool false)], [([1, 6], ⟨true, [], [AV.agg [AV.int .i64 p.1, AV.int .i64 p.2]]⟩)]⟩) (fun p : Int × Int => k .ret ⟨[(4, AV.bool false)], [([0, 6], ⟨true, [], [AV.agg [AV.int .i64 p.1, AV.int .i64 p.2]]⟩)]⟩))) else none
  | _ => none
noncomputable def c110 : Cfg := cfg Try.prog [(110, 0, [0, 1, 5]), (110, 2, [0, 1, 5, 6, 7]), (110, 999, [4]), (110, 1000, []), (110, 1001, [0, 1, 5]), (110, 1002, [0, 1, 5]), (110, 1003, [0, 1, 5, 6, 7])] [(67, m67)] [] [] [(110, 0, l110_0), (110, 2, l110_2)]
theorem s110_2 (ce : CallE) (t0 : List AV) (t1 : List AV) (t5 : Int) (t7 : Int) (h0_0 : Int) (h0_1 : Int) (next : St → Option AV) (k : Kont) : stepA (codeA c110 ce [] 110 2 (sub [1, 0, 1, 0, 0, 1, 0, 0, 1, 1, 1, 0, 0] (body Try.f110))) (normA [] [0, 1, 5, 6, 7]) next ⟨[(0, AV.sl [.int .i64] t0), (1, AV.sl [.int .i64, .int .i64] t1), (5, AV.int .i64 t5), (6, AV.ptr [0, 6] 0 0), (7, AV.int .i64 t7)], [([0, 6], ⟨true, [], [AV.agg [AV.int .i64 h0_0, AV.int .i64 h0_1]]⟩)]⟩ k = (bif decide (t7 < (t0.length : Int)) then (bif (decide (0 ≤ t7) && decide (t7 < (t0.length : Int))) then (bif !(decide (fI (t0.getD t7.toNat AV.undef) 0 < h0_0) == decide (t7 < h0_1)) then k .ret ⟨[(4, AV.bool false)], [([0, 6], ⟨true, [], [AV.agg [AV.int .i64 h0_0, AV.int .i64 h0_1]]⟩)]⟩
  else next ⟨[(0, AV.sl [.int .i64] t0), (1, AV.sl [.int .i64, .int .i64] t1), (5, AV.int .i64 t5), (6, AV.ptr [0, 6] 0 0), (7, AV.int .i64 (IntKind.i64.wrap (t7 + 1)))], [([0, 6], ⟨true, [], [AV.agg [AV.int .i64 h0_0, AV.int .i64 h0_1]]⟩)]⟩)
  else none)
  else k (.exit 2) ⟨[(0, AV.sl [.int .i64] t0), (1, AV.sl [.int .i64, .int .i64] t1), (5, AV.int .i64 t5)], [([0, 6], ⟨true, [], [AV.agg [AV.int .i64 h0_0, AV.int .i64 h0_1]]⟩)]⟩) := by kernel_rfl
theorem st110_2 (t0 : List AV) (t1 : List AV) (t5 : Int) (h0_0 : Int) (h0_1 : Int) (ce : CallE) (k : Kont) (s : Int) (next : St → Option AV) : stepA (codeA c110 ce [] 110 2 (sub [1, 0, 1, 0, 0, 1, 0, 0, 1, 1, 1, 0, 0] (body Try.f110))) (normA [] [0, 1, 5, 6, 7]) next ((fun s : Int => ⟨[(0, AV.sl [.int .i64] t0), (1, AV.sl [.int .i64, .int .i64] t1), (5, AV.int .i64 t5), (6, AV.ptr [0, 6] 0 0), (7, AV.int .i64 s)], [([0, 6], ⟨true, [], [AV.agg [AV.int .i64 h0_0, AV.int .i64 h0_1]]⟩)]⟩) s) k = (R110_2 t0 t1 t5 h0_0 h0_1 s).el none (fun s => next ((fun s : Int => ⟨[(0, AV.sl [.int .i64] t0), (1, AV.sl [.int .i64, .int .i64] t1), (5, AV.int .i64 t5), (6, AV.ptr [0, 6] 0 0), (7, AV.int .i64 s)], [([0, 6], ⟨true, [], [AV.agg [AV.int .i64 h0_0, AV.int .i64 h0_1]]⟩)]⟩) s)) (sumE (fun _ : Unit => k (.exit 2) ⟨[(0, AV.sl [.int .i64] t0), (1, AV.sl [.int .i64, .int .i64] t1), (5, AV.int .i64 t5)], [([0, 6], ⟨true, [], [AV.agg [AV.int .i64 h0_0, AV.int .i64 h0_1]]⟩)]⟩) (fun _ : Unit => k .ret ⟨[(4, AV.bool false)], [([0, 6], ⟨true, [], [AV.agg [AV.int .i64 h0_0, AV.int .i64 h0_1]]⟩)]⟩)) := (s110_2 ce t0 t1 t5 s h0_0 h0_1 next k).trans (by unfold R110_2; unfold F110_2; simp only [el_cond, el_ro, el_sum, el_fail, el_next, el_stop] <;> rfl)
theorem ok110_2 {ce : CallE} : LoopOK c110 ce [] 110 2 (sub [1, 0, 1, 0, 0, 1, 0, 0, 1, 1, 1, 0, 0] (body Try.f110)) := by
  intro m hm st k r h
  obtain rfl : l110_2 = m := Option.some.inj hm
  unfold l110_2 at h
  split at h
  · rename_i g0 t0 g1 t1 t5 g2 g3 g4 t7 g5 h0_0 h0_1
    obtain ⟨hg, h⟩ := bif_some h
    simp only [Bool.and_eq_true] at hg
    obtain ⟨⟨⟨⟨⟨q0, q1⟩, q2⟩, q3⟩, q4⟩, q5⟩ := hg
    obtain rfl := ctsEq_eq _ _ q0
    obtain rfl := ctsEq_eq _ _ q1
    obtain rfl := (nmEq_iff _ _).1 q2
    obtain rfl := Nat.eq_of_beq_eq_true q3
    obtain rfl := Nat.eq_of_beq_eq_true q4
    obtain rfl := (nmEq_iff _ _).1 q5
    refine ⟨(((t0.length : Int) - t7 : Int).toNat + 1), ?_⟩
    rw [← h]
    exact loop_run (fun s : Int => ⟨[(0, AV.sl [.int .i64] t0), (1, AV.sl [.int .i64, .int .i64] t1), (5, AV.int .i64 t5), (6, AV.ptr [0, 6] 0 0), (7, AV.int .i64 s)], [([0, 6], ⟨true, [], [AV.agg [AV.int .i64 h0_0, AV.int .i64 h0_1]]⟩)]⟩) (sumE (fun _ : Unit => k (.exit 2) ⟨[(0, AV.sl [.int .i64] t0), (1, AV.sl [.int .i64, .int .i64] t1), (5, AV.int .i64 t5)], [([0, 6], ⟨true, [], [AV.agg [AV.int .i64 h0_0, AV.int .i64 h0_1]]⟩)]⟩) (fun _ : Unit => k .ret ⟨[(4, AV.bool false)], [([0, 6], ⟨true, [], [AV.agg [AV.int .i64 h0_0, AV.int .i64 h0_1]]⟩)]⟩)) (st110_2 t0 t1 t5 h0_0 h0_1 ce k) _ t7
  · cases h
theorem s110_0 (ce : CallE) (t0 : List AV) (t1 : List AV) (t5 : Int) (next : St → Option AV) (k : Kont) : stepA (codeA c110 ce [] 110 0 (sub [1, 0, 1, 0, 0] (body Try.f110))) (normA [] [0, 1, 5]) next ⟨[(0, AV.sl [.int .i64] t0), (1, AV.sl [.int .i64, .int .i64] t1), (5, AV.int .i64 t5)], []⟩ k = (bif decide (t5 < (t1.length : Int)) then (bif (decide (0 ≤ t5) && decide (t5 < (t1.length : Int))) then (bif !(v67_0 (fI (t1.getD t5.toNat AV.undef) 0) (-1000) 1000) then k .ret ⟨[(4, AV.bool false)], [([1, 6], ⟨true, [], [AV.agg [AV.int .i64 (fI (t1.getD t5.toNat AV.undef) 0), AV.int .i64 (fI (t1.getD t5.toNat AV.undef) 1)]]⟩)]⟩
  else (bif !(v67_0 (fI (t1.getD t5.toNat AV.undef) 1) 0 (t0.length : Int)) then k .ret ⟨[(4, AV.bool false)], [([1, 6], ⟨true, [], [AV.agg [AV.int .i64 (fI (t1.getD t5.toNat AV.undef) 0), AV.int .i64 (fI (t1.getD t5.toNat AV.undef) 1)]]⟩)]⟩
  else (bif decide (t5 > 0) then (bif (decide (0 ≤ IntKind.i64.wrap (t5 - 1)) && decide (IntKind.i64.wrap (t5 - 1) < (t1.length : Int))) then (bif decide (fI (t1.getD t5.toNat AV.undef) 0 ≤ fI (t1.getD (IntKind.i64.wrap (t5 - 1)).toNat AV.undef) 0) then k .ret ⟨[(4, AV.bool false)], [([1, 6], ⟨true, [], [AV.agg [AV.int .i64 (fI (t1.getD t5.toNat AV.undef) 0), AV.int .i64 (fI (t1.getD t5.toNat AV.undef) 1)]]⟩)]⟩
  else (bif (decide (0 ≤ IntKind.i64.wrap (t5 - 1)) && decide (IntKind.i64.wrap (t5 - 1) < (t1.length : Int))) then (bif decide (fI (t1.getD t5.toNat AV.undef) 1 < fI (t1.getD (IntKind.i64.wrap (t5 - 1)).toNat AV.undef) 1) then k .ret ⟨[(4, AV.bool false)], [([1, 6], ⟨true, [], [AV.agg [AV.int .i64 (fI (t1.getD t5.toNat AV.undef) 0), AV.int .i64 (fI (t1.getD t5.toNat AV.undef) 1)]]⟩)]⟩
  else (ro (runW (R110_2 t0 t1 t5 (fI (t1.getD t5.toNat AV.undef) 0) (fI (t1.getD t5.toNat AV.undef) 1)) (((t0.length : Int) - 0 : Int).toNat + 1) 0) none (sumE (fun _ => next ⟨[(0, AV.sl [.int .i64] t0), (1, AV.sl [.int .i64, .int .i64] t1), (5, AV.int .i64 (IntKind.i64.wrap (t5 + 1)))], []⟩) (fun _ => k .ret ⟨[(4, AV.bool false)], [([0, 6], ⟨true, [], [AV.agg [AV.int .i64 (fI (t1.getD t5.toNat AV.undef) 0), AV.int .i64 (fI (t1.getD t5.toNat AV.undef) 1)]]⟩)]⟩))))
  else none))
  else none)
  else (ro (runW (R110_2 t0 t1 t5 (fI (t1.getD t5.toNat AV.undef) 0) (fI (t1.getD t5.toNat AV.undef) 1)) (((t0.length : Int) - 0 : Int).toNat + 1) 0) none (sumE (fun _ => next ⟨[(0, AV.sl [.int .i64] t0), (1, AV.sl [.int .i64, .int .i64] t1), (5, AV.int .i64 (IntKind.i64.wrap (t5 + 1)))], []⟩) (fun _ => k .ret ⟨[(4, AV.bool false)], [([0, 6], ⟨true, [], [AV.agg [AV.int .i64 (fI (t1.getD t5.toNat AV.undef) 0), AV.int .i64 (fI (t1.getD t5.toNat AV.undef) 1)]]⟩)]⟩))))))
  else none)
  else k (.exit 0) ⟨[], []⟩) := by kernel_rfl
theorem st110_0 (t0 : List AV) (t1 : List AV) (ce : CallE) (k : Kont) (s : Int) (next : St → Option AV) : stepA (codeA c110 ce [] 110 0 (sub [1, 0, 1, 0, 0] (body Try.f110))) (normA [] [0, 1, 5]) next ((fun s : Int => ⟨[(0, AV.sl [.int .i64] t0), (1, AV.sl [.int .i64, .int .i64] t1), (5, AV.int .i64 s)], []⟩) s) k = (R110_0 t0 t1 s).el none (fun s => next ((fun s : Int => ⟨[(0, AV.sl [.int .i64] t0), (1, AV.sl [.int .i64, .int .i64] t1), (5, AV.int .i64 s)], []⟩) s)) (sumE (fun _ : Unit => k (.exit 0) ⟨[], []⟩) (sumE (fun p : Int × Int => k .ret ⟨[(4, AV.bool false)], [([1, 6], ⟨true, [], [AV.agg [AV.int .i64 p.1, AV.int .i64 p.2]]⟩)]⟩) (fun p : Int × Int => k .ret ⟨[(4, AV.bool false)], [([0, 6], ⟨true, [], [AV.agg [AV.int .i64 p.1, AV.int .i64 p.2]]⟩)]⟩))) := (s110_0 ce t0 t1 s next k).trans (by unfold R110_0; unfold F110_0; simp only [el_cond, el_ro, el_sum, el_fail, el_next, el_stop] <;> rfl)
theorem ok110_0 {ce : CallE} : LoopOK c110 ce [] 110 0 (sub [1, 0, 1, 0, 0] (body Try.f110)) := by
  intro m hm st k r h
  obtain rfl : l110_0 = m := Option.some.inj hm
  unfold l110_0 at h
  split at h
  · rename_i g0 t0 g1 t1 t5
    obtain ⟨hg, h⟩ := bif_some h
    simp only [Bool.and_eq_true] at hg
    obtain ⟨q0, q1⟩ := hg
    obtain rfl := ctsEq_eq _ _ q0
    obtain rfl := ctsEq_eq _ _ q1
    refine ⟨(((t1.length : Int) - t5 : Int).toNat + 1), ?_⟩
    rw [← h]
    exact loop_run (fun s : Int => ⟨[(0, AV.sl [.int .i64] t0), (1, AV.sl [.int .i64, .int .i64] t1), (5, AV.int .i64 s)], []⟩) (sumE (fun _ : Unit => k (.exit 0) ⟨[], []⟩) (sumE (fun p : Int × Int => k .ret ⟨[(4, AV.bool false)], [([1, 6], ⟨true, [], [AV.agg [AV.int .i64 p.1, AV.int .i64 p.2]]⟩)]⟩) (fun p : Int × Int => k .ret ⟨[(4, AV.bool false)], [([0, 6], ⟨true, [], [AV.agg [AV.int .i64 p.1, AV.int .i64 p.2]]⟩)]⟩))) (st110_0 t0 t1 ce k) _ t5
  · cases h
def q110 (a0 : List AV) (a1 : List AV) : Bool := (ro (runW (R110_0 a0 a1) (((a1.length : Int) - 0 : Int).toNat + 1) 0) false (sumE (fun _ => true) (sumE (fun p13 => true) (fun p14 => true))))
def v110_0 (a0 : List AV) (a1 : List AV) : Bool := (ro (runW (R110_0 a0 a1) (((a1.length : Int) - 0 : Int).toNat + 1) 0) false (sumE (fun _ => true) (sumE (fun p13 => false) (fun p14 => false))))
theorem e110 (a0 : List AV) (a1 : List AV) : funA c110 0 110 [AV.sl [.int .i64] a0, AV.sl [.int .i64, .int .i64] a1] = (ro (runW (R110_0 a0 a1) (((a1.length : Int) - 0 : Int).toNat + 1) 0) none (sumE (fun _ => some (AV.bool true)) (sumE (fun p13 => some (AV.bool false)) (fun p14 => some (AV.bool false))))) := by kernel_rfl
theorem r110 (a0 : List AV) (a1 : List AV) (h : q110 a0 a1 = true) : funA c110 0 110 [AV.sl [.int .i64] a0, AV.sl [.int .i64, .int .i64] a1] = some (AV.bool (v110_0 a0 a1)) := (e110 a0 a1).trans ((brO (fun o : Option (Unit ⊕ (Int × Int) ⊕ (Int × Int)) => some (AV.bool (ro o false (sumE (fun _ => true) (sumE (fun p13 => false) (fun p14 => false)))))) (brS (fun o : Unit ⊕ (Int × Int) ⊕ (Int × Int) => some (AV.bool ((sumE (fun _ => true) (sumE (fun p13 => false) (fun p14 => false))) o))) (fun _ => (fun _ => rfl)) (brS (fun o : (Int × Int) ⊕ (Int × Int) => some (AV.bool ((sumE (fun p13 => false) (fun p14 => false)) o))) (fun p13 => (fun _ => rfl)) (fun p14 => (fun _ => rfl))))) h)
def m110 : TModel
  | [.sl g0 a0, .sl g1 a1] => bif ctsEq g0 ([.int .i64]) && ctsEq g1 ([.int .i64, .int .i64]) then some (q110 a0 a1, AV.bool (v110_0 a0 a1)) else none
  | _ => none
theorem k110 : Known Try.prog 110 := ⟨Try.f110, Try.func110, by kernel_rfl, by kernel_rfl⟩
theorem meets110 : Meets Try.prog 110 m110 := by
  refine meet (f := Try.f110) (l := [(0, sub [1, 0, 1, 0, 0] (body Try.f110)), (2, sub [1, 0, 1, 0, 0, 1, 0, 0, 1, 1, 1, 0, 0] (body Try.f110))]) (hs := [(110, 0, [0, 1, 5]), (110, 2, [0, 1, 5, 6, 7]), (110, 999, [4]), (110, 1000, []), (110, 1001, [0, 1, 5]), (110, 1002, [0, 1, 5]), (110, 1003, [0, 1, 5, 6, 7])]) (ts := [(67, m67)]) (ws := []) (is := []) (ls := [(110, 0, l110_0), (110, 2, l110_2)]) (lvl := 0) mixed k110 Try.func110 (by kernel_rfl) (loops_cons ok110_0 (loops_cons ok110_2 noLoop)) (allT_cons meets67 allT_nil) allM_nil noI fun w xs us r hl hv h => ?_
  unfold m110 at h
  split at h
  · rename_i g0 a0 g1 a1
    obtain ⟨hg, h⟩ := bif_pair h
    simp only [Bool.and_eq_true] at hg
    obtain ⟨q0, q1⟩ := hg
    obtain rfl := ctsEq_eq _ _ q0
    obtain rfl := ctsEq_eq _ _ q1
    obtain ⟨h1, rfl⟩ := pair_inj h
    exact r110 a0 a1 h1
  · cases h

/-! ### 66 loop.example/g01984/spec.IsCracker -/
def F66_0 (h0_0 : List AV) (h0_1 : List AV) (h0_2 : List AV) (t3 : Int) : Out (Int) (Unit ⊕ Unit) := (bif decide (t3 < (h0_1.length : Int)) then (bif (decide (0 ≤ t3) && decide (t3 < (h0_1.length : Int))) then (bif !(v67_0 (fI (h0_1.getD t3.toNat AV.undef) 0) 0 999) then .stop (.inr ())
  else (bif (decide (0 ≤ 0) && decide (0 ≤ t3) && decide (t3 ≤ (h0_1.length : Int))) then (bif (decide (0 ≤ t3) && decide (t3 < (h0_1.length : Int))) then (bif q91 ((h0_1.take (Int.toNat t3)).drop (Int.toNat 0)) (fI (h0_1.getD t3.toNat AV.undef) 0) then (bif (v91_0 ((h0_1.take (Int.toNat t3)).drop (Int.toNat 0)) (fI (h0_1.getD t3.toNat AV.undef) 0)) then .stop (.inr ())
  else .next (IntKind.i64.wrap (t3 + 1)))
  else .fail)
  else .fail)
  else .fail))
  else .fail)
  else .stop (.inl ()))
def R66_0 (h0_0 : List AV) (h0_1 : List AV) (h0_2 : List AV) : (Int) → Out (Int) (Unit ⊕ Unit) := fun s : Int => F66_0 h0_0 h0_1 h0_2 s
def l66_0 : LModel := fun _ _ st k => match st with
  | ⟨[(1, .ptr g0 g1 g2), (3, .int .i64 t3)], [(g3, ⟨true, [], [.agg [.sl g4 h0_0, .sl g5 h0_1, .sl g6 h0_2]]⟩)]⟩ => bif nmEq g0 ([0, 1]) && Nat.beq g1 0 && Nat.beq g2 0 && nmEq g3 ([0, 1]) && ctsEq g4 ([.int .i64]) && ctsEq g5 ([.int .i64]) && ctsEq g6 ([.int .i64, .int .i64]) then ro (runW (R66_0 h0_0 h0_1 h0_2) (((h0_1.length : Int) - t3 : Int).toNat + 1) t3) none (sumE (fun _ : Unit => k (.exit 0) ⟨[(1, AV.ptr [0, 1] 0 0)], [([0, 1], ⟨true, [], [AV.agg [AV.sl [.int .i64] h0_0, AV.sl [.int .i64] h0_1, AV.sl [.int .i64, .int .i64] h0_2]]⟩)]⟩) (fun _ : Unit => k .ret ⟨[(2, AV.bool false)], [([0, 1], ⟨true, [], [AV.agg [AV.sl [.int .i64] h0_0, AV.sl [.int .i64] h0_1, AV.sl [.int .i64, .int .i64] h0_2]]⟩)]⟩)) else none
  | _ => none
noncomputable def c66 : Cfg := cfg Try.prog [(66, 0, [1, 3]), (66, 999, [2]), (66, 1000, [1]), (66, 1001, [1, 3])] [(67, m67), (81, m81), (91, m91), (110, m110)] [] [] [(66, 0, l66_0)]
theorem s66_0 (ce : CallE) (t3 : Int) (h0_0 : List AV) (h0_1 : List AV) (h0_2 : List AV) (next : St → Option AV) (k : Kont) : stepA (codeA c66 ce [] 66 0 (sub [1, 1, 0, 1, 0, 0] (body Try.f66))) (normA [] [1, 3]) next ⟨[(1, AV.ptr [0, 1] 0 0), (3, AV.int .i64 t3)], [([0, 1], ⟨true, [], [AV.agg [AV.sl [.int .i64] h0_0, AV.sl [.int .i64] h0_1, AV.sl [.int .i64, .int .i64] h0_2]]⟩)]⟩ k = (bif decide (t3 < (h0_1.length : Int)) then (bif (decide (0 ≤ t3) && decide (t3 < (h0_1.length : Int))) then (bif !(v67_0 (fI (h0_1.getD t3.toNat AV.undef) 0) 0 999) then k .ret ⟨[(2, AV.bool false)], [([0, 1], ⟨true, [], [AV.agg [AV.sl [.int .i64] h0_0, AV.sl [.int .i64] h0_1, AV.sl [.int .i64, .int .i64] h0_2]]⟩)]⟩
  else (bif (decide (0 ≤ 0) && decide (0 ≤ t3) && decide (t3 ≤ (h0_1.length : Int))) then (bif (decide (0 ≤ t3) && decide (t3 < (h0_1.length : Int))) then (bif q91 ((h0_1.take (Int.toNat t3)).drop (Int.toNat 0)) (fI (h0_1.getD t3.toNat AV.undef) 0) then (bif (v91_0 ((h0_1.take (Int.toNat t3)).drop (Int.toNat 0)) (fI (h0_1.getD t3.toNat AV.undef) 0)) then k .ret ⟨[(2, AV.bool false)], [([0, 1], ⟨true, [], [AV.agg [AV.sl [.int .i64] h0_0, AV.sl [.int .i64] h0_1, AV.sl [.int .i64, .int .i64] h0_2]]⟩)]⟩
  else next ⟨[(1, AV.ptr [0, 1] 0 0), (3, AV.int .i64 (IntKind.i64.wrap (t3 + 1)))], [([0, 1], ⟨true, [], [AV.agg [AV.sl [.int .i64] h0_0, AV.sl [.int .i64] h0_1, AV.sl [.int .i64, .int .i64] h0_2]]⟩)]⟩)
  else none)
  else none)
  else none))
  else none)
  else k (.exit 0) ⟨[(1, AV.ptr [0, 1] 0 0)], [([0, 1], ⟨true, [], [AV.agg [AV.sl [.int .i64] h0_0, AV.sl [.int .i64] h0_1, AV.sl [.int .i64, .int .i64] h0_2]]⟩)]⟩) := by kernel_rfl
theorem st66_0 (h0_0 : List AV) (h0_1 : List AV) (h0_2 : List AV) (ce : CallE) (k : Kont) (s : Int) (next : St → Option AV) : stepA (codeA c66 ce [] 66 0 (sub [1, 1, 0, 1, 0, 0] (body Try.f66))) (normA [] [1, 3]) next ((fun s : Int => ⟨[(1, AV.ptr [0, 1] 0 0), (3, AV.int .i64 s)], [([0, 1], ⟨true, [], [AV.agg [AV.sl [.int .i64] h0_0, AV.sl [.int .i64] h0_1, AV.sl [.int .i64, .int .i64] h0_2]]⟩)]⟩) s) k = (R66_0 h0_0 h0_1 h0_2 s).el none (fun s => next ((fun s : Int => ⟨[(1, AV.ptr [0, 1] 0 0), (3, AV.int .i64 s)], [([0, 1], ⟨true, [], [AV.agg [AV.sl [.int .i64] h0_0, AV.sl [.int .i64] h0_1, AV.sl [.int .i64, .int .i64] h0_2]]⟩)]⟩) s)) (sumE (fun _ : Unit => k (.exit 0) ⟨[(1, AV.ptr [0, 1] 0 0)], [([0, 1], ⟨true, [], [AV.agg [AV.sl [.int .i64] h0_0, AV.sl [.int .i64] h0_1, AV.sl [.int .i64, .int .i64] h0_2]]⟩)]⟩) (fun _ : Unit => k .ret ⟨[(2, AV.bool false)], [([0, 1], ⟨true, [], [AV.agg [AV.sl [.int .i64] h0_0, AV.sl [.int .i64] h0_1, AV.sl [.int .i64, .int .i64] h0_2]]⟩)]⟩)) := (s66_0 ce s h0_0 h0_1 h0_2 next k).trans (by unfold R66_0; unfold F66_0; simp only [el_cond, el_ro, el_sum, el_fail, el_next, el_stop] <;> rfl)
theorem ok66_0 {ce : CallE} : LoopOK c66 ce [] 66 0 (sub [1, 1, 0, 1, 0, 0] (body Try.f66)) := by
  intro m hm st k r h
  obtain rfl : l66_0 = m := Option.some.inj hm
  unfold l66_0 at h
  split at h
  · rename_i g0 g1 g2 t3 g3 g4 h0_0 g5 h0_1 g6 h0_2
    obtain ⟨hg, h⟩ := bif_some h
    simp only [Bool.and_eq_true] at hg
    obtain ⟨⟨⟨⟨⟨⟨q0, q1⟩, q2⟩, q3⟩, q4⟩, q5⟩, q6⟩ := hg
    obtain rfl := (nmEq_iff _ _).1 q0
    obtain rfl := Nat.eq_of_beq_eq_true q1
    obtain rfl := Nat.eq_of_beq_eq_true q2
    obtain rfl := (nmEq_iff _ _).1 q3
    obtain rfl := ctsEq_eq _ _ q4
    obtain rfl := ctsEq_eq _ _ q5
    obtain rfl := ctsEq_eq _ _ q6
    refine ⟨(((h0_1.length : Int) - t3 : Int).toNat + 1), ?_⟩
    rw [← h]
    exact loop_run (fun s : Int => ⟨[(1, AV.ptr [0, 1] 0 0), (3, AV.int .i64 s)], [([0, 1], ⟨true, [], [AV.agg [AV.sl [.int .i64] h0_0, AV.sl [.int .i64] h0_1, AV.sl [.int .i64, .int .i64] h0_2]]⟩)]⟩) (sumE (fun _ : Unit => k (.exit 0) ⟨[(1, AV.ptr [0, 1] 0 0)], [([0, 1], ⟨true, [], [AV.agg [AV.sl [.int .i64] h0_0, AV.sl [.int .i64] h0_1, AV.sl [.int .i64, .int .i64] h0_2]]⟩)]⟩) (fun _ : Unit => k .ret ⟨[(2, AV.bool false)], [([0, 1], ⟨true, [], [AV.agg [AV.sl [.int .i64] h0_0, AV.sl [.int .i64] h0_1, AV.sl [.int .i64, .int .i64] h0_2]]⟩)]⟩)) (st66_0 h0_0 h0_1 h0_2 ce k) _ t3
  · cases h
def q66 (a0_0 : List AV) (a0_1 : List AV) (a0_2 : List AV) : Bool := (q81 a0_0 && (bif !(v81_0 a0_0) then true else (bif !decide ((a0_1.length : Int) = (a0_0.length : Int)) then true else (ro (runW (R66_0 a0_0 a0_1 a0_2) (((a0_1.length : Int) - 0 : Int).toNat + 1) 0) false (sumE (fun _ => q110 a0_0 a0_2) (fun _ => true))))))
def v66_0 (a0_0 : List AV) (a0_1 : List AV) (a0_2 : List AV) : Bool := (bif !(v81_0 a0_0) then false else (bif !decide ((a0_1.length : Int) = (a0_0.length : Int)) then false else (ro (runW (R66_0 a0_0 a0_1 a0_2) (((a0_1.length : Int) - 0 : Int).toNat + 1) 0) false (sumE (fun _ => (v110_0 a0_0 a0_2)) (fun _ => false)))))
theorem e66 (a0_0 : List AV) (a0_1 : List AV) (a0_2 : List AV) : funA c66 0 66 [AV.agg [AV.sl [.int .i64] a0_0, AV.sl [.int .i64] a0_1, AV.sl [.int .i64, .int .i64] a0_2]] = (bif q81 a0_0 then (bif !(v81_0 a0_0) then some (AV.bool false)
  else (bif !decide ((a0_1.length : Int) = (a0_0.length : Int)) then some (AV.bool false)
  else (ro (runW (R66_0 a0_0 a0_1 a0_2) (((a0_1.length : Int) - 0 : Int).toNat + 1) 0) none (sumE (fun _ => (bif q110 a0_0 a0_2 then some (AV.bool (v110_0 a0_0 a0_2))
  else none)) (fun _ => some (AV.bool false))))))
  else none) := by kernel_rfl
theorem r66 (a0_0 : List AV) (a0_1 : List AV) (a0_2 : List AV) (h : q66 a0_0 a0_1 a0_2 = true) : funA c66 0 66 [AV.agg [AV.sl [.int .i64] a0_0, AV.sl [.int .i64] a0_1, AV.sl [.int .i64, .int .i64] a0_2]] = some (AV.bool (v66_0 a0_0 a0_1 a0_2)) := (e66 a0_0 a0_1 a0_2).trans ((brL (br (fun b => some (AV.bool (bif b then false else (bif !decide ((a0_1.length : Int) = (a0_0.length : Int)) then false else (ro (runW (R66_0 a0_0 a0_1 a0_2) (((a0_1.length : Int) - 0 : Int).toNat + 1) 0) false (sumE (fun _ => (v110_0 a0_0 a0_2)) (fun _ => false))))))) (fun _ => rfl) (br (fun b => some (AV.bool (bif b then false else (ro (runW (R66_0 a0_0 a0_1 a0_2) (((a0_1.length : Int) - 0 : Int).toNat + 1) 0) false (sumE (fun _ => (v110_0 a0_0 a0_2)) (fun _ => false)))))) (fun _ => rfl) (brO (fun o : Option (Unit ⊕ Unit) => some (AV.bool (ro o false (sumE (fun _ => (v110_0 a0_0 a0_2)) (fun _ => false))))) (brS (fun o : Unit ⊕ Unit => some (AV.bool ((sumE (fun _ => (v110_0 a0_0 a0_2)) (fun _ => false)) o))) (fun _ => (brL1 (fun _ => rfl))) (fun _ => (fun _ => rfl))))))) h)
def m66 : TModel
  | [.agg [.sl g0 a0_0, .sl g1 a0_1, .sl g2 a0_2]] => bif ctsEq g0 ([.int .i64]) && ctsEq g1 ([.int .i64]) && ctsEq g2 ([.int .i64, .int .i64]) then some (q66 a0_0 a0_1 a0_2, AV.bool (v66_0 a0_0 a0_1 a0_2)) else none
  | _ => none
theorem k66 : Known Try.prog 66 := ⟨Try.f66, Try.func66, by kernel_rfl, by kernel_rfl⟩
theorem meets66 : Meets Try.prog 66 m66 := by
  refine meet (f := Try.f66) (l := [(0, sub [1, 1, 0, 1, 0, 0] (body Try.f66))]) (hs := [(66, 0, [1, 3]), (66, 999, [2]), (66, 1000, [1]), (66, 1001, [1, 3])]) (ts := [(67, m67), (81, m81), (91, m91), (110, m110)]) (ws := []) (is := []) (ls := [(66, 0, l66_0)]) (lvl := 0) mixed k66 Try.func66 (by kernel_rfl) (loops_cons ok66_0 noLoop) (allT_cons meets67 (allT_cons meets81 (allT_cons meets91 (allT_cons meets110 allT_nil)))) allM_nil noI fun w xs us r hl hv h => ?_
  unfold m66 at h
  split at h
  · rename_i g0 a0_0 g1 a0_1 g2 a0_2
    obtain ⟨hg, h⟩ := bif_pair h
    simp only [Bool.and_eq_true] at hg
    obtain ⟨⟨q0, q1⟩, q2⟩ := hg
    obtain rfl := ctsEq_eq _ _ q0
    obtain rfl := ctsEq_eq _ _ q1
    obtain rfl := ctsEq_eq _ _ q2
    obtain ⟨h1, rfl⟩ := pair_inj h
    exact r66 a0_0 a0_1 a0_2 h1
  · cases h

/-! ### 123 loop.example/g01984/spec.l5Swap -/
noncomputable def c123 : Cfg := cfg Try.prog [(123, 999, [])] [] [] [] []
def q123 (a1 : Int) (a2 : Int) (b0 : List AV) : Bool := ((decide (0 ≤ a1) && decide (a1 < (b0.length : Int))) && ((decide (0 ≤ a2) && decide (a2 < (b0.length : Int))) && ((decide (0 ≤ a1) && decide (a1 < (b0.length : Int))) && (decide (0 ≤ a2) && decide (a2 < ((b0.set a1.toNat (AV.agg [AV.int .i64 (fI (b0.getD a2.toNat AV.undef) 0)])).length : Int))))))
def v123_0 (a1 : Int) (a2 : Int) (b0 : List AV) : List AV := (b0.set a1.toNat (AV.agg [AV.int .i64 (fI (b0.getD a2.toNat AV.undef) 0)])).set a2.toNat (AV.agg [AV.int .i64 (fI (b0.getD a1.toNat AV.undef) 0)])
theorem e123 (a1 : Int) (a2 : Int) (b0 : List AV) (K : AV → List Blk → Option AV) : inlA c123 1 123 [AV.own [1], AV.int .i64 a1, AV.int .i64 a2] [0] (canH 1 [⟨false, [.int .i64], b0⟩]) (keepB 1 K) = (bif (decide (0 ≤ a1) && decide (a1 < (b0.length : Int))) then (bif (decide (0 ≤ a2) && decide (a2 < (b0.length : Int))) then (bif (decide (0 ≤ a1) && decide (a1 < (b0.length : Int))) then (bif (decide (0 ≤ a2) && decide (a2 < ((b0.set a1.toNat (AV.agg [AV.int .i64 (fI (b0.getD a2.toNat AV.undef) 0)])).length : Int))) then K (AV.tup []) [⟨false, [.int .i64], (b0.set a1.toNat (AV.agg [AV.int .i64 (fI (b0.getD a2.toNat AV.undef) 0)])).set a2.toNat (AV.agg [AV.int .i64 (fI (b0.getD a1.toNat AV.undef) 0)])⟩]
  else none)
  else none)
  else none)
  else none) := by kernel_rfl
theorem r123 (a1 : Int) (a2 : Int) (b0 : List AV) (K : AV → List Blk → Option AV) (h : q123 a1 a2 b0 = true) : inlA c123 1 123 [AV.own [1], AV.int .i64 a1, AV.int .i64 a2] [0] (canH 1 [⟨false, [.int .i64], b0⟩]) (keepB 1 K) = K (AV.tup []) [⟨false, [.int .i64], (v123_0 a1 a2 b0)⟩] := (e123 a1 a2 b0 K).trans ((brL (brL (brL (brL1 (fun _ => rfl))))) h)
def m123 : WModel
  | [.own g0, .int .i64 a1, .int .i64 a2], [⟨false, g1, b0⟩] => bif nmEq g0 ([1]) && ctsEq g1 ([.int .i64]) then some (q123 a1 a2 b0, AV.tup [], [⟨false, [.int .i64], (v123_0 a1 a2 b0)⟩]) else none
  | _, _ => none
theorem k123 : Known Try.prog 123 := ⟨Try.f123, Try.func123, by kernel_rfl, by kernel_rfl⟩
theorem meets123 : MeetsM Try.prog 123 m123 := by
  refine meetM (f := Try.f123) (l := []) (hs := [(123, 999, [])]) (ts := []) (ws := []) (is := []) (ls := []) (lvl := 0) mixed k123 Try.func123 (by kernel_rfl) noLoop allT_nil allM_nil noI fun C w xs us bs r bs' hl hv hh h K => ?_
  unfold m123 at h
  split at h
  · rename_i g0 a1 a2 g1 b0
    obtain ⟨hg, h⟩ := bif_pair h
    simp only [Bool.and_eq_true] at hg
    obtain ⟨q0, q1⟩ := hg
    obtain rfl := (nmEq_iff _ _).1 q0
    obtain rfl := ctsEq_eq _ _ q1
    obtain ⟨h1, rfl, rfl⟩ := trip_inj h
    exact r123 a1 a2 b0 K h1
  · cases h

/-! ### 92 loop.example/g01984/spec.SortInts -/
def F92_2 (t4 : Int) (t5 : Int) (h0 : List AV) : Out ((Int × (List AV))) (((List AV))) := (bif decide (t5 > 0) then (bif (decide (0 ≤ IntKind.i64.wrap (t5 - 1)) && decide (IntKind.i64.wrap (t5 - 1) < (h0.length : Int))) then (bif (decide (0 ≤ t5) && decide (t5 < (h0.length : Int))) then (bif decide (fI (h0.getD (IntKind.i64.wrap (t5 - 1)).toNat AV.undef) 0 > fI (h0.getD t5.toNat AV.undef) 0) then (bif q123 (IntKind.i64.wrap (t5 - 1)) t5 h0 then .next (IntKind.i64.wrap (t5 - 1), (v123_0 (IntKind.i64.wrap (t5 - 1)) t5 h0))
  else .fail)
  else .stop h0)
  else .fail)
  else .fail)
  else .stop h0)
def R92_2 (t4 : Int) : ((Int × (List AV))) → Out ((Int × (List AV))) (((List AV))) := fun s : Int × (List AV) => F92_2 t4 s.1 s.2
def l92_2 : LModel := fun _ _ st k => match st with
  | ⟨[(3, .own g0), (4, .int .i64 t4), (5, .int .i64 t5)], [(g1, ⟨false, g2, h0⟩)]⟩ => bif nmEq g0 ([0, 3]) && nmEq g1 ([0, 3]) && ctsEq g2 ([.int .i64]) then ro (runW (R92_2 t4) ((t5 - 0 : Int).toNat + 1) (t5, h0)) none (fun p : (List AV) => k (.exit 2) ⟨[(3, AV.own [0, 3]), (4, AV.int .i64 t4)], [([0, 3], ⟨false, [.int .i64], p⟩)]⟩) else none
  | _ => none
def F92_0 (t4 : Int) (h0 : List AV) : Out ((Int × (List AV))) (((List AV))) := (bif decide (t4 < (h0.length : Int)) then (ro (runW (R92_2 t4) ((t4 - 0 : Int).toNat + 1) (t4, h0)) .fail (fun p17 => .next (IntKind.i64.wrap (t4 + 1), p17)))
  else .stop h0)
def R92_0 : ((Int × (List AV))) → Out ((Int × (List AV))) (((List AV))) := fun s : Int × (List AV) => F92_0 s.1 s.2
def l92_0 : LModel := fun _ _ st k => match st with
  | ⟨[(3, .own g0), (4, .int .i64 t4)], [(g1, ⟨false, g2, h0⟩)]⟩ => bif nmEq g0 ([0, 3]) && nmEq g1 ([0, 3]) && ctsEq g2 ([.int .i64]) then ro (runW (R92_0) (((h0.length : Int) - t4 : Int).toNat + 1) (t4, h0)) none (fun p : (List AV) => k (.exit 0) ⟨[(3, AV.own [0, 3])], [([0, 3], ⟨false, [.int .i64], p⟩)]⟩) else none
  | _ => none
noncomputable def c92 : Cfg := cfg Try.prog [(92, 0, [3, 4]), (92, 2, [3, 4, 5]), (92, 999, [2]), (92, 1000, [3]), (92, 1001, [3, 4]), (92, 1002, [3, 4]), (92, 1003, [3, 4, 5])] [] [(123, m123)] [] [(92, 0, l92_0), (92, 2, l92_2)]
theorem s92_2 (ce : CallE) (t4 : Int) (t5 : Int) (h0 : List AV) (next : St → Option AV) (k : Kont) : stepA (codeA c92 ce [] 92 2 (sub [1, 1, 0, 1, 0, 0, 1, 0, 0, 1, 0, 0] (body Try.f92))) (normA [] [3, 4, 5]) next ⟨[(3, AV.own [0, 3]), (4, AV.int .i64 t4), (5, AV.int .i64 t5)], [([0, 3], ⟨false, [.int .i64], h0⟩)]⟩ k = (bif decide (t5 > 0) then (bif (decide (0 ≤ IntKind.i64.wrap (t5 - 1)) && decide (IntKind.i64.wrap (t5 - 1) < (h0.length : Int))) then (bif (decide (0 ≤ t5) && decide (t5 < (h0.length : Int))) then (bif decide (fI (h0.getD (IntKind.i64.wrap (t5 - 1)).toNat AV.undef) 0 > fI (h0.getD t5.toNat AV.undef) 0) then (bif q123 (IntKind.i64.wrap (t5 - 1)) t5 h0 then next ⟨[(3, AV.own [0, 3]), (4, AV.int .i64 t4), (5, AV.int .i64 (IntKind.i64.wrap (t5 - 1)))], [([0, 3], ⟨false, [.int .i64], (v123_0 (IntKind.i64.wrap (t5 - 1)) t5 h0)⟩)]⟩
  else none)
  else k (.exit 2) ⟨[(3, AV.own [0, 3]), (4, AV.int .i64 t4)], [([0, 3], ⟨false, [.int .i64], h0⟩)]⟩)
  else none)
  else none)
  else k (.exit 2) ⟨[(3, AV.own [0, 3]), (4, AV.int .i64 t4)], [([0, 3], ⟨false, [.int .i64], h0⟩)]⟩) := by kernel_rfl
theorem st92_2 (t4 : Int) (ce : CallE) (k : Kont) (s : (Int × (List AV))) (next : St → Option AV) : stepA (codeA c92 ce [] 92 2 (sub [1, 1, 0, 1, 0, 0, 1, 0, 0, 1, 0, 0] (body Try.f92))) (normA [] [3, 4, 5]) next ((fun s : Int × (List AV) => ⟨[(3, AV.own [0, 3]), (4, AV.int .i64 t4), (5, AV.int .i64 s.1)], [([0, 3], ⟨false, [.int .i64], s.2⟩)]⟩) s) k = (R92_2 t4 s).el none (fun s => next ((fun s : Int × (List AV) => ⟨[(3, AV.own [0, 3]), (4, AV.int .i64 t4), (5, AV.int .i64 s.1)], [([0, 3], ⟨false, [.int .i64], s.2⟩)]⟩) s)) (fun p : (List AV) => k (.exit 2) ⟨[(3, AV.own [0, 3]), (4, AV.int .i64 t4)], [([0, 3], ⟨false, [.int .i64], p⟩)]⟩) := (s92_2 ce t4 s.1 s.2 next k).trans (by unfold R92_2; unfold F92_2; simp only [el_cond, el_ro, el_sum, el_fail, el_next, el_stop] <;> rfl)
theorem ok92_2 {ce : CallE} : LoopOK c92 ce [] 92 2 (sub [1, 1, 0, 1, 0, 0, 1, 0, 0, 1, 0, 0] (body Try.f92)) := by
  intro m hm st k r h
  obtain rfl : l92_2 = m := Option.some.inj hm
  unfold l92_2 at h
  split at h
  · rename_i g0 t4 t5 g1 g2 h0
    obtain ⟨hg, h⟩ := bif_some h
    simp only [Bool.and_eq_true] at hg
    obtain ⟨⟨q0, q1⟩, q2⟩ := hg
    obtain rfl := (nmEq_iff _ _).1 q0
    obtain rfl := (nmEq_iff _ _).1 q1
    obtain rfl := ctsEq_eq _ _ q2
    refine ⟨((t5 - 0 : Int).toNat + 1), ?_⟩
    rw [← h]
    exact loop_run (fun s : Int × (List AV) => ⟨[(3, AV.own [0, 3]), (4, AV.int .i64 t4), (5, AV.int .i64 s.1)], [([0, 3], ⟨false, [.int .i64], s.2⟩)]⟩) (fun p : (List AV) => k (.exit 2) ⟨[(3, AV.own [0, 3]), (4, AV.int .i64 t4)], [([0, 3], ⟨false, [.int .i64], p⟩)]⟩) (st92_2 t4 ce k) _ (t5, h0)
  · cases h
theorem s92_0 (ce : CallE) (t4 : Int) (h0 : List AV) (next : St → Option AV) (k : Kont) : stepA (codeA c92 ce [] 92 0 (sub [1, 1, 0, 1, 0, 0] (body Try.f92))) (normA [] [3, 4]) next ⟨[(3, AV.own [0, 3]), (4, AV.int .i64 t4)], [([0, 3], ⟨false, [.int .i64], h0⟩)]⟩ k = (bif decide (t4 < (h0.length : Int)) then (ro (runW (R92_2 t4) ((t4 - 0 : Int).toNat + 1) (t4, h0)) none (fun p17 => next ⟨[(3, AV.own [0, 3]), (4, AV.int .i64 (IntKind.i64.wrap (t4 + 1)))], [([0, 3], ⟨false, [.int .i64], p17⟩)]⟩))
  else k (.exit 0) ⟨[(3, AV.own [0, 3])], [([0, 3], ⟨false, [.int .i64], h0⟩)]⟩) := by kernel_rfl
theorem st92_0 (ce : CallE) (k : Kont) (s : (Int × (List AV))) (next : St → Option AV) : stepA (codeA c92 ce [] 92 0 (sub [1, 1, 0, 1, 0, 0] (body Try.f92))) (normA [] [3, 4]) next ((fun s : Int × (List AV) => ⟨[(3, AV.own [0, 3]), (4, AV.int .i64 s.1)], [([0, 3], ⟨false, [.int .i64], s.2⟩)]⟩) s) k = (R92_0 s).el none (fun s => next ((fun s : Int × (List AV) => ⟨[(3, AV.own [0, 3]), (4, AV.int .i64 s.1)], [([0, 3], ⟨false, [.int .i64], s.2⟩)]⟩) s)) (fun p : (List AV) => k (.exit 0) ⟨[(3, AV.own [0, 3])], [([0, 3], ⟨false, [.int .i64], p⟩)]⟩) := (s92_0 ce s.1 s.2 next k).trans (by unfold R92_0; unfold F92_0; simp only [el_cond, el_ro, el_sum, el_fail, el_next, el_stop] <;> rfl)
theorem ok92_0 {ce : CallE} : LoopOK c92 ce [] 92 0 (sub [1, 1, 0, 1, 0, 0] (body Try.f92)) := by
  intro m hm st k r h
  obtain rfl : l92_0 = m := Option.some.inj hm
  unfold l92_0 at h
  split at h
  · rename_i g0 t4 g1 g2 h0
    obtain ⟨hg, h⟩ := bif_some h
    simp only [Bool.and_eq_true] at hg
    obtain ⟨⟨q0, q1⟩, q2⟩ := hg
    obtain rfl := (nmEq_iff _ _).1 q0
    obtain rfl := (nmEq_iff _ _).1 q1
    obtain rfl := ctsEq_eq _ _ q2
    refine ⟨(((h0.length : Int) - t4 : Int).toNat + 1), ?_⟩
    rw [← h]
    exact loop_run (fun s : Int × (List AV) => ⟨[(3, AV.own [0, 3]), (4, AV.int .i64 s.1)], [([0, 3], ⟨false, [.int .i64], s.2⟩)]⟩) (fun p : (List AV) => k (.exit 0) ⟨[(3, AV.own [0, 3])], [([0, 3], ⟨false, [.int .i64], p⟩)]⟩) (st92_0 ce k) _ (t4, h0)
  · cases h
def q92 (a0 : List AV) : Bool := ((decide ((([] : List AV).length + a0.length) * 8 ≤ 140737488355328) && decide ((([] : List AV).length + a0.length) ≤ 140737488355328)) && (ro (runW (R92_0) ((((([] : List AV) ++ a0).length : Int) - 1 : Int).toNat + 1) (1, ([] : List AV) ++ a0)) false (fun p18 => true)))
def v92_0 (a0 : List AV) : List AV := (ro (runW (R92_0) ((((([] : List AV) ++ a0).length : Int) - 1 : Int).toNat + 1) (1, ([] : List AV) ++ a0)) [] (fun p18 => p18))
theorem e92 (a0 : List AV) : funA c92 0 92 [AV.sl [.int .i64] a0] = (bif (decide ((([] : List AV).length + a0.length) * 8 ≤ 140737488355328) && decide ((([] : List AV).length + a0.length) ≤ 140737488355328)) then (ro (runW (R92_0) ((((([] : List AV) ++ a0).length : Int) - 1 : Int).toNat + 1) (1, ([] : List AV) ++ a0)) none (fun p18 => some (AV.fl [.int .i64] p18)))
  else none) := by kernel_rfl
theorem r92 (a0 : List AV) (h : q92 a0 = true) : funA c92 0 92 [AV.sl [.int .i64] a0] = some (AV.fl [.int .i64] (v92_0 a0)) := (e92 a0).trans ((brL (brO (fun o : Option (((List AV))) => some (AV.fl [.int .i64] (ro o [] (fun p18 => p18)))) (fun p18 => (fun _ => rfl)))) h)
def m92 : TModel
  | [.sl g0 a0] => bif ctsEq g0 ([.int .i64]) then some (q92 a0, AV.fl [.int .i64] (v92_0 a0)) else none
  | _ => none
theorem k92 : Known Try.prog 92 := ⟨Try.f92, Try.func92, by kernel_rfl, by kernel_rfl⟩
theorem meets92 : Meets Try.prog 92 m92 := by
  refine meet (f := Try.f92) (l := [(0, sub [1, 1, 0, 1, 0, 0] (body Try.f92)), (2, sub [1, 1, 0, 1, 0, 0, 1, 0, 0, 1, 0, 0] (body Try.f92))]) (hs := [(92, 0, [3, 4]), (92, 2, [3, 4, 5]), (92, 999, [2]), (92, 1000, [3]), (92, 1001, [3, 4]), (92, 1002, [3, 4]), (92, 1003, [3, 4, 5])]) (ts := []) (ws := [(123, m123)]) (is := []) (ls := [(92, 0, l92_0), (92, 2, l92_2)]) (lvl := 0) mixed k92 Try.func92 (by kernel_rfl) (loops_cons ok92_0 (loops_cons ok92_2 noLoop)) allT_nil (allM_cons meets123 allM_nil) noI fun w xs us r hl hv h => ?_
  unfold m92 at h
  split at h
  · rename_i g0 a0
    obtain ⟨hg, h⟩ := bif_pair h
    have q0 := hg
    obtain rfl := ctsEq_eq _ _ q0
    obtain ⟨h1, rfl⟩ := pair_inj h
    exact r92 a0 h1
  · cases h

/-! ### 41 loop.example/g01984/spec.SemiJoin -/
def F41_0 (h0_0 : List AV) (h0_1 : List AV) (h0_2 : List AV) (h1_0 : List AV) (h1_1 : List AV) (h1_2 : List AV) (t6 : Int) (h2 : List AV) : Out ((Int × (List AV))) (((List AV))) := (bif decide (t6 < (h0_0.length : Int)) then (bif q66 h0_0 h0_1 h0_2 then (bif (v66_0 h0_0 h0_1 h0_2) then (bif q66 h1_0 h1_1 h1_2 then (bif (v66_0 h1_0 h1_1 h1_2) then (bif (decide (0 ≤ t6) && decide (t6 < (h0_0.length : Int))) then (bif q91 h1_0 (fI (h0_0.getD t6.toNat AV.undef) 0) then (bif (v91_0 h1_0 (fI (h0_0.getD t6.toNat AV.undef) 0)) then (bif (decide (0 ≤ t6) && decide (t6 < (h0_1.length : Int))) then (bif (decide ((h2.length + ([AV.int .i64 (fI (h0_1.getD t6.toNat AV.undef) 0)]).length) * 8 ≤ 140737488355328) && decide ((h2.length + ([AV.int .i64 (fI (h0_1.getD t6.toNat AV.undef) 0)]).length) ≤ 140737488355328)) then .next (IntKind.i64.wrap (t6 + 1), h2 ++ ([AV.int .i64 (fI (h0_1.getD t6.toNat AV.undef) 0)]))
  else .fail)
  else .fail)
  else .next (IntKind.i64.wrap (t6 + 1), h2))
  else .fail)
  else .fail)
  else .stop h2)
  else .fail)
  else .stop h2)
  else .fail)
  else .stop h2)
def R41_0 (h0_0 : List AV) (h0_1 : List AV) (h0_2 : List AV) (h1_0 : List AV) (h1_1 : List AV) (h1_2 : List AV) : ((Int × (List AV))) → Out ((Int × (List AV))) (((List AV))) := fun s : Int × (List AV) => F41_0 h0_0 h0_1 h0_2 h1_0 h1_1 h1_2 s.1 s.2
def l41_0 : LModel := fun _ _ st k => match st with
  | ⟨[(2, .ptr g0 g1 g2), (3, .ptr g3 g4 g5), (5, .own g6), (6, .int .i64 t6)], [(g7, ⟨true, [], [.agg [.sl g8 h0_0, .sl g9 h0_1, .sl g10 h0_2]]⟩), (g11, ⟨true, [], [.agg [.sl g12 h1_0, .sl g13 h1_1, .sl g14 h1_2]]⟩), (g15, ⟨false, g16, h2⟩)]⟩ => bif nmEq g0 ([0, 2]) && Nat.beq g1 0 && Nat.beq g2 0 && nmEq g3 ([0, 3]) && Nat.beq g4 0 && Nat.beq g5 0 && nmEq g6 ([0, 5]) && nmEq g7 ([0, 2]) && ctsEq g8 ([.int .i64]) && ctsEq g9 ([.int .i64]) && ctsEq g10 ([.int .i64, .int .i64]) && nmEq g11 ([0, 3]) && ctsEq g12 ([.int .i64]) && ctsEq g13 ([.int .i64]) && ctsEq g14 ([.int .i64, .int .i64]) && nmEq g15 ([0, 5]) && ctsEq g16 ([.int .i64]) then ro (runW (R41_0 h0_0 h0_1 h0_2 h1_0 h1_1 h1_2) (((h0_0.length : Int) - t6 : Int).toNat + 1) (t6, h2)) none (fun p : (List AV) => k (.exit 0) ⟨[(5, AV.own [0, 5])], [([0, 2], ⟨true, [], [AV.agg [AV.sl [.int .i64] h0_0, AV.sl [.int .i64] h0_1, AV.sl [.int .i64, .int .i64] h0_2]]⟩), ([0, 3], ⟨true, [], [AV.agg [AV.sl [.int .i64] h1_0, AV.sl [.int .i64] h1_1, AV.sl [.int .i64, .int .i64] h1_2]]⟩), ([0, 5], ⟨false, [.int .i64], p⟩)]⟩) else none
  | _ => none
noncomputable def c41 : Cfg := cfg Try.prog [(41, 0, [2, 3, 5, 6]), (41, 999, [4]), (41, 1000, [5]), (41, 1001, [2, 3, 5, 6])] [(66, m66), (91, m91), (92, m92)] [] [] [(41, 0, l41_0)]
theorem s41_0 (ce : CallE) (t6 : Int) (h0_0 : List AV) (h0_1 : List AV) (h0_2 : List AV) (h1_0 : List AV) (h1_1 : List AV) (h1_2 : List AV) (h2 : List AV) (next : St → Option AV) (k : Kont) : stepA (codeA c41 ce [] 41 0 (sub [1, 1, 0, 1, 0, 0] (body Try.f41))) (normA [] [2, 3, 5, 6]) next ⟨[(2, AV.ptr [0, 2] 0 0), (3, AV.ptr [0, 3] 0 0), (5, AV.own [0, 5]), (6, AV.int .i64 t6)], [([0, 2], ⟨true, [], [AV.agg [AV.sl [.int .i64] h0_0, AV.sl [.int .i64] h0_1, AV.sl [.int .i64, .int .i64] h0_2]]⟩), ([0, 3], ⟨true, [], [AV.agg [AV.sl [.int .i64] h1_0, AV.sl [.int .i64] h1_1, AV.sl [.int .i64, .int .i64] h1_2]]⟩), ([0, 5], ⟨false, [.int .i64], h2⟩)]⟩ k = (bif decide (t6 < (h0_0.length : Int)) then (bif q66 h0_0 h0_1 h0_2 then (bif (v66_0 h0_0 h0_1 h0_2) then (bif q66 h1_0 h1_1 h1_2 then (bif (v66_0 h1_0 h1_1 h1_2) then (bif (decide (0 ≤ t6) && decide (t6 < (h0_0.length : Int))) then (bif q91 h1_0 (fI (h0_0.getD t6.toNat AV.undef) 0) then (bif (v91_0 h1_0 (fI (h0_0.getD t6.toNat AV.undef) 0)) then (bif (decide (0 ≤ t6) && decide (t6 < (h0_1.length : Int))) then (bif (decide ((h2.length + ([AV.int .i64 (fI (h0_1.getD t6.toNat AV.undef) 0)]).length) * 8 ≤ 140737488355328) && decide ((h2.length + ([AV.int .i64 (fI (h0_1.getD t6.toNat AV.undef) 0)]).length) ≤ 140737488355328)) then next ⟨[(2, AV.ptr [0, 2] 0 0), (3, AV.ptr [0, 3] 0 0), (5, AV.own [0, 5]), (6, AV.int .i64 (IntKind.i64.wrap (t6 + 1)))], [([0, 2], ⟨true, [], [AV.agg [AV.sl [.int .i64] h0_0, AV.sl [.int .i64] h0_1, AV.sl [.int .i64, .int .i64] h0_2]]⟩), ([0, 3], ⟨true, [], [AV.agg [AV.sl [.int .i64] h1_0, AV.sl [.int .i64] h1_1, AV.sl [.int .i64, .int .i64] h1_2]]⟩), ([0, 5], ⟨false, [.int .i64], h2 ++ ([AV.int .i64 (fI (h0_1.getD t6.toNat AV.undef) 0)])⟩)]⟩
  else none)
  else none)
  else next ⟨[(2, AV.ptr [0, 2] 0 0), (3, AV.ptr [0, 3] 0 0), (5, AV.own [0, 5]), (6, AV.int .i64 (IntKind.i64.wrap (t6 + 1)))], [([0, 2], ⟨true, [], [AV.agg [AV.sl [.int .i64] h0_0, AV.sl [.int .i64] h0_1, AV.sl [.int .i64, .int .i64] h0_2]]⟩), ([0, 3], ⟨true, [], [AV.agg [AV.sl [.int .i64] h1_0, AV.sl [.int .i64] h1_1, AV.sl [.int .i64, .int .i64] h1_2]]⟩), ([0, 5], ⟨false, [.int .i64], h2⟩)]⟩)
  else none)
  else none)
  else k (.exit 0) ⟨[(5, AV.own [0, 5])], [([0, 2], ⟨true, [], [AV.agg [AV.sl [.int .i64] h0_0, AV.sl [.int .i64] h0_1, AV.sl [.int .i64, .int .i64] h0_2]]⟩), ([0, 3], ⟨true, [], [AV.agg [AV.sl [.int .i64] h1_0, AV.sl [.int .i64] h1_1, AV.sl [.int .i64, .int .i64] h1_2]]⟩), ([0, 5], ⟨false, [.int .i64], h2⟩)]⟩)
  else none)
  else k (.exit 0) ⟨[(5, AV.own [0, 5])], [([0, 2], ⟨true, [], [AV.agg [AV.sl [.int .i64] h0_0, AV.sl [.int .i64] h0_1, AV.sl [.int .i64, .int .i64] h0_2]]⟩), ([0, 3], ⟨true, [], [AV.agg [AV.sl [.int .i64] h1_0, AV.sl [.int .i64] h1_1, AV.sl [.int .i64, .int .i64] h1_2]]⟩), ([0, 5], ⟨false, [.int .i64], h2⟩)]⟩)
  else none)
  else k (.exit 0) ⟨[(5, AV.own [0, 5])], [([0, 2], ⟨true, [], [AV.agg [AV.sl [.int .i64] h0_0, AV.sl [.int .i64] h0_1, AV.sl [.int .i64, .int .i64] h0_2]]⟩), ([0, 3], ⟨true, [], [AV.agg [AV.sl [.int .i64] h1_0, AV.sl [.int .i64] h1_1, AV.sl [.int .i64, .int .i64] h1_2]]⟩), ([0, 5], ⟨false, [.int .i64], h2⟩)]⟩) := by kernel_rfl
theorem st41_0 (h0_0 : List AV) (h0_1 : List AV) (h0_2 : List AV) (h1_0 : List AV) (h1_1 : List AV) (h1_2 : List AV) (ce : CallE) (k : Kont) (s : (Int × (List AV))) (next : St → Option AV) : stepA (codeA c41 ce [] 41 0 (sub [1, 1, 0, 1, 0, 0] (body Try.f41))) (normA [] [2, 3, 5, 6]) next ((fun s : Int × (List AV) => ⟨[(2, AV.ptr [0, 2] 0 0), (3, AV.ptr [0, 3] 0 0), (5, AV.own [0, 5]), (6, AV.int .i64 s.1)], [([0, 2], ⟨true, [], [AV.agg [AV.sl [.int .i64] h0_0, AV.sl [.int .i64] h0_1, AV.sl [.int .i64, .int .i64] h0_2]]⟩), ([0, 3], ⟨true, [], [AV.agg [AV.sl [.int .i64] h1_0, AV.sl [.int .i64] h1_1, AV.sl [.int .i64, .int .i64] h1_2]]⟩), ([0, 5], ⟨false, [.int .i64], s.2⟩)]⟩) s) k = (R41_0 h0_0 h0_1 h0_2 h1_0 h1_1 h1_2 s).el none (fun s => next ((fun s : Int × (List AV) => ⟨[(2, AV.ptr [0, 2] 0 0), (3, AV.ptr [0, 3] 0 0), (5, AV.own [0, 5]), (6, AV.int .i64 s.1)], [([0, 2], ⟨true, [], [AV.agg [AV.sl [.int .i64] h0_0, AV.sl [.int .i64] h0_1, AV.sl [.int .i64, .int .i64] h0_2]]⟩), ([0, 3], ⟨true, [], [AV.agg [AV.sl [.int .i64] h1_0, AV.sl [.int .i64] h1_1, AV.sl [.int .i64, .int .i64] h1_2]]⟩), ([0, 5], ⟨false, [.int .i64], s.2⟩)]⟩) s)) (fun p : (List AV) => k (.exit 0) ⟨[(5, AV.own [0, 5])], [([0, 2], ⟨true, [], [AV.agg [AV.sl [.int .i64] h0_0, AV.sl [.int .i64] h0_1, AV.sl [.int .i64, .int .i64] h0_2]]⟩), ([0, 3], ⟨true, [], [AV.agg [AV.sl [.int .i64] h1_0, AV.sl [.int .i64] h1_1, AV.sl [.int .i64, .int .i64] h1_2]]⟩), ([0, 5], ⟨false, [.int .i64], p⟩)]⟩) := (s41_0 ce s.1 h0_0 h0_1 h0_2 h1_0 h1_1 h1_2 s.2 next k).trans (by unfold R41_0; unfold F41_0; simp only [el_cond, el_ro, el_sum, el_fail, el_next, el_stop] <;> rfl)
theorem ok41_0 {ce : CallE} : LoopOK c41 ce [] 41 0 (sub [1, 1, 0, 1, 0, 0] (body Try.f41)) := by
  intro m hm st k r h
  obtain rfl : l41_0 = m := Option.some.inj hm
  unfold l41_0 at h
  split at h
  · rename_i g0 g1 g2 g3 g4 g5 g6 t6 g7 g8 h0_0 g9 h0_1 g10 h0_2 g11 g12 h1_0 g13 h1_1 g14 h1_2 g15 g16 h2
    obtain ⟨hg, h⟩ := bif_some h
    simp only [Bool.and_eq_true] at hg
    obtain ⟨⟨⟨⟨⟨⟨⟨⟨⟨⟨⟨⟨⟨⟨⟨⟨q0, q1⟩, q2⟩, q3⟩, q4⟩, q5⟩, q6⟩, q7⟩, q8⟩, q9⟩, q10⟩, q11⟩, q12⟩, q13⟩, q14⟩, q15⟩, q16⟩ := hg
    obtain rfl := (nmEq_iff _ _).1 q0
    obtain rfl := Nat.eq_of_beq_eq_true q1
    obtain rfl := Nat.eq_of_beq_eq_true q2
    obtain rfl := (nmEq_iff _ _).1 q3
    obtain rfl := Nat.eq_of_beq_eq_true q4
    obtain rfl := Nat.eq_of_beq_eq_true q5
    obtain rfl := (nmEq_iff _ _).1 q6
    obtain rfl := (nmEq_iff _ _).1 q7
    obtain rfl := ctsEq_eq _ _ q8
    obtain rfl := ctsEq_eq _ _ q9
    obtain rfl := ctsEq_eq _ _ q10
    obtain rfl := (nmEq_iff _ _).1 q11
    obtain rfl := ctsEq_eq _ _ q12
    obtain rfl := ctsEq_eq _ _ q13
    obtain rfl := ctsEq_eq _ _ q14
    obtain rfl := (nmEq_iff _ _).1 q15
    obtain rfl := ctsEq_eq _ _ q16
    refine ⟨(((h0_0.length : Int) - t6 : Int).toNat + 1), ?_⟩
    rw [← h]
    exact loop_run (fun s : Int × (List AV) => ⟨[(2, AV.ptr [0, 2] 0 0), (3, AV.ptr [0, 3] 0 0), (5, AV.own [0, 5]), (6, AV.int .i64 s.1)], [([0, 2], ⟨true, [], [AV.agg [AV.sl [.int .i64] h0_0, AV.sl [.int .i64] h0_1, AV.sl [.int .i64, .int .i64] h0_2]]⟩), ([0, 3], ⟨true, [], [AV.agg [AV.sl [.int .i64] h1_0, AV.sl [.int .i64] h1_1, AV.sl [.int .i64, .int .i64] h1_2]]⟩), ([0, 5], ⟨false, [.int .i64], s.2⟩)]⟩) (fun p : (List AV) => k (.exit 0) ⟨[(5, AV.own [0, 5])], [([0, 2], ⟨true, [], [AV.agg [AV.sl [.int .i64] h0_0, AV.sl [.int .i64] h0_1, AV.sl [.int .i64, .int .i64] h0_2]]⟩), ([0, 3], ⟨true, [], [AV.agg [AV.sl [.int .i64] h1_0, AV.sl [.int .i64] h1_1, AV.sl [.int .i64, .int .i64] h1_2]]⟩), ([0, 5], ⟨false, [.int .i64], p⟩)]⟩) (st41_0 h0_0 h0_1 h0_2 h1_0 h1_1 h1_2 ce k) _ (t6, h2)
  · cases h
def q41 (a0_0 : List AV) (a0_1 : List AV) (a0_2 : List AV) (a1_0 : List AV) (a1_1 : List AV) (a1_2 : List AV) : Bool := (ro (runW (R41_0 a0_0 a0_1 a0_2 a1_0 a1_1 a1_2) (((a0_0.length : Int) - 0 : Int).toNat + 1) (0, ([] : List AV))) false (fun p16 => q92 p16))
def v41_0 (a0_0 : List AV) (a0_1 : List AV) (a0_2 : List AV) (a1_0 : List AV) (a1_1 : List AV) (a1_2 : List AV) : List AV := (ro (runW (R41_0 a0_0 a0_1 a0_2 a1_0 a1_1 a1_2) (((a0_0.length : Int) - 0 : Int).toNat + 1) (0, ([] : List AV))) [] (fun p16 => (v92_0 p16)))
theorem e41 (a0_0 : List AV) (a0_1 : List AV) (a0_2 : List AV) (a1_0 : List AV) (a1_1 : List AV) (a1_2 : List AV) : funA c41 0 41 [AV.agg [AV.sl [.int .i64] a0_0, AV.sl [.int .i64] a0_1, AV.sl [.int .i64, .int .i64] a0_2], AV.agg [AV.sl [.int .i64] a1_0, AV.sl [.int .i64] a1_1, AV.sl [.int .i64, .int .i64] a1_2]] = (ro (runW (R41_0 a0_0 a0_1 a0_2 a1_0 a1_1 a1_2) (((a0_0.length : Int) - 0 : Int).toNat + 1) (0, ([] : List AV))) none (fun p16 => (bif q92 p16 then some (AV.fl [.int .i64] (v92_0 p16))
  else none))) := by kernel_rfl
theorem r41 (a0_0 : List AV) (a0_1 : List AV) (a0_2 : List AV) (a1_0 : List AV) (a1_1 : List AV) (a1_2 : List AV) (h : q41 a0_0 a0_1 a0_2 a1_0 a1_1 a1_2 = true) : funA c41 0 41 [AV.agg [AV.sl [.int .i64] a0_0, AV.sl [.int .i64] a0_1, AV.sl [.int .i64, .int .i64] a0_2], AV.agg [AV.sl [.int .i64] a1_0, AV.sl [.int .i64] a1_1, AV.sl [.int .i64, .int .i64] a1_2]] = some (AV.fl [.int .i64] (v41_0 a0_0 a0_1 a0_2 a1_0 a1_1 a1_2)) := (e41 a0_0 a0_1 a0_2 a1_0 a1_1 a1_2).trans ((brO (fun o : Option (((List AV))) => some (AV.fl [.int .i64] (ro o [] (fun p16 => (v92_0 p16))))) (fun p16 => (brL1 (fun _ => rfl)))) h)
def m41 : TModel
  | [.agg [.sl g0 a0_0, .sl g1 a0_1, .sl g2 a0_2], .agg [.sl g3 a1_0, .sl g4 a1_1, .sl g5 a1_2]] => bif ctsEq g0 ([.int .i64]) && ctsEq g1 ([.int .i64]) && ctsEq g2 ([.int .i64, .int .i64]) && ctsEq g3 ([.int .i64]) && ctsEq g4 ([.int .i64]) && ctsEq g5 ([.int .i64, .int .i64]) then some (q41 a0_0 a0_1 a0_2 a1_0 a1_1 a1_2, AV.fl [.int .i64] (v41_0 a0_0 a0_1 a0_2 a1_0 a1_1 a1_2)) else none
  | _ => none
theorem k41 : Known Try.prog 41 := ⟨Try.f41, Try.func41, by kernel_rfl, by kernel_rfl⟩
theorem meets41 : Meets Try.prog 41 m41 := by
  refine meet (f := Try.f41) (l := [(0, sub [1, 1, 0, 1, 0, 0] (body Try.f41))]) (hs := [(41, 0, [2, 3, 5, 6]), (41, 999, [4]), (41, 1000, [5]), (41, 1001, [2, 3, 5, 6])]) (ts := [(66, m66), (91, m91), (92, m92)]) (ws := []) (is := []) (ls := [(41, 0, l41_0)]) (lvl := 0) mixed k41 Try.func41 (by kernel_rfl) (loops_cons ok41_0 noLoop) (allT_cons meets66 (allT_cons meets91 (allT_cons meets92 allT_nil))) allM_nil noI fun w xs us r hl hv h => ?_
  unfold m41 at h
  split at h
  · rename_i g0 a0_0 g1 a0_1 g2 a0_2 g3 a1_0 g4 a1_1 g5 a1_2
    obtain ⟨hg, h⟩ := bif_pair h
    simp only [Bool.and_eq_true] at hg
    obtain ⟨⟨⟨⟨⟨q0, q1⟩, q2⟩, q3⟩, q4⟩, q5⟩ := hg
    obtain rfl := ctsEq_eq _ _ q0
    obtain rfl := ctsEq_eq _ _ q1
    obtain rfl := ctsEq_eq _ _ q2
    obtain rfl := ctsEq_eq _ _ q3
    obtain rfl := ctsEq_eq _ _ q4
    obtain rfl := ctsEq_eq _ _ q5
    obtain ⟨h1, rfl⟩ := pair_inj h
    exact r41 a0_0 a0_1 a0_2 a1_0 a1_1 a1_2 h1
  · cases h

/-! ### 142 loop.example/g01984/impl.within$1 -/
noncomputable def c142 : Cfg := cfg Try.prog [(142, 999, [4])] [] [] [] []
def q142 (a0 : Int) (a1 : AV) (a2 : AV) : Bool := true
def v142_0 (a0 : Int) (a1 : AV) (a2 : AV) : Bool := (bif decide (a0 < fI a1 0) then true else decide (a0 > fI a2 0))
theorem e142 (a0 : Int) (a1 : AV) (a2 : AV) : funA c142 0 142 [AV.int .i64 a0, AV.rptr [.int .i64] a1 0, AV.rptr [.int .i64] a2 0] = (bif decide (a0 < fI a1 0) then some (AV.bool true)
  else some (AV.bool (decide (a0 > fI a2 0)))) := by kernel_rfl
theorem r142 (a0 : Int) (a1 : AV) (a2 : AV) : funA c142 0 142 [AV.int .i64 a0, AV.rptr [.int .i64] a1 0, AV.rptr [.int .i64] a2 0] = some (AV.bool (v142_0 a0 a1 a2)) := (e142 a0 a1 a2).trans (of_tt (brT (fun b => some (AV.bool (bif b then true else decide (a0 > fI a2 0)))) (fun _ => rfl) (fun _ => rfl)))
def m142 : TModel
  | [.int .i64 a0, .rptr g0 a1 g1, .rptr g2 a2 g3] => bif ctsEq g0 ([.int .i64]) && Nat.beq g1 0 && ctsEq g2 ([.int .i64]) && Nat.beq g3 0 then some (true, AV.bool (v142_0 a0 a1 a2)) else none
  | _ => none
theorem k142 : Known Try.prog 142 := ⟨Try.f142, Try.func142, by kernel_rfl, by kernel_rfl⟩
theorem meets142 : Meets Try.prog 142 m142 := by
  refine meet (f := Try.f142) (l := []) (hs := [(142, 999, [4])]) (ts := []) (ws := []) (is := []) (ls := []) (lvl := 0) mixed k142 Try.func142 (by kernel_rfl) noLoop allT_nil allM_nil noI fun w xs us r hl hv h => ?_
  unfold m142 at h
  split at h
  · rename_i a0 g0 a1 g1 g2 a2 g3
    obtain ⟨hg, h⟩ := bif_pair h
    simp only [Bool.and_eq_true] at hg
    obtain ⟨⟨⟨q0, q1⟩, q2⟩, q3⟩ := hg
    obtain rfl := ctsEq_eq _ _ q0
    obtain rfl := Nat.eq_of_beq_eq_true q1
    obtain rfl := ctsEq_eq _ _ q2
    obtain rfl := Nat.eq_of_beq_eq_true q3
    obtain ⟨h1, rfl⟩ := pair_inj h
    exact r142 a0 a1 a2
  · cases h

/-! ### 154 slices.IndexFunc[[]int,int] -/
def F154_0 (t0 : List AV) (t1_0 : AV) (t1_1 : AV) (t7 : Int) (t8 : Int) : Out (Int) (Unit ⊕ Int) := (bif decide (t8 < t7) then (bif (decide (0 ≤ t8) && decide (t8 < (t0.length : Int))) then (bif (v142_0 (fI (t0.getD t8.toNat AV.undef) 0) t1_0 t1_1) then .stop (.inr t8)
  else .next (IntKind.i64.wrap (t8 + 1)))
  else .fail)
  else .stop (.inl ()))
def R154_0 (t0 : List AV) (t1_0 : AV) (t1_1 : AV) (t7 : Int) : (Int) → Out (Int) (Unit ⊕ Int) := fun s : Int => F154_0 t0 t1_0 t1_1 t7 s
def l154_0 : LModel := fun _ _ st k => match st with
  | ⟨[(0, .sl g0 t0), (1, .fn g1 [.rptr g2 t1_0 g3, .rptr g4 t1_1 g5]), (7, .int .i64 t7), (8, .int .i64 t8)], []⟩ => bif ctsEq g0 ([.int .i64]) && Nat.beq g1 142 && ctsEq g2 ([.int .i64]) && Nat.beq g3 0 && ctsEq g4 ([.int .i64]) && Nat.beq g5 0 then ro (runW (R154_0 t0 t1_0 t1_1 t7) ((t7 - t8 : Int).toNat + 1) t8) none (sumE (fun _ : Unit => k (.exit 0) ⟨[], []⟩) (fun p : Int => k .ret ⟨[(4, AV.int .i64 p)], []⟩)) else none
  | _ => none
noncomputable def c154 : Cfg := cfg Try.prog [(154, 0, [0, 1, 7, 8]), (154, 999, [4]), (154, 1000, []), (154, 1001, [0, 1, 7, 8])] [(142, m142)] [] [] [(154, 0, l154_0)]
theorem s154_0 (ce : CallE) (t0 : List AV) (t1_0 : AV) (t1_1 : AV) (t7 : Int) (t8 : Int) (next : St → Option AV) (k : Kont) : stepA (codeA c154 ce [] 154 0 (sub [1, 0, 1, 0, 0] (body Try.f154))) (normA [] [0, 1, 7, 8]) next ⟨[(0, AV.sl [.int .i64] t0), (1, AV.fn 142 [AV.rptr [.int .i64] t1_0 0, AV.rptr [.int .i64] t1_1 0]), (7, AV.int .i64 t7), (8, AV.int .i64 t8)], []⟩ k = (bif decide (t8 < t7) then (bif (decide (0 ≤ t8) && decide (t8 < (t0.length : Int))) then (bif (v142_0 (fI (t0.getD t8.toNat AV.undef) 0) t1_0 t1_1) then k .ret ⟨[(4, AV.int .i64 t8)], []⟩
  else next ⟨[(0, AV.sl [.int .i64] t0), (1, AV.fn 142 [AV.rptr [.int .i64] t1_0 0, AV.rptr [.int .i64] t1_1 0]), (7, AV.int .i64 t7), (8, AV.int .i64 (IntKind.i64.wrap (t8 + 1)))], []⟩)
  else none)
  else k (.exit 0) ⟨[], []⟩) := by kernel_rfl
theorem st154_0 (t0 : List AV) (t1_0 : AV) (t1_1 : AV) (t7 : Int) (ce : CallE) (k : Kont) (s : Int) (next : St → Option AV) : stepA (codeA c154 ce [] 154 0 (sub [1, 0, 1, 0, 0] (body Try.f154))) (normA [] [0, 1, 7, 8]) next ((fun s : Int => ⟨[(0, AV.sl [.int .i64] t0), (1, AV.fn 142 [AV.rptr [.int .i64] t1_0 0, AV.rptr [.int .i64] t1_1 0]), (7, AV.int .i64 t7), (8, AV.int .i64 s)], []⟩) s) k = (R154_0 t0 t1_0 t1_1 t7 s).el none (fun s => next ((fun s : Int => ⟨[(0, AV.sl [.int .i64] t0), (1, AV.fn 142 [AV.rptr [.int .i64] t1_0 0, AV.rptr [.int .i64] t1_1 0]), (7, AV.int .i64 t7), (8, AV.int .i64 s)], []⟩) s)) (sumE (fun _ : Unit => k (.exit 0) ⟨[], []⟩) (fun p : Int => k .ret ⟨[(4, AV.int .i64 p)], []⟩)) := (s154_0 ce t0 t1_0 t1_1 t7 s next k).trans (by unfold R154_0; unfold F154_0; simp only [el_cond, el_ro, el_sum, el_fail, el_next, el_stop] <;> rfl)
theorem ok154_0 {ce : CallE} : LoopOK c154 ce [] 154 0 (sub [1, 0, 1, 0, 0] (body Try.f154)) := by
  intro m hm st k r h
  obtain rfl : l154_0 = m := Option.some.inj hm
  unfold l154_0 at h
  split at h
  · rename_i g0 t0 g1 g2 t1_0 g3 g4 t1_1 g5 t7 t8
    obtain ⟨hg, h⟩ := bif_some h
    simp only [Bool.and_eq_true] at hg
    obtain ⟨⟨⟨⟨⟨q0, q1⟩, q2⟩, q3⟩, q4⟩, q5⟩ := hg
    obtain rfl := ctsEq_eq _ _ q0
    obtain rfl := Nat.eq_of_beq_eq_true q1
    obtain rfl := ctsEq_eq _ _ q2
    obtain rfl := Nat.eq_of_beq_eq_true q3
    obtain rfl := ctsEq_eq _ _ q4
    obtain rfl := Nat.eq_of_beq_eq_true q5
    refine ⟨((t7 - t8 : Int).toNat + 1), ?_⟩
    rw [← h]
    exact loop_run (fun s : Int => ⟨[(0, AV.sl [.int .i64] t0), (1, AV.fn 142 [AV.rptr [.int .i64] t1_0 0, AV.rptr [.int .i64] t1_1 0]), (7, AV.int .i64 t7), (8, AV.int .i64 s)], []⟩) (sumE (fun _ : Unit => k (.exit 0) ⟨[], []⟩) (fun p : Int => k .ret ⟨[(4, AV.int .i64 p)], []⟩)) (st154_0 t0 t1_0 t1_1 t7 ce k) _ t8
  · cases h
def q154 (a0 : List AV) (a1_0 : AV) (a1_1 : AV) : Bool := (ro (runW (R154_0 a0 a1_0 a1_1 (a0.length : Int)) (((a0.length : Int) - 0 : Int).toNat + 1) 0) false (sumE (fun _ => true) (fun p20 => true)))
def v154_0 (a0 : List AV) (a1_0 : AV) (a1_1 : AV) : Int := (ro (runW (R154_0 a0 a1_0 a1_1 (a0.length : Int)) (((a0.length : Int) - 0 : Int).toNat + 1) 0) 0 (sumE (fun _ => (-1)) (fun p20 => p20)))
theorem e154 (a0 : List AV) (a1_0 : AV) (a1_1 : AV) : funA c154 0 154 [AV.sl [.int .i64] a0, AV.fn 142 [AV.rptr [.int .i64] a1_0 0, AV.rptr [.int .i64] a1_1 0]] = (ro (runW (R154_0 a0 a1_0 a1_1 (a0.length : Int)) (((a0.length : Int) - 0 : Int).toNat + 1) 0) none (sumE (fun _ => some (AV.int .i64 (-1))) (fun p20 => some (AV.int .i64 p20)))) := by kernel_rfl
theorem r154 (a0 : List AV) (a1_0 : AV) (a1_1 : AV) (h : q154 a0 a1_0 a1_1 = true) : funA c154 0 154 [AV.sl [.int .i64] a0, AV.fn 142 [AV.rptr [.int .i64] a1_0 0, AV.rptr [.int .i64] a1_1 0]] = some (AV.int .i64 (v154_0 a0 a1_0 a1_1)) := (e154 a0 a1_0 a1_1).trans ((brO (fun o : Option (Unit ⊕ Int) => some (AV.int .i64 (ro o 0 (sumE (fun _ => (-1)) (fun p20 => p20))))) (brS (fun o : Unit ⊕ Int => some (AV.int .i64 ((sumE (fun _ => (-1)) (fun p20 => p20)) o))) (fun _ => (fun _ => rfl)) (fun p20 => (fun _ => rfl)))) h)
def m154 : TModel
  | [.sl g0 a0, .fn g1 [.rptr g2 a1_0 g3, .rptr g4 a1_1 g5]] => bif ctsEq g0 ([.int .i64]) && Nat.beq g1 142 && ctsEq g2 ([.int .i64]) && Nat.beq g3 0 && ctsEq g4 ([.int .i64]) && Nat.beq g5 0 then some (q154 a0 a1_0 a1_1, AV.int .i64 (v154_0 a0 a1_0 a1_1)) else none
  | _ => none
theorem k154 : Known Try.prog 154 := ⟨Try.f154, Try.func154, by kernel_rfl, by kernel_rfl⟩
theorem meets154 : Meets Try.prog 154 m154 := by
  refine meet (f := Try.f154) (l := [(0, sub [1, 0, 1, 0, 0] (body Try.f154))]) (hs := [(154, 0, [0, 1, 7, 8]), (154, 999, [4]), (154, 1000, []), (154, 1001, [0, 1, 7, 8])]) (ts := [(142, m142)]) (ws := []) (is := []) (ls := [(154, 0, l154_0)]) (lvl := 0) mixed k154 Try.func154 (by kernel_rfl) (loops_cons ok154_0 noLoop) (allT_cons meets142 allT_nil) allM_nil noI fun w xs us r hl hv h => ?_
  unfold m154 at h
  split at h
  · rename_i g0 a0 g1 g2 a1_0 g3 g4 a1_1 g5
    obtain ⟨hg, h⟩ := bif_pair h
    simp only [Bool.and_eq_true] at hg
    obtain ⟨⟨⟨⟨⟨q0, q1⟩, q2⟩, q3⟩, q4⟩, q5⟩ := hg
    obtain rfl := ctsEq_eq _ _ q0
    obtain rfl := Nat.eq_of_beq_eq_true q1
    obtain rfl := ctsEq_eq _ _ q2
    obtain rfl := Nat.eq_of_beq_eq_true q3
    obtain rfl := ctsEq_eq _ _ q4
    obtain rfl := Nat.eq_of_beq_eq_true q5
    obtain ⟨h1, rfl⟩ := pair_inj h
    exact r154 a0 a1_0 a1_1 h1
  · cases h

/-! ### 141 slices.ContainsFunc[[]int,int] -/
noncomputable def c141 : Cfg := cfg Try.prog [(141, 999, [4])] [(154, m154)] [] [] []
def q141 (a0 : List AV) (a1_0 : AV) (a1_1 : AV) : Bool := q154 a0 a1_0 a1_1
def v141_0 (a0 : List AV) (a1_0 : AV) (a1_1 : AV) : Bool := decide ((v154_0 a0 a1_0 a1_1) ≥ 0)
theorem e141 (a0 : List AV) (a1_0 : AV) (a1_1 : AV) : funA c141 0 141 [AV.sl [.int .i64] a0, AV.fn 142 [AV.rptr [.int .i64] a1_0 0, AV.rptr [.int .i64] a1_1 0]] = (bif q154 a0 a1_0 a1_1 then some (AV.bool (decide ((v154_0 a0 a1_0 a1_1) ≥ 0)))
  else none) := by kernel_rfl
theorem r141 (a0 : List AV) (a1_0 : AV) (a1_1 : AV) (h : q141 a0 a1_0 a1_1 = true) : funA c141 0 141 [AV.sl [.int .i64] a0, AV.fn 142 [AV.rptr [.int .i64] a1_0 0, AV.rptr [.int .i64] a1_1 0]] = some (AV.bool (v141_0 a0 a1_0 a1_1)) := (e141 a0 a1_0 a1_1).trans ((brL1 (fun _ => rfl)) h)
def m141 : TModel
  | [.sl g0 a0, .fn g1 [.rptr g2 a1_0 g3, .rptr g4 a1_1 g5]] => bif ctsEq g0 ([.int .i64]) && Nat.beq g1 142 && ctsEq g2 ([.int .i64]) && Nat.beq g3 0 && ctsEq g4 ([.int .i64]) && Nat.beq g5 0 then some (q141 a0 a1_0 a1_1, AV.bool (v141_0 a0 a1_0 a1_1)) else none
  | _ => none
theorem k141 : Known Try.prog 141 := ⟨Try.f141, Try.func141, by kernel_rfl, by kernel_rfl⟩
theorem meets141 : Meets Try.prog 141 m141 := by
  refine meet (f := Try.f141) (l := []) (hs := [(141, 999, [4])]) (ts := [(154, m154)]) (ws := []) (is := []) (ls := []) (lvl := 0) mixed k141 Try.func141 (by kernel_rfl) noLoop (allT_cons meets154 allT_nil) allM_nil noI fun w xs us r hl hv h => ?_
  unfold m141 at h
  split at h
  · rename_i g0 a0 g1 g2 a1_0 g3 g4 a1_1 g5
    obtain ⟨hg, h⟩ := bif_pair h
    simp only [Bool.and_eq_true] at hg
    obtain ⟨⟨⟨⟨⟨q0, q1⟩, q2⟩, q3⟩, q4⟩, q5⟩ := hg
    obtain rfl := ctsEq_eq _ _ q0
    obtain rfl := Nat.eq_of_beq_eq_true q1
    obtain rfl := ctsEq_eq _ _ q2
    obtain rfl := Nat.eq_of_beq_eq_true q3
    obtain rfl := ctsEq_eq _ _ q4
    obtain rfl := Nat.eq_of_beq_eq_true q5
    obtain ⟨h1, rfl⟩ := pair_inj h
    exact r141 a0 a1_0 a1_1 h1
  · cases h

/-! ### 112 loop.example/g01984/impl.within -/
noncomputable def c112 : Cfg := cfg Try.prog [(112, 999, [6])] [(141, m141)] [] [] []
def q112 (a0 : List AV) (a1 : Int) (a2 : Int) : Bool := q141 a0 (AV.int .i64 a1) (AV.int .i64 a2)
def v112_0 (a0 : List AV) (a1 : Int) (a2 : Int) : Bool := !(v141_0 a0 (AV.int .i64 a1) (AV.int .i64 a2))
theorem e112 (a0 : List AV) (a1 : Int) (a2 : Int) : funA c112 0 112 [AV.sl [.int .i64] a0, AV.int .i64 a1, AV.int .i64 a2] = (bif q141 a0 (AV.int .i64 a1) (AV.int .i64 a2) then some (AV.bool (!(v141_0 a0 (AV.int .i64 a1) (AV.int .i64 a2))))
  else none) := by kernel_rfl
theorem r112 (a0 : List AV) (a1 : Int) (a2 : Int) (h : q112 a0 a1 a2 = true) : funA c112 0 112 [AV.sl [.int .i64] a0, AV.int .i64 a1, AV.int .i64 a2] = some (AV.bool (v112_0 a0 a1 a2)) := (e112 a0 a1 a2).trans ((brL1 (fun _ => rfl)) h)
def m112 : TModel
  | [.sl g0 a0, .int .i64 a1, .int .i64 a2] => bif ctsEq g0 ([.int .i64]) then some (q112 a0 a1 a2, AV.bool (v112_0 a0 a1 a2)) else none
  | _ => none
theorem k112 : Known Try.prog 112 := ⟨Try.f112, Try.func112, by kernel_rfl, by kernel_rfl⟩
theorem meets112 : Meets Try.prog 112 m112 := by
  refine meet (f := Try.f112) (l := []) (hs := [(112, 999, [6])]) (ts := [(141, m141)]) (ws := []) (is := []) (ls := []) (lvl := 0) mixed k112 Try.func112 (by kernel_rfl) noLoop (allT_cons meets141 allT_nil) allM_nil noI fun w xs us r hl hv h => ?_
  unfold m112 at h
  split at h
  · rename_i g0 a0 a1 a2
    obtain ⟨hg, h⟩ := bif_pair h
    have q0 := hg
    obtain rfl := ctsEq_eq _ _ q0
    obtain ⟨h1, rfl⟩ := pair_inj h
    exact r112 a0 a1 a2 h1
  · cases h

/-! ### 84 loop.example/g01984/impl.AreValues -/
noncomputable def c84 : Cfg := cfg Try.prog [(84, 999, [2])] [(112, m112)] [] [] []
def q84 (a0 : List AV) : Bool := (bif decide ((a0.length : Int) ≤ 64) then q112 a0 (-999) 999 else true)
def v84_0 (a0 : List AV) : Bool := (bif decide ((a0.length : Int) ≤ 64) then (v112_0 a0 (-999) 999) else false)
theorem e84 (a0 : List AV) : funA c84 0 84 [AV.sl [.int .i64] a0] = (bif decide ((a0.length : Int) ≤ 64) then (bif q112 a0 (-999) 999 then some (AV.bool (v112_0 a0 (-999) 999))
  else none)
  else some (AV.bool false)) := by kernel_rfl
theorem r84 (a0 : List AV) (h : q84 a0 = true) : funA c84 0 84 [AV.sl [.int .i64] a0] = some (AV.bool (v84_0 a0)) := (e84 a0).trans ((br (fun b => some (AV.bool (bif b then (v112_0 a0 (-999) 999) else false))) (brL1 (fun _ => rfl)) (fun _ => rfl)) h)
def m84 : TModel
  | [.sl g0 a0] => bif ctsEq g0 ([.int .i64]) then some (q84 a0, AV.bool (v84_0 a0)) else none
  | _ => none
theorem k84 : Known Try.prog 84 := ⟨Try.f84, Try.func84, by kernel_rfl, by kernel_rfl⟩
theorem meets84 : Meets Try.prog 84 m84 := by
  refine meet (f := Try.f84) (l := []) (hs := [(84, 999, [2])]) (ts := [(112, m112)]) (ws := []) (is := []) (ls := []) (lvl := 0) mixed k84 Try.func84 (by kernel_rfl) noLoop (allT_cons meets112 allT_nil) allM_nil noI fun w xs us r hl hv h => ?_
  unfold m84 at h
  split at h
  · rename_i g0 a0
    obtain ⟨hg, h⟩ := bif_pair h
    have q0 := hg
    obtain rfl := ctsEq_eq _ _ q0
    obtain ⟨h1, rfl⟩ := pair_inj h
    exact r84 a0 h1
  · cases h

/-! ### 143 slices.Index[[]int,int] -/
def F143_0 (t0 : List AV) (t1 : Int) (t7 : Int) (t8 : Int) : Out (Int) (Unit ⊕ Int) := (bif decide (t8 < t7) then (bif (decide (0 ≤ t8) && decide (t8 < (t0.length : Int))) then (bif decide (t1 = fI (t0.getD t8.toNat AV.undef) 0) then .stop (.inr t8)
  else .next (IntKind.i64.wrap (t8 + 1)))
  else .fail)
  else .stop (.inl ()))
def R143_0 (t0 : List AV) (t1 : Int) (t7 : Int) : (Int) → Out (Int) (Unit ⊕ Int) := fun s : Int => F143_0 t0 t1 t7 s
def l143_0 : LModel := fun _ _ st k => match st with
  | ⟨[(0, .sl g0 t0), (1, .int .i64 t1), (7, .int .i64 t7), (8, .int .i64 t8)], []⟩ => bif ctsEq g0 ([.int .i64]) then ro (runW (R143_0 t0 t1 t7) ((t7 - t8 : Int).toNat + 1) t8) none (sumE (fun _ : Unit => k (.exit 0) ⟨[], []⟩) (fun p : Int => k .ret ⟨[(4, AV.int .i64 p)], []⟩)) else none
  | _ => none
noncomputable def c143 : Cfg := cfg Try.prog [(143, 0, [0, 1, 7, 8]), (143, 999, [4]), (143, 1000, []), (143, 1001, [0, 1, 7, 8])] [] [] [] [(143, 0, l143_0)]
theorem s143_0 (ce : CallE) (t0 : List AV) (t1 : Int) (t7 : Int) (t8 : Int) (next : St → Option AV) (k : Kont) : stepA (codeA c143 ce [] 143 0 (sub [1, 0, 1, 0, 0] (body Try.f143))) (normA [] [0, 1, 7, 8]) next ⟨[(0, AV.sl [.int .i64] t0), (1, AV.int .i64 t1), (7, AV.int .i64 t7), (8, AV.int .i64 t8)], []⟩ k = (bif decide (t8 < t7) then (bif (decide (0 ≤ t8) && decide (t8 < (t0.length : Int))) then (bif decide (t1 = fI (t0.getD t8.toNat AV.undef) 0) then k .ret ⟨[(4, AV.int .i64 t8)], []⟩
  else next ⟨[(0, AV.sl [.int .i64] t0), (1, AV.int .i64 t1), (7, AV.int .i64 t7), (8, AV.int .i64 (IntKind.i64.wrap (t8 + 1)))], []⟩)
  else none)
  else k (.exit 0) ⟨[], []⟩) := by kernel_rfl
theorem st143_0 (t0 : List AV) (t1 : Int) (t7 : Int) (ce : CallE) (k : Kont) (s : Int) (next : St → Option AV) : stepA (codeA c143 ce [] 143 0 (sub [1, 0, 1, 0, 0] (body Try.f143))) (normA [] [0, 1, 7, 8]) next ((fun s : Int => ⟨[(0, AV.sl [.int .i64] t0), (1, AV.int .i64 t1), (7, AV.int .i64 t7), (8, AV.int .i64 s)], []⟩) s) k = (R143_0 t0 t1 t7 s).el none (fun s => next ((fun s : Int => ⟨[(0, AV.sl [.int .i64] t0), (1, AV.int .i64 t1), (7, AV.int .i64 t7), (8, AV.int .i64 s)], []⟩) s)) (sumE (fun _ : Unit => k (.exit 0) ⟨[], []⟩) (fun p : Int => k .ret ⟨[(4, AV.int .i64 p)], []⟩)) := (s143_0 ce t0 t1 t7 s next k).trans (by unfold R143_0; unfold F143_0; simp only [el_cond, el_ro, el_sum, el_fail, el_next, el_stop] <;> rfl)
theorem ok143_0 {ce : CallE} : LoopOK c143 ce [] 143 0 (sub [1, 0, 1, 0, 0] (body Try.f143)) := by
  intro m hm st k r h
  obtain rfl : l143_0 = m := Option.some.inj hm
  unfold l143_0 at h
  split at h
  · rename_i g0 t0 t1 t7 t8
    obtain ⟨hg, h⟩ := bif_some h
    have q0 := hg
    obtain rfl := ctsEq_eq _ _ q0
    refine ⟨((t7 - t8 : Int).toNat + 1), ?_⟩
    rw [← h]
    exact loop_run (fun s : Int => ⟨[(0, AV.sl [.int .i64] t0), (1, AV.int .i64 t1), (7, AV.int .i64 t7), (8, AV.int .i64 s)], []⟩) (sumE (fun _ : Unit => k (.exit 0) ⟨[], []⟩) (fun p : Int => k .ret ⟨[(4, AV.int .i64 p)], []⟩)) (st143_0 t0 t1 t7 ce k) _ t8
  · cases h
def q143 (a0 : List AV) (a1 : Int) : Bool := (ro (runW (R143_0 a0 a1 (a0.length : Int)) (((a0.length : Int) - 0 : Int).toNat + 1) 0) false (sumE (fun _ => true) (fun p22 => true)))
def v143_0 (a0 : List AV) (a1 : Int) : Int := (ro (runW (R143_0 a0 a1 (a0.length : Int)) (((a0.length : Int) - 0 : Int).toNat + 1) 0) 0 (sumE (fun _ => (-1)) (fun p22 => p22)))
theorem e143 (a0 : List AV) (a1 : Int) : funA c143 0 143 [AV.sl [.int .i64] a0, AV.int .i64 a1] = (ro (runW (R143_0 a0 a1 (a0.length : Int)) (((a0.length : Int) - 0 : Int).toNat + 1) 0) none (sumE (fun _ => some (AV.int .i64 (-1))) (fun p22 => some (AV.int .i64 p22)))) := by kernel_rfl
theorem r143 (a0 : List AV) (a1 : Int) (h : q143 a0 a1 = true) : funA c143 0 143 [AV.sl [.int .i64] a0, AV.int .i64 a1] = some (AV.int .i64 (v143_0 a0 a1)) := (e143 a0 a1).trans ((brO (fun o : Option (Unit ⊕ Int) => some (AV.int .i64 (ro o 0 (sumE (fun _ => (-1)) (fun p22 => p22))))) (brS (fun o : Unit ⊕ Int => some (AV.int .i64 ((sumE (fun _ => (-1)) (fun p22 => p22)) o))) (fun _ => (fun _ => rfl)) (fun p22 => (fun _ => rfl)))) h)
def m143 : TModel
  | [.sl g0 a0, .int .i64 a1] => bif ctsEq g0 ([.int .i64]) then some (q143 a0 a1, AV.int .i64 (v143_0 a0 a1)) else none
  | _ => none
theorem k143 : Known Try.prog 143 := ⟨Try.f143, Try.func143, by kernel_rfl, by kernel_rfl⟩
theorem meets143 : Meets Try.prog 143 m143 := by
  refine meet (f := Try.f143) (l := [(0, sub [1, 0, 1, 0, 0] (body Try.f143))]) (hs := [(143, 0, [0, 1, 7, 8]), (143, 999, [4]), (143, 1000, []), (143, 1001, [0, 1, 7, 8])]) (ts := []) (ws := []) (is := []) (ls := [(143, 0, l143_0)]) (lvl := 0) mixed k143 Try.func143 (by kernel_rfl) (loops_cons ok143_0 noLoop) allT_nil allM_nil noI fun w xs us r hl hv h => ?_
  unfold m143 at h
  split at h
  · rename_i g0 a0 a1
    obtain ⟨hg, h⟩ := bif_pair h
    have q0 := hg
    obtain rfl := ctsEq_eq _ _ q0
    obtain ⟨h1, rfl⟩ := pair_inj h
    exact r143 a0 a1 h1
  · cases h

/-! ### 113 slices.Contains[[]int,int] -/
noncomputable def c113 : Cfg := cfg Try.prog [(113, 999, [4])] [(143, m143)] [] [] []
def q113 (a0 : List AV) (a1 : Int) : Bool := q143 a0 a1
def v113_0 (a0 : List AV) (a1 : Int) : Bool := decide ((v143_0 a0 a1) ≥ 0)
theorem e113 (a0 : List AV) (a1 : Int) : funA c113 0 113 [AV.sl [.int .i64] a0, AV.int .i64 a1] = (bif q143 a0 a1 then some (AV.bool (decide ((v143_0 a0 a1) ≥ 0)))
  else none) := by kernel_rfl
theorem r113 (a0 : List AV) (a1 : Int) (h : q113 a0 a1 = true) : funA c113 0 113 [AV.sl [.int .i64] a0, AV.int .i64 a1] = some (AV.bool (v113_0 a0 a1)) := (e113 a0 a1).trans ((brL1 (fun _ => rfl)) h)
def m113 : TModel
  | [.sl g0 a0, .int .i64 a1] => bif ctsEq g0 ([.int .i64]) then some (q113 a0 a1, AV.bool (v113_0 a0 a1)) else none
  | _ => none
theorem k113 : Known Try.prog 113 := ⟨Try.f113, Try.func113, by kernel_rfl, by kernel_rfl⟩
theorem meets113 : Meets Try.prog 113 m113 := by
  refine meet (f := Try.f113) (l := []) (hs := [(113, 999, [4])]) (ts := [(143, m143)]) (ws := []) (is := []) (ls := []) (lvl := 0) mixed k113 Try.func113 (by kernel_rfl) noLoop (allT_cons meets143 allT_nil) allM_nil noI fun w xs us r hl hv h => ?_
  unfold m113 at h
  split at h
  · rename_i g0 a0 a1
    obtain ⟨hg, h⟩ := bif_pair h
    have q0 := hg
    obtain rfl := ctsEq_eq _ _ q0
    obtain ⟨h1, rfl⟩ := pair_inj h
    exact r113 a0 a1 h1
  · cases h

/-! ### 114 loop.example/g01984/impl.bound -/
noncomputable def c114 : Cfg := cfg Try.prog [(114, 999, [2])] [] [] [] []
def q114 (a0 : Int) : Bool := true
def v114_0 (a0 : Int) : Bool := (bif decide (a0 ≥ (-1000)) then decide (a0 ≤ 1000) else false)
theorem e114 (a0 : Int) : funA c114 0 114 [AV.int .i64 a0] = (bif decide (a0 ≥ (-1000)) then some (AV.bool (decide (a0 ≤ 1000)))
  else some (AV.bool false)) := by kernel_rfl
theorem r114 (a0 : Int) : funA c114 0 114 [AV.int .i64 a0] = some (AV.bool (v114_0 a0)) := (e114 a0).trans (of_tt (brT (fun b => some (AV.bool (bif b then decide (a0 ≤ 1000) else false))) (fun _ => rfl) (fun _ => rfl)))
def m114 : TModel
  | [.int .i64 a0] => some (true, AV.bool (v114_0 a0))
  | _ => none
theorem k114 : Known Try.prog 114 := ⟨Try.f114, Try.func114, by kernel_rfl, by kernel_rfl⟩
theorem meets114 : Meets Try.prog 114 m114 := by
  refine meet (f := Try.f114) (l := []) (hs := [(114, 999, [2])]) (ts := []) (ws := []) (is := []) (ls := []) (lvl := 0) mixed k114 Try.func114 (by kernel_rfl) noLoop allT_nil allM_nil noI fun w xs us r hl hv h => ?_
  unfold m114 at h
  split at h
  · rename_i a0
    obtain ⟨h1, rfl⟩ := pair_inj h
    exact r114 a0
  · cases h

/-! ### 70 loop.example/g01984/impl.IsCracker -/
def F70_4 (t50 : List AV) (t51 : Int) (t52 : Int) (t103 : List AV) (t104 : Int) (h0_0 : List AV) (h0_1 : List AV) (h0_2 : List AV) (h1_0 : Int) (h1_1 : Int) (t105 : Int) : Out (Int) (Unit ⊕ Unit) := (bif decide (t105 < t104) then (bif (decide (0 ≤ t105) && decide (t105 < (t103.length : Int))) then (bif !(decide (fI (t103.getD t105.toNat AV.undef) 0 < h1_0) == decide (t105 < h1_1)) then .stop (.inr ())
  else .next (IntKind.i64.wrap (t105 + 1)))
  else .fail)
  else .stop (.inl ()))
def R70_4 (t50 : List AV) (t51 : Int) (t52 : Int) (t103 : List AV) (t104 : Int) (h0_0 : List AV) (h0_1 : List AV) (h0_2 : List AV) (h1_0 : Int) (h1_1 : Int) : (Int) → Out (Int) (Unit ⊕ Unit) := fun s : Int => F70_4 t50 t51 t52 t103 t104 h0_0 h0_1 h0_2 h1_0 h1_1 s
def l70_4 : LModel := fun _ _ st k => match st with
  | ⟨[(1, .ptr g0 g1 g2), (6, .ptr g3 g4 g5), (50, .sl g6 t50), (51, .int .i64 t51), (52, .int .i64 t52), (103, .sl g7 t103), (104, .int .i64 t104), (105, .int .i64 t105)], [(g8, ⟨true, [], [.agg [.sl g9 h0_0, .sl g10 h0_1, .sl g11 h0_2]]⟩), (g12, ⟨true, [], [.agg [.int .i64 h1_0, .int .i64 h1_1]]⟩)]⟩ => bif nmEq g0 ([0, 1]) && Nat.beq g1 0 && Nat.beq g2 0 && nmEq g3 ([0, 6]) && Nat.beq g4 0 && Nat.beq g5 0 && ctsEq g6 ([.int .i64, .int .i64]) && ctsEq g7 ([.int .i64]) && nmEq g8 ([0, 1]) && ctsEq g9 ([.int .i64]) && ctsEq g10 ([.int .i64]) && ctsEq g11 ([.int .i64, .int .i64]) && nmEq g12 ([0, 6]) then ro (runW (R70_4 t50 t51 t52 t103 t104 h0_0 h0_1 h0_2 h1_0 h1_1) ((t104 - t105 : Int).toNat + 1) t105) none (sumE (fun _ : Unit => k (.exit 4) ⟨[(1, AV.ptr [0, 1] 0 0), (50, AV.sl [.int .i64, .int .i64] t50), (51, AV.int .i64 t51), (52, AV.int .i64 t52)], [([0, 1], ⟨true, [], [AV.agg [AV.sl [.int .i64] h0_0, AV.sl [.int .i64] h0_1, AV.sl [.int .i64, .int .i64] h0_2]]⟩), ([0, 6], ⟨true, [], [AV.agg [AV.int .i64 h1_0, AV.int .i64 h1_1]]⟩)]⟩) (fun _ : Unit => k .ret ⟨[(2, AV.bool false)], [([0, 1], ⟨true, [], [AV.agg [AV.sl [.int .i64] h0_0, AV.sl [.int .i64] h0_1, AV.sl [.int .i64, .int .i64] h0_2]]⟩), ([0, 6], ⟨true, [], [AV.agg [AV.int .i64 h1_0, AV.int .i64 h1_1]]⟩)]⟩)) else none
  | _ => none
def F70_2 (t50 : List AV) (t51 : Int) (h0_0 : List AV) (h0_1 : List AV) (h0_2 : List AV) (t52 : Int) : Out (Int) (Unit ⊕ (Int × Int) ⊕ (Int × Int)) := (bif decide (t52 < t51) then (bif (decide (0 ≤ t52) && decide (t52 < (t50.length : Int))) then (bif !(v114_0 (fI (t50.getD t52.toNat AV.undef) 0)) then .stop (.inr (.inl (fI (t50.getD t52.toNat AV.undef) 0, fI (t50.getD t52.toNat AV.undef) 1)))
  else (bif decide (fI (t50.getD t52.toNat AV.undef) 1 < 0) then .stop (.inr (.inl (fI (t50.getD t52.toNat AV.undef) 0, fI (t50.getD t52.toNat AV.undef) 1)))
  else (bif decide (fI (t50.getD t52.toNat AV.undef) 1 > (h0_0.length : Int)) then .stop (.inr (.inl (fI (t50.getD t52.toNat AV.undef) 0, fI (t50.getD t52.toNat AV.undef) 1)))
  else (bif decide (t52 > 0) then (bif (decide (0 ≤ IntKind.i64.wrap (t52 - 1)) && decide (IntKind.i64.wrap (t52 - 1) < (h0_2.length : Int))) then (bif decide (fI (t50.getD t52.toNat AV.undef) 0 ≤ fI (h0_2.getD (IntKind.i64.wrap (t52 - 1)).toNat AV.undef) 0) then .stop (.inr (.inl (fI (t50.getD t52.toNat AV.undef) 0, fI (t50.getD t52.toNat AV.undef) 1)))
  else (bif (decide (0 ≤ IntKind.i64.wrap (t52 - 1)) && decide (IntKind.i64.wrap (t52 - 1) < (h0_2.length : Int))) then (bif decide (fI (t50.getD t52.toNat AV.undef) 1 < fI (h0_2.getD (IntKind.i64.wrap (t52 - 1)).toNat AV.undef) 1) then .stop (.inr (.inl (fI (t50.getD t52.toNat AV.undef) 0, fI (t50.getD t52.toNat AV.undef) 1)))
  else (ro (runW (R70_4 t50 t51 t52 h0_0 (h0_0.length : Int) h0_0 h0_1 h0_2 (fI (t50.getD t52.toNat AV.undef) 0) (fI (t50.getD t52.toNat AV.undef) 1)) (((h0_0.length : Int) - 0 : Int).toNat + 1) 0) .fail (sumE (fun _ => .next (IntKind.i64.wrap (t52 + 1))) (fun _ => .stop (.inr (.inr (fI (t50.getD t52.toNat AV.undef) 0, fI (t50.getD t52.toNat AV.undef) 1)))))))
  else .fail))
  else .fail)
  else (ro (runW (R70_4 t50 t51 t52 h0_0 (h0_0.length : Int) h0_0 h0_1 h0_2 (fI (t50.getD t52.toNat AV.undef) 0) (fI (t50.getD t52.toNat AV.undef) 1)) (((h0_0.length : Int) - 0 : Int).toNat + 1) 0) .fail (sumE (fun _ => .next (IntKind.i64.wrap (t52 + 1))) (fun _ => .stop (.inr (.inr (fI (t50.getD t52.toNat AV.undef) 0, fI (t50.getD t52.toNat AV.undef) 1))))))))))
  else .fail)
  else .stop (.inl ()))
def R70_2 (t50 : List AV) (t51 : Int) (h0_0 : List AV) (h0_1 : List AV) (h0_2 : List AV) : (Int) → Out (Int) (Unit ⊕ (Int × Int) ⊕ (Int × Int)) := fun s : Int => F70_2 t50 t51 h0_0 h0_1 h0_2 s
def l70_2 : LModel := fun _ _ st k => match st with
  | ⟨[(1, .ptr g0 g1 g2), (50, .sl g3 t50), (51, .int .i64 t51), (52, .int .i64 t52)], [(g4, ⟨true, [], [.agg [.sl g5 h0_0, .sl g6 h0_1, .sl g7 h0_2]]⟩)]⟩ => bif nmEq g0 ([0, 1]) && Nat.beq g1 0 && Nat.beq g2 0 && ctsEq g3 ([.int .i64, .int .i64]) && nmEq g4 ([0, 1]) && ctsEq g5 ([.int .i64]) && ctsEq g6 ([.int .i64]) && ctsEq g7 ([.int .i64, .int .i64]) then ro (runW (R70_2 t50 t51 h0_0 h0_1 h0_2) ((t51 - t52 : Int).toNat + 1) t52) none (sumE (fun _ : Unit => k (.exit 2) ⟨[], [([0, 1], ⟨true, [], [AV.agg [AV.sl [.int .i64] h0_0, AV.sl [.int .i64] h0_1, AV.sl [.int .i64, .int .i64] h0_2]]⟩)]⟩) (sumE (fun p : Int × Int => k .ret ⟨[(2, AV.bool false)], [([0, 1], ⟨true, [], [AV.agg [AV.sl [.int .i64] h0_0, AV.sl [.int .i64] h0_1, AV.sl [.int .i64, .int .i64] h0_2]]⟩), ([1, 6], ⟨true, [], [AV.agg [AV.int .i64 p.1, AV.int .i64 p.2]]⟩)]⟩) (fun p : Int × Int => k .ret ⟨[(2, AV.bool false)], [([0, 1], ⟨true, [], [AV.agg [AV.sl [.int .i64] h0_0, AV.sl [.int .i64] h0_1, AV.sl [.int .i64, .int .i64] h0_2]]⟩), ([0, 6], ⟨true, [], [AV.agg [AV.int .i64 p.1, AV.int .i64 p.2]]⟩)]⟩))) else none
  | _ => none
def F70_0 (t35 : List AV) (t36 : Int) (h0_0 : List AV) (h0_1 : List AV) (h0_2 : List AV) (t37 : Int) : Out (Int) (Unit ⊕ Unit) := (bif decide (t37 < t36) then (bif (decide (0 ≤ t37) && decide (t37 < (t35.length : Int))) then (bif (decide (0 ≤ 0) && decide (0 ≤ t37) && decide (t37 ≤ (h0_1.length : Int))) then (bif q113 ((h0_1.take (Int.toNat t37)).drop (Int.toNat 0)) (fI (t35.getD t37.toNat AV.undef) 0) then (bif (v113_0 ((h0_1.take (Int.toNat t37)).drop (Int.toNat 0)) (fI (t35.getD t37.toNat AV.undef) 0)) then .stop (.inr ())
  else .next (IntKind.i64.wrap (t37 + 1)))
  else .fail)
  else .fail)
  else .fail)
  else .stop (.inl ()))
def R70_0 (t35 : List AV) (t36 : Int) (h0_0 : List AV) (h0_1 : List AV) (h0_2 : List AV) : (Int) → Out (Int) (Unit ⊕ Unit) := fun s : Int => F70_0 t35 t36 h0_0 h0_1 h0_2 s
def l70_0 : LModel := fun _ _ st k => match st with
  | ⟨[(1, .ptr g0 g1 g2), (35, .sl g3 t35), (36, .int .i64 t36), (37, .int .i64 t37)], [(g4, ⟨true, [], [.agg [.sl g5 h0_0, .sl g6 h0_1, .sl g7 h0_2]]⟩)]⟩ => bif nmEq g0 ([0, 1]) && Nat.beq g1 0 && Nat.beq g2 0 && ctsEq g3 ([.int .i64]) && nmEq g4 ([0, 1]) && ctsEq g5 ([.int .i64]) && ctsEq g6 ([.int .i64]) && ctsEq g7 ([.int .i64, .int .i64]) then ro (runW (R70_0 t35 t36 h0_0 h0_1 h0_2) ((t36 - t37 : Int).toNat + 1) t37) none (sumE (fun _ : Unit => k (.exit 0) ⟨[(1, AV.ptr [0, 1] 0 0)], [([0, 1], ⟨true, [], [AV.agg [AV.sl [.int .i64] h0_0, AV.sl [.int .i64] h0_1, AV.sl [.int .i64, .int .i64] h0_2]]⟩)]⟩) (fun _ : Unit => k .ret ⟨[(2, AV.bool false)], [([0, 1], ⟨true, [], [AV.agg [AV.sl [.int .i64] h0_0, AV.sl [.int .i64] h0_1, AV.sl [.int .i64, .int .i64] h0_2]]⟩)]⟩)) else none
  | _ => none
noncomputable def c70 : Cfg := cfg Try.prog [(70, 0, [1, 35, 36, 37]), (70, 2, [1, 50, 51, 52]), (70, 4, [1, 6, 50, 51, 52, 103, 104, 105]), (70, 999, [2]), (70, 1000, [1]), (70, 1001, [1, 35, 36, 37]), (70, 1002, []), (70, 1003, [1, 50, 51, 52]), (70, 1004, [1, 50, 51, 52]), (70, 1005, [1, 6, 50, 51, 52, 103, 104, 105])] [(84, m84), (112, m112), (113, m113), (114, m114)] [] [] [(70, 0, l70_0), (70, 2, l70_2), (70, 4, l70_4)]
theorem s70_4 (ce : CallE) (t50 : List AV) (t51 : Int) (t52 : Int) (t103 : List AV) (t104 : Int) (t105 : Int) (h0_0 : List AV) (h0_1 : List AV) (h0_2 : List AV) (h1_0 : Int) (h1_1 : Int) (next : St → Option AV) (k : Kont) : stepA (codeA c70 ce [] 70 4 (sub [1, 1, 1, 0, 1, 0, 0, 1, 1, 0, 0, 1, 1, 1, 0, 0] (body Try.f70))) (normA [] [1, 6, 50, 51, 52, 103, 104, 105]) next ⟨[(1, AV.ptr [0, 1] 0 0), (6, AV.ptr [0, 6] 0 0), (50, AV.sl [.int .i64, .int .i64] t50), (51, AV.int .i64 t51), (52, AV.int .i64 t52), (103, AV.sl [.int .i64] t103), (104, AV.int .i64 t104), (105, AV.int .i64 t105)], [([0, 1], ⟨true, [], [AV.agg [AV.sl [.int .i64] h0_0, AV.sl [.int .i64] h0_1, AV.sl [.int .i64, .int .i64] h0_2]]⟩), ([0, 6], ⟨true, [], [AV.agg [AV.int .i64 h1_0, AV.int .i64 h1_1]]⟩)]⟩ k = (bif decide (t105 < t104) then (bif (decide (0 ≤ t105) && decide (t105 < (t103.length : Int))) then (bif !(decide (fI (t103.getD t105.toNat AV.undef) 0 < h1_0) == decide (t105 < h1_1)) then k .ret ⟨[(2, AV.bool false)], [([0, 1], ⟨true, [], [AV.agg [AV.sl [.int .i64] h0_0, AV.sl [.int .i64] h0_1, AV.sl [.int .i64, .int .i64] h0_2]]⟩), ([0, 6], ⟨true, [], [AV.agg [AV.int .i64 h1_0, AV.int .i64 h1_1]]⟩)]⟩
  else next ⟨[(1, AV.ptr [0, 1] 0 0), (6, AV.ptr [0, 6] 0 0), (50, AV.sl [.int .i64, .int .i64] t50), (51, AV.int .i64 t51), (52, AV.int .i64 t52), (103, AV.sl [.int .i64] t103), (104, AV.int .i64 t104), (105, AV.int .i64 (IntKind.i64.wrap (t105 + 1)))], [([0, 1], ⟨true, [], [AV.agg [AV.sl [.int .i64] h0_0, AV.sl [.int .i64] h0_1, AV.sl [.int .i64, .int .i64] h0_2]]⟩), ([0, 6], ⟨true, [], [AV.agg [AV.int .i64 h1_0, AV.int .i64 h1_1]]⟩)]⟩)
  else none)
  else k (.exit 4) ⟨[(1, AV.ptr [0, 1] 0 0), (50, AV.sl [.int .i64, .int .i64] t50), (51, AV.int .i64 t51), (52, AV.int .i64 t52)], [([0, 1], ⟨true, [], [AV.agg [AV.sl [.int .i64] h0_0, AV.sl [.int .i64] h0_1, AV.sl [.int .i64, .int .i64] h0_2]]⟩), ([0, 6], ⟨true, [], [AV.agg [AV.int .i64 h1_0, AV.int .i64 h1_1]]⟩)]⟩) := by kernel_rfl
theorem st70_4 (t50 : List AV) (t51 : Int) (t52 : Int) (t103 : List AV) (t104 : Int) (h0_0 : List AV) (h0_1 : List AV) (h0_2 : List AV) (h1_0 : Int) (h1_1 : Int) (ce : CallE) (k : Kont) (s : Int) (next : St → Option AV) : stepA (codeA c70 ce [] 70 4 (sub [1, 1, 1, 0, 1, 0, 0, 1, 1, 0, 0, 1, 1, 1, 0, 0] (body Try.f70))) (normA [] [1, 6, 50, 51, 52, 103, 104, 105]) next ((fun s : Int => ⟨[(1, AV.ptr [0, 1] 0 0), (6, AV.ptr [0, 6] 0 0), (50, AV.sl [.int .i64, .int .i64] t50), (51, AV.int .i64 t51), (52, AV.int .i64 t52), (103, AV.sl [.int .i64] t103), (104, AV.int .i64 t104), (105, AV.int .i64 s)], [([0, 1], ⟨true, [], [AV.agg [AV.sl [.int .i64] h0_0, AV.sl [.int .i64] h0_1, AV.sl [.int .i64, .int .i64] h0_2]]⟩), ([0, 6], ⟨true, [], [AV.agg [AV.int .i64 h1_0, AV.int .i64 h1_1]]⟩)]⟩) s) k = (R70_4 t50 t51 t52 t103 t104 h0_0 h0_1 h0_2 h1_0 h1_1 s).el none (fun s => next ((fun s : Int => ⟨[(1, AV.ptr [0, 1] 0 0), (6, AV.ptr [0, 6] 0 0), (50, AV.sl [.int .i64, .int .i64] t50), (51, AV.int .i64 t51), (52, AV.int .i64 t52), (103, AV.sl [.int .i64] t103), (104, AV.int .i64 t104), (105, AV.int .i64 s)], [([0, 1], ⟨true, [], [AV.agg [AV.sl [.int .i64] h0_0, AV.sl [.int .i64] h0_1, AV.sl [.int .i64, .int .i64] h0_2]]⟩), ([0, 6], ⟨true, [], [AV.agg [AV.int .i64 h1_0, AV.int .i64 h1_1]]⟩)]⟩) s)) (sumE (fun _ : Unit => k (.exit 4) ⟨[(1, AV.ptr [0, 1] 0 0), (50, AV.sl [.int .i64, .int .i64] t50), (51, AV.int .i64 t51), (52, AV.int .i64 t52)], [([0, 1], ⟨true, [], [AV.agg [AV.sl [.int .i64] h0_0, AV.sl [.int .i64] h0_1, AV.sl [.int .i64, .int .i64] h0_2]]⟩), ([0, 6], ⟨true, [], [AV.agg [AV.int .i64 h1_0, AV.int .i64 h1_1]]⟩)]⟩) (fun _ : Unit => k .ret ⟨[(2, AV.bool false)], [([0, 1], ⟨true, [], [AV.agg [AV.sl [.int .i64] h0_0, AV.sl [.int .i64] h0_1, AV.sl [.int .i64, .int .i64] h0_2]]⟩), ([0, 6], ⟨true, [], [AV.agg [AV.int .i64 h1_0, AV.int .i64 h1_1]]⟩)]⟩)) := (s70_4 ce t50 t51 t52 t103 t104 s h0_0 h0_1 h0_2 h1_0 h1_1 next k).trans (by unfold R70_4; unfold F70_4; simp only [el_cond, el_ro, el_sum, el_fail, el_next, el_stop] <;> rfl)
theorem ok70_4 {ce : CallE} : LoopOK c70 ce [] 70 4 (sub [1, 1, 1, 0, 1, 0, 0, 1, 1, 0, 0, 1, 1, 1, 0, 0] (body Try.f70)) := by
  intro m hm st k r h
  obtain rfl : l70_4 = m := Option.some.inj hm
  unfold l70_4 at h
  split at h
  · rename_i g0 g1 g2 g3 g4 g5 g6 t50 t51 t52 g7 t103 t104 t105 g8 g9 h0_0 g10 h0_1 g11 h0_2 g12 h1_0 h1_1
    obtain ⟨hg, h⟩ := bif_some h
    simp only [Bool.and_eq_true] at hg
    obtain ⟨⟨⟨⟨⟨⟨⟨⟨⟨⟨⟨⟨q0, q1⟩, q2⟩, q3⟩, q4⟩, q5⟩, q6⟩, q7⟩, q8⟩, q9⟩, q10⟩, q11⟩, q12⟩ := hg
    obtain rfl := (nmEq_iff _ _).1 q0
    obtain rfl := Nat.eq_of_beq_eq_true q1
    obtain rfl := Nat.eq_of_beq_eq_true q2
    obtain rfl := (nmEq_iff _ _).1 q3
    obtain rfl := Nat.eq_of_beq_eq_true q4
    obtain rfl := Nat.eq_of_beq_eq_true q5
    obtain rfl := ctsEq_eq _ _ q6
    obtain rfl := ctsEq_eq _ _ q7
    obtain rfl := (nmEq_iff _ _).1 q8
    obtain rfl := ctsEq_eq _ _ q9
    obtain rfl := ctsEq_eq _ _ q10
    obtain rfl := ctsEq_eq _ _ q11
    obtain rfl := (nmEq_iff _ _).1 q12
    refine ⟨((t104 - t105 : Int).toNat + 1), ?_⟩
    rw [← h]
    exact loop_run (fun s : Int => ⟨[(1, AV.ptr [0, 1] 0 0), (6, AV.ptr [0, 6] 0 0), (50, AV.sl [.int .i64, .int .i64] t50), (51, AV.int .i64 t51), (52, AV.int .i64 t52), (103, AV.sl [.int .i64] t103), (104, AV.int .i64 t104), (105, AV.int .i64 s)], [([0, 1], ⟨true, [], [AV.agg [AV.sl [.int .i64] h0_0, AV.sl [.int .i64] h0_1, AV.sl [.int .i64, .int .i64] h0_2]]⟩), ([0, 6], ⟨true, [], [AV.agg [AV.int .i64 h1_0, AV.int .i64 h1_1]]⟩)]⟩) (sumE (fun _ : Unit => k (.exit 4) ⟨[(1, AV.ptr [0, 1] 0 0), (50, AV.sl [.int .i64, .int .i64] t50), (51, AV.int .i64 t51), (52, AV.int .i64 t52)], [([0, 1], ⟨true, [], [AV.agg [AV.sl [.int .i64] h0_0, AV.sl [.int .i64] h0_1, AV.sl [.int .i64, .int .i64] h0_2]]⟩), ([0, 6], ⟨true, [], [AV.agg [AV.int .i64 h1_0, AV.int .i64 h1_1]]⟩)]⟩) (fun _ : Unit => k .ret ⟨[(2, AV.bool false)], [([0, 1], ⟨true, [], [AV.agg [AV.sl [.int .i64] h0_0, AV.sl [.int .i64] h0_1, AV.sl [.int .i64, .int .i64] h0_2]]⟩), ([0, 6], ⟨true, [], [AV.agg [AV.int .i64 h1_0, AV.int .i64 h1_1]]⟩)]⟩)) (st70_4 t50 t51 t52 t103 t104 h0_0 h0_1 h0_2 h1_0 h1_1 ce k) _ t105
  · cases h
theorem s70_2 (ce : CallE) (t50 : List AV) (t51 : Int) (t52 : Int) (h0_0 : List AV) (h0_1 : List AV) (h0_2 : List AV) (next : St → Option AV) (k : Kont) : stepA (codeA c70 ce [] 70 2 (sub [1, 1, 1, 0, 1, 0, 0] (body Try.f70))) (normA [] [1, 50, 51, 52]) next ⟨[(1, AV.ptr [0, 1] 0 0), (50, AV.sl [.int .i64, .int .i64] t50), (51, AV.int .i64 t51), (52, AV.int .i64 t52)], [([0, 1], ⟨true, [], [AV.agg [AV.sl [.int .i64] h0_0, AV.sl [.int .i64] h0_1, AV.sl [.int .i64, .int .i64] h0_2]]⟩)]⟩ k = (bif decide (t52 < t51) then (bif (decide (0 ≤ t52) && decide (t52 < (t50.length : Int))) then (bif !(v114_0 (fI (t50.getD t52.toNat AV.undef) 0)) then k .ret ⟨[(2, AV.bool false)], [([0, 1], ⟨true, [], [AV.agg [AV.sl [.int .i64] h0_0, AV.sl [.int .i64] h0_1, AV.sl [.int .i64, .int .i64] h0_2]]⟩), ([1, 6], ⟨true, [], [AV.agg [AV.int .i64 (fI (t50.getD t52.toNat AV.undef) 0), AV.int .i64 (fI (t50.getD t52.toNat AV.undef) 1)]]⟩)]⟩
  else (bif decide (fI (t50.getD t52.toNat AV.undef) 1 < 0) then k .ret ⟨[(2, AV.bool false)], [([0, 1], ⟨true, [], [AV.agg [AV.sl [.int .i64] h0_0, AV.sl [.int .i64] h0_1, AV.sl [.int .i64, .int .i64] h0_2]]⟩), ([1, 6], ⟨true, [], [AV.agg [AV.int .i64 (fI (t50.getD t52.toNat AV.undef) 0), AV.int .i64 (fI (t50.getD t52.toNat AV.undef) 1)]]⟩)]⟩
  else (bif decide (fI (t50.getD t52.toNat AV.undef) 1 > (h0_0.length : Int)) then k .ret ⟨[(2, AV.bool false)], [([0, 1], ⟨true, [], [AV.agg [AV.sl [.int .i64] h0_0, AV.sl [.int .i64] h0_1, AV.sl [.int .i64, .int .i64] h0_2]]⟩), ([1, 6], ⟨true, [], [AV.agg [AV.int .i64 (fI (t50.getD t52.toNat AV.undef) 0), AV.int .i64 (fI (t50.getD t52.toNat AV.undef) 1)]]⟩)]⟩
  else (bif decide (t52 > 0) then (bif (decide (0 ≤ IntKind.i64.wrap (t52 - 1)) && decide (IntKind.i64.wrap (t52 - 1) < (h0_2.length : Int))) then (bif decide (fI (t50.getD t52.toNat AV.undef) 0 ≤ fI (h0_2.getD (IntKind.i64.wrap (t52 - 1)).toNat AV.undef) 0) then k .ret ⟨[(2, AV.bool false)], [([0, 1], ⟨true, [], [AV.agg [AV.sl [.int .i64] h0_0, AV.sl [.int .i64] h0_1, AV.sl [.int .i64, .int .i64] h0_2]]⟩), ([1, 6], ⟨true, [], [AV.agg [AV.int .i64 (fI (t50.getD t52.toNat AV.undef) 0), AV.int .i64 (fI (t50.getD t52.toNat AV.undef) 1)]]⟩)]⟩
  else (bif (decide (0 ≤ IntKind.i64.wrap (t52 - 1)) && decide (IntKind.i64.wrap (t52 - 1) < (h0_2.length : Int))) then (bif decide (fI (t50.getD t52.toNat AV.undef) 1 < fI (h0_2.getD (IntKind.i64.wrap (t52 - 1)).toNat AV.undef) 1) then k .ret ⟨[(2, AV.bool false)], [([0, 1], ⟨true, [], [AV.agg [AV.sl [.int .i64] h0_0, AV.sl [.int .i64] h0_1, AV.sl [.int .i64, .int .i64] h0_2]]⟩), ([1, 6], ⟨true, [], [AV.agg [AV.int .i64 (fI (t50.getD t52.toNat AV.undef) 0), AV.int .i64 (fI (t50.getD t52.toNat AV.undef) 1)]]⟩)]⟩
  else (ro (runW (R70_4 t50 t51 t52 h0_0 (h0_0.length : Int) h0_0 h0_1 h0_2 (fI (t50.getD t52.toNat AV.undef) 0) (fI (t50.getD t52.toNat AV.undef) 1)) (((h0_0.length : Int) - 0 : Int).toNat + 1) 0) none (sumE (fun _ => next ⟨[(1, AV.ptr [0, 1] 0 0), (50, AV.sl [.int .i64, .int .i64] t50), (51, AV.int .i64 t51), (52, AV.int .i64 (IntKind.i64.wrap (t52 + 1)))], [([0, 1], ⟨true, [], [AV.agg [AV.sl [.int .i64] h0_0, AV.sl [.int .i64] h0_1, AV.sl [.int .i64, .int .i64] h0_2]]⟩)]⟩) (fun _ => k .ret ⟨[(2, AV.bool false)], [([0, 1], ⟨true, [], [AV.agg [AV.sl [.int .i64] h0_0, AV.sl [.int .i64] h0_1, AV.sl [.int .i64, .int .i64] h0_2]]⟩), ([0, 6], ⟨true, [], [AV.agg [AV.int .i64 (fI (t50.getD t52.toNat AV.undef) 0), AV.int .i64 (fI (t50.getD t52.toNat AV.undef) 1)]]⟩)]⟩))))
  else none))
  else none)
  else (ro (runW (R70_4 t50 t51 t52 h0_0 (h0_0.length : Int) h0_0 h0_1 h0_2 (fI (t50.getD t52.toNat AV.undef) 0) (fI (t50.getD t52.toNat AV.undef) 1)) (((h0_0.length : Int) - 0 : Int).toNat + 1) 0) none (sumE (fun _ => next ⟨[(1, AV.ptr [0, 1] 0 0), (50, AV.sl [.int .i64, .int .i64] t50), (51, AV.int .i64 t51), (52, AV.int .i64 (IntKind.i64.wrap (t52 + 1)))], [([0, 1], ⟨true, [], [AV.agg [AV.sl [.int .i64] h0_0, AV.sl [.int .i64] h0_1, AV.sl [.int .i64, .int .i64] h0_2]]⟩)]⟩) (fun _ => k .ret ⟨[(2, AV.bool false)], [([0, 1], ⟨true, [], [AV.agg [AV.sl [.int .i64] h0_0, AV.sl [.int .i64] h0_1, AV.sl [.int .i64, .int .i64] h0_2]]⟩), ([0, 6], ⟨true, [], [AV.agg [AV.int .i64 (fI (t50.getD t52.toNat AV.undef) 0), AV.int .i64 (fI (t50.getD t52.toNat AV.undef) 1)]]⟩)]⟩)))))))
  else none)
  else k (.exit 2) ⟨[], [([0, 1], ⟨true, [], [AV.agg [AV.sl [.int .i64] h0_0, AV.sl [.int .i64] h0_1, AV.sl [.int .i64, .int .i64] h0_2]]⟩)]⟩) := by kernel_rfl
theorem st70_2 (t50 : List AV) (t51 : Int) (h0_0 : List AV) (h0_1 : List AV) (h0_2 : List AV) (ce : CallE) (k : Kont) (s : Int) (next : St → Option AV) : stepA (codeA c70 ce [] 70 2 (sub [1, 1, 1, 0, 1, 0, 0] (body Try.f70))) (normA [] [1, 50, 51, 52]) next ((fun s : Int => ⟨[(1, AV.ptr [0, 1] 0 0), (50, AV.sl [.int .i64, .int .i64] t50), (51, AV.int .i64 t51), (52, AV.int .i64 s)], [([0, 1], ⟨true, [], [AV.agg [AV.sl [.int .i64] h0_0, AV.sl [.int .i64] h0_1, AV.sl [.int .i64, .int .i64] h0_2]]⟩)]⟩) s) k = (R70_2 t50 t51 h0_0 h0_1 h0_2 s).el none (fun s => next ((fun s : Int => ⟨[(1, AV.ptr [0, 1] 0 0), (50, AV.sl [.int .i64, .int .i64] t50), (51, AV.int .i64 t51), (52, AV.int .i64 s)], [([0, 1], ⟨true, [], [AV.agg [AV.sl [.int .i64] h0_0, AV.sl [.int .i64] h0_1, AV.sl [.int .i64, .int .i64] h0_2]]⟩)]⟩) s)) (sumE (fun _ : Unit => k (.exit 2) ⟨[], [([0, 1], ⟨true, [], [AV.agg [AV.sl [.int .i64] h0_0, AV.sl [.int .i64] h0_1, AV.sl [.int .i64, .int .i64] h0_2]]⟩)]⟩) (sumE (fun p : Int × Int => k .ret ⟨[(2, AV.bool false)], [([0, 1], ⟨true, [], [AV.agg [AV.sl [.int .i64] h0_0, AV.sl [.int .i64] h0_1, AV.sl [.int .i64, .int .i64] h0_2]]⟩), ([1, 6], ⟨true, [], [AV.agg [AV.int .i64 p.1, AV.int .i64 p.2]]⟩)]⟩) (fun p : Int × Int => k .ret ⟨[(2, AV.bool false)], [([0, 1], ⟨true, [], [AV.agg [AV.sl [.int .i64] h0_0, AV.sl [.int .i64] h0_1, AV.sl [.int .i64, .int .i64] h0_2]]⟩), ([0, 6], ⟨true, [], [AV.agg [AV.int .i64 p.1, AV.int .i64 p.2]]⟩)]⟩))) := (s70_2 ce t50 t51 s h0_0 h0_1 h0_2 next k).trans (by unfold R70_2; unfold F70_2; simp only [el_cond, el_ro, el_sum, el_fail, el_next, el_stop] <;> rfl)
theorem ok70_2 {ce : CallE} : LoopOK c70 ce [] 70 2 (sub [1, 1, 1, 0, 1, 0, 0] (body Try.f70)) := by
  intro m hm st k r h
  obtain rfl : l70_2 = m := Option.some.inj hm
  unfold l70_2 at h
  split at h
  · rename_i g0 g1 g2 g3 t50 t51 t52 g4 g5 h0_0 g6 h0_1 g7 h0_2
    obtain ⟨hg, h⟩ := bif_some h
    simp only [Bool.and_eq_true] at hg
    obtain ⟨⟨⟨⟨⟨⟨⟨q0, q1⟩, q2⟩, q3⟩, q4⟩, q5⟩, q6⟩, q7⟩ := hg
    obtain rfl := (nmEq_iff _ _).1 q0
    obtain rfl := Nat.eq_of_beq_eq_true q1
    obtain rfl := Nat.eq_of_beq_eq_true q2
    obtain rfl := ctsEq_eq _ _ q3
    obtain rfl := (nmEq_iff _ _).1 q4
    obtain rfl := ctsEq_eq _ _ q5
    obtain rfl := ctsEq_eq _ _ q6
    obtain rfl := ctsEq_eq _ _ q7
    refine ⟨((t51 - t52 : Int).toNat + 1), ?_⟩
    rw [← h]
    exact loop_run (fun s : Int => ⟨[(1, AV.ptr [0, 1] 0 0), (50, AV.sl [.int .i64, .int .i64] t50), (51, AV.int .i64 t51), (52, AV.int .i64 s)], [([0, 1], ⟨true, [], [AV.agg [AV.sl [.int .i64] h0_0, AV.sl [.int .i64] h0_1, AV.sl [.int .i64, .int .i64] h0_2]]⟩)]⟩) (sumE (fun _ : Unit => k (.exit 2) ⟨[], [([0, 1], ⟨true, [], [AV.agg [AV.sl [.int .i64] h0_0, AV.sl [.int .i64] h0_1, AV.sl [.int .i64, .int .i64] h0_2]]⟩)]⟩) (sumE (fun p : Int × Int => k .ret ⟨[(2, AV.bool false)], [([0, 1], ⟨true, [], [AV.agg [AV.sl [.int .i64] h0_0, AV.sl [.int .i64] h0_1, AV.sl [.int .i64, .int .i64] h0_2]]⟩), ([1, 6], ⟨true, [], [AV.agg [AV.int .i64 p.1, AV.int .i64 p.2]]⟩)]⟩) (fun p : Int × Int => k .ret ⟨[(2, AV.bool false)], [([0, 1], ⟨true, [], [AV.agg [AV.sl [.int .i64] h0_0, AV.sl [.int .i64] h0_1, AV.sl [.int .i64, .int .i64] h0_2]]⟩), ([0, 6], ⟨true, [], [AV.agg [AV.int .i64 p.1, AV.int .i64 p.2]]⟩)]⟩))) (st70_2 t50 t51 h0_0 h0_1 h0_2 ce k) _ t52
  · cases h
theorem s70_0 (ce : CallE) (t35 : List AV) (t36 : Int) (t37 : Int) (h0_0 : List AV) (h0_1 : List AV) (h0_2 : List AV) (next : St → Option AV) (k : Kont) : stepA (codeA c70 ce [] 70 0 (sub [1, 1, 0, 1, 0, 0] (body Try.f70))) (normA [] [1, 35, 36, 37]) next ⟨[(1, AV.ptr [0, 1] 0 0), (35, AV.sl [.int .i64] t35), (36, AV.int .i64 t36), (37, AV.int .i64 t37)], [([0, 1], ⟨true, [], [AV.agg [AV.sl [.int .i64] h0_0, AV.sl [.int .i64] h0_1, AV.sl [.int .i64, .int .i64] h0_2]]⟩)]⟩ k = (bif decide (t37 < t36) then (bif (decide (0 ≤ t37) && decide (t37 < (t35.length : Int))) then (bif (decide (0 ≤ 0) && decide (0 ≤ t37) && decide (t37 ≤ (h0_1.length : Int))) then (bif q113 ((h0_1.take (Int.toNat t37)).drop (Int.toNat 0)) (fI (t35.getD t37.toNat AV.undef) 0) then (bif (v113_0 ((h0_1.take (Int.toNat t37)).drop (Int.toNat 0)) (fI (t35.getD t37.toNat AV.undef) 0)) then k .ret ⟨[(2, AV.bool false)], [([0, 1], ⟨true, [], [AV.agg [AV.sl [.int .i64] h0_0, AV.sl [.int .i64] h0_1, AV.sl [.int .i64, .int .i64] h0_2]]⟩)]⟩
  else next ⟨[(1, AV.ptr [0, 1] 0 0), (35, AV.sl [.int .i64] t35), (36, AV.int .i64 t36), (37, AV.int .i64 (IntKind.i64.wrap (t37 + 1)))], [([0, 1], ⟨true, [], [AV.agg [AV.sl [.int .i64] h0_0, AV.sl [.int .i64] h0_1, AV.sl [.int .i64, .int .i64] h0_2]]⟩)]⟩)
  else none)
  else none)
  else none)
  else k (.exit 0) ⟨[(1, AV.ptr [0, 1] 0 0)], [([0, 1], ⟨true, [], [AV.agg [AV.sl [.int .i64] h0_0, AV.sl [.int .i64] h0_1, AV.sl [.int .i64, .int .i64] h0_2]]⟩)]⟩) := by kernel_rfl
theorem st70_0 (t35 : List AV) (t36 : Int) (h0_0 : List AV) (h0_1 : List AV) (h0_2 : List AV) (ce : CallE) (k : Kont) (s : Int) (next : St → Option AV) : stepA (codeA c70 ce [] 70 0 (sub [1, 1, 0, 1, 0, 0] (body Try.f70))) (normA [] [1, 35, 36, 37]) next ((fun s : Int => ⟨[(1, AV.ptr [0, 1] 0 0), (35, AV.sl [.int .i64] t35), (36, AV.int .i64 t36), (37, AV.int .i64 s)], [([0, 1], ⟨true, [], [AV.agg [AV.sl [.int .i64] h0_0, AV.sl [.int .i64] h0_1, AV.sl [.int .i64, .int .i64] h0_2]]⟩)]⟩) s) k = (R70_0 t35 t36 h0_0 h0_1 h0_2 s).el none (fun s => next ((fun s : Int => ⟨[(1, AV.ptr [0, 1] 0 0), (35, AV.sl [.int .i64] t35), (36, AV.int .i64 t36), (37, AV.int .i64 s)], [([0, 1], ⟨true, [], [AV.agg [AV.sl [.int .i64] h0_0, AV.sl [.int .i64] h0_1, AV.sl [.int .i64, .int .i64] h0_2]]⟩)]⟩) s)) (sumE (fun _ : Unit => k (.exit 0) ⟨[(1, AV.ptr [0, 1] 0 0)], [([0, 1], ⟨true, [], [AV.agg [AV.sl [.int .i64] h0_0, AV.sl [.int .i64] h0_1, AV.sl [.int .i64, .int .i64] h0_2]]⟩)]⟩) (fun _ : Unit => k .ret ⟨[(2, AV.bool false)], [([0, 1], ⟨true, [], [AV.agg [AV.sl [.int .i64] h0_0, AV.sl [.int .i64] h0_1, AV.sl [.int .i64, .int .i64] h0_2]]⟩)]⟩)) := (s70_0 ce t35 t36 s h0_0 h0_1 h0_2 next k).trans (by unfold R70_0; unfold F70_0; simp only [el_cond, el_ro, el_sum, el_fail, el_next, el_stop] <;> rfl)
theorem ok70_0 {ce : CallE} : LoopOK c70 ce [] 70 0 (sub [1, 1, 0, 1, 0, 0] (body Try.f70)) := by
  intro m hm st k r h
  obtain rfl : l70_0 = m := Option.some.inj hm
  unfold l70_0 at h
  split at h
  · rename_i g0 g1 g2 g3 t35 t36 t37 g4 g5 h0_0 g6 h0_1 g7 h0_2
    obtain ⟨hg, h⟩ := bif_some h
    simp only [Bool.and_eq_true] at hg
    obtain ⟨⟨⟨⟨⟨⟨⟨q0, q1⟩, q2⟩, q3⟩, q4⟩, q5⟩, q6⟩, q7⟩ := hg
    obtain rfl := (nmEq_iff _ _).1 q0
    obtain rfl := Nat.eq_of_beq_eq_true q1
    obtain rfl := Nat.eq_of_beq_eq_true q2
    obtain rfl := ctsEq_eq _ _ q3
    obtain rfl := (nmEq_iff _ _).1 q4
    obtain rfl := ctsEq_eq _ _ q5
    obtain rfl := ctsEq_eq _ _ q6
    obtain rfl := ctsEq_eq _ _ q7
    refine ⟨((t36 - t37 : Int).toNat + 1), ?_⟩
    rw [← h]
    exact loop_run (fun s : Int => ⟨[(1, AV.ptr [0, 1] 0 0), (35, AV.sl [.int .i64] t35), (36, AV.int .i64 t36), (37, AV.int .i64 s)], [([0, 1], ⟨true, [], [AV.agg [AV.sl [.int .i64] h0_0, AV.sl [.int .i64] h0_1, AV.sl [.int .i64, .int .i64] h0_2]]⟩)]⟩) (sumE (fun _ : Unit => k (.exit 0) ⟨[(1, AV.ptr [0, 1] 0 0)], [([0, 1], ⟨true, [], [AV.agg [AV.sl [.int .i64] h0_0, AV.sl [.int .i64] h0_1, AV.sl [.int .i64, .int .i64] h0_2]]⟩)]⟩) (fun _ : Unit => k .ret ⟨[(2, AV.bool false)], [([0, 1], ⟨true, [], [AV.agg [AV.sl [.int .i64] h0_0, AV.sl [.int .i64] h0_1, AV.sl [.int .i64, .int .i64] h0_2]]⟩)]⟩)) (st70_0 t35 t36 h0_0 h0_1 h0_2 ce k) _ t37
  · cases h
def q70 (a0_0 : List AV) (a0_1 : List AV) (a0_2 : List AV) : Bool := (q84 a0_0 && (bif !(v84_0 a0_0) then true else (bif !decide ((a0_1.length : Int) = (a0_0.length : Int)) then true else (q112 a0_1 0 999 && (bif !(v112_0 a0_1 0 999) then true else (bif decide ((a0_2.length : Int) > 2001) then true else (ro (runW (R70_0 a0_1 (a0_1.length : Int) a0_0 a0_1 a0_2) (((a0_1.length : Int) - 0 : Int).toNat + 1) 0) false (sumE (fun _ => (ro (runW (R70_2 a0_2 (a0_2.length : Int) a0_0 a0_1 a0_2) (((a0_2.length : Int) - 0 : Int).toNat + 1) 0) false (sumE (fun _ => true) (sumE (fun p29 => true) (fun p30 => true))))) (fun _ => true)))))))))
def v70_0 (a0_0 : List AV) (a0_1 : List AV) (a0_2 : List AV) : Bool := (bif !(v84_0 a0_0) then false else (bif !decide ((a0_1.length : Int) = (a0_0.length : Int)) then false else (bif !(v112_0 a0_1 0 999) then false else (bif decide ((a0_2.length : Int) > 2001) then false else (ro (runW (R70_0 a0_1 (a0_1.length : Int) a0_0 a0_1 a0_2) (((a0_1.length : Int) - 0 : Int).toNat + 1) 0) false (sumE (fun _ => (ro (runW (R70_2 a0_2 (a0_2.length : Int) a0_0 a0_1 a0_2) (((a0_2.length : Int) - 0 : Int).toNat + 1) 0) false (sumE (fun _ => true) (sumE (fun p29 => false) (fun p30 => false))))) (fun _ => false)))))))
theorem e70 (a0_0 : List AV) (a0_1 : List AV) (a0_2 : List AV) : funA c70 0 70 [AV.agg [AV.sl [.int .i64] a0_0, AV.sl [.int .i64] a0_1, AV.sl [.int .i64, .int .i64] a0_2]] = (bif q84 a0_0 then (bif !(v84_0 a0_0) then some (AV.bool false)
  else (bif !decide ((a0_1.length : Int) = (a0_0.length : Int)) then some (AV.bool false)
  else (bif q112 a0_1 0 999 then (bif !(v112_0 a0_1 0 999) then some (AV.bool false)
  else (bif decide ((a0_2.length : Int) > 2001) then some (AV.bool false)
  else (ro (runW (R70_0 a0_1 (a0_1.length : Int) a0_0 a0_1 a0_2) (((a0_1.length : Int) - 0 : Int).toNat + 1) 0) none (sumE (fun _ => (ro (runW (R70_2 a0_2 (a0_2.length : Int) a0_0 a0_1 a0_2) (((a0_2.length : Int) - 0 : Int).toNat + 1) 0) none (sumE (fun _ => some (AV.bool true)) (sumE (fun p29 => some (AV.bool false)) (fun p30 => some (AV.bool false)))))) (fun _ => some (AV.bool false))))))
  else none)))
  else none) := by kernel_rfl
theorem r70 (a0_0 : List AV) (a0_1 : List AV) (a0_2 : List AV) (h : q70 a0_0 a0_1 a0_2 = true) : funA c70 0 70 [AV.agg [AV.sl [.int .i64] a0_0, AV.sl [.int .i64] a0_1, AV.sl [.int .i64, .int .i64] a0_2]] = some (AV.bool (v70_0 a0_0 a0_1 a0_2)) := (e70 a0_0 a0_1 a0_2).trans ((brL (br (fun b => some (AV.bool (bif b then false else (bif !decide ((a0_1.length : Int) = (a0_0.length : Int)) then false else (bif !(v112_0 a0_1 0 999) then false else (bif decide ((a0_2.length : Int) > 2001) then false else (ro (runW (R70_0 a0_1 (a0_1.length : Int) a0_0 a0_1 a0_2) (((a0_1.length : Int) - 0 : Int).toNat + 1) 0) false (sumE (fun _ => (ro (runW (R70_2 a0_2 (a0_2.length : Int) a0_0 a0_1 a0_2) (((a0_2.length : Int) - 0 : Int).toNat + 1) 0) false (sumE (fun _ => true) (sumE (fun p29 => false) (fun p30 => false))))) (fun _ => false))))))))) (fun _ => rfl) (br (fun b => some (AV.bool (bif b then false else (bif !(v112_0 a0_1 0 999) then false else (bif decide ((a0_2.length : Int) > 2001) then false else (ro (runW (R70_0 a0_1 (a0_1.length : Int) a0_0 a0_1 a0_2) (((a0_1.length : Int) - 0 : Int).toNat + 1) 0) false (sumE (fun _ => (ro (runW (R70_2 a0_2 (a0_2.length : Int) a0_0 a0_1 a0_2) (((a0_2.length : Int) - 0 : Int).toNat + 1) 0) false (sumE (fun _ => true) (sumE (fun p29 => false) (fun p30 => false))))) (fun _ => false)))))))) (fun _ => rfl) (brL (br (fun b => some (AV.bool (bif b then false else (bif decide ((a0_2.length : Int) > 2001) then false else (ro (runW (R70_0 a0_1 (a0_1.length : Int) a0_0 a0_1 a0_2) (((a0_1.length : Int) - 0 : Int).toNat + 1) 0) false (sumE (fun _ => (ro (runW (R70_2 a0_2 (a0_2.length : Int) a0_0 a0_1 a0_2) (((a0_2.length : Int) - 0 : Int).toNat + 1) 0) false (sumE (fun _ => true) (sumE (fun p29 => false) (fun p30 => false))))) (fun _ => false))))))) (fun _ => rfl) (br (fun b => some (AV.bool (bif b then false else (ro (runW (R70_0 a0_1 (a0_1.length : Int) a0_0 a0_1 a0_2) (((a0_1.length : Int) - 0 : Int).toNat + 1) 0) false (sumE (fun _ => (ro (runW (R70_2 a0_2 (a0_2.length : Int) a0_0 a0_1 a0_2) (((a0_2.length : Int) - 0 : Int).toNat + 1) 0) false (sumE (fun _ => true) (sumE (fun p29 => false) (fun p30 => false))))) (fun _ => false)))))) (fun _ => rfl) (brO (fun o : Option (Unit ⊕ Unit) => some (AV.bool (ro o false (sumE (fun _ => (ro (runW (R70_2 a0_2 (a0_2.length : Int) a0_0 a0_1 a0_2) (((a0_2.length : Int) - 0 : Int).toNat + 1) 0) false (sumE (fun _ => true) (sumE (fun p29 => false) (fun p30 => false))))) (fun _ => false))))) (brS (fun o : Unit ⊕ Unit => some (AV.bool ((sumE (fun _ => (ro (runW (R70_2 a0_2 (a0_2.length : Int) a0_0 a0_1 a0_2) (((a0_2.length : Int) - 0 : Int).toNat + 1) 0) false (sumE (fun _ => true) (sumE (fun p29 => false) (fun p30 => false))))) (fun _ => false)) o))) (fun _ => (brO (fun o : Option (Unit ⊕ (Int × Int) ⊕ (Int × Int)) => some (AV.bool (ro o false (sumE (fun _ => true) (sumE (fun p29 => false) (fun p30 => false)))))) (brS (fun o : Unit ⊕ (Int × Int) ⊕ (Int × Int) => some (AV.bool ((sumE (fun _ => true) (sumE (fun p29 => false) (fun p30 => false))) o))) (fun _ => (fun _ => rfl)) (brS (fun o : (Int × Int) ⊕ (Int × Int) => some (AV.bool ((sumE (fun p29 => false) (fun p30 => false)) o))) (fun p29 => (fun _ => rfl)) (fun p30 => (fun _ => rfl)))))) (fun _ => (fun _ => rfl)))))))))) h)
def m70 : TModel
  | [.agg [.sl g0 a0_0, .sl g1 a0_1, .sl g2 a0_2]] => bif ctsEq g0 ([.int .i64]) && ctsEq g1 ([.int .i64]) && ctsEq g2 ([.int .i64, .int .i64]) then some (q70 a0_0 a0_1 a0_2, AV.bool (v70_0 a0_0 a0_1 a0_2)) else none
  | _ => none
theorem k70 : Known Try.prog 70 := ⟨Try.f70, Try.func70, by kernel_rfl, by kernel_rfl⟩
theorem meets70 : Meets Try.prog 70 m70 := by
  refine meet (f := Try.f70) (l := [(0, sub [1, 1, 0, 1, 0, 0] (body Try.f70)), (2, sub [1, 1, 1, 0, 1, 0, 0] (body Try.f70)), (4, sub [1, 1, 1, 0, 1, 0, 0, 1, 1, 0, 0, 1, 1, 1, 0, 0] (body Try.f70))]) (hs := [(70, 0, [1, 35, 36, 37]), (70, 2, [1, 50, 51, 52]), (70, 4, [1, 6, 50, 51, 52, 103, 104, 105]), (70, 999, [2]), (70, 1000, [1]), (70, 1001, [1, 35, 36, 37]), (70, 1002, []), (70, 1003, [1, 50, 51, 52]), (70, 1004, [1, 50, 51, 52]), (70, 1005, [1, 6, 50, 51, 52, 103, 104, 105])]) (ts := [(84, m84), (112, m112), (113, m113), (114, m114)]) (ws := []) (is := []) (ls := [(70, 0, l70_0), (70, 2, l70_2), (70, 4, l70_4)]) (lvl := 0) mixed k70 Try.func70 (by kernel_rfl) (loops_cons ok70_0 (loops_cons ok70_2 (loops_cons ok70_4 noLoop))) (allT_cons meets84 (allT_cons meets112 (allT_cons meets113 (allT_cons meets114 allT_nil)))) allM_nil noI fun w xs us r hl hv h => ?_
  unfold m70 at h
  split at h
  · rename_i g0 a0_0 g1 a0_1 g2 a0_2
    obtain ⟨hg, h⟩ := bif_pair h
    simp only [Bool.and_eq_true] at hg
    obtain ⟨⟨q0, q1⟩, q2⟩ := hg
    obtain rfl := ctsEq_eq _ _ q0
    obtain rfl := ctsEq_eq _ _ q1
    obtain rfl := ctsEq_eq _ _ q2
    obtain ⟨h1, rfl⟩ := pair_inj h
    exact r70 a0_0 a0_1 a0_2 h1
  · cases h

/-! ### 131 loop.example/g01984/impl.elements -/
def F131_0 (t2 : Int) (h0_0 : List AV) (h0_1 : List AV) (h0_2 : List AV) (t8 : Int) (h1 : List AV) : Out ((Int × (List AV))) (((List AV))) := (bif decide (t8 < t2) then (bif (decide (0 ≤ t8) && decide (t8 < (h0_0.length : Int))) then (bif (decide (0 ≤ t8) && decide (t8 < (h0_1.length : Int))) then (bif (decide ((h1.length + ([AV.agg [AV.int .i64 (fI (h0_0.getD t8.toNat AV.undef) 0), AV.int .i64 (fI (h0_1.getD t8.toNat AV.undef) 0)]]).length) * 16 ≤ 140737488355328) && decide ((h1.length + ([AV.agg [AV.int .i64 (fI (h0_0.getD t8.toNat AV.undef) 0), AV.int .i64 (fI (h0_1.getD t8.toNat AV.undef) 0)]]).length) ≤ 140737488355328)) then .next (IntKind.i64.wrap (t8 + 1), h1 ++ ([AV.agg [AV.int .i64 (fI (h0_0.getD t8.toNat AV.undef) 0), AV.int .i64 (fI (h0_1.getD t8.toNat AV.undef) 0)]]))
  else .fail)
  else .fail)
  else .fail)
  else .stop h1)
def R131_0 (t2 : Int) (h0_0 : List AV) (h0_1 : List AV) (h0_2 : List AV) : ((Int × (List AV))) → Out ((Int × (List AV))) (((List AV))) := fun s : Int × (List AV) => F131_0 t2 h0_0 h0_1 h0_2 s.1 s.2
def l131_0 : LModel := fun _ _ st k => match st with
  | ⟨[(2, .int .i64 t2), (3, .ptr g0 g1 g2), (7, .own g3), (8, .int .i64 t8)], [(g4, ⟨true, [], [.agg [.sl g5 h0_0, .sl g6 h0_1, .sl g7 h0_2]]⟩), (g8, ⟨false, g9, h1⟩)]⟩ => bif nmEq g0 ([0, 3]) && Nat.beq g1 0 && Nat.beq g2 0 && nmEq g3 ([0, 7]) && nmEq g4 ([0, 3]) && ctsEq g5 ([.int .i64]) && ctsEq g6 ([.int .i64]) && ctsEq g7 ([.int .i64, .int .i64]) && nmEq g8 ([0, 7]) && ctsEq g9 ([.int .i64, .int .i64]) then ro (runW (R131_0 t2 h0_0 h0_1 h0_2) ((t2 - t8 : Int).toNat + 1) (t8, h1)) none (fun p : (List AV) => k (.exit 0) ⟨[(7, AV.own [0, 7])], [([0, 3], ⟨true, [], [AV.agg [AV.sl [.int .i64] h0_0, AV.sl [.int .i64] h0_1, AV.sl [.int .i64, .int .i64] h0_2]]⟩), ([0, 7], ⟨false, [.int .i64, .int .i64], p⟩)]⟩) else none
  | _ => none
noncomputable def c131 : Cfg := cfg Try.prog [(131, 0, [2, 3, 7, 8]), (131, 999, [6]), (131, 1000, [7]), (131, 1001, [2, 3, 7, 8])] [] [] [] [(131, 0, l131_0)]
theorem s131_0 (ce : CallE) (t2 : Int) (t8 : Int) (h0_0 : List AV) (h0_1 : List AV) (h0_2 : List AV) (h1 : List AV) (next : St → Option AV) (k : Kont) : stepA (codeA c131 ce [] 131 0 (sub [1, 1, 0, 1, 0, 0] (body Try.f131))) (normA [] [2, 3, 7, 8]) next ⟨[(2, AV.int .i64 t2), (3, AV.ptr [0, 3] 0 0), (7, AV.own [0, 7]), (8, AV.int .i64 t8)], [([0, 3], ⟨true, [], [AV.agg [AV.sl [.int .i64] h0_0, AV.sl [.int .i64] h0_1, AV.sl [.int .i64, .int .i64] h0_2]]⟩), ([0, 7], ⟨false, [.int .i64, .int .i64], h1⟩)]⟩ k = (bif decide (t8 < t2) then (bif (decide (0 ≤ t8) && decide (t8 < (h0_0.length : Int))) then (bif (decide (0 ≤ t8) && decide (t8 < (h0_1.length : Int))) then (bif (decide ((h1.length + ([AV.agg [AV.int .i64 (fI (h0_0.getD t8.toNat AV.undef) 0), AV.int .i64 (fI (h0_1.getD t8.toNat AV.undef) 0)]]).length) * 16 ≤ 140737488355328) && decide ((h1.length + ([AV.agg [AV.int .i64 (fI (h0_0.getD t8.toNat AV.undef) 0), AV.int .i64 (fI (h0_1.getD t8.toNat AV.undef) 0)]]).length) ≤ 140737488355328)) then next ⟨[(2, AV.int .i64 t2), (3, AV.ptr [0, 3] 0 0), (7, AV.own [0, 7]), (8, AV.int .i64 (IntKind.i64.wrap (t8 + 1)))], [([0, 3], ⟨true, [], [AV.agg [AV.sl [.int .i64] h0_0, AV.sl [.int .i64] h0_1, AV.sl [.int .i64, .int .i64] h0_2]]⟩), ([0, 7], ⟨false, [.int .i64, .int .i64], h1 ++ ([AV.agg [AV.int .i64 (fI (h0_0.getD t8.toNat AV.undef) 0), AV.int .i64 (fI (h0_1.getD t8.toNat AV.undef) 0)]])⟩)]⟩
  else none)
  else none)
  else none)
  else k (.exit 0) ⟨[(7, AV.own [0, 7])], [([0, 3], ⟨true, [], [AV.agg [AV.sl [.int .i64] h0_0, AV.sl [.int .i64] h0_1, AV.sl [.int .i64, .int .i64] h0_2]]⟩), ([0, 7], ⟨false, [.int .i64, .int .i64], h1⟩)]⟩) := by kernel_rfl
theorem st131_0 (t2 : Int) (h0_0 : List AV) (h0_1 : List AV) (h0_2 : List AV) (ce : CallE) (k : Kont) (s : (Int × (List AV))) (next : St → Option AV) : stepA (codeA c131 ce [] 131 0 (sub [1, 1, 0, 1, 0, 0] (body Try.f131))) (normA [] [2, 3, 7, 8]) next ((fun s : Int × (List AV) => ⟨[(2, AV.int .i64 t2), (3, AV.ptr [0, 3] 0 0), (7, AV.own [0, 7]), (8, AV.int .i64 s.1)], [([0, 3], ⟨true, [], [AV.agg [AV.sl [.int .i64] h0_0, AV.sl [.int .i64] h0_1, AV.sl [.int .i64, .int .i64] h0_2]]⟩), ([0, 7], ⟨false, [.int .i64, .int .i64], s.2⟩)]⟩) s) k = (R131_0 t2 h0_0 h0_1 h0_2 s).el none (fun s => next ((fun s : Int × (List AV) => ⟨[(2, AV.int .i64 t2), (3, AV.ptr [0, 3] 0 0), (7, AV.own [0, 7]), (8, AV.int .i64 s.1)], [([0, 3], ⟨true, [], [AV.agg [AV.sl [.int .i64] h0_0, AV.sl [.int .i64] h0_1, AV.sl [.int .i64, .int .i64] h0_2]]⟩), ([0, 7], ⟨false, [.int .i64, .int .i64], s.2⟩)]⟩) s)) (fun p : (List AV) => k (.exit 0) ⟨[(7, AV.own [0, 7])], [([0, 3], ⟨true, [], [AV.agg [AV.sl [.int .i64] h0_0, AV.sl [.int .i64] h0_1, AV.sl [.int .i64, .int .i64] h0_2]]⟩), ([0, 7], ⟨false, [.int .i64, .int .i64], p⟩)]⟩) := (s131_0 ce t2 s.1 h0_0 h0_1 h0_2 s.2 next k).trans (by unfold R131_0; unfold F131_0; simp only [el_cond, el_ro, el_sum, el_fail, el_next, el_stop] <;> rfl)
theorem ok131_0 {ce : CallE} : LoopOK c131 ce [] 131 0 (sub [1, 1, 0, 1, 0, 0] (body Try.f131)) := by
  intro m hm st k r h
  obtain rfl : l131_0 = m := Option.some.inj hm
  unfold l131_0 at h
  split at h
  · rename_i t2 g0 g1 g2 g3 t8 g4 g5 h0_0 g6 h0_1 g7 h0_2 g8 g9 h1
    obtain ⟨hg, h⟩ := bif_some h
    simp only [Bool.and_eq_true] at hg
    obtain ⟨⟨⟨⟨⟨⟨⟨⟨⟨q0, q1⟩, q2⟩, q3⟩, q4⟩, q5⟩, q6⟩, q7⟩, q8⟩, q9⟩ := hg
    obtain rfl := (nmEq_iff _ _).1 q0
    obtain rfl := Nat.eq_of_beq_eq_true q1
    obtain rfl := Nat.eq_of_beq_eq_true q2
    obtain rfl := (nmEq_iff _ _).1 q3
    obtain rfl := (nmEq_iff _ _).1 q4
    obtain rfl := ctsEq_eq _ _ q5
    obtain rfl := ctsEq_eq _ _ q6
    obtain rfl := ctsEq_eq _ _ q7
    obtain rfl := (nmEq_iff _ _).1 q8
    obtain rfl := ctsEq_eq _ _ q9
    refine ⟨((t2 - t8 : Int).toNat + 1), ?_⟩
    rw [← h]
    exact loop_run (fun s : Int × (List AV) => ⟨[(2, AV.int .i64 t2), (3, AV.ptr [0, 3] 0 0), (7, AV.own [0, 7]), (8, AV.int .i64 s.1)], [([0, 3], ⟨true, [], [AV.agg [AV.sl [.int .i64] h0_0, AV.sl [.int .i64] h0_1, AV.sl [.int .i64, .int .i64] h0_2]]⟩), ([0, 7], ⟨false, [.int .i64, .int .i64], s.2⟩)]⟩) (fun p : (List AV) => k (.exit 0) ⟨[(7, AV.own [0, 7])], [([0, 3], ⟨true, [], [AV.agg [AV.sl [.int .i64] h0_0, AV.sl [.int .i64] h0_1, AV.sl [.int .i64, .int .i64] h0_2]]⟩), ([0, 7], ⟨false, [.int .i64, .int .i64], p⟩)]⟩) (st131_0 t2 h0_0 h0_1 h0_2 ce k) _ (t8, h1)
  · cases h
def q131 (a0_0 : List AV) (a0_1 : List AV) (a0_2 : List AV) (a1 : Int) (a2 : Int) : Bool := (ro (runW (R131_0 a2 a0_0 a0_1 a0_2) ((a2 - a1 : Int).toNat + 1) (a1, ([] : List AV))) false (fun p32 => true))
def v131_0 (a0_0 : List AV) (a0_1 : List AV) (a0_2 : List AV) (a1 : Int) (a2 : Int) : List AV := (ro (runW (R131_0 a2 a0_0 a0_1 a0_2) ((a2 - a1 : Int).toNat + 1) (a1, ([] : List AV))) [] (fun p32 => p32))
theorem e131 (a0_0 : List AV) (a0_1 : List AV) (a0_2 : List AV) (a1 : Int) (a2 : Int) : funA c131 0 131 [AV.agg [AV.sl [.int .i64] a0_0, AV.sl [.int .i64] a0_1, AV.sl [.int .i64, .int .i64] a0_2], AV.int .i64 a1, AV.int .i64 a2] = (ro (runW (R131_0 a2 a0_0 a0_1 a0_2) ((a2 - a1 : Int).toNat + 1) (a1, ([] : List AV))) none (fun p32 => some (AV.fl [.int .i64, .int .i64] p32))) := by kernel_rfl
theorem r131 (a0_0 : List AV) (a0_1 : List AV) (a0_2 : List AV) (a1 : Int) (a2 : Int) (h : q131 a0_0 a0_1 a0_2 a1 a2 = true) : funA c131 0 131 [AV.agg [AV.sl [.int .i64] a0_0, AV.sl [.int .i64] a0_1, AV.sl [.int .i64, .int .i64] a0_2], AV.int .i64 a1, AV.int .i64 a2] = some (AV.fl [.int .i64, .int .i64] (v131_0 a0_0 a0_1 a0_2 a1 a2)) := (e131 a0_0 a0_1 a0_2 a1 a2).trans ((brO (fun o : Option (((List AV))) => some (AV.fl [.int .i64, .int .i64] (ro o [] (fun p32 => p32)))) (fun p32 => (fun _ => rfl))) h)
def m131 : TModel
  | [.agg [.sl g0 a0_0, .sl g1 a0_1, .sl g2 a0_2], .int .i64 a1, .int .i64 a2] => bif ctsEq g0 ([.int .i64]) && ctsEq g1 ([.int .i64]) && ctsEq g2 ([.int .i64, .int .i64]) then some (q131 a0_0 a0_1 a0_2 a1 a2, AV.fl [.int .i64, .int .i64] (v131_0 a0_0 a0_1 a0_2 a1 a2)) else none
  | _ => none
theorem k131 : Known Try.prog 131 := ⟨Try.f131, Try.func131, by kernel_rfl, by kernel_rfl⟩
theorem meets131 : Meets Try.prog 131 m131 := by
  refine meet (f := Try.f131) (l := [(0, sub [1, 1, 0, 1, 0, 0] (body Try.f131))]) (hs := [(131, 0, [2, 3, 7, 8]), (131, 999, [6]), (131, 1000, [7]), (131, 1001, [2, 3, 7, 8])]) (ts := []) (ws := []) (is := []) (ls := [(131, 0, l131_0)]) (lvl := 0) mixed k131 Try.func131 (by kernel_rfl) (loops_cons ok131_0 noLoop) allT_nil allM_nil noI fun w xs us r hl hv h => ?_
  unfold m131 at h
  split at h
  · rename_i g0 a0_0 g1 a0_1 g2 a0_2 a1 a2
    obtain ⟨hg, h⟩ := bif_pair h
    simp only [Bool.and_eq_true] at hg
    obtain ⟨⟨q0, q1⟩, q2⟩ := hg
    obtain rfl := ctsEq_eq _ _ q0
    obtain rfl := ctsEq_eq _ _ q1
    obtain rfl := ctsEq_eq _ _ q2
    obtain ⟨h1, rfl⟩ := pair_inj h
    exact r131 a0_0 a0_1 a0_2 a1 a2 h1
  · cases h

/-! ### 149 loop.example/g01984/impl.IsRange -/
noncomputable def c149 : Cfg := cfg Try.prog [(149, 999, [2])] [] [] [] []
def q149 (a0_0 : Int) (a0_1 : Int) : Bool := true
def v149_0 (a0_0 : Int) (a0_1 : Int) : Bool := (bif decide ((-1000) ≤ a0_0) then (bif decide (a0_0 ≤ a0_1) then decide (a0_1 ≤ 1000) else false) else false)
theorem e149 (a0_0 : Int) (a0_1 : Int) : funA c149 0 149 [AV.agg [AV.int .i64 a0_0, AV.int .i64 a0_1]] = (bif decide ((-1000) ≤ a0_0) then (bif decide (a0_0 ≤ a0_1) then some (AV.bool (decide (a0_1 ≤ 1000)))
  else some (AV.bool false))
  else some (AV.bool false)) := by kernel_rfl
theorem r149 (a0_0 : Int) (a0_1 : Int) : funA c149 0 149 [AV.agg [AV.int .i64 a0_0, AV.int .i64 a0_1]] = some (AV.bool (v149_0 a0_0 a0_1)) := (e149 a0_0 a0_1).trans (of_tt (brT (fun b => some (AV.bool (bif b then (bif decide (a0_0 ≤ a0_1) then decide (a0_1 ≤ 1000) else false) else false))) (brT (fun b => some (AV.bool (bif b then decide (a0_1 ≤ 1000) else false))) (fun _ => rfl) (fun _ => rfl)) (fun _ => rfl)))
def m149 : TModel
  | [.agg [.int .i64 a0_0, .int .i64 a0_1]] => some (true, AV.bool (v149_0 a0_0 a0_1))
  | _ => none
theorem k149 : Known Try.prog 149 := ⟨Try.f149, Try.func149, by kernel_rfl, by kernel_rfl⟩
theorem meets149 : Meets Try.prog 149 m149 := by
  refine meet (f := Try.f149) (l := []) (hs := [(149, 999, [2])]) (ts := []) (ws := []) (is := []) (ls := []) (lvl := 0) mixed k149 Try.func149 (by kernel_rfl) noLoop allT_nil allM_nil noI fun w xs us r hl hv h => ?_
  unfold m149 at h
  split at h
  · rename_i a0_0 a0_1
    obtain ⟨h1, rfl⟩ := pair_inj h
    exact r149 a0_0 a0_1
  · cases h

/-! ### 133 loop.example/g01984/impl.InRange -/
noncomputable def c133 : Cfg := cfg Try.prog [(133, 999, [4])] [(149, m149)] [] [] []
def q133 (a0_0 : Int) (a0_1 : Int) (a1 : Int) : Bool := true
def v133_0 (a0_0 : Int) (a0_1 : Int) (a1 : Int) : Bool := (bif (v149_0 a0_0 a0_1) then (bif decide (a0_0 ≤ a1) then decide (a1 < a0_1) else false) else false)
theorem e133 (a0_0 : Int) (a0_1 : Int) (a1 : Int) : funA c133 0 133 [AV.agg [AV.int .i64 a0_0, AV.int .i64 a0_1], AV.int .i64 a1] = (bif (v149_0 a0_0 a0_1) then (bif decide (a0_0 ≤ a1) then some (AV.bool (decide (a1 < a0_1)))
  else some (AV.bool false))
  else some (AV.bool false)) := by kernel_rfl
theorem r133 (a0_0 : Int) (a0_1 : Int) (a1 : Int) : funA c133 0 133 [AV.agg [AV.int .i64 a0_0, AV.int .i64 a0_1], AV.int .i64 a1] = some (AV.bool (v133_0 a0_0 a0_1 a1)) := (e133 a0_0 a0_1 a1).trans (of_tt (brT (fun b => some (AV.bool (bif b then (bif decide (a0_0 ≤ a1) then decide (a1 < a0_1) else false) else false))) (brT (fun b => some (AV.bool (bif b then decide (a1 < a0_1) else false))) (fun _ => rfl) (fun _ => rfl)) (fun _ => rfl)))
def m133 : TModel
  | [.agg [.int .i64 a0_0, .int .i64 a0_1], .int .i64 a1] => some (true, AV.bool (v133_0 a0_0 a0_1 a1))
  | _ => none
theorem k133 : Known Try.prog 133 := ⟨Try.f133, Try.func133, by kernel_rfl, by kernel_rfl⟩
theorem meets133 : Meets Try.prog 133 m133 := by
  refine meet (f := Try.f133) (l := []) (hs := [(133, 999, [4])]) (ts := [(149, m149)]) (ws := []) (is := []) (ls := []) (lvl := 0) mixed k133 Try.func133 (by kernel_rfl) noLoop (allT_cons meets149 allT_nil) allM_nil noI fun w xs us r hl hv h => ?_
  unfold m133 at h
  split at h
  · rename_i a0_0 a0_1 a1
    obtain ⟨h1, rfl⟩ := pair_inj h
    exact r133 a0_0 a0_1 a1
  · cases h

/-! ### 132 loop.example/g01984/impl.ranged$1 -/
noncomputable def c132 : Cfg := cfg Try.prog [(132, 999, [3])] [(133, m133)] [] [] []
def q132 (a0_0 : Int) (a0_1 : Int) (a1 : AV) : Bool := true
def v132_0 (a0_0 : Int) (a0_1 : Int) (a1 : AV) : Bool := !(v133_0 (fI a1 0) (fI a1 1) a0_0)
theorem e132 (a0_0 : Int) (a0_1 : Int) (a1 : AV) : funA c132 0 132 [AV.agg [AV.int .i64 a0_0, AV.int .i64 a0_1], AV.rptr [.int .i64, .int .i64] a1 0] = some (AV.bool (!(v133_0 (fI a1 0) (fI a1 1) a0_0))) := by kernel_rfl
theorem r132 (a0_0 : Int) (a0_1 : Int) (a1 : AV) : funA c132 0 132 [AV.agg [AV.int .i64 a0_0, AV.int .i64 a0_1], AV.rptr [.int .i64, .int .i64] a1 0] = some (AV.bool (v132_0 a0_0 a0_1 a1)) := (e132 a0_0 a0_1 a1).trans (of_tt (fun _ => rfl))
def m132 : TModel
  | [.agg [.int .i64 a0_0, .int .i64 a0_1], .rptr g0 a1 g1] => bif ctsEq g0 ([.int .i64, .int .i64]) && Nat.beq g1 0 then some (true, AV.bool (v132_0 a0_0 a0_1 a1)) else none
  | _ => none
theorem k132 : Known Try.prog 132 := ⟨Try.f132, Try.func132, by kernel_rfl, by kernel_rfl⟩
theorem meets132 : Meets Try.prog 132 m132 := by
  refine meet (f := Try.f132) (l := []) (hs := [(132, 999, [3])]) (ts := [(133, m133)]) (ws := []) (is := []) (ls := []) (lvl := 0) mixed k132 Try.func132 (by kernel_rfl) noLoop (allT_cons meets133 allT_nil) allM_nil noI fun w xs us r hl hv h => ?_
  unfold m132 at h
  split at h
  · rename_i a0_0 a0_1 g0 a1 g1
    obtain ⟨hg, h⟩ := bif_pair h
    simp only [Bool.and_eq_true] at hg
    obtain ⟨q0, q1⟩ := hg
    obtain rfl := ctsEq_eq _ _ q0
    obtain rfl := Nat.eq_of_beq_eq_true q1
    obtain ⟨h1, rfl⟩ := pair_inj h
    exact r132 a0_0 a0_1 a1
  · cases h

/-! ### 148 slices.IndexFunc[[]loop.example/g01984/impl.element,loop.example/g01984/impl.element] -/
def F148_0 (t0 : List AV) (t1 : AV) (t7 : Int) (t8 : Int) : Out (Int) (Unit ⊕ Int) := (bif decide (t8 < t7) then (bif (decide (0 ≤ t8) && decide (t8 < (t0.length : Int))) then (bif (v132_0 (fI (t0.getD t8.toNat AV.undef) 0) (fI (t0.getD t8.toNat AV.undef) 1) t1) then .stop (.inr t8)
  else .next (IntKind.i64.wrap (t8 + 1)))
  else .fail)
  else .stop (.inl ()))
def R148_0 (t0 : List AV) (t1 : AV) (t7 : Int) : (Int) → Out (Int) (Unit ⊕ Int) := fun s : Int => F148_0 t0 t1 t7 s
def l148_0 : LModel := fun _ _ st k => match st with
  | ⟨[(0, .sl g0 t0), (1, .fn g1 [.rptr g2 t1 g3]), (7, .int .i64 t7), (8, .int .i64 t8)], []⟩ => bif ctsEq g0 ([.int .i64, .int .i64]) && Nat.beq g1 132 && ctsEq g2 ([.int .i64, .int .i64]) && Nat.beq g3 0 then ro (runW (R148_0 t0 t1 t7) ((t7 - t8 : Int).toNat + 1) t8) none (sumE (fun _ : Unit => k (.exit 0) ⟨[], []⟩) (fun p : Int => k .ret ⟨[(4, AV.int .i64 p)], []⟩)) else none
  | _ => none
noncomputable def c148 : Cfg := cfg Try.prog [(148, 0, [0, 1, 7, 8]), (148, 999, [4]), (148, 1000, []), (148, 1001, [0, 1, 7, 8])] [(132, m132)] [] [] [(148, 0, l148_0)]
theorem s148_0 (ce : CallE) (t0 : List AV) (t1 : AV) (t7 : Int) (t8 : Int) (next : St → Option AV) (k : Kont) : stepA (codeA c148 ce [] 148 0 (sub [1, 0, 1, 0, 0] (body Try.f148))) (normA [] [0, 1, 7, 8]) next ⟨[(0, AV.sl [.int .i64, .int .i64] t0), (1, AV.fn 132 [AV.rptr [.int .i64, .int .i64] t1 0]), (7, AV.int .i64 t7), (8, AV.int .i64 t8)], []⟩ k = (bif decide (t8 < t7) then (bif (decide (0 ≤ t8) && decide (t8 < (t0.length : Int))) then (bif (v132_0 (fI (t0.getD t8.toNat AV.undef) 0) (fI (t0.getD t8.toNat AV.undef) 1) t1) then k .ret ⟨[(4, AV.int .i64 t8)], []⟩
  else next ⟨[(0, AV.sl [.int .i64, .int .i64] t0), (1, AV.fn 132 [AV.rptr [.int .i64, .int .i64] t1 0]), (7, AV.int .i64 t7), (8, AV.int .i64 (IntKind.i64.wrap (t8 + 1)))], []⟩)
  else none)
  else k (.exit 0) ⟨[], []⟩) := by kernel_rfl
theorem st148_0 (t0 : List AV) (t1 : AV) (t7 : Int) (ce : CallE) (k : Kont) (s : Int) (next : St → Option AV) : stepA (codeA c148 ce [] 148 0 (sub [1, 0, 1, 0, 0] (body Try.f148))) (normA [] [0, 1, 7, 8]) next ((fun s : Int => ⟨[(0, AV.sl [.int .i64, .int .i64] t0), (1, AV.fn 132 [AV.rptr [.int .i64, .int .i64] t1 0]), (7, AV.int .i64 t7), (8, AV.int .i64 s)], []⟩) s) k = (R148_0 t0 t1 t7 s).el none (fun s => next ((fun s : Int => ⟨[(0, AV.sl [.int .i64, .int .i64] t0), (1, AV.fn 132 [AV.rptr [.int .i64, .int .i64] t1 0]), (7, AV.int .i64 t7), (8, AV.int .i64 s)], []⟩) s)) (sumE (fun _ : Unit => k (.exit 0) ⟨[], []⟩) (fun p : Int => k .ret ⟨[(4, AV.int .i64 p)], []⟩)) := (s148_0 ce t0 t1 t7 s next k).trans (by unfold R148_0; unfold F148_0; simp only [el_cond, el_ro, el_sum, el_fail, el_next, el_stop] <;> rfl)
theorem ok148_0 {ce : CallE} : LoopOK c148 ce [] 148 0 (sub [1, 0, 1, 0, 0] (body Try.f148)) := by
  intro m hm st k r h
  obtain rfl : l148_0 = m := Option.some.inj hm
  unfold l148_0 at h
  split at h
  · rename_i g0 t0 g1 g2 t1 g3 t7 t8
    obtain ⟨hg, h⟩ := bif_some h
    simp only [Bool.and_eq_true] at hg
    obtain ⟨⟨⟨q0, q1⟩, q2⟩, q3⟩ := hg
    obtain rfl := ctsEq_eq _ _ q0
    obtain rfl := Nat.eq_of_beq_eq_true q1
    obtain rfl := ctsEq_eq _ _ q2
    obtain rfl := Nat.eq_of_beq_eq_true q3
    refine ⟨((t7 - t8 : Int).toNat + 1), ?_⟩
    rw [← h]
    exact loop_run (fun s : Int => ⟨[(0, AV.sl [.int .i64, .int .i64] t0), (1, AV.fn 132 [AV.rptr [.int .i64, .int .i64] t1 0]), (7, AV.int .i64 t7), (8, AV.int .i64 s)], []⟩) (sumE (fun _ : Unit => k (.exit 0) ⟨[], []⟩) (fun p : Int => k .ret ⟨[(4, AV.int .i64 p)], []⟩)) (st148_0 t0 t1 t7 ce k) _ t8
  · cases h
def q148 (a0 : List AV) (a1 : AV) : Bool := (ro (runW (R148_0 a0 a1 (a0.length : Int)) (((a0.length : Int) - 0 : Int).toNat + 1) 0) false (sumE (fun _ => true) (fun p34 => true)))
def v148_0 (a0 : List AV) (a1 : AV) : Int := (ro (runW (R148_0 a0 a1 (a0.length : Int)) (((a0.length : Int) - 0 : Int).toNat + 1) 0) 0 (sumE (fun _ => (-1)) (fun p34 => p34)))
theorem e148 (a0 : List AV) (a1 : AV) : funA c148 0 148 [AV.sl [.int .i64, .int .i64] a0, AV.fn 132 [AV.rptr [.int .i64, .int .i64] a1 0]] = (ro (runW (R148_0 a0 a1 (a0.length : Int)) (((a0.length : Int) - 0 : Int).toNat + 1) 0) none (sumE (fun _ => some (AV.int .i64 (-1))) (fun p34 => some (AV.int .i64 p34)))) := by kernel_rfl
theorem r148 (a0 : List AV) (a1 : AV) (h : q148 a0 a1 = true) : funA c148 0 148 [AV.sl [.int .i64, .int .i64] a0, AV.fn 132 [AV.rptr [.int .i64, .int .i64] a1 0]] = some (AV.int .i64 (v148_0 a0 a1)) := (e148 a0 a1).trans ((brO (fun o : Option (Unit ⊕ Int) => some (AV.int .i64 (ro o 0 (sumE (fun _ => (-1)) (fun p34 => p34))))) (brS (fun o : Unit ⊕ Int => some (AV.int .i64 ((sumE (fun _ => (-1)) (fun p34 => p34)) o))) (fun _ => (fun _ => rfl)) (fun p34 => (fun _ => rfl)))) h)
def m148 : TModel
  | [.sl g0 a0, .fn g1 [.rptr g2 a1 g3]] => bif ctsEq g0 ([.int .i64, .int .i64]) && Nat.beq g1 132 && ctsEq g2 ([.int .i64, .int .i64]) && Nat.beq g3 0 then some (q148 a0 a1, AV.int .i64 (v148_0 a0 a1)) else none
  | _ => none
theorem k148 : Known Try.prog 148 := ⟨Try.f148, Try.func148, by kernel_rfl, by kernel_rfl⟩
theorem meets148 : Meets Try.prog 148 m148 := by
  refine meet (f := Try.f148) (l := [(0, sub [1, 0, 1, 0, 0] (body Try.f148))]) (hs := [(148, 0, [0, 1, 7, 8]), (148, 999, [4]), (148, 1000, []), (148, 1001, [0, 1, 7, 8])]) (ts := [(132, m132)]) (ws := []) (is := []) (ls := [(148, 0, l148_0)]) (lvl := 0) mixed k148 Try.func148 (by kernel_rfl) (loops_cons ok148_0 noLoop) (allT_cons meets132 allT_nil) allM_nil noI fun w xs us r hl hv h => ?_
  unfold m148 at h
  split at h
  · rename_i g0 a0 g1 g2 a1 g3
    obtain ⟨hg, h⟩ := bif_pair h
    simp only [Bool.and_eq_true] at hg
    obtain ⟨⟨⟨q0, q1⟩, q2⟩, q3⟩ := hg
    obtain rfl := ctsEq_eq _ _ q0
    obtain rfl := Nat.eq_of_beq_eq_true q1
    obtain rfl := ctsEq_eq _ _ q2
    obtain rfl := Nat.eq_of_beq_eq_true q3
    obtain ⟨h1, rfl⟩ := pair_inj h
    exact r148 a0 a1 h1
  · cases h

/-! ### 130 slices.DeleteFunc[[]loop.example/g01984/impl.element,loop.example/g01984/impl.element] -/
def F130_0 (h1_0 : Int) (h1_1 : Int) (t5 : Int) (t6 : Int) (h0 : List AV) : Out ((Int × Int × (List AV))) ((Int × (List AV))) := (bif decide (t6 < (h0.length : Int)) then (bif (decide (0 ≤ t6) && decide (t6 < (h0.length : Int))) then (bif !(v132_0 (fI (h0.getD t6.toNat AV.undef) 0) (fI (h0.getD t6.toNat AV.undef) 1) (AV.agg [AV.int .i64 h1_0, AV.int .i64 h1_1])) then (bif (decide (0 ≤ t5) && decide (t5 < (h0.length : Int))) then .next (IntKind.i64.wrap (t5 + 1), IntKind.i64.wrap (t6 + 1), h0.set t5.toNat (AV.agg [AV.int .i64 (fI (h0.getD t6.toNat AV.undef) 0), AV.int .i64 (fI (h0.getD t6.toNat AV.undef) 1)]))
  else .fail)
  else .next (t5, IntKind.i64.wrap (t6 + 1), h0))
  else .fail)
  else .stop (t5, h0))
def R130_0 (h1_0 : Int) (h1_1 : Int) : ((Int × Int × (List AV))) → Out ((Int × Int × (List AV))) ((Int × (List AV))) := fun s : Int × Int × (List AV) => F130_0 h1_0 h1_1 s.1 s.2.1 s.2.2
def l130_0 : LModel := fun _ _ st k => match st with
  | ⟨[(0, .own g0), (1, .fn g1 [.ptr g2 g3 g4]), (5, .int .i64 t5), (6, .int .i64 t6)], [(g5, ⟨false, g6, h0⟩), (g7, ⟨true, [], [.agg [.int .i64 h1_0, .int .i64 h1_1]]⟩)]⟩ => bif nmEq g0 ([1]) && Nat.beq g1 132 && nmEq g2 ([2]) && Nat.beq g3 0 && Nat.beq g4 0 && nmEq g5 ([1]) && ctsEq g6 ([.int .i64, .int .i64]) && nmEq g7 ([2]) then ro (runW (R130_0 h1_0 h1_1) (((h0.length : Int) - t6 : Int).toNat + 1) (t5, t6, h0)) none (fun p : Int × (List AV) => k (.exit 0) ⟨[(0, AV.own [1]), (5, AV.int .i64 p.1)], [([1], ⟨false, [.int .i64, .int .i64], p.2⟩), ([2], ⟨true, [], [AV.agg [AV.int .i64 h1_0, AV.int .i64 h1_1]]⟩)]⟩) else none
  | _ => none
noncomputable def c130 : Cfg := cfg Try.prog [(130, 0, [0, 1, 5, 6]), (130, 999, [4]), (130, 1000, [0, 5]), (130, 1001, [0, 1, 5, 6])] [(132, m132), (148, m148)] [] [] [(130, 0, l130_0)]
theorem s130_0 (ce : CallE) (t5 : Int) (t6 : Int) (h0 : List AV) (h1_0 : Int) (h1_1 : Int) (next : St → Option AV) (k : Kont) : stepA (codeA c130 ce [0] 130 0 (sub [1, 1, 1, 0, 1, 0, 0] (body Try.f130))) (normA [0] [0, 1, 5, 6]) next ⟨[(0, AV.own [1]), (1, AV.fn 132 [AV.ptr [2] 0 0]), (5, AV.int .i64 t5), (6, AV.int .i64 t6)], [([1], ⟨false, [.int .i64, .int .i64], h0⟩), ([2], ⟨true, [], [AV.agg [AV.int .i64 h1_0, AV.int .i64 h1_1]]⟩)]⟩ k = (bif decide (t6 < (h0.length : Int)) then (bif (decide (0 ≤ t6) && decide (t6 < (h0.length : Int))) then (bif !(v132_0 (fI (h0.getD t6.toNat AV.undef) 0) (fI (h0.getD t6.toNat AV.undef) 1) (AV.agg [AV.int .i64 h1_0, AV.int .i64 h1_1])) then (bif (decide (0 ≤ t5) && decide (t5 < (h0.length : Int))) then next ⟨[(0, AV.own [1]), (1, AV.fn 132 [AV.ptr [2] 0 0]), (5, AV.int .i64 (IntKind.i64.wrap (t5 + 1))), (6, AV.int .i64 (IntKind.i64.wrap (t6 + 1)))], [([1], ⟨false, [.int .i64, .int .i64], h0.set t5.toNat (AV.agg [AV.int .i64 (fI (h0.getD t6.toNat AV.undef) 0), AV.int .i64 (fI (h0.getD t6.toNat AV.undef) 1)])⟩), ([2], ⟨true, [], [AV.agg [AV.int .i64 h1_0, AV.int .i64 h1_1]]⟩)]⟩
  else none)
  else next ⟨[(0, AV.own [1]), (1, AV.fn 132 [AV.ptr [2] 0 0]), (5, AV.int .i64 t5), (6, AV.int .i64 (IntKind.i64.wrap (t6 + 1)))], [([1], ⟨false, [.int .i64, .int .i64], h0⟩), ([2], ⟨true, [], [AV.agg [AV.int .i64 h1_0, AV.int .i64 h1_1]]⟩)]⟩)
  else none)
  else k (.exit 0) ⟨[(0, AV.own [1]), (5, AV.int .i64 t5)], [([1], ⟨false, [.int .i64, .int .i64], h0⟩), ([2], ⟨true, [], [AV.agg [AV.int .i64 h1_0, AV.int .i64 h1_1]]⟩)]⟩) := by kernel_rfl
theorem st130_0 (h1_0 : Int) (h1_1 : Int) (ce : CallE) (k : Kont) (s : (Int × Int × (List AV))) (next : St → Option AV) : stepA (codeA c130 ce [0] 130 0 (sub [1, 1, 1, 0, 1, 0, 0] (body Try.f130))) (normA [0] [0, 1, 5, 6]) next ((fun s : Int × Int × (List AV) => ⟨[(0, AV.own [1]), (1, AV.fn 132 [AV.ptr [2] 0 0]), (5, AV.int .i64 s.1), (6, AV.int .i64 s.2.1)], [([1], ⟨false, [.int .i64, .int .i64], s.2.2⟩), ([2], ⟨true, [], [AV.agg [AV.int .i64 h1_0, AV.int .i64 h1_1]]⟩)]⟩) s) k = (R130_0 h1_0 h1_1 s).el none (fun s => next ((fun s : Int × Int × (List AV) => ⟨[(0, AV.own [1]), (1, AV.fn 132 [AV.ptr [2] 0 0]), (5, AV.int .i64 s.1), (6, AV.int .i64 s.2.1)], [([1], ⟨false, [.int .i64, .int .i64], s.2.2⟩), ([2], ⟨true, [], [AV.agg [AV.int .i64 h1_0, AV.int .i64 h1_1]]⟩)]⟩) s)) (fun p : Int × (List AV) => k (.exit 0) ⟨[(0, AV.own [1]), (5, AV.int .i64 p.1)], [([1], ⟨false, [.int .i64, .int .i64], p.2⟩), ([2], ⟨true, [], [AV.agg [AV.int .i64 h1_0, AV.int .i64 h1_1]]⟩)]⟩) := (s130_0 ce s.1 s.2.1 s.2.2 h1_0 h1_1 next k).trans (by unfold R130_0; unfold F130_0; simp only [el_cond, el_ro, el_sum, el_fail, el_next, el_stop] <;> rfl)
theorem ok130_0 {ce : CallE} : LoopOK c130 ce [0] 130 0 (sub [1, 1, 1, 0, 1, 0, 0] (body Try.f130)) := by
  intro m hm st k r h
  obtain rfl : l130_0 = m := Option.some.inj hm
  unfold l130_0 at h
  split at h
  · rename_i g0 g1 g2 g3 g4 t5 t6 g5 g6 h0 g7 h1_0 h1_1
    obtain ⟨hg, h⟩ := bif_some h
    simp only [Bool.and_eq_true] at hg
    obtain ⟨⟨⟨⟨⟨⟨⟨q0, q1⟩, q2⟩, q3⟩, q4⟩, q5⟩, q6⟩, q7⟩ := hg
    obtain rfl := (nmEq_iff _ _).1 q0
    obtain rfl := Nat.eq_of_beq_eq_true q1
    obtain rfl := (nmEq_iff _ _).1 q2
    obtain rfl := Nat.eq_of_beq_eq_true q3
    obtain rfl := Nat.eq_of_beq_eq_true q4
    obtain rfl := (nmEq_iff _ _).1 q5
    obtain rfl := ctsEq_eq _ _ q6
    obtain rfl := (nmEq_iff _ _).1 q7
    refine ⟨(((h0.length : Int) - t6 : Int).toNat + 1), ?_⟩
    rw [← h]
    exact loop_run (fun s : Int × Int × (List AV) => ⟨[(0, AV.own [1]), (1, AV.fn 132 [AV.ptr [2] 0 0]), (5, AV.int .i64 s.1), (6, AV.int .i64 s.2.1)], [([1], ⟨false, [.int .i64, .int .i64], s.2.2⟩), ([2], ⟨true, [], [AV.agg [AV.int .i64 h1_0, AV.int .i64 h1_1]]⟩)]⟩) (fun p : Int × (List AV) => k (.exit 0) ⟨[(0, AV.own [1]), (5, AV.int .i64 p.1)], [([1], ⟨false, [.int .i64, .int .i64], p.2⟩), ([2], ⟨true, [], [AV.agg [AV.int .i64 h1_0, AV.int .i64 h1_1]]⟩)]⟩) (st130_0 h1_0 h1_1 ce k) _ (t5, t6, h0)
  · cases h
def q130 (b0 : List AV) (b1_0 : Int) (b1_1 : Int) : Bool := (q148 b0 (AV.agg [AV.int .i64 b1_0, AV.int .i64 b1_1]) && (bif decide ((v148_0 b0 (AV.agg [AV.int .i64 b1_0, AV.int .i64 b1_1])) = (-1)) then true else (ro (runW (R130_0 b1_0 b1_1) (((b0.length : Int) - (IntKind.i64.wrap ((v148_0 b0 (AV.agg [AV.int .i64 b1_0, AV.int .i64 b1_1])) + 1)) : Int).toNat + 1) ((v148_0 b0 (AV.agg [AV.int .i64 b1_0, AV.int .i64 b1_1])), IntKind.i64.wrap ((v148_0 b0 (AV.agg [AV.int .i64 b1_0, AV.int .i64 b1_1])) + 1), b0)) false (fun p35 => ((decide (0 ≤ p35.1) && decide (p35.1 ≤ (p35.2.length : Int)) && decide ((p35.2.length : Int) ≤ (p35.2.length : Int))) && (decide (0 ≤ 0) && decide (0 ≤ p35.1) && decide (p35.1 ≤ ((p35.2.take (Int.toNat p35.1) ++ List.replicate (Int.toNat (p35.2.length : Int) - (Int.toNat p35.1)) (AV.agg [AV.int .i64 0, AV.int .i64 0]) ++ p35.2.drop ((Int.toNat p35.1) + (Int.toNat (p35.2.length : Int) - (Int.toNat p35.1)))).length : Int))))))))
def v130_0 (b0 : List AV) (b1_0 : Int) (b1_1 : Int) : Nat := (bif decide ((v148_0 b0 (AV.agg [AV.int .i64 b1_0, AV.int .i64 b1_1])) = (-1)) then 0 else (Int.toNat 0))
def v130_1 (b0 : List AV) (b1_0 : Int) (b1_1 : Int) : Nat := (bif decide ((v148_0 b0 (AV.agg [AV.int .i64 b1_0, AV.int .i64 b1_1])) = (-1)) then b0.length else (ro (runW (R130_0 b1_0 b1_1) (((b0.length : Int) - (IntKind.i64.wrap ((v148_0 b0 (AV.agg [AV.int .i64 b1_0, AV.int .i64 b1_1])) + 1)) : Int).toNat + 1) ((v148_0 b0 (AV.agg [AV.int .i64 b1_0, AV.int .i64 b1_1])), IntKind.i64.wrap ((v148_0 b0 (AV.agg [AV.int .i64 b1_0, AV.int .i64 b1_1])) + 1), b0)) 0 (fun p35 => (Int.toNat p35.1 - (Int.toNat 0)))))
def v130_2 (b0 : List AV) (b1_0 : Int) (b1_1 : Int) : List AV := (bif decide ((v148_0 b0 (AV.agg [AV.int .i64 b1_0, AV.int .i64 b1_1])) = (-1)) then b0 else (ro (runW (R130_0 b1_0 b1_1) (((b0.length : Int) - (IntKind.i64.wrap ((v148_0 b0 (AV.agg [AV.int .i64 b1_0, AV.int .i64 b1_1])) + 1)) : Int).toNat + 1) ((v148_0 b0 (AV.agg [AV.int .i64 b1_0, AV.int .i64 b1_1])), IntKind.i64.wrap ((v148_0 b0 (AV.agg [AV.int .i64 b1_0, AV.int .i64 b1_1])) + 1), b0)) [] (fun p35 => p35.2.take (Int.toNat p35.1) ++ List.replicate (Int.toNat (p35.2.length : Int) - (Int.toNat p35.1)) (AV.agg [AV.int .i64 0, AV.int .i64 0]) ++ p35.2.drop ((Int.toNat p35.1) + (Int.toNat (p35.2.length : Int) - (Int.toNat p35.1))))))
def v130_3 (b0 : List AV) (b1_0 : Int) (b1_1 : Int) : Int := b1_0
def v130_4 (b0 : List AV) (b1_0 : Int) (b1_1 : Int) : Int := b1_1
theorem e130 (b0 : List AV) (b1_0 : Int) (b1_1 : Int) (K : AV → List Blk → Option AV) : inlA c130 1 130 [AV.own [1], AV.fn 132 [AV.ptr [2] 0 0]] [0] (canH 1 [⟨false, [.int .i64, .int .i64], b0⟩, ⟨true, [], [AV.agg [AV.int .i64 b1_0, AV.int .i64 b1_1]]⟩]) (keepB 2 K) = (bif q148 b0 (AV.agg [AV.int .i64 b1_0, AV.int .i64 b1_1]) then (bif decide ((v148_0 b0 (AV.agg [AV.int .i64 b1_0, AV.int .i64 b1_1])) = (-1)) then K (AV.sub [1] 0 b0.length) [⟨false, [.int .i64, .int .i64], b0⟩, ⟨true, [], [AV.agg [AV.int .i64 b1_0, AV.int .i64 b1_1]]⟩]
  else (ro (runW (R130_0 b1_0 b1_1) (((b0.length : Int) - (IntKind.i64.wrap ((v148_0 b0 (AV.agg [AV.int .i64 b1_0, AV.int .i64 b1_1])) + 1)) : Int).toNat + 1) ((v148_0 b0 (AV.agg [AV.int .i64 b1_0, AV.int .i64 b1_1])), IntKind.i64.wrap ((v148_0 b0 (AV.agg [AV.int .i64 b1_0, AV.int .i64 b1_1])) + 1), b0)) none (fun p35 => (bif (decide (0 ≤ p35.1) && decide (p35.1 ≤ (p35.2.length : Int)) && decide ((p35.2.length : Int) ≤ (p35.2.length : Int))) then (bif (decide (0 ≤ 0) && decide (0 ≤ p35.1) && decide (p35.1 ≤ ((p35.2.take (Int.toNat p35.1) ++ List.replicate (Int.toNat (p35.2.length : Int) - (Int.toNat p35.1)) (AV.agg [AV.int .i64 0, AV.int .i64 0]) ++ p35.2.drop ((Int.toNat p35.1) + (Int.toNat (p35.2.length : Int) - (Int.toNat p35.1)))).length : Int))) then K (AV.sub [1] (Int.toNat 0) (Int.toNat p35.1 - (Int.toNat 0))) [⟨false, [.int .i64, .int .i64], p35.2.take (Int.toNat p35.1) ++ List.replicate (Int.toNat (p35.2.length : Int) - (Int.toNat p35.1)) (AV.agg [AV.int .i64 0, AV.int .i64 0]) ++ p35.2.drop ((Int.toNat p35.1) + (Int.toNat (p35.2.length : Int) - (Int.toNat p35.1)))⟩, ⟨true, [], [AV.agg [AV.int .i64 b1_0, AV.int .i64 b1_1]]⟩]
  else none)
  else none))))
  else none) := by kernel_rfl
theorem r130 (b0 : List AV) (b1_0 : Int) (b1_1 : Int) (K : AV → List Blk → Option AV) (h : q130 b0 b1_0 b1_1 = true) : inlA c130 1 130 [AV.own [1], AV.fn 132 [AV.ptr [2] 0 0]] [0] (canH 1 [⟨false, [.int .i64, .int .i64], b0⟩, ⟨true, [], [AV.agg [AV.int .i64 b1_0, AV.int .i64 b1_1]]⟩]) (keepB 2 K) = K (AV.sub [1] (v130_0 b0 b1_0 b1_1) (v130_1 b0 b1_0 b1_1)) [⟨false, [.int .i64, .int .i64], (v130_2 b0 b1_0 b1_1)⟩, ⟨true, [], [AV.agg [AV.int .i64 (v130_3 b0 b1_0 b1_1), AV.int .i64 (v130_4 b0 b1_0 b1_1)]]⟩] := (e130 b0 b1_0 b1_1 K).trans ((brL (br (fun b => K (AV.sub [1] (bif b then 0 else (Int.toNat 0)) (bif b then b0.length else (ro (runW (R130_0 b1_0 b1_1) (((b0.length : Int) - (IntKind.i64.wrap ((v148_0 b0 (AV.agg [AV.int .i64 b1_0, AV.int .i64 b1_1])) + 1)) : Int).toNat + 1) ((v148_0 b0 (AV.agg [AV.int .i64 b1_0, AV.int .i64 b1_1])), IntKind.i64.wrap ((v148_0 b0 (AV.agg [AV.int .i64 b1_0, AV.int .i64 b1_1])) + 1), b0)) 0 (fun p35 => (Int.toNat p35.1 - (Int.toNat 0)))))) [⟨false, [.int .i64, .int .i64], (bif b then b0 else (ro (runW (R130_0 b1_0 b1_1) (((b0.length : Int) - (IntKind.i64.wrap ((v148_0 b0 (AV.agg [AV.int .i64 b1_0, AV.int .i64 b1_1])) + 1)) : Int).toNat + 1) ((v148_0 b0 (AV.agg [AV.int .i64 b1_0, AV.int .i64 b1_1])), IntKind.i64.wrap ((v148_0 b0 (AV.agg [AV.int .i64 b1_0, AV.int .i64 b1_1])) + 1), b0)) [] (fun p35 => p35.2.take (Int.toNat p35.1) ++ List.replicate (Int.toNat (p35.2.length : Int) - (Int.toNat p35.1)) (AV.agg [AV.int .i64 0, AV.int .i64 0]) ++ p35.2.drop ((Int.toNat p35.1) + (Int.toNat (p35.2.length : Int) - (Int.toNat p35.1))))))⟩, ⟨true, [], [AV.agg [AV.int .i64 b1_0, AV.int .i64 b1_1]]⟩]) (fun _ => rfl) (brO (fun o : Option ((Int × (List AV))) => K (AV.sub [1] (Int.toNat 0) (ro o 0 (fun p35 => (Int.toNat p35.1 - (Int.toNat 0))))) [⟨false, [.int .i64, .int .i64], (ro o [] (fun p35 => p35.2.take (Int.toNat p35.1) ++ List.replicate (Int.toNat (p35.2.length : Int) - (Int.toNat p35.1)) (AV.agg [AV.int .i64 0, AV.int .i64 0]) ++ p35.2.drop ((Int.toNat p35.1) + (Int.toNat (p35.2.length : Int) - (Int.toNat p35.1)))))⟩, ⟨true, [], [AV.agg [AV.int .i64 b1_0, AV.int .i64 b1_1]]⟩]) (fun p35 => (brL (brL1 (fun _ => rfl))))))) h)
def m130 : WModel
  | [.own g0, .fn g1 [.ptr g2 g3 g4]], [⟨false, g5, b0⟩, ⟨true, [], [.agg [.int .i64 b1_0, .int .i64 b1_1]]⟩] => bif nmEq g0 ([1]) && Nat.beq g1 132 && nmEq g2 ([2]) && Nat.beq g3 0 && Nat.beq g4 0 && ctsEq g5 ([.int .i64, .int .i64]) then some (q130 b0 b1_0 b1_1, AV.sub [1] (v130_0 b0 b1_0 b1_1) (v130_1 b0 b1_0 b1_1), [⟨false, [.int .i64, .int .i64], (v130_2 b0 b1_0 b1_1)⟩, ⟨true, [], [AV.agg [AV.int .i64 (v130_3 b0 b1_0 b1_1), AV.int .i64 (v130_4 b0 b1_0 b1_1)]]⟩]) else none
  | _, _ => none
theorem k130 : Known Try.prog 130 := ⟨Try.f130, Try.func130, by kernel_rfl, by kernel_rfl⟩
theorem meets130 : MeetsM Try.prog 130 m130 := by
  refine meetM (f := Try.f130) (l := [(0, sub [1, 1, 1, 0, 1, 0, 0] (body Try.f130))]) (hs := [(130, 0, [0, 1, 5, 6]), (130, 999, [4]), (130, 1000, [0, 5]), (130, 1001, [0, 1, 5, 6])]) (ts := [(132, m132), (148, m148)]) (ws := []) (is := []) (ls := [(130, 0, l130_0)]) (lvl := 0) mixed k130 Try.func130 (by kernel_rfl) (loops_cons ok130_0 noLoop) (allT_cons meets132 (allT_cons meets148 allT_nil)) allM_nil noI fun C w xs us bs r bs' hl hv hh h K => ?_
  unfold m130 at h
  split at h
  · rename_i g0 g1 g2 g3 g4 g5 b0 b1_0 b1_1
    obtain ⟨hg, h⟩ := bif_pair h
    simp only [Bool.and_eq_true] at hg
    obtain ⟨⟨⟨⟨⟨q0, q1⟩, q2⟩, q3⟩, q4⟩, q5⟩ := hg
    obtain rfl := (nmEq_iff _ _).1 q0
    obtain rfl := Nat.eq_of_beq_eq_true q1
    obtain rfl := (nmEq_iff _ _).1 q2
    obtain rfl := Nat.eq_of_beq_eq_true q3
    obtain rfl := Nat.eq_of_beq_eq_true q4
    obtain rfl := ctsEq_eq _ _ q5
    obtain ⟨h1, rfl, rfl⟩ := trip_inj h
    exact r130 b0 b1_0 b1_1 K h1
  · cases h

/-! ### 97 loop.example/g01984/impl.ranged -/
noncomputable def c97 : Cfg := cfg Try.prog [(97, 999, [4])] [(131, m131)] [(130, m130)] [] []
def q97 (a0_0 : List AV) (a0_1 : List AV) (a0_2 : List AV) (a1_0 : Int) (a1_1 : Int) : Bool := (q131 a0_0 a0_1 a0_2 0 (a0_0.length : Int) && q130 (v131_0 a0_0 a0_1 a0_2 0 (a0_0.length : Int)) a1_0 a1_1)
def v97_0 (a0_0 : List AV) (a0_1 : List AV) (a0_2 : List AV) (a1_0 : Int) (a1_1 : Int) : List AV := ((v130_2 (v131_0 a0_0 a0_1 a0_2 0 (a0_0.length : Int)) a1_0 a1_1).drop (v130_0 (v131_0 a0_0 a0_1 a0_2 0 (a0_0.length : Int)) a1_0 a1_1)).take (v130_1 (v131_0 a0_0 a0_1 a0_2 0 (a0_0.length : Int)) a1_0 a1_1)
theorem e97 (a0_0 : List AV) (a0_1 : List AV) (a0_2 : List AV) (a1_0 : Int) (a1_1 : Int) : funA c97 0 97 [AV.agg [AV.sl [.int .i64] a0_0, AV.sl [.int .i64] a0_1, AV.sl [.int .i64, .int .i64] a0_2], AV.agg [AV.int .i64 a1_0, AV.int .i64 a1_1]] = (bif q131 a0_0 a0_1 a0_2 0 (a0_0.length : Int) then (bif q130 (v131_0 a0_0 a0_1 a0_2 0 (a0_0.length : Int)) a1_0 a1_1 then some (AV.fl [.int .i64, .int .i64] (((v130_2 (v131_0 a0_0 a0_1 a0_2 0 (a0_0.length : Int)) a1_0 a1_1).drop (v130_0 (v131_0 a0_0 a0_1 a0_2 0 (a0_0.length : Int)) a1_0 a1_1)).take (v130_1 (v131_0 a0_0 a0_1 a0_2 0 (a0_0.length : Int)) a1_0 a1_1)))
  else none)
  else none) := by kernel_rfl
theorem r97 (a0_0 : List AV) (a0_1 : List AV) (a0_2 : List AV) (a1_0 : Int) (a1_1 : Int) (h : q97 a0_0 a0_1 a0_2 a1_0 a1_1 = true) : funA c97 0 97 [AV.agg [AV.sl [.int .i64] a0_0, AV.sl [.int .i64] a0_1, AV.sl [.int .i64, .int .i64] a0_2], AV.agg [AV.int .i64 a1_0, AV.int .i64 a1_1]] = some (AV.fl [.int .i64, .int .i64] (v97_0 a0_0 a0_1 a0_2 a1_0 a1_1)) := (e97 a0_0 a0_1 a0_2 a1_0 a1_1).trans ((brL (brL1 (fun _ => rfl))) h)
def m97 : TModel
  | [.agg [.sl g0 a0_0, .sl g1 a0_1, .sl g2 a0_2], .agg [.int .i64 a1_0, .int .i64 a1_1]] => bif ctsEq g0 ([.int .i64]) && ctsEq g1 ([.int .i64]) && ctsEq g2 ([.int .i64, .int .i64]) then some (q97 a0_0 a0_1 a0_2 a1_0 a1_1, AV.fl [.int .i64, .int .i64] (v97_0 a0_0 a0_1 a0_2 a1_0 a1_1)) else none
  | _ => none
theorem k97 : Known Try.prog 97 := ⟨Try.f97, Try.func97, by kernel_rfl, by kernel_rfl⟩
theorem meets97 : Meets Try.prog 97 m97 := by
  refine meet (f := Try.f97) (l := []) (hs := [(97, 999, [4])]) (ts := [(131, m131)]) (ws := [(130, m130)]) (is := []) (ls := []) (lvl := 0) mixed k97 Try.func97 (by kernel_rfl) noLoop (allT_cons meets131 allT_nil) (allM_cons meets130 allM_nil) noI fun w xs us r hl hv h => ?_
  unfold m97 at h
  split at h
  · rename_i g0 a0_0 g1 a0_1 g2 a0_2 a1_0 a1_1
    obtain ⟨hg, h⟩ := bif_pair h
    simp only [Bool.and_eq_true] at hg
    obtain ⟨⟨q0, q1⟩, q2⟩ := hg
    obtain rfl := ctsEq_eq _ _ q0
    obtain rfl := ctsEq_eq _ _ q1
    obtain rfl := ctsEq_eq _ _ q2
    obtain ⟨h1, rfl⟩ := pair_inj h
    exact r97 a0_0 a0_1 a0_2 a1_0 a1_1 h1
  · cases h

/-! ### 126 slices.SortFunc[[]loop.example/g01984/impl.Pair,loop.example/g01984/impl.Pair] -/
def q126 (b0 : List AV) : Bool := decide (b0.length * 16 ≤ 140737488355328)
def v126_0 (b0 : List AV) : List AV := sortPL b0
def m126 : WModel := sortPM 127
theorem k126 : Known Try.prog 126 := ⟨Try.f126, Try.func126, by kernel_rfl, by kernel_rfl⟩
theorem meets126 : MeetsM Try.prog 126 m126 := sortP_meets (sortPWalk k126)

/-! ### 96 loop.example/g01984/impl.match -/
def F96_2 (t1 : List AV) (t11 : List AV) (t12 : Int) (t13 : Int) (t17 : List AV) (t18 : Int) (h1_0 : Int) (h1_1 : Int) (t19 : Int) (h0 : List AV) : Out ((Int × (List AV))) (((List AV))) := (bif decide (t19 < t18) then (bif (decide (0 ≤ t19) && decide (t19 < (t17.length : Int))) then (bif decide (h1_0 = fI (t17.getD t19.toNat AV.undef) 0) then (bif (decide ((h0.length + ([AV.agg [AV.int .i64 h1_1, AV.int .i64 (fI (t17.getD t19.toNat AV.undef) 1)]]).length) * 16 ≤ 140737488355328) && decide ((h0.length + ([AV.agg [AV.int .i64 h1_1, AV.int .i64 (fI (t17.getD t19.toNat AV.undef) 1)]]).length) ≤ 140737488355328)) then .next (IntKind.i64.wrap (t19 + 1), h0 ++ ([AV.agg [AV.int .i64 h1_1, AV.int .i64 (fI (t17.getD t19.toNat AV.undef) 1)]]))
  else .fail)
  else .next (IntKind.i64.wrap (t19 + 1), h0))
  else .fail)
  else .stop h0)
def R96_2 (t1 : List AV) (t11 : List AV) (t12 : Int) (t13 : Int) (t17 : List AV) (t18 : Int) (h1_0 : Int) (h1_1 : Int) : ((Int × (List AV))) → Out ((Int × (List AV))) (((List AV))) := fun s : Int × (List AV) => F96_2 t1 t11 t12 t13 t17 t18 h1_0 h1_1 s.1 s.2
def l96_2 : LModel := fun _ _ st k => match st with
  | ⟨[(1, .sl g0 t1), (5, .own g1), (7, .ptr g2 g3 g4), (11, .sl g5 t11), (12, .int .i64 t12), (13, .int .i64 t13), (17, .sl g6 t17), (18, .int .i64 t18), (19, .int .i64 t19)], [(g7, ⟨false, g8, h0⟩), (g9, ⟨true, [], [.agg [.int .i64 h1_0, .int .i64 h1_1]]⟩)]⟩ => bif ctsEq g0 ([.int .i64, .int .i64]) && nmEq g1 ([0, 5]) && nmEq g2 ([0, 7]) && Nat.beq g3 0 && Nat.beq g4 0 && ctsEq g5 ([.int .i64, .int .i64]) && ctsEq g6 ([.int .i64, .int .i64]) && nmEq g7 ([0, 5]) && ctsEq g8 ([.int .i64, .int .i64]) && nmEq g9 ([0, 7]) then ro (runW (R96_2 t1 t11 t12 t13 t17 t18 h1_0 h1_1) ((t18 - t19 : Int).toNat + 1) (t19, h0)) none (fun p : (List AV) => k (.exit 2) ⟨[(1, AV.sl [.int .i64, .int .i64] t1), (5, AV.own [0, 5]), (11, AV.sl [.int .i64, .int .i64] t11), (12, AV.int .i64 t12), (13, AV.int .i64 t13)], [([0, 5], ⟨false, [.int .i64, .int .i64], p⟩), ([0, 7], ⟨true, [], [AV.agg [AV.int .i64 h1_0, AV.int .i64 h1_1]]⟩)]⟩) else none
  | _ => none
def F96_0 (t1 : List AV) (t11 : List AV) (t12 : Int) (t13 : Int) (h0 : List AV) : Out ((Int × (List AV))) (((List AV))) := (bif decide (t13 < t12) then (bif (decide (0 ≤ t13) && decide (t13 < (t11.length : Int))) then (ro (runW (R96_2 t1 t11 t12 t13 t1 (t1.length : Int) (fI (t11.getD t13.toNat AV.undef) 0) (fI (t11.getD t13.toNat AV.undef) 1)) (((t1.length : Int) - 0 : Int).toNat + 1) (0, h0)) .fail (fun p36 => .next (IntKind.i64.wrap (t13 + 1), p36)))
  else .fail)
  else .stop h0)
def R96_0 (t1 : List AV) (t11 : List AV) (t12 : Int) : ((Int × (List AV))) → Out ((Int × (List AV))) (((List AV))) := fun s : Int × (List AV) => F96_0 t1 t11 t12 s.1 s.2
def l96_0 : LModel := fun _ _ st k => match st with
  | ⟨[(1, .sl g0 t1), (5, .own g1), (11, .sl g2 t11), (12, .int .i64 t12), (13, .int .i64 t13)], [(g3, ⟨false, g4, h0⟩)]⟩ => bif ctsEq g0 ([.int .i64, .int .i64]) && nmEq g1 ([0, 5]) && ctsEq g2 ([.int .i64, .int .i64]) && nmEq g3 ([0, 5]) && ctsEq g4 ([.int .i64, .int .i64]) then ro (runW (R96_0 t1 t11 t12) ((t12 - t13 : Int).toNat + 1) (t13, h0)) none (fun p : (List AV) => k (.exit 0) ⟨[(5, AV.own [0, 5])], [([0, 5], ⟨false, [.int .i64, .int .i64], p⟩)]⟩) else none
  | _ => none
noncomputable def c96 : Cfg := cfg Try.prog [(96, 0, [1, 5, 11, 12, 13]), (96, 2, [1, 5, 7, 11, 12, 13, 17, 18, 19]), (96, 999, [4]), (96, 1000, [5]), (96, 1001, [1, 5, 11, 12, 13]), (96, 1002, [1, 5, 11, 12, 13]), (96, 1003, [1, 5, 7, 11, 12, 13, 17, 18, 19])] [] [(126, m126)] [] [(96, 0, l96_0), (96, 2, l96_2)]
theorem s96_2 (ce : CallE) (t1 : List AV) (t11 : List AV) (t12 : Int) (t13 : Int) (t17 : List AV) (t18 : Int) (t19 : Int) (h0 : List AV) (h1_0 : Int) (h1_1 : Int) (next : St → Option AV) (k : Kont) : stepA (codeA c96 ce [] 96 2 (sub [1, 1, 0, 1, 0, 0, 1, 1, 0, 0, 1, 1, 0, 0] (body Try.f96))) (normA [] [1, 5, 7, 11, 12, 13, 17, 18, 19]) next ⟨[(1, AV.sl [.int .i64, .int .i64] t1), (5, AV.own [0, 5]), (7, AV.ptr [0, 7] 0 0), (11, AV.sl [.int .i64, .int .i64] t11), (12, AV.int .i64 t12), (13, AV.int .i64 t13), (17, AV.sl [.int .i64, .int .i64] t17), (18, AV.int .i64 t18), (19, AV.int .i64 t19)], [([0, 5], ⟨false, [.int .i64, .int .i64], h0⟩), ([0, 7], ⟨true, [], [AV.agg [AV.int .i64 h1_0, AV.int .i64 h1_1]]⟩)]⟩ k = (bif decide (t19 < t18) then (bif (decide (0 ≤ t19) && decide (t19 < (t17.length : Int))) then (bif decide (h1_0 = fI (t17.getD t19.toNat AV.undef) 0) then (bif (decide ((h0.length + ([AV.agg [AV.int .i64 h1_1, AV.int .i64 (fI (t17.getD t19.toNat AV.undef) 1)]]).length) * 16 ≤ 140737488355328) && decide ((h0.length + ([AV.agg [AV.int .i64 h1_1, AV.int .i64 (fI (t17.getD t19.toNat AV.undef) 1)]]).length) ≤ 140737488355328)) then next ⟨[(1, AV.sl [.int .i64, .int .i64] t1), (5, AV.own [0, 5]), (7, AV.ptr [0, 7] 0 0), (11, AV.sl [.int .i64, .int .i64] t11), (12, AV.int .i64 t12), (13, AV.int .i64 t13), (17, AV.sl [.int .i64, .int .i64] t17), (18, AV.int .i64 t18), (19, AV.int .i64 (IntKind.i64.wrap (t19 + 1)))], [([0, 5], ⟨false, [.int .i64, .int .i64], h0 ++ ([AV.agg [AV.int .i64 h1_1, AV.int .i64 (fI (t17.getD t19.toNat AV.undef) 1)]])⟩), ([0, 7], ⟨true, [], [AV.agg [AV.int .i64 h1_0, AV.int .i64 h1_1]]⟩)]⟩
  else none)
  else next ⟨[(1, AV.sl [.int .i64, .int .i64] t1), (5, AV.own [0, 5]), (7, AV.ptr [0, 7] 0 0), (11, AV.sl [.int .i64, .int .i64] t11), (12, AV.int .i64 t12), (13, AV.int .i64 t13), (17, AV.sl [.int .i64, .int .i64] t17), (18, AV.int .i64 t18), (19, AV.int .i64 (IntKind.i64.wrap (t19 + 1)))], [([0, 5], ⟨false, [.int .i64, .int .i64], h0⟩), ([0, 7], ⟨true, [], [AV.agg [AV.int .i64 h1_0, AV.int .i64 h1_1]]⟩)]⟩)
  else none)
  else k (.exit 2) ⟨[(1, AV.sl [.int .i64, .int .i64] t1), (5, AV.own [0, 5]), (11, AV.sl [.int .i64, .int .i64] t11), (12, AV.int .i64 t12), (13, AV.int .i64 t13)], [([0, 5], ⟨false, [.int .i64, .int .i64], h0⟩), ([0, 7], ⟨true, [], [AV.agg [AV.int .i64 h1_0, AV.int .i64 h1_1]]⟩)]⟩) := by kernel_rfl
theorem st96_2 (t1 : List AV) (t11 : List AV) (t12 : Int) (t13 : Int) (t17 : List AV) (t18 : Int) (h1_0 : Int) (h1_1 : Int) (ce : CallE) (k : Kont) (s : (Int × (List AV))) (next : St → Option AV) : stepA (codeA c96 ce [] 96 2 (sub [1, 1, 0, 1, 0, 0, 1, 1, 0, 0, 1, 1, 0, 0] (body Try.f96))) (normA [] [1, 5, 7, 11, 12, 13, 17, 18, 19]) next ((fun s : Int × (List AV) => ⟨[(1, AV.sl [.int .i64, .int .i64] t1), (5, AV.own [0, 5]), (7, AV.ptr [0, 7] 0 0), (11, AV.sl [.int .i64, .int .i64] t11), (12, AV.int .i64 t12), (13, AV.int .i64 t13), (17, AV.sl [.int .i64, .int .i64] t17), (18, AV.int .i64 t18), (19, AV.int .i64 s.1)], [([0, 5], ⟨false, [.int .i64, .int .i64], s.2⟩), ([0, 7], ⟨true, [], [AV.agg [AV.int .i64 h1_0, AV.int .i64 h1_1]]⟩)]⟩) s) k = (R96_2 t1 t11 t12 t13 t17 t18 h1_0 h1_1 s).el none (fun s => next ((fun s : Int × (List AV) => ⟨[(1, AV.sl [.int .i64, .int .i64] t1), (5, AV.own [0, 5]), (7, AV.ptr [0, 7] 0 0), (11, AV.sl [.int .i64, .int .i64] t11), (12, AV.int .i64 t12), (13, AV.int .i64 t13), (17, AV.sl [.int .i64, .int .i64] t17), (18, AV.int .i64 t18), (19, AV.int .i64 s.1)], [([0, 5], ⟨false, [.int .i64, .int .i64], s.2⟩), ([0, 7], ⟨true, [], [AV.agg [AV.int .i64 h1_0, AV.int .i64 h1_1]]⟩)]⟩) s)) (fun p : (List AV) => k (.exit 2) ⟨[(1, AV.sl [.int .i64, .int .i64] t1), (5, AV.own [0, 5]), (11, AV.sl [.int .i64, .int .i64] t11), (12, AV.int .i64 t12), (13, AV.int .i64 t13)], [([0, 5], ⟨false, [.int .i64, .int .i64], p⟩), ([0, 7], ⟨true, [], [AV.agg [AV.int .i64 h1_0, AV.int .i64 h1_1]]⟩)]⟩) := (s96_2 ce t1 t11 t12 t13 t17 t18 s.1 s.2 h1_0 h1_1 next k).trans (by unfold R96_2; unfold F96_2; simp only [el_cond, el_ro, el_sum, el_fail, el_next, el_stop] <;> rfl)
theorem ok96_2 {ce : CallE} : LoopOK c96 ce [] 96 2 (sub [1, 1, 0, 1, 0, 0, 1, 1, 0, 0, 1, 1, 0, 0] (body Try.f96)) := by
  intro m hm st k r h
  obtain rfl : l96_2 = m := Option.some.inj hm
  unfold l96_2 at h
  split at h
  · rename_i g0 t1 g1 g2 g3 g4 g5 t11 t12 t13 g6 t17 t18 t19 g7 g8 h0 g9 h1_0 h1_1
    obtain ⟨hg, h⟩ := bif_some h
    simp only [Bool.and_eq_true] at hg
    obtain ⟨⟨⟨⟨⟨⟨⟨⟨⟨q0, q1⟩, q2⟩, q3⟩, q4⟩, q5⟩, q6⟩, q7⟩, q8⟩, q9⟩ := hg
    obtain rfl := ctsEq_eq _ _ q0
    obtain rfl := (nmEq_iff _ _).1 q1
    obtain rfl := (nmEq_iff _ _).1 q2
    obtain rfl := Nat.eq_of_beq_eq_true q3
    obtain rfl := Nat.eq_of_beq_eq_true q4
    obtain rfl := ctsEq_eq _ _ q5
    obtain rfl := ctsEq_eq _ _ q6
    obtain rfl := (nmEq_iff _ _).1 q7
    obtain rfl := ctsEq_eq _ _ q8
    obtain rfl := (nmEq_iff _ _).1 q9
    refine ⟨((t18 - t19 : Int).toNat + 1), ?_⟩
    rw [← h]
    exact loop_run (fun s : Int × (List AV) => ⟨[(1, AV.sl [.int .i64, .int .i64] t1), (5, AV.own [0, 5]), (7, AV.ptr [0, 7] 0 0), (11, AV.sl [.int .i64, .int .i64] t11), (12, AV.int .i64 t12), (13, AV.int .i64 t13), (17, AV.sl [.int .i64, .int .i64] t17), (18, AV.int .i64 t18), (19, AV.int .i64 s.1)], [([0, 5], ⟨false, [.int .i64, .int .i64], s.2⟩), ([0, 7], ⟨true, [], [AV.agg [AV.int .i64 h1_0, AV.int .i64 h1_1]]⟩)]⟩) (fun p : (List AV) => k (.exit 2) ⟨[(1, AV.sl [.int .i64, .int .i64] t1), (5, AV.own [0, 5]), (11, AV.sl [.int .i64, .int .i64] t11), (12, AV.int .i64 t12), (13, AV.int .i64 t13)], [([0, 5], ⟨false, [.int .i64, .int .i64], p⟩), ([0, 7], ⟨true, [], [AV.agg [AV.int .i64 h1_0, AV.int .i64 h1_1]]⟩)]⟩) (st96_2 t1 t11 t12 t13 t17 t18 h1_0 h1_1 ce k) _ (t19, h0)
  · cases h
theorem s96_0 (ce : CallE) (t1 : List AV) (t11 : List AV) (t12 : Int) (t13 : Int) (h0 : List AV) (next : St → Option AV) (k : Kont) : stepA (codeA c96 ce [] 96 0 (sub [1, 1, 0, 1, 0, 0] (body Try.f96))) (normA [] [1, 5, 11, 12, 13]) next ⟨[(1, AV.sl [.int .i64, .int .i64] t1), (5, AV.own [0, 5]), (11, AV.sl [.int .i64, .int .i64] t11), (12, AV.int .i64 t12), (13, AV.int .i64 t13)], [([0, 5], ⟨false, [.int .i64, .int .i64], h0⟩)]⟩ k = (bif decide (t13 < t12) then (bif (decide (0 ≤ t13) && decide (t13 < (t11.length : Int))) then (ro (runW (R96_2 t1 t11 t12 t13 t1 (t1.length : Int) (fI (t11.getD t13.toNat AV.undef) 0) (fI (t11.getD t13.toNat AV.undef) 1)) (((t1.length : Int) - 0 : Int).toNat + 1) (0, h0)) none (fun p36 => next ⟨[(1, AV.sl [.int .i64, .int .i64] t1), (5, AV.own [0, 5]), (11, AV.sl [.int .i64, .int .i64] t11), (12, AV.int .i64 t12), (13, AV.int .i64 (IntKind.i64.wrap (t13 + 1)))], [([0, 5], ⟨false, [.int .i64, .int .i64], p36⟩)]⟩))
  else none)
  else k (.exit 0) ⟨[(5, AV.own [0, 5])], [([0, 5], ⟨false, [.int .i64, .int .i64], h0⟩)]⟩) := by kernel_rfl
theorem st96_0 (t1 : List AV) (t11 : List AV) (t12 : Int) (ce : CallE) (k : Kont) (s : (Int × (List AV))) (next : St → Option AV) : stepA (codeA c96 ce [] 96 0 (sub [1, 1, 0, 1, 0, 0] (body Try.f96))) (normA [] [1, 5, 11, 12, 13]) next ((fun s : Int × (List AV) => ⟨[(1, AV.sl [.int .i64, .int .i64] t1), (5, AV.own [0, 5]), (11, AV.sl [.int .i64, .int .i64] t11), (12, AV.int .i64 t12), (13, AV.int .i64 s.1)], [([0, 5], ⟨false, [.int .i64, .int .i64], s.2⟩)]⟩) s) k = (R96_0 t1 t11 t12 s).el none (fun s => next ((fun s : Int × (List AV) => ⟨[(1, AV.sl [.int .i64, .int .i64] t1), (5, AV.own [0, 5]), (11, AV.sl [.int .i64, .int .i64] t11), (12, AV.int .i64 t12), (13, AV.int .i64 s.1)], [([0, 5], ⟨false, [.int .i64, .int .i64], s.2⟩)]⟩) s)) (fun p : (List AV) => k (.exit 0) ⟨[(5, AV.own [0, 5])], [([0, 5], ⟨false, [.int .i64, .int .i64], p⟩)]⟩) := (s96_0 ce t1 t11 t12 s.1 s.2 next k).trans (by unfold R96_0; unfold F96_0; simp only [el_cond, el_ro, el_sum, el_fail, el_next, el_stop] <;> rfl)
theorem ok96_0 {ce : CallE} : LoopOK c96 ce [] 96 0 (sub [1, 1, 0, 1, 0, 0] (body Try.f96)) := by
  intro m hm st k r h
  obtain rfl : l96_0 = m := Option.some.inj hm
  unfold l96_0 at h
  split at h
  · rename_i g0 t1 g1 g2 t11 t12 t13 g3 g4 h0
    obtain ⟨hg, h⟩ := bif_some h
    simp only [Bool.and_eq_true] at hg
    obtain ⟨⟨⟨⟨q0, q1⟩, q2⟩, q3⟩, q4⟩ := hg
    obtain rfl := ctsEq_eq _ _ q0
    obtain rfl := (nmEq_iff _ _).1 q1
    obtain rfl := ctsEq_eq _ _ q2
    obtain rfl := (nmEq_iff _ _).1 q3
    obtain rfl := ctsEq_eq _ _ q4
    refine ⟨((t12 - t13 : Int).toNat + 1), ?_⟩
    rw [← h]
    exact loop_run (fun s : Int × (List AV) => ⟨[(1, AV.sl [.int .i64, .int .i64] t1), (5, AV.own [0, 5]), (11, AV.sl [.int .i64, .int .i64] t11), (12, AV.int .i64 t12), (13, AV.int .i64 s.1)], [([0, 5], ⟨false, [.int .i64, .int .i64], s.2⟩)]⟩) (fun p : (List AV) => k (.exit 0) ⟨[(5, AV.own [0, 5])], [([0, 5], ⟨false, [.int .i64, .int .i64], p⟩)]⟩) (st96_0 t1 t11 t12 ce k) _ (t13, h0)
  · cases h
def q96 (a0 : List AV) (a1 : List AV) : Bool := (ro (runW (R96_0 a1 a0 (a0.length : Int)) (((a0.length : Int) - 0 : Int).toNat + 1) (0, ([] : List AV))) false (fun p37 => q126 p37))
def v96_0 (a0 : List AV) (a1 : List AV) : List AV := (ro (runW (R96_0 a1 a0 (a0.length : Int)) (((a0.length : Int) - 0 : Int).toNat + 1) (0, ([] : List AV))) [] (fun p37 => (v126_0 p37)))
theorem e96 (a0 : List AV) (a1 : List AV) : funA c96 0 96 [AV.sl [.int .i64, .int .i64] a0, AV.sl [.int .i64, .int .i64] a1] = (ro (runW (R96_0 a1 a0 (a0.length : Int)) (((a0.length : Int) - 0 : Int).toNat + 1) (0, ([] : List AV))) none (fun p37 => (bif q126 p37 then some (AV.fl [.int .i64, .int .i64] (v126_0 p37))
  else none))) := by kernel_rfl
theorem r96 (a0 : List AV) (a1 : List AV) (h : q96 a0 a1 = true) : funA c96 0 96 [AV.sl [.int .i64, .int .i64] a0, AV.sl [.int .i64, .int .i64] a1] = some (AV.fl [.int .i64, .int .i64] (v96_0 a0 a1)) := (e96 a0 a1).trans ((brO (fun o : Option (((List AV))) => some (AV.fl [.int .i64, .int .i64] (ro o [] (fun p37 => (v126_0 p37))))) (fun p37 => (brL1 (fun _ => rfl)))) h)
def m96 : TModel
  | [.sl g0 a0, .sl g1 a1] => bif ctsEq g0 ([.int .i64, .int .i64]) && ctsEq g1 ([.int .i64, .int .i64]) then some (q96 a0 a1, AV.fl [.int .i64, .int .i64] (v96_0 a0 a1)) else none
  | _ => none
theorem k96 : Known Try.prog 96 := ⟨Try.f96, Try.func96, by kernel_rfl, by kernel_rfl⟩
theorem meets96 : Meets Try.prog 96 m96 := by
  refine meet (f := Try.f96) (l := [(0, sub [1, 1, 0, 1, 0, 0] (body Try.f96)), (2, sub [1, 1, 0, 1, 0, 0, 1, 1, 0, 0, 1, 1, 0, 0] (body Try.f96))]) (hs := [(96, 0, [1, 5, 11, 12, 13]), (96, 2, [1, 5, 7, 11, 12, 13, 17, 18, 19]), (96, 999, [4]), (96, 1000, [5]), (96, 1001, [1, 5, 11, 12, 13]), (96, 1002, [1, 5, 11, 12, 13]), (96, 1003, [1, 5, 7, 11, 12, 13, 17, 18, 19])]) (ts := []) (ws := [(126, m126)]) (is := []) (ls := [(96, 0, l96_0), (96, 2, l96_2)]) (lvl := 0) mixed k96 Try.func96 (by kernel_rfl) (loops_cons ok96_0 (loops_cons ok96_2 noLoop)) allT_nil (allM_cons meets126 allM_nil) noI fun w xs us r hl hv h => ?_
  unfold m96 at h
  split at h
  · rename_i g0 a0 g1 a1
    obtain ⟨hg, h⟩ := bif_pair h
    simp only [Bool.and_eq_true] at hg
    obtain ⟨q0, q1⟩ := hg
    obtain rfl := ctsEq_eq _ _ q0
    obtain rfl := ctsEq_eq _ _ q1
    obtain ⟨h1, rfl⟩ := pair_inj h
    exact r96 a0 a1 h1
  · cases h

/-! ### 47 loop.example/g01984/impl.ScanJoin -/
noncomputable def c47 : Cfg := cfg Try.prog [(47, 999, [6])] [(70, m70), (96, m96), (97, m97)] [] [] []
def q47 (a0_0 : List AV) (a0_1 : List AV) (a0_2 : List AV) (a1_0 : List AV) (a1_1 : List AV) (a1_2 : List AV) (a2_0 : Int) (a2_1 : Int) : Bool := (q70 a0_0 a0_1 a0_2 && (bif !(v70_0 a0_0 a0_1 a0_2) then true else (q70 a1_0 a1_1 a1_2 && (bif !(v70_0 a1_0 a1_1 a1_2) then true else (q97 a0_0 a0_1 a0_2 a2_0 a2_1 && (q97 a1_0 a1_1 a1_2 a2_0 a2_1 && q96 (v97_0 a0_0 a0_1 a0_2 a2_0 a2_1) (v97_0 a1_0 a1_1 a1_2 a2_0 a2_1)))))))
def v47_0 (a0_0 : List AV) (a0_1 : List AV) (a0_2 : List AV) (a1_0 : List AV) (a1_1 : List AV) (a1_2 : List AV) (a2_0 : Int) (a2_1 : Int) : List AV := (bif !(v70_0 a0_0 a0_1 a0_2) then ([] : List AV) else (bif !(v70_0 a1_0 a1_1 a1_2) then ([] : List AV) else (v96_0 (v97_0 a0_0 a0_1 a0_2 a2_0 a2_1) (v97_0 a1_0 a1_1 a1_2 a2_0 a2_1))))
theorem e47 (a0_0 : List AV) (a0_1 : List AV) (a0_2 : List AV) (a1_0 : List AV) (a1_1 : List AV) (a1_2 : List AV) (a2_0 : Int) (a2_1 : Int) : funA c47 0 47 [AV.agg [AV.sl [.int .i64] a0_0, AV.sl [.int .i64] a0_1, AV.sl [.int .i64, .int .i64] a0_2], AV.agg [AV.sl [.int .i64] a1_0, AV.sl [.int .i64] a1_1, AV.sl [.int .i64, .int .i64] a1_2], AV.agg [AV.int .i64 a2_0, AV.int .i64 a2_1]] = (bif q70 a0_0 a0_1 a0_2 then (bif !(v70_0 a0_0 a0_1 a0_2) then some (AV.fl [.int .i64, .int .i64] ([] : List AV))
  else (bif q70 a1_0 a1_1 a1_2 then (bif !(v70_0 a1_0 a1_1 a1_2) then some (AV.fl [.int .i64, .int .i64] ([] : List AV))
  else (bif q97 a0_0 a0_1 a0_2 a2_0 a2_1 then (bif q97 a1_0 a1_1 a1_2 a2_0 a2_1 then (bif q96 (v97_0 a0_0 a0_1 a0_2 a2_0 a2_1) (v97_0 a1_0 a1_1 a1_2 a2_0 a2_1) then some (AV.fl [.int .i64, .int .i64] (v96_0 (v97_0 a0_0 a0_1 a0_2 a2_0 a2_1) (v97_0 a1_0 a1_1 a1_2 a2_0 a2_1)))
  else none)
  else none)
  else none))
  else none))
  else none) := by kernel_rfl
theorem r47 (a0_0 : List AV) (a0_1 : List AV) (a0_2 : List AV) (a1_0 : List AV) (a1_1 : List AV) (a1_2 : List AV) (a2_0 : Int) (a2_1 : Int) (h : q47 a0_0 a0_1 a0_2 a1_0 a1_1 a1_2 a2_0 a2_1 = true) : funA c47 0 47 [AV.agg [AV.sl [.int .i64] a0_0, AV.sl [.int .i64] a0_1, AV.sl [.int .i64, .int .i64] a0_2], AV.agg [AV.sl [.int .i64] a1_0, AV.sl [.int .i64] a1_1, AV.sl [.int .i64, .int .i64] a1_2], AV.agg [AV.int .i64 a2_0, AV.int .i64 a2_1]] = some (AV.fl [.int .i64, .int .i64] (v47_0 a0_0 a0_1 a0_2 a1_0 a1_1 a1_2 a2_0 a2_1)) := (e47 a0_0 a0_1 a0_2 a1_0 a1_1 a1_2 a2_0 a2_1).trans ((brL (br (fun b => some (AV.fl [.int .i64, .int .i64] (bif b then ([] : List AV) else (bif !(v70_0 a1_0 a1_1 a1_2) then ([] : List AV) else (v96_0 (v97_0 a0_0 a0_1 a0_2 a2_0 a2_1) (v97_0 a1_0 a1_1 a1_2 a2_0 a2_1)))))) (fun _ => rfl) (brL (br (fun b => some (AV.fl [.int .i64, .int .i64] (bif b then ([] : List AV) else (v96_0 (v97_0 a0_0 a0_1 a0_2 a2_0 a2_1) (v97_0 a1_0 a1_1 a1_2 a2_0 a2_1))))) (fun _ => rfl) (brL (brL (brL1 (fun _ => rfl)))))))) h)
def m47 : TModel
  | [.agg [.sl g0 a0_0, .sl g1 a0_1, .sl g2 a0_2], .agg [.sl g3 a1_0, .sl g4 a1_1, .sl g5 a1_2], .agg [.int .i64 a2_0, .int .i64 a2_1]] => bif ctsEq g0 ([.int .i64]) && ctsEq g1 ([.int .i64]) && ctsEq g2 ([.int .i64, .int .i64]) && ctsEq g3 ([.int .i64]) && ctsEq g4 ([.int .i64]) && ctsEq g5 ([.int .i64, .int .i64]) then some (q47 a0_0 a0_1 a0_2 a1_0 a1_1 a1_2 a2_0 a2_1, AV.fl [.int .i64, .int .i64] (v47_0 a0_0 a0_1 a0_2 a1_0 a1_1 a1_2 a2_0 a2_1)) else none
  | _ => none
theorem k47 : Known Try.prog 47 := ⟨Try.f47, Try.func47, by kernel_rfl, by kernel_rfl⟩
theorem meets47 : Meets Try.prog 47 m47 := by
  refine meet (f := Try.f47) (l := []) (hs := [(47, 999, [6])]) (ts := [(70, m70), (96, m96), (97, m97)]) (ws := []) (is := []) (ls := []) (lvl := 0) mixed k47 Try.func47 (by kernel_rfl) noLoop (allT_cons meets70 (allT_cons meets96 (allT_cons meets97 allT_nil))) allM_nil noI fun w xs us r hl hv h => ?_
  unfold m47 at h
  split at h
  · rename_i g0 a0_0 g1 a0_1 g2 a0_2 g3 a1_0 g4 a1_1 g5 a1_2 a2_0 a2_1
    obtain ⟨hg, h⟩ := bif_pair h
    simp only [Bool.and_eq_true] at hg
    obtain ⟨⟨⟨⟨⟨q0, q1⟩, q2⟩, q3⟩, q4⟩, q5⟩ := hg
    obtain rfl := ctsEq_eq _ _ q0
    obtain rfl := ctsEq_eq _ _ q1
    obtain rfl := ctsEq_eq _ _ q2
    obtain rfl := ctsEq_eq _ _ q3
    obtain rfl := ctsEq_eq _ _ q4
    obtain rfl := ctsEq_eq _ _ q5
    obtain ⟨h1, rfl⟩ := pair_inj h
    exact r47 a0_0 a0_1 a0_2 a1_0 a1_1 a1_2 a2_0 a2_1 h1
  · cases h

/-! ### 93 slices.Compact[[]int,int] -/
def F93_2 (t4_0 : Nat) (t4_1 : Nat) (t3 : Int) (t5 : Int) (h0 : List AV) : Out ((Int × Int × (List AV))) ((Int × (List AV))) := (bif decide (t5 < ((t4_1 : Nat) : Int)) then (bif (decide (0 ≤ t5) && decide (t5 < ((t4_1 : Nat) : Int)) && decide (t4_0 + t4_1 ≤ h0.length)) then (bif (decide (0 ≤ IntKind.i64.wrap (t5 - 1)) && decide (IntKind.i64.wrap (t5 - 1) < ((t4_1 : Nat) : Int)) && decide (t4_0 + t4_1 ≤ h0.length)) then (bif !decide (fI (h0.getD (t4_0 + t5.toNat) AV.undef) 0 = fI (h0.getD (t4_0 + (IntKind.i64.wrap (t5 - 1)).toNat) AV.undef) 0) then (bif (decide (0 ≤ t5) && decide (t5 < ((t4_1 : Nat) : Int)) && decide (t4_0 + t4_1 ≤ h0.length)) then (bif (decide (0 ≤ t3) && decide (t3 < (h0.length : Int))) then .next (IntKind.i64.wrap (t3 + 1), IntKind.i64.wrap (t5 + 1), h0.set t3.toNat (AV.agg [AV.int .i64 (fI (h0.getD (t4_0 + t5.toNat) AV.undef) 0)]))
  else .fail)
  else .fail)
  else .next (t3, IntKind.i64.wrap (t5 + 1), h0))
  else .fail)
  else .fail)
  else .stop (t3, h0))
def R93_2 (t4_0 : Nat) (t4_1 : Nat) : ((Int × Int × (List AV))) → Out ((Int × Int × (List AV))) ((Int × (List AV))) := fun s : Int × Int × (List AV) => F93_2 t4_0 t4_1 s.1 s.2.1 s.2.2
def l93_2 : LModel := fun _ _ st k => match st with
  | ⟨[(0, .own g0), (3, .int .i64 t3), (4, .sub g1 t4_0 t4_1), (5, .int .i64 t5)], [(g2, ⟨false, g3, h0⟩)]⟩ => bif nmEq g0 ([1]) && nmEq g1 ([1]) && nmEq g2 ([1]) && ctsEq g3 ([.int .i64]) then ro (runW (R93_2 t4_0 t4_1) ((((t4_1 : Nat) : Int) - t5 : Int).toNat + 1) (t3, t5, h0)) none (fun p : Int × (List AV) => k (.exit 2) ⟨[(0, AV.own [1]), (3, AV.int .i64 p.1)], [([1], ⟨false, [.int .i64], p.2⟩)]⟩) else none
  | _ => none
def F93_0 (h0 : List AV) (t3 : Int) : Out (Int) (Unit ⊕ (Nat × Nat × (List AV))) := (bif decide (t3 < (h0.length : Int)) then (bif (decide (0 ≤ t3) && decide (t3 < (h0.length : Int))) then (bif (decide (0 ≤ IntKind.i64.wrap (t3 - 1)) && decide (IntKind.i64.wrap (t3 - 1) < (h0.length : Int))) then (bif decide (fI (h0.getD t3.toNat AV.undef) 0 = fI (h0.getD (IntKind.i64.wrap (t3 - 1)).toNat AV.undef) 0) then (bif (decide (0 ≤ t3) && decide (t3 ≤ (h0.length : Int)) && decide ((h0.length : Int) ≤ (h0.length : Int))) then (ro (runW (R93_2 (Int.toNat t3) (Int.toNat (h0.length : Int) - (Int.toNat t3))) (((((Int.toNat (h0.length : Int) - (Int.toNat t3)) : Nat) : Int) - 1 : Int).toNat + 1) (t3, 1, h0)) .fail (fun p39 => (bif (decide (0 ≤ p39.1) && decide (p39.1 ≤ (p39.2.length : Int)) && decide ((p39.2.length : Int) ≤ (p39.2.length : Int))) then (bif (decide (0 ≤ 0) && decide (0 ≤ p39.1) && decide (p39.1 ≤ ((p39.2.take (Int.toNat p39.1) ++ List.replicate (Int.toNat (p39.2.length : Int) - (Int.toNat p39.1)) (AV.int .i64 0) ++ p39.2.drop ((Int.toNat p39.1) + (Int.toNat (p39.2.length : Int) - (Int.toNat p39.1)))).length : Int))) then .stop (.inr ((Int.toNat 0), (Int.toNat p39.1 - (Int.toNat 0)), p39.2.take (Int.toNat p39.1) ++ List.replicate (Int.toNat (p39.2.length : Int) - (Int.toNat p39.1)) (AV.int .i64 0) ++ p39.2.drop ((Int.toNat p39.1) + (Int.toNat (p39.2.length : Int) - (Int.toNat p39.1)))))
  else .fail)
  else .fail)))
  else .fail)
  else .next (IntKind.i64.wrap (t3 + 1)))
  else .fail)
  else .fail)
  else .stop (.inl ()))
def R93_0 (h0 : List AV) : (Int) → Out (Int) (Unit ⊕ (Nat × Nat × (List AV))) := fun s : Int => F93_0 h0 s
def l93_0 : LModel := fun _ _ st k => match st with
  | ⟨[(0, .own g0), (3, .int .i64 t3)], [(g1, ⟨false, g2, h0⟩)]⟩ => bif nmEq g0 ([1]) && nmEq g1 ([1]) && ctsEq g2 ([.int .i64]) then ro (runW (R93_0 h0) (((h0.length : Int) - t3 : Int).toNat + 1) t3) none (sumE (fun _ : Unit => k (.exit 0) ⟨[(0, AV.own [1])], [([1], ⟨false, [.int .i64], h0⟩)]⟩) (fun p : Nat × Nat × (List AV) => k .ret ⟨[(2, AV.sub [1] p.1 p.2.1)], [([1], ⟨false, [.int .i64], p.2.2⟩)]⟩)) else none
  | _ => none
noncomputable def c93 : Cfg := cfg Try.prog [(93, 0, [0, 3]), (93, 2, [0, 3, 4, 5]), (93, 999, [2]), (93, 1000, [0]), (93, 1001, [0, 3]), (93, 1002, [0, 3]), (93, 1003, [0, 3, 4, 5])] [] [] [] [(93, 0, l93_0), (93, 2, l93_2)]
theorem s93_2 (ce : CallE) (t3 : Int) (t4_0 : Nat) (t4_1 : Nat) (t5 : Int) (h0 : List AV) (next : St → Option AV) (k : Kont) : stepA (codeA c93 ce [0] 93 2 (sub [1, 1, 0, 1, 0, 0, 1, 0, 0, 1, 0, 1, 0, 1, 0, 0] (body Try.f93))) (normA [0] [0, 3, 4, 5]) next ⟨[(0, AV.own [1]), (3, AV.int .i64 t3), (4, AV.sub [1] t4_0 t4_1), (5, AV.int .i64 t5)], [([1], ⟨false, [.int .i64], h0⟩)]⟩ k = (bif decide (t5 < ((t4_1 : Nat) : Int)) then (bif (decide (0 ≤ t5) && decide (t5 < ((t4_1 : Nat) : Int)) && decide (t4_0 + t4_1 ≤ h0.length)) then (bif (decide (0 ≤ IntKind.i64.wrap (t5 - 1)) && decide (IntKind.i64.wrap (t5 - 1) < ((t4_1 : Nat) : Int)) && decide (t4_0 + t4_1 ≤ h0.length)) then (bif !decide (fI (h0.getD (t4_0 + t5.toNat) AV.undef) 0 = fI (h0.getD (t4_0 + (IntKind.i64.wrap (t5 - 1)).toNat) AV.undef) 0) then (bif (decide (0 ≤ t5) && decide (t5 < ((t4_1 : Nat) : Int)) && decide (t4_0 + t4_1 ≤ h0.length)) then (bif (decide (0 ≤ t3) && decide (t3 < (h0.length : Int))) then next ⟨[(0, AV.own [1]), (3, AV.int .i64 (IntKind.i64.wrap (t3 + 1))), (4, AV.sub [1] t4_0 t4_1), (5, AV.int .i64 (IntKind.i64.wrap (t5 + 1)))], [([1], ⟨false, [.int .i64], h0.set t3.toNat (AV.agg [AV.int .i64 (fI (h0.getD (t4_0 + t5.toNat) AV.undef) 0)])⟩)]⟩
  else none)
  else none)
  else next ⟨[(0, AV.own [1]), (3, AV.int .i64 t3), (4, AV.sub [1] t4_0 t4_1), (5, AV.int .i64 (IntKind.i64.wrap (t5 + 1)))], [([1], ⟨false, [.int .i64], h0⟩)]⟩)
  else none)
  else none)
  else k (.exit 2) ⟨[(0, AV.own [1]), (3, AV.int .i64 t3)], [([1], ⟨false, [.int .i64], h0⟩)]⟩) := by kernel_rfl
theorem st93_2 (t4_0 : Nat) (t4_1 : Nat) (ce : CallE) (k : Kont) (s : (Int × Int × (List AV))) (next : St → Option AV) : stepA (codeA c93 ce [0] 93 2 (sub [1, 1, 0, 1, 0, 0, 1, 0, 0, 1, 0, 1, 0, 1, 0, 0] (body Try.f93))) (normA [0] [0, 3, 4, 5]) next ((fun s : Int × Int × (List AV) => ⟨[(0, AV.own [1]), (3, AV.int .i64 s.1), (4, AV.sub [1] t4_0 t4_1), (5, AV.int .i64 s.2.1)], [([1], ⟨false, [.int .i64], s.2.2⟩)]⟩) s) k = (R93_2 t4_0 t4_1 s).el none (fun s => next ((fun s : Int × Int × (List AV) => ⟨[(0, AV.own [1]), (3, AV.int .i64 s.1), (4, AV.sub [1] t4_0 t4_1), (5, AV.int .i64 s.2.1)], [([1], ⟨false, [.int .i64], s.2.2⟩)]⟩) s)) (fun p : Int × (List AV) => k (.exit 2) ⟨[(0, AV.own [1]), (3, AV.int .i64 p.1)], [([1], ⟨false, [.int .i64], p.2⟩)]⟩) := (s93_2 ce s.1 t4_0 t4_1 s.2.1 s.2.2 next k).trans (by unfold R93_2; unfold F93_2; simp only [el_cond, el_ro, el_sum, el_fail, el_next, el_stop] <;> rfl)
theorem ok93_2 {ce : CallE} : LoopOK c93 ce [0] 93 2 (sub [1, 1, 0, 1, 0, 0, 1, 0, 0, 1, 0, 1, 0, 1, 0, 0] (body Try.f93)) := by
  intro m hm st k r h
  obtain rfl : l93_2 = m := Option.some.inj hm
  unfold l93_2 at h
  split at h
  · rename_i g0 t3 g1 t4_0 t4_1 t5 g2 g3 h0
    obtain ⟨hg, h⟩ := bif_some h
    simp only [Bool.and_eq_true] at hg
    obtain ⟨⟨⟨q0, q1⟩, q2⟩, q3⟩ := hg
    obtain rfl := (nmEq_iff _ _).1 q0
    obtain rfl := (nmEq_iff _ _).1 q1
    obtain rfl := (nmEq_iff _ _).1 q2
    obtain rfl := ctsEq_eq _ _ q3
    refine ⟨((((t4_1 : Nat) : Int) - t5 : Int).toNat + 1), ?_⟩
    rw [← h]
    exact loop_run (fun s : Int × Int × (List AV) => ⟨[(0, AV.own [1]), (3, AV.int .i64 s.1), (4, AV.sub [1] t4_0 t4_1), (5, AV.int .i64 s.2.1)], [([1], ⟨false, [.int .i64], s.2.2⟩)]⟩) (fun p : Int × (List AV) => k (.exit 2) ⟨[(0, AV.own [1]), (3, AV.int .i64 p.1)], [([1], ⟨false, [.int .i64], p.2⟩)]⟩) (st93_2 t4_0 t4_1 ce k) _ (t3, t5, h0)
  · cases h
theorem s93_0 (ce : CallE) (t3 : Int) (h0 : List AV) (next : St → Option AV) (k : Kont) : stepA (codeA c93 ce [0] 93 0 (sub [1, 1, 0, 1, 0, 0] (body Try.f93))) (normA [0] [0, 3]) next ⟨[(0, AV.own [1]), (3, AV.int .i64 t3)], [([1], ⟨false, [.int .i64], h0⟩)]⟩ k = (bif decide (t3 < (h0.length : Int)) then (bif (decide (0 ≤ t3) && decide (t3 < (h0.length : Int))) then (bif (decide (0 ≤ IntKind.i64.wrap (t3 - 1)) && decide (IntKind.i64.wrap (t3 - 1) < (h0.length : Int))) then (bif decide (fI (h0.getD t3.toNat AV.undef) 0 = fI (h0.getD (IntKind.i64.wrap (t3 - 1)).toNat AV.undef) 0) then (bif (decide (0 ≤ t3) && decide (t3 ≤ (h0.length : Int)) && decide ((h0.length : Int) ≤ (h0.length : Int))) then (ro (runW (R93_2 (Int.toNat t3) (Int.toNat (h0.length : Int) - (Int.toNat t3))) (((((Int.toNat (h0.length : Int) - (Int.toNat t3)) : Nat) : Int) - 1 : Int).toNat + 1) (t3, 1, h0)) none (fun p39 => (bif (decide (0 ≤ p39.1) && decide (p39.1 ≤ (p39.2.length : Int)) && decide ((p39.2.length : Int) ≤ (p39.2.length : Int))) then (bif (decide (0 ≤ 0) && decide (0 ≤ p39.1) && decide (p39.1 ≤ ((p39.2.take (Int.toNat p39.1) ++ List.replicate (Int.toNat (p39.2.length : Int) - (Int.toNat p39.1)) (AV.int .i64 0) ++ p39.2.drop ((Int.toNat p39.1) + (Int.toNat (p39.2.length : Int) - (Int.toNat p39.1)))).length : Int))) then k .ret ⟨[(2, AV.sub [1] (Int.toNat 0) (Int.toNat p39.1 - (Int.toNat 0)))], [([1], ⟨false, [.int .i64], p39.2.take (Int.toNat p39.1) ++ List.replicate (Int.toNat (p39.2.length : Int) - (Int.toNat p39.1)) (AV.int .i64 0) ++ p39.2.drop ((Int.toNat p39.1) + (Int.toNat (p39.2.length : Int) - (Int.toNat p39.1)))⟩)]⟩
  else none)
  else none)))
  else none)
  else next ⟨[(0, AV.own [1]), (3, AV.int .i64 (IntKind.i64.wrap (t3 + 1)))], [([1], ⟨false, [.int .i64], h0⟩)]⟩)
  else none)
  else none)
  else k (.exit 0) ⟨[(0, AV.own [1])], [([1], ⟨false, [.int .i64], h0⟩)]⟩) := by kernel_rfl
theorem st93_0 (h0 : List AV) (ce : CallE) (k : Kont) (s : Int) (next : St → Option AV) : stepA (codeA c93 ce [0] 93 0 (sub [1, 1, 0, 1, 0, 0] (body Try.f93))) (normA [0] [0, 3]) next ((fun s : Int => ⟨[(0, AV.own [1]), (3, AV.int .i64 s)], [([1], ⟨false, [.int .i64], h0⟩)]⟩) s) k = (R93_0 h0 s).el none (fun s => next ((fun s : Int => ⟨[(0, AV.own [1]), (3, AV.int .i64 s)], [([1], ⟨false, [.int .i64], h0⟩)]⟩) s)) (sumE (fun _ : Unit => k (.exit 0) ⟨[(0, AV.own [1])], [([1], ⟨false, [.int .i64], h0⟩)]⟩) (fun p : Nat × Nat × (List AV) => k .ret ⟨[(2, AV.sub [1] p.1 p.2.1)], [([1], ⟨false, [.int .i64], p.2.2⟩)]⟩)) := (s93_0 ce s h0 next k).trans (by unfold R93_0; unfold F93_0; simp only [el_cond, el_ro, el_sum, el_fail, el_next, el_stop] <;> rfl)
theorem ok93_0 {ce : CallE} : LoopOK c93 ce [0] 93 0 (sub [1, 1, 0, 1, 0, 0] (body Try.f93)) := by
  intro m hm st k r h
  obtain rfl : l93_0 = m := Option.some.inj hm
  unfold l93_0 at h
  split at h
  · rename_i g0 t3 g1 g2 h0
    obtain ⟨hg, h⟩ := bif_some h
    simp only [Bool.and_eq_true] at hg
    obtain ⟨⟨q0, q1⟩, q2⟩ := hg
    obtain rfl := (nmEq_iff _ _).1 q0
    obtain rfl := (nmEq_iff _ _).1 q1
    obtain rfl := ctsEq_eq _ _ q2
    refine ⟨(((h0.length : Int) - t3 : Int).toNat + 1), ?_⟩
    rw [← h]
    exact loop_run (fun s : Int => ⟨[(0, AV.own [1]), (3, AV.int .i64 s)], [([1], ⟨false, [.int .i64], h0⟩)]⟩) (sumE (fun _ : Unit => k (.exit 0) ⟨[(0, AV.own [1])], [([1], ⟨false, [.int .i64], h0⟩)]⟩) (fun p : Nat × Nat × (List AV) => k .ret ⟨[(2, AV.sub [1] p.1 p.2.1)], [([1], ⟨false, [.int .i64], p.2.2⟩)]⟩)) (st93_0 h0 ce k) _ t3
  · cases h
def q93 (b0 : List AV) : Bool := (bif decide ((b0.length : Int) < 2) then true else (ro (runW (R93_0 b0) (((b0.length : Int) - 1 : Int).toNat + 1) 1) false (sumE (fun _ => true) (fun p41 => true))))
def v93_0 (b0 : List AV) : Nat := (bif decide ((b0.length : Int) < 2) then 0 else (ro (runW (R93_0 b0) (((b0.length : Int) - 1 : Int).toNat + 1) 1) 0 (sumE (fun _ => 0) (fun p41 => p41.1))))
def v93_1 (b0 : List AV) : Nat := (bif decide ((b0.length : Int) < 2) then b0.length else (ro (runW (R93_0 b0) (((b0.length : Int) - 1 : Int).toNat + 1) 1) 0 (sumE (fun _ => b0.length) (fun p41 => p41.2.1))))
def v93_2 (b0 : List AV) : List AV := (bif decide ((b0.length : Int) < 2) then b0 else (ro (runW (R93_0 b0) (((b0.length : Int) - 1 : Int).toNat + 1) 1) [] (sumE (fun _ => b0) (fun p41 => p41.2.2))))
theorem e93 (b0 : List AV) (K : AV → List Blk → Option AV) : inlA c93 1 93 [AV.own [1]] [0] (canH 1 [⟨false, [.int .i64], b0⟩]) (keepB 1 K) = (bif decide ((b0.length : Int) < 2) then K (AV.sub [1] 0 b0.length) [⟨false, [.int .i64], b0⟩]
  else (ro (runW (R93_0 b0) (((b0.length : Int) - 1 : Int).toNat + 1) 1) none (sumE (fun _ => K (AV.sub [1] 0 b0.length) [⟨false, [.int .i64], b0⟩]) (fun p41 => K (AV.sub [1] p41.1 p41.2.1) [⟨false, [.int .i64], p41.2.2⟩])))) := by kernel_rfl
theorem r93 (b0 : List AV) (K : AV → List Blk → Option AV) (h : q93 b0 = true) : inlA c93 1 93 [AV.own [1]] [0] (canH 1 [⟨false, [.int .i64], b0⟩]) (keepB 1 K) = K (AV.sub [1] (v93_0 b0) (v93_1 b0)) [⟨false, [.int .i64], (v93_2 b0)⟩] := (e93 b0 K).trans ((br (fun b => K (AV.sub [1] (bif b then 0 else (ro (runW (R93_0 b0) (((b0.length : Int) - 1 : Int).toNat + 1) 1) 0 (sumE (fun _ => 0) (fun p41 => p41.1)))) (bif b then b0.length else (ro (runW (R93_0 b0) (((b0.length : Int) - 1 : Int).toNat + 1) 1) 0 (sumE (fun _ => b0.length) (fun p41 => p41.2.1))))) [⟨false, [.int .i64], (bif b then b0 else (ro (runW (R93_0 b0) (((b0.length : Int) - 1 : Int).toNat + 1) 1) [] (sumE (fun _ => b0) (fun p41 => p41.2.2))))⟩]) (fun _ => rfl) (brO (fun o : Option (Unit ⊕ (Nat × Nat × (List AV))) => K (AV.sub [1] (ro o 0 (sumE (fun _ => 0) (fun p41 => p41.1))) (ro o 0 (sumE (fun _ => b0.length) (fun p41 => p41.2.1)))) [⟨false, [.int .i64], (ro o [] (sumE (fun _ => b0) (fun p41 => p41.2.2)))⟩]) (brS (fun o : Unit ⊕ (Nat × Nat × (List AV)) => K (AV.sub [1] ((sumE (fun _ => 0) (fun p41 => p41.1)) o) ((sumE (fun _ => b0.length) (fun p41 => p41.2.1)) o)) [⟨false, [.int .i64], ((sumE (fun _ => b0) (fun p41 => p41.2.2)) o)⟩]) (fun _ => (fun _ => rfl)) (fun p41 => (fun _ => rfl))))) h)
def m93 : WModel
  | [.own g0], [⟨false, g1, b0⟩] => bif nmEq g0 ([1]) && ctsEq g1 ([.int .i64]) then some (q93 b0, AV.sub [1] (v93_0 b0) (v93_1 b0), [⟨false, [.int .i64], (v93_2 b0)⟩]) else none
  | _, _ => none
theorem k93 : Known Try.prog 93 := ⟨Try.f93, Try.func93, by kernel_rfl, by kernel_rfl⟩
theorem meets93 : MeetsM Try.prog 93 m93 := by
  refine meetM (f := Try.f93) (l := [(0, sub [1, 1, 0, 1, 0, 0] (body Try.f93)), (2, sub [1, 1, 0, 1, 0, 0, 1, 0, 0, 1, 0, 1, 0, 1, 0, 0] (body Try.f93))]) (hs := [(93, 0, [0, 3]), (93, 2, [0, 3, 4, 5]), (93, 999, [2]), (93, 1000, [0]), (93, 1001, [0, 3]), (93, 1002, [0, 3]), (93, 1003, [0, 3, 4, 5])]) (ts := []) (ws := []) (is := []) (ls := [(93, 0, l93_0), (93, 2, l93_2)]) (lvl := 0) mixed k93 Try.func93 (by kernel_rfl) (loops_cons ok93_0 (loops_cons ok93_2 noLoop)) allT_nil allM_nil noI fun C w xs us bs r bs' hl hv hh h K => ?_
  unfold m93 at h
  split at h
  · rename_i g0 g1 b0
    obtain ⟨hg, h⟩ := bif_pair h
    simp only [Bool.and_eq_true] at hg
    obtain ⟨q0, q1⟩ := hg
    obtain rfl := (nmEq_iff _ _).1 q0
    obtain rfl := ctsEq_eq _ _ q1
    obtain ⟨h1, rfl, rfl⟩ := trip_inj h
    exact r93 b0 K h1
  · cases h

/-! ### 42 loop.example/g01984/impl.SemiJoin -/
def F42_0 (t13 : Int) (h1 : List AV) (t14 : Int) (h0 : List AV) : Out ((Int × (List AV))) (((List AV))) := (bif decide (t14 < t13) then (bif (decide (0 ≤ t14) && decide (t14 < (h1.length : Int))) then (bif (decide ((h0.length + ([AV.int .i64 (fI (h1.getD t14.toNat AV.undef) 0)]).length) * 8 ≤ 140737488355328) && decide ((h0.length + ([AV.int .i64 (fI (h1.getD t14.toNat AV.undef) 0)]).length) ≤ 140737488355328)) then .next (IntKind.i64.wrap (t14 + 1), h0 ++ ([AV.int .i64 (fI (h1.getD t14.toNat AV.undef) 0)]))
  else .fail)
  else .fail)
  else .stop h0)
def R42_0 (t13 : Int) (h1 : List AV) : ((Int × (List AV))) → Out ((Int × (List AV))) (((List AV))) := fun s : Int × (List AV) => F42_0 t13 h1 s.1 s.2
def l42_0 : LModel := fun _ _ st k => match st with
  | ⟨[(5, .own g0), (12, .own g1), (13, .int .i64 t13), (14, .int .i64 t14)], [(g2, ⟨false, g3, h0⟩), (g4, ⟨false, g5, h1⟩)]⟩ => bif nmEq g0 ([0, 5]) && nmEq g1 ([0, 12]) && nmEq g2 ([0, 5]) && ctsEq g3 ([.int .i64]) && nmEq g4 ([0, 12]) && ctsEq g5 ([.int .i64, .int .i64]) then ro (runW (R42_0 t13 h1) ((t13 - t14 : Int).toNat + 1) (t14, h0)) none (fun p : (List AV) => k (.exit 0) ⟨[(5, AV.own [0, 5])], [([0, 5], ⟨false, [.int .i64], p⟩), ([0, 12], ⟨false, [.int .i64, .int .i64], h1⟩)]⟩) else none
  | _ => none
noncomputable def c42 : Cfg := cfg Try.prog [(42, 0, [5, 12, 13, 14]), (42, 999, [4]), (42, 1000, [5]), (42, 1001, [5, 12, 13, 14])] [(47, m47)] [(93, m93)] [] [(42, 0, l42_0)]
theorem s42_0 (ce : CallE) (t13 : Int) (t14 : Int) (h0 : List AV) (h1 : List AV) (next : St → Option AV) (k : Kont) : stepA (codeA c42 ce [] 42 0 (sub [1, 1, 0, 1, 0, 0] (body Try.f42))) (normA [] [5, 12, 13, 14]) next ⟨[(5, AV.own [0, 5]), (12, AV.own [0, 12]), (13, AV.int .i64 t13), (14, AV.int .i64 t14)], [([0, 5], ⟨false, [.int .i64], h0⟩), ([0, 12], ⟨false, [.int .i64, .int .i64], h1⟩)]⟩ k = (bif decide (t14 < t13) then (bif (decide (0 ≤ t14) && decide (t14 < (h1.length : Int))) then (bif (decide ((h0.length + ([AV.int .i64 (fI (h1.getD t14.toNat AV.undef) 0)]).length) * 8 ≤ 140737488355328) && decide ((h0.length + ([AV.int .i64 (fI (h1.getD t14.toNat AV.undef) 0)]).length) ≤ 140737488355328)) then next ⟨[(5, AV.own [0, 5]), (12, AV.own [0, 12]), (13, AV.int .i64 t13), (14, AV.int .i64 (IntKind.i64.wrap (t14 + 1)))], [([0, 5], ⟨false, [.int .i64], h0 ++ ([AV.int .i64 (fI (h1.getD t14.toNat AV.undef) 0)])⟩), ([0, 12], ⟨false, [.int .i64, .int .i64], h1⟩)]⟩
  else none)
  else none)
  else k (.exit 0) ⟨[(5, AV.own [0, 5])], [([0, 5], ⟨false, [.int .i64], h0⟩), ([0, 12], ⟨false, [.int .i64, .int .i64], h1⟩)]⟩) := by kernel_rfl
theorem st42_0 (t13 : Int) (h1 : List AV) (ce : CallE) (k : Kont) (s : (Int × (List AV))) (next : St → Option AV) : stepA (codeA c42 ce [] 42 0 (sub [1, 1, 0, 1, 0, 0] (body Try.f42))) (normA [] [5, 12, 13, 14]) next ((fun s : Int × (List AV) => ⟨[(5, AV.own [0, 5]), (12, AV.own [0, 12]), (13, AV.int .i64 t13), (14, AV.int .i64 s.1)], [([0, 5], ⟨false, [.int .i64], s.2⟩), ([0, 12], ⟨false, [.int .i64, .int .i64], h1⟩)]⟩) s) k = (R42_0 t13 h1 s).el none (fun s => next ((fun s : Int × (List AV) => ⟨[(5, AV.own [0, 5]), (12, AV.own [0, 12]), (13, AV.int .i64 t13), (14, AV.int .i64 s.1)], [([0, 5], ⟨false, [.int .i64], s.2⟩), ([0, 12], ⟨false, [.int .i64, .int .i64], h1⟩)]⟩) s)) (fun p : (List AV) => k (.exit 0) ⟨[(5, AV.own [0, 5])], [([0, 5], ⟨false, [.int .i64], p⟩), ([0, 12], ⟨false, [.int .i64, .int .i64], h1⟩)]⟩) := (s42_0 ce t13 s.1 s.2 h1 next k).trans (by unfold R42_0; unfold F42_0; simp only [el_cond, el_ro, el_sum, el_fail, el_next, el_stop] <;> rfl)
theorem ok42_0 {ce : CallE} : LoopOK c42 ce [] 42 0 (sub [1, 1, 0, 1, 0, 0] (body Try.f42)) := by
  intro m hm st k r h
  obtain rfl : l42_0 = m := Option.some.inj hm
  unfold l42_0 at h
  split at h
  · rename_i g0 g1 t13 t14 g2 g3 h0 g4 g5 h1
    obtain ⟨hg, h⟩ := bif_some h
    simp only [Bool.and_eq_true] at hg
    obtain ⟨⟨⟨⟨⟨q0, q1⟩, q2⟩, q3⟩, q4⟩, q5⟩ := hg
    obtain rfl := (nmEq_iff _ _).1 q0
    obtain rfl := (nmEq_iff _ _).1 q1
    obtain rfl := (nmEq_iff _ _).1 q2
    obtain rfl := ctsEq_eq _ _ q3
    obtain rfl := (nmEq_iff _ _).1 q4
    obtain rfl := ctsEq_eq _ _ q5
    refine ⟨((t13 - t14 : Int).toNat + 1), ?_⟩
    rw [← h]
    exact loop_run (fun s : Int × (List AV) => ⟨[(5, AV.own [0, 5]), (12, AV.own [0, 12]), (13, AV.int .i64 t13), (14, AV.int .i64 s.1)], [([0, 5], ⟨false, [.int .i64], s.2⟩), ([0, 12], ⟨false, [.int .i64, .int .i64], h1⟩)]⟩) (fun p : (List AV) => k (.exit 0) ⟨[(5, AV.own [0, 5])], [([0, 5], ⟨false, [.int .i64], p⟩), ([0, 12], ⟨false, [.int .i64, .int .i64], h1⟩)]⟩) (st42_0 t13 h1 ce k) _ (t14, h0)
  · cases h
def q42 (a0_0 : List AV) (a0_1 : List AV) (a0_2 : List AV) (a1_0 : List AV) (a1_1 : List AV) (a1_2 : List AV) : Bool := (q47 a0_0 a0_1 a0_2 a1_0 a1_1 a1_2 (-1000) 1000 && (ro (runW (R42_0 ((v47_0 a0_0 a0_1 a0_2 a1_0 a1_1 a1_2 (-1000) 1000).length : Int) (v47_0 a0_0 a0_1 a0_2 a1_0 a1_1 a1_2 (-1000) 1000)) ((((v47_0 a0_0 a0_1 a0_2 a1_0 a1_1 a1_2 (-1000) 1000).length : Int) - 0 : Int).toNat + 1) (0, ([] : List AV))) false (fun p38 => q93 p38)))
def v42_0 (a0_0 : List AV) (a0_1 : List AV) (a0_2 : List AV) (a1_0 : List AV) (a1_1 : List AV) (a1_2 : List AV) : List AV := (ro (runW (R42_0 ((v47_0 a0_0 a0_1 a0_2 a1_0 a1_1 a1_2 (-1000) 1000).length : Int) (v47_0 a0_0 a0_1 a0_2 a1_0 a1_1 a1_2 (-1000) 1000)) ((((v47_0 a0_0 a0_1 a0_2 a1_0 a1_1 a1_2 (-1000) 1000).length : Int) - 0 : Int).toNat + 1) (0, ([] : List AV))) [] (fun p38 => ((v93_2 p38).drop (v93_0 p38)).take (v93_1 p38)))
theorem e42 (a0_0 : List AV) (a0_1 : List AV) (a0_2 : List AV) (a1_0 : List AV) (a1_1 : List AV) (a1_2 : List AV) : funA c42 0 42 [AV.agg [AV.sl [.int .i64] a0_0, AV.sl [.int .i64] a0_1, AV.sl [.int .i64, .int .i64] a0_2], AV.agg [AV.sl [.int .i64] a1_0, AV.sl [.int .i64] a1_1, AV.sl [.int .i64, .int .i64] a1_2]] = (bif q47 a0_0 a0_1 a0_2 a1_0 a1_1 a1_2 (-1000) 1000 then (ro (runW (R42_0 ((v47_0 a0_0 a0_1 a0_2 a1_0 a1_1 a1_2 (-1000) 1000).length : Int) (v47_0 a0_0 a0_1 a0_2 a1_0 a1_1 a1_2 (-1000) 1000)) ((((v47_0 a0_0 a0_1 a0_2 a1_0 a1_1 a1_2 (-1000) 1000).length : Int) - 0 : Int).toNat + 1) (0, ([] : List AV))) none (fun p38 => (bif q93 p38 then some (AV.fl [.int .i64] (((v93_2 p38).drop (v93_0 p38)).take (v93_1 p38)))
  else none)))
  else none) := by kernel_rfl
theorem r42 (a0_0 : List AV) (a0_1 : List AV) (a0_2 : List AV) (a1_0 : List AV) (a1_1 : List AV) (a1_2 : List AV) (h : q42 a0_0 a0_1 a0_2 a1_0 a1_1 a1_2 = true) : funA c42 0 42 [AV.agg [AV.sl [.int .i64] a0_0, AV.sl [.int .i64] a0_1, AV.sl [.int .i64, .int .i64] a0_2], AV.agg [AV.sl [.int .i64] a1_0, AV.sl [.int .i64] a1_1, AV.sl [.int .i64, .int .i64] a1_2]] = some (AV.fl [.int .i64] (v42_0 a0_0 a0_1 a0_2 a1_0 a1_1 a1_2)) := (e42 a0_0 a0_1 a0_2 a1_0 a1_1 a1_2).trans ((brL (brO (fun o : Option (((List AV))) => some (AV.fl [.int .i64] (ro o [] (fun p38 => ((v93_2 p38).drop (v93_0 p38)).take (v93_1 p38))))) (fun p38 => (brL1 (fun _ => rfl))))) h)
def m42 : TModel
  | [.agg [.sl g0 a0_0, .sl g1 a0_1, .sl g2 a0_2], .agg [.sl g3 a1_0, .sl g4 a1_1, .sl g5 a1_2]] => bif ctsEq g0 ([.int .i64]) && ctsEq g1 ([.int .i64]) && ctsEq g2 ([.int .i64, .int .i64]) && ctsEq g3 ([.int .i64]) && ctsEq g4 ([.int .i64]) && ctsEq g5 ([.int .i64, .int .i64]) then some (q42 a0_0 a0_1 a0_2 a1_0 a1_1 a1_2, AV.fl [.int .i64] (v42_0 a0_0 a0_1 a0_2 a1_0 a1_1 a1_2)) else none
  | _ => none
theorem k42 : Known Try.prog 42 := ⟨Try.f42, Try.func42, by kernel_rfl, by kernel_rfl⟩
theorem meets42 : Meets Try.prog 42 m42 := by
  refine meet (f := Try.f42) (l := [(0, sub [1, 1, 0, 1, 0, 0] (body Try.f42))]) (hs := [(42, 0, [5, 12, 13, 14]), (42, 999, [4]), (42, 1000, [5]), (42, 1001, [5, 12, 13, 14])]) (ts := [(47, m47)]) (ws := [(93, m93)]) (is := []) (ls := [(42, 0, l42_0)]) (lvl := 0) mixed k42 Try.func42 (by kernel_rfl) (loops_cons ok42_0 noLoop) (allT_cons meets47 allT_nil) (allM_cons meets93 allM_nil) noI fun w xs us r hl hv h => ?_
  unfold m42 at h
  split at h
  · rename_i g0 a0_0 g1 a0_1 g2 a0_2 g3 a1_0 g4 a1_1 g5 a1_2
    obtain ⟨hg, h⟩ := bif_pair h
    simp only [Bool.and_eq_true] at hg
    obtain ⟨⟨⟨⟨⟨q0, q1⟩, q2⟩, q3⟩, q4⟩, q5⟩ := hg
    obtain rfl := ctsEq_eq _ _ q0
    obtain rfl := ctsEq_eq _ _ q1
    obtain rfl := ctsEq_eq _ _ q2
    obtain rfl := ctsEq_eq _ _ q3
    obtain rfl := ctsEq_eq _ _ q4
    obtain rfl := ctsEq_eq _ _ q5
    obtain ⟨h1, rfl⟩ := pair_inj h
    exact r42 a0_0 a0_1 a0_2 a1_0 a1_1 a1_2 h1
  · cases h

/-! ### 30 loop.example/g01984/laws.eqIntS -/
def F30_0 (t0 : List AV) (t1 : List AV) (t5 : Int) : Out (Int) (Unit ⊕ Unit) := (bif decide (t5 < (t0.length : Int)) then (bif (decide (0 ≤ t5) && decide (t5 < (t0.length : Int))) then (bif (decide (0 ≤ t5) && decide (t5 < (t1.length : Int))) then (bif !decide (fI (t0.getD t5.toNat AV.undef) 0 = fI (t1.getD t5.toNat AV.undef) 0) then .stop (.inr ())
  else .next (IntKind.i64.wrap (t5 + 1)))
  else .fail)
  else .fail)
  else .stop (.inl ()))
def R30_0 (t0 : List AV) (t1 : List AV) : (Int) → Out (Int) (Unit ⊕ Unit) := fun s : Int => F30_0 t0 t1 s
def l30_0 : LModel := fun _ _ st k => match st with
  | ⟨[(0, .sl g0 t0), (1, .sl g1 t1), (5, .int .i64 t5)], []⟩ => bif ctsEq g0 ([.int .i64]) && ctsEq g1 ([.int .i64]) then ro (runW (R30_0 t0 t1) (((t0.length : Int) - t5 : Int).toNat + 1) t5) none (sumE (fun _ : Unit => k (.exit 0) ⟨[], []⟩) (fun _ : Unit => k .ret ⟨[(4, AV.bool false)], []⟩)) else none
  | _ => none
noncomputable def c30 : Cfg := cfg Try.prog [(30, 0, [0, 1, 5]), (30, 999, [4]), (30, 1000, []), (30, 1001, [0, 1, 5])] [] [] [] [(30, 0, l30_0)]
theorem s30_0 (ce : CallE) (t0 : List AV) (t1 : List AV) (t5 : Int) (next : St → Option AV) (k : Kont) : stepA (codeA c30 ce [] 30 0 (sub [1, 1, 0, 1, 0, 0] (body Try.f30))) (normA [] [0, 1, 5]) next ⟨[(0, AV.sl [.int .i64] t0), (1, AV.sl [.int .i64] t1), (5, AV.int .i64 t5)], []⟩ k = (bif decide (t5 < (t0.length : Int)) then (bif (decide (0 ≤ t5) && decide (t5 < (t0.length : Int))) then (bif (decide (0 ≤ t5) && decide (t5 < (t1.length : Int))) then (bif !decide (fI (t0.getD t5.toNat AV.undef) 0 = fI (t1.getD t5.toNat AV.undef) 0) then k .ret ⟨[(4, AV.bool false)], []⟩
  else next ⟨[(0, AV.sl [.int .i64] t0), (1, AV.sl [.int .i64] t1), (5, AV.int .i64 (IntKind.i64.wrap (t5 + 1)))], []⟩)
  else none)
  else none)
  else k (.exit 0) ⟨[], []⟩) := by kernel_rfl
theorem st30_0 (t0 : List AV) (t1 : List AV) (ce : CallE) (k : Kont) (s : Int) (next : St → Option AV) : stepA (codeA c30 ce [] 30 0 (sub [1, 1, 0, 1, 0, 0] (body Try.f30))) (normA [] [0, 1, 5]) next ((fun s : Int => ⟨[(0, AV.sl [.int .i64] t0), (1, AV.sl [.int .i64] t1), (5, AV.int .i64 s)], []⟩) s) k = (R30_0 t0 t1 s).el none (fun s => next ((fun s : Int => ⟨[(0, AV.sl [.int .i64] t0), (1, AV.sl [.int .i64] t1), (5, AV.int .i64 s)], []⟩) s)) (sumE (fun _ : Unit => k (.exit 0) ⟨[], []⟩) (fun _ : Unit => k .ret ⟨[(4, AV.bool false)], []⟩)) := (s30_0 ce t0 t1 s next k).trans (by unfold R30_0; unfold F30_0; simp only [el_cond, el_ro, el_sum, el_fail, el_next, el_stop] <;> rfl)
theorem ok30_0 {ce : CallE} : LoopOK c30 ce [] 30 0 (sub [1, 1, 0, 1, 0, 0] (body Try.f30)) := by
  intro m hm st k r h
  obtain rfl : l30_0 = m := Option.some.inj hm
  unfold l30_0 at h
  split at h
  · rename_i g0 t0 g1 t1 t5
    obtain ⟨hg, h⟩ := bif_some h
    simp only [Bool.and_eq_true] at hg
    obtain ⟨q0, q1⟩ := hg
    obtain rfl := ctsEq_eq _ _ q0
    obtain rfl := ctsEq_eq _ _ q1
    refine ⟨(((t0.length : Int) - t5 : Int).toNat + 1), ?_⟩
    rw [← h]
    exact loop_run (fun s : Int => ⟨[(0, AV.sl [.int .i64] t0), (1, AV.sl [.int .i64] t1), (5, AV.int .i64 s)], []⟩) (sumE (fun _ : Unit => k (.exit 0) ⟨[], []⟩) (fun _ : Unit => k .ret ⟨[(4, AV.bool false)], []⟩)) (st30_0 t0 t1 ce k) _ t5
  · cases h
def q30 (a0 : List AV) (a1 : List AV) : Bool := (bif !decide ((a0.length : Int) = (a1.length : Int)) then true else (ro (runW (R30_0 a0 a1) (((a0.length : Int) - 0 : Int).toNat + 1) 0) false (sumE (fun _ => true) (fun _ => true))))
def v30_0 (a0 : List AV) (a1 : List AV) : Bool := (bif !decide ((a0.length : Int) = (a1.length : Int)) then false else (ro (runW (R30_0 a0 a1) (((a0.length : Int) - 0 : Int).toNat + 1) 0) false (sumE (fun _ => true) (fun _ => false))))
theorem e30 (a0 : List AV) (a1 : List AV) : funA c30 0 30 [AV.sl [.int .i64] a0, AV.sl [.int .i64] a1] = (bif !decide ((a0.length : Int) = (a1.length : Int)) then some (AV.bool false)
  else (ro (runW (R30_0 a0 a1) (((a0.length : Int) - 0 : Int).toNat + 1) 0) none (sumE (fun _ => some (AV.bool true)) (fun _ => some (AV.bool false))))) := by kernel_rfl
theorem r30 (a0 : List AV) (a1 : List AV) (h : q30 a0 a1 = true) : funA c30 0 30 [AV.sl [.int .i64] a0, AV.sl [.int .i64] a1] = some (AV.bool (v30_0 a0 a1)) := (e30 a0 a1).trans ((br (fun b => some (AV.bool (bif b then false else (ro (runW (R30_0 a0 a1) (((a0.length : Int) - 0 : Int).toNat + 1) 0) false (sumE (fun _ => true) (fun _ => false)))))) (fun _ => rfl) (brO (fun o : Option (Unit ⊕ Unit) => some (AV.bool (ro o false (sumE (fun _ => true) (fun _ => false))))) (brS (fun o : Unit ⊕ Unit => some (AV.bool ((sumE (fun _ => true) (fun _ => false)) o))) (fun _ => (fun _ => rfl)) (fun _ => (fun _ => rfl))))) h)
def m30 : TModel
  | [.sl g0 a0, .sl g1 a1] => bif ctsEq g0 ([.int .i64]) && ctsEq g1 ([.int .i64]) then some (q30 a0 a1, AV.bool (v30_0 a0 a1)) else none
  | _ => none
theorem k30 : Known Try.prog 30 := ⟨Try.f30, Try.func30, by kernel_rfl, by kernel_rfl⟩
theorem meets30 : Meets Try.prog 30 m30 := by
  refine meet (f := Try.f30) (l := [(0, sub [1, 1, 0, 1, 0, 0] (body Try.f30))]) (hs := [(30, 0, [0, 1, 5]), (30, 999, [4]), (30, 1000, []), (30, 1001, [0, 1, 5])]) (ts := []) (ws := []) (is := []) (ls := [(30, 0, l30_0)]) (lvl := 0) mixed k30 Try.func30 (by kernel_rfl) (loops_cons ok30_0 noLoop) allT_nil allM_nil noI fun w xs us r hl hv h => ?_
  unfold m30 at h
  split at h
  · rename_i g0 a0 g1 a1
    obtain ⟨hg, h⟩ := bif_pair h
    simp only [Bool.and_eq_true] at hg
    obtain ⟨q0, q1⟩ := hg
    obtain rfl := ctsEq_eq _ _ q0
    obtain rfl := ctsEq_eq _ _ q1
    obtain ⟨h1, rfl⟩ := pair_inj h
    exact r30 a0 a1 h1
  · cases h

/-! ### 122 loop.example/g01984/laws.eqPivot -/
noncomputable def c122 : Cfg := cfg Try.prog [(122, 999, [4])] [] [] [] []
def q122 (a0_0 : Int) (a0_1 : Int) (a1_0 : Int) (a1_1 : Int) : Bool := true
def v122_0 (a0_0 : Int) (a0_1 : Int) (a1_0 : Int) (a1_1 : Int) : Bool := (bif !decide (a0_0 = a1_0) then false else (bif !decide (a0_1 = a1_1) then false else true))
theorem e122 (a0_0 : Int) (a0_1 : Int) (a1_0 : Int) (a1_1 : Int) : funA c122 0 122 [AV.agg [AV.int .i64 a0_0, AV.int .i64 a0_1], AV.agg [AV.int .i64 a1_0, AV.int .i64 a1_1]] = (bif !decide (a0_0 = a1_0) then some (AV.bool false)
  else (bif !decide (a0_1 = a1_1) then some (AV.bool false)
  else some (AV.bool true))) := by kernel_rfl
theorem r122 (a0_0 : Int) (a0_1 : Int) (a1_0 : Int) (a1_1 : Int) : funA c122 0 122 [AV.agg [AV.int .i64 a0_0, AV.int .i64 a0_1], AV.agg [AV.int .i64 a1_0, AV.int .i64 a1_1]] = some (AV.bool (v122_0 a0_0 a0_1 a1_0 a1_1)) := (e122 a0_0 a0_1 a1_0 a1_1).trans (of_tt (brT (fun b => some (AV.bool (bif b then false else (bif !decide (a0_1 = a1_1) then false else true)))) (fun _ => rfl) (brT (fun b => some (AV.bool (bif b then false else true))) (fun _ => rfl) (fun _ => rfl))))
def m122 : TModel
  | [.agg [.int .i64 a0_0, .int .i64 a0_1], .agg [.int .i64 a1_0, .int .i64 a1_1]] => some (true, AV.bool (v122_0 a0_0 a0_1 a1_0 a1_1))
  | _ => none
theorem k122 : Known Try.prog 122 := ⟨Try.f122, Try.func122, by kernel_rfl, by kernel_rfl⟩
theorem meets122 : Meets Try.prog 122 m122 := by
  refine meet (f := Try.f122) (l := []) (hs := [(122, 999, [4])]) (ts := []) (ws := []) (is := []) (ls := []) (lvl := 0) mixed k122 Try.func122 (by kernel_rfl) noLoop allT_nil allM_nil noI fun w xs us r hl hv h => ?_
  unfold m122 at h
  split at h
  · rename_i a0_0 a0_1 a1_0 a1_1
    obtain ⟨h1, rfl⟩ := pair_inj h
    exact r122 a0_0 a0_1 a1_0 a1_1
  · cases h
end Go.Proofs.Ytdhhceamknidmaa
