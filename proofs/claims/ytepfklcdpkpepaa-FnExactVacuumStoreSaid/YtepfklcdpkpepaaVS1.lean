/- The walk of what this claim reaches: printed by a program, each equation checked by the kernel. -/
import Derived.Test.YtepfklcdpkpepaaVEy
import Derived.Test.YtepfklcdpkpepaaProg
import Derived.KernelRfl
namespace Go.Proofs.Ytepfklcdpkpepaa
open Go Go.Proofs.VE
set_option linter.unusedVariables false
set_option linter.unusedSimpArgs false
set_option maxRecDepth 100000
set_option maxHeartbeats 4000000
theorem mixed : Try.prog.follows .mixedOrders = true := by kernel_rfl
/-! ### 66 loop.example/g01984/laws.szStampS -/
noncomputable def c66 : Cfg := cfg Try.prog [(66, 999, [4])] [] [] [] []
def q66 (a0 : List AV) (a1 : Int) : Bool := true
def v66_0 (a0 : List AV) (a1 : Int) : Int := (bif decide (IntKind.i64.wrap (a1 - (a0.length : Int)) < 0) then (-1) else IntKind.i64.wrap (a1 - (a0.length : Int)))
theorem e66 (a0 : List AV) (a1 : Int) : funA c66 0 66 [AV.sl [.int .i64, .int .i64, .int .i64, .int .i64] a0, AV.int .i64 a1] = (bif decide (IntKind.i64.wrap (a1 - (a0.length : Int)) < 0) then some (AV.int .i64 (-1))
  else some (AV.int .i64 (IntKind.i64.wrap (a1 - (a0.length : Int))))) := by kernel_rfl
theorem r66 (a0 : List AV) (a1 : Int) : funA c66 0 66 [AV.sl [.int .i64, .int .i64, .int .i64, .int .i64] a0, AV.int .i64 a1] = some (AV.int .i64 (v66_0 a0 a1)) := (e66 a0 a1).trans (of_tt (brT (fun b => some (AV.int .i64 (bif b then (-1) else IntKind.i64.wrap (a1 - (a0.length : Int))))) (fun _ => rfl) (fun _ => rfl)))
def m66 : TModel
  | [.sl g0 a0, .int .i64 a1] => bif ctsEq g0 ([.int .i64, .int .i64, .int .i64, .int .i64]) then some (true, AV.int .i64 (v66_0 a0 a1)) else none
  | _ => none
theorem k66 : Known Try.prog 66 := ⟨Try.f66, Try.func66, by kernel_rfl, by kernel_rfl⟩
theorem meets66 : Meets Try.prog 66 m66 := by
  refine meet (f := Try.f66) (l := []) (hs := [(66, 999, [4])]) (ts := []) (ws := []) (is := []) (ls := []) (lvl := 0) mixed k66 Try.func66 (by kernel_rfl) noLoop allT_nil allM_nil noI fun w xs us r hl hv h => ?_
  unfold m66 at h
  split at h
  · rename_i g0 a0 a1
    obtain ⟨hg, h⟩ := bif_pair h
    have q0 := hg
    obtain rfl := ctsEq_eq _ _ q0
    obtain ⟨h1, rfl⟩ := pair_inj h
    exact r66 a0 a1
  · cases h

/-! ### 91 loop.example/g01984/laws.szIntS -/
noncomputable def c91 : Cfg := cfg Try.prog [(91, 999, [4])] [] [] [] []
def q91 (a0 : List AV) (a1 : Int) : Bool := true
def v91_0 (a0 : List AV) (a1 : Int) : Int := (bif decide (IntKind.i64.wrap (a1 - (a0.length : Int)) < 0) then (-1) else IntKind.i64.wrap (a1 - (a0.length : Int)))
theorem e91 (a0 : List AV) (a1 : Int) : funA c91 0 91 [AV.sl [.int .i64] a0, AV.int .i64 a1] = (bif decide (IntKind.i64.wrap (a1 - (a0.length : Int)) < 0) then some (AV.int .i64 (-1))
  else some (AV.int .i64 (IntKind.i64.wrap (a1 - (a0.length : Int))))) := by kernel_rfl
theorem r91 (a0 : List AV) (a1 : Int) : funA c91 0 91 [AV.sl [.int .i64] a0, AV.int .i64 a1] = some (AV.int .i64 (v91_0 a0 a1)) := (e91 a0 a1).trans (of_tt (brT (fun b => some (AV.int .i64 (bif b then (-1) else IntKind.i64.wrap (a1 - (a0.length : Int))))) (fun _ => rfl) (fun _ => rfl)))
def m91 : TModel
  | [.sl g0 a0, .int .i64 a1] => bif ctsEq g0 ([.int .i64]) then some (true, AV.int .i64 (v91_0 a0 a1)) else none
  | _ => none
theorem k91 : Known Try.prog 91 := ⟨Try.f91, Try.func91, by kernel_rfl, by kernel_rfl⟩
theorem meets91 : Meets Try.prog 91 m91 := by
  refine meet (f := Try.f91) (l := []) (hs := [(91, 999, [4])]) (ts := []) (ws := []) (is := []) (ls := []) (lvl := 0) mixed k91 Try.func91 (by kernel_rfl) noLoop allT_nil allM_nil noI fun w xs us r hl hv h => ?_
  unfold m91 at h
  split at h
  · rename_i g0 a0 a1
    obtain ⟨hg, h⟩ := bif_pair h
    have q0 := hg
    obtain rfl := ctsEq_eq _ _ q0
    obtain ⟨h1, rfl⟩ := pair_inj h
    exact r91 a0 a1
  · cases h

/-! ### 92 loop.example/g01984/laws.szPivotS -/
noncomputable def c92 : Cfg := cfg Try.prog [(92, 999, [4])] [] [] [] []
def q92 (a0 : List AV) (a1 : Int) : Bool := true
def v92_0 (a0 : List AV) (a1 : Int) : Int := (bif decide (IntKind.i64.wrap (a1 - (a0.length : Int)) < 0) then (-1) else IntKind.i64.wrap (a1 - (a0.length : Int)))
theorem e92 (a0 : List AV) (a1 : Int) : funA c92 0 92 [AV.sl [.int .i64, .int .i64] a0, AV.int .i64 a1] = (bif decide (IntKind.i64.wrap (a1 - (a0.length : Int)) < 0) then some (AV.int .i64 (-1))
  else some (AV.int .i64 (IntKind.i64.wrap (a1 - (a0.length : Int))))) := by kernel_rfl
theorem r92 (a0 : List AV) (a1 : Int) : funA c92 0 92 [AV.sl [.int .i64, .int .i64] a0, AV.int .i64 a1] = some (AV.int .i64 (v92_0 a0 a1)) := (e92 a0 a1).trans (of_tt (brT (fun b => some (AV.int .i64 (bif b then (-1) else IntKind.i64.wrap (a1 - (a0.length : Int))))) (fun _ => rfl) (fun _ => rfl)))
def m92 : TModel
  | [.sl g0 a0, .int .i64 a1] => bif ctsEq g0 ([.int .i64, .int .i64]) then some (true, AV.int .i64 (v92_0 a0 a1)) else none
  | _ => none
theorem k92 : Known Try.prog 92 := ⟨Try.f92, Try.func92, by kernel_rfl, by kernel_rfl⟩
theorem meets92 : Meets Try.prog 92 m92 := by
  refine meet (f := Try.f92) (l := []) (hs := [(92, 999, [4])]) (ts := []) (ws := []) (is := []) (ls := []) (lvl := 0) mixed k92 Try.func92 (by kernel_rfl) noLoop allT_nil allM_nil noI fun w xs us r hl hv h => ?_
  unfold m92 at h
  split at h
  · rename_i g0 a0 a1
    obtain ⟨hg, h⟩ := bif_pair h
    have q0 := hg
    obtain rfl := ctsEq_eq _ _ q0
    obtain ⟨h1, rfl⟩ := pair_inj h
    exact r92 a0 a1
  · cases h

/-! ### 36 loop.example/g01984/laws.szCracker -/
noncomputable def c36 : Cfg := cfg Try.prog [(36, 999, [4])] [(91, m91), (92, m92)] [] [] []
def q36 (a0_0 : List AV) (a0_1 : List AV) (a0_2 : List AV) (a1 : Int) : Bool := true
def v36_0 (a0_0 : List AV) (a0_1 : List AV) (a0_2 : List AV) (a1 : Int) : Int := (bif decide ((v91_0 a0_0 a1) < 0) then (-1) else (bif decide ((v91_0 a0_1 (v91_0 a0_0 a1)) < 0) then (-1) else (bif decide ((v92_0 a0_2 (v91_0 a0_1 (v91_0 a0_0 a1))) < 0) then (-1) else (v92_0 a0_2 (v91_0 a0_1 (v91_0 a0_0 a1))))))
theorem e36 (a0_0 : List AV) (a0_1 : List AV) (a0_2 : List AV) (a1 : Int) : funA c36 0 36 [AV.agg [AV.sl [.int .i64] a0_0, AV.sl [.int .i64] a0_1, AV.sl [.int .i64, .int .i64] a0_2], AV.int .i64 a1] = (bif decide ((v91_0 a0_0 a1) < 0) then some (AV.int .i64 (-1))
  else (bif decide ((v91_0 a0_1 (v91_0 a0_0 a1)) < 0) then some (AV.int .i64 (-1))
   else (bif decide ((v92_0 a0_2 (v91_0 a0_1 (v91_0 a0_0 a1))) < 0) then some (AV.int .i64 (-1))
    else some (AV.int .i64 (v92_0 a0_2 (v91_0 a0_1 (v91_0 a0_0 a1))))))) := by kernel_rfl
theorem r36 (a0_0 : List AV) (a0_1 : List AV) (a0_2 : List AV) (a1 : Int) : funA c36 0 36 [AV.agg [AV.sl [.int .i64] a0_0, AV.sl [.int .i64] a0_1, AV.sl [.int .i64, .int .i64] a0_2], AV.int .i64 a1] = some (AV.int .i64 (v36_0 a0_0 a0_1 a0_2 a1)) := (e36 a0_0 a0_1 a0_2 a1).trans (of_tt (brT (fun b => some (AV.int .i64 (bif b then (-1) else (bif decide ((v91_0 a0_1 (v91_0 a0_0 a1)) < 0) then (-1) else (bif decide ((v92_0 a0_2 (v91_0 a0_1 (v91_0 a0_0 a1))) < 0) then (-1) else (v92_0 a0_2 (v91_0 a0_1 (v91_0 a0_0 a1)))))))) (fun _ => rfl) (brT (fun b => some (AV.int .i64 (bif b then (-1) else (bif decide ((v92_0 a0_2 (v91_0 a0_1 (v91_0 a0_0 a1))) < 0) then (-1) else (v92_0 a0_2 (v91_0 a0_1 (v91_0 a0_0 a1))))))) (fun _ => rfl) (brT (fun b => some (AV.int .i64 (bif b then (-1) else (v92_0 a0_2 (v91_0 a0_1 (v91_0 a0_0 a1)))))) (fun _ => rfl) (fun _ => rfl)))))
def m36 : TModel
  | [.agg [.sl g0 a0_0, .sl g1 a0_1, .sl g2 a0_2], .int .i64 a1] => bif ctsEq g0 ([.int .i64]) && ctsEq g1 ([.int .i64]) && ctsEq g2 ([.int .i64, .int .i64]) then some (true, AV.int .i64 (v36_0 a0_0 a0_1 a0_2 a1)) else none
  | _ => none
theorem k36 : Known Try.prog 36 := ⟨Try.f36, Try.func36, by kernel_rfl, by kernel_rfl⟩
theorem meets36 : Meets Try.prog 36 m36 := by
  refine meet (f := Try.f36) (l := []) (hs := [(36, 999, [4])]) (ts := [(91, m91), (92, m92)]) (ws := []) (is := []) (ls := []) (lvl := 0) mixed k36 Try.func36 (by kernel_rfl) noLoop (allT_cons meets91 (allT_cons meets92 allT_nil)) allM_nil noI fun w xs us r hl hv h => ?_
  unfold m36 at h
  split at h
  · rename_i g0 a0_0 g1 a0_1 g2 a0_2 a1
    obtain ⟨hg, h⟩ := bif_pair h
    simp only [Bool.and_eq_true] at hg
    obtain ⟨⟨q0, q1⟩, q2⟩ := hg
    obtain rfl := ctsEq_eq _ _ q0
    obtain rfl := ctsEq_eq _ _ q1
    obtain rfl := ctsEq_eq _ _ q2
    obtain ⟨h1, rfl⟩ := pair_inj h
    exact r36 a0_0 a0_1 a0_2 a1
  · cases h

/-! ### 15 loop.example/g01984/laws.szStore -/
noncomputable def c15 : Cfg := cfg Try.prog [(15, 999, [4])] [(36, m36), (66, m66)] [] [] []
def q15 (a0_0 : List AV) (a0_1 : Int) (a0_2 : List AV) (a0_3 : List AV) (a0_4 : List AV) (a1 : Int) : Bool := true
def v15_0 (a0_0 : List AV) (a0_1 : Int) (a0_2 : List AV) (a0_3 : List AV) (a0_4 : List AV) (a1 : Int) : Int := (bif decide ((v66_0 a0_0 a1) < 0) then (-1) else (bif decide ((v36_0 a0_2 a0_3 a0_4 (v66_0 a0_0 a1)) < 0) then (-1) else (v36_0 a0_2 a0_3 a0_4 (v66_0 a0_0 a1))))
theorem e15 (a0_0 : List AV) (a0_1 : Int) (a0_2 : List AV) (a0_3 : List AV) (a0_4 : List AV) (a1 : Int) : funA c15 0 15 [AV.agg [AV.sl [.int .i64, .int .i64, .int .i64, .int .i64] a0_0, AV.int .i64 a0_1, AV.sl [.int .i64] a0_2, AV.sl [.int .i64] a0_3, AV.sl [.int .i64, .int .i64] a0_4], AV.int .i64 a1] = (bif decide ((v66_0 a0_0 a1) < 0) then some (AV.int .i64 (-1))
  else (bif decide ((v36_0 a0_2 a0_3 a0_4 (v66_0 a0_0 a1)) < 0) then some (AV.int .i64 (-1))
   else some (AV.int .i64 (v36_0 a0_2 a0_3 a0_4 (v66_0 a0_0 a1))))) := by kernel_rfl
theorem r15 (a0_0 : List AV) (a0_1 : Int) (a0_2 : List AV) (a0_3 : List AV) (a0_4 : List AV) (a1 : Int) : funA c15 0 15 [AV.agg [AV.sl [.int .i64, .int .i64, .int .i64, .int .i64] a0_0, AV.int .i64 a0_1, AV.sl [.int .i64] a0_2, AV.sl [.int .i64] a0_3, AV.sl [.int .i64, .int .i64] a0_4], AV.int .i64 a1] = some (AV.int .i64 (v15_0 a0_0 a0_1 a0_2 a0_3 a0_4 a1)) := (e15 a0_0 a0_1 a0_2 a0_3 a0_4 a1).trans (of_tt (brT (fun b => some (AV.int .i64 (bif b then (-1) else (bif decide ((v36_0 a0_2 a0_3 a0_4 (v66_0 a0_0 a1)) < 0) then (-1) else (v36_0 a0_2 a0_3 a0_4 (v66_0 a0_0 a1)))))) (fun _ => rfl) (brT (fun b => some (AV.int .i64 (bif b then (-1) else (v36_0 a0_2 a0_3 a0_4 (v66_0 a0_0 a1))))) (fun _ => rfl) (fun _ => rfl))))
def m15 : TModel
  | [.agg [.sl g0 a0_0, .int .i64 a0_1, .sl g1 a0_2, .sl g2 a0_3, .sl g3 a0_4], .int .i64 a1] => bif ctsEq g0 ([.int .i64, .int .i64, .int .i64, .int .i64]) && ctsEq g1 ([.int .i64]) && ctsEq g2 ([.int .i64]) && ctsEq g3 ([.int .i64, .int .i64]) then some (true, AV.int .i64 (v15_0 a0_0 a0_1 a0_2 a0_3 a0_4 a1)) else none
  | _ => none
theorem k15 : Known Try.prog 15 := ⟨Try.f15, Try.func15, by kernel_rfl, by kernel_rfl⟩
theorem meets15 : Meets Try.prog 15 m15 := by
  refine meet (f := Try.f15) (l := []) (hs := [(15, 999, [4])]) (ts := [(36, m36), (66, m66)]) (ws := []) (is := []) (ls := []) (lvl := 0) mixed k15 Try.func15 (by kernel_rfl) noLoop (allT_cons meets36 (allT_cons meets66 allT_nil)) allM_nil noI fun w xs us r hl hv h => ?_
  unfold m15 at h
  split at h
  · rename_i g0 a0_0 a0_1 g1 a0_2 g2 a0_3 g3 a0_4 a1
    obtain ⟨hg, h⟩ := bif_pair h
    simp only [Bool.and_eq_true] at hg
    obtain ⟨⟨⟨q0, q1⟩, q2⟩, q3⟩ := hg
    obtain rfl := ctsEq_eq _ _ q0
    obtain rfl := ctsEq_eq _ _ q1
    obtain rfl := ctsEq_eq _ _ q2
    obtain rfl := ctsEq_eq _ _ q3
    obtain ⟨h1, rfl⟩ := pair_inj h
    exact r15 a0_0 a0_1 a0_2 a0_3 a0_4 a1
  · cases h

/-! ### 123 loop.example/g01984/laws.toStamp -/
noncomputable def c123 : Cfg := cfg Try.prog [(123, 999, [2])] [] [] [] []
def q123 (a0_0 : Int) (a0_1 : Int) (a0_2 : Int) (a0_3 : Int) : Bool := true
def v123_0 (a0_0 : Int) (a0_1 : Int) (a0_2 : Int) (a0_3 : Int) : Int := a0_0
def v123_1 (a0_0 : Int) (a0_1 : Int) (a0_2 : Int) (a0_3 : Int) : Int := a0_1
def v123_2 (a0_0 : Int) (a0_1 : Int) (a0_2 : Int) (a0_3 : Int) : Int := a0_2
def v123_3 (a0_0 : Int) (a0_1 : Int) (a0_2 : Int) (a0_3 : Int) : Int := a0_3
theorem e123 (a0_0 : Int) (a0_1 : Int) (a0_2 : Int) (a0_3 : Int) : funA c123 0 123 [AV.agg [AV.int .i64 a0_0, AV.int .i64 a0_1, AV.int .i64 a0_2, AV.int .i64 a0_3]] = some (AV.agg [AV.int .i64 a0_0, AV.int .i64 a0_1, AV.int .i64 a0_2, AV.int .i64 a0_3]) := by kernel_rfl
theorem r123 (a0_0 : Int) (a0_1 : Int) (a0_2 : Int) (a0_3 : Int) : funA c123 0 123 [AV.agg [AV.int .i64 a0_0, AV.int .i64 a0_1, AV.int .i64 a0_2, AV.int .i64 a0_3]] = some (AV.agg [AV.int .i64 (v123_0 a0_0 a0_1 a0_2 a0_3), AV.int .i64 (v123_1 a0_0 a0_1 a0_2 a0_3), AV.int .i64 (v123_2 a0_0 a0_1 a0_2 a0_3), AV.int .i64 (v123_3 a0_0 a0_1 a0_2 a0_3)]) := (e123 a0_0 a0_1 a0_2 a0_3).trans (of_tt (fun _ => rfl))
def m123 : TModel
  | [.agg [.int .i64 a0_0, .int .i64 a0_1, .int .i64 a0_2, .int .i64 a0_3]] => some (true, AV.agg [AV.int .i64 (v123_0 a0_0 a0_1 a0_2 a0_3), AV.int .i64 (v123_1 a0_0 a0_1 a0_2 a0_3), AV.int .i64 (v123_2 a0_0 a0_1 a0_2 a0_3), AV.int .i64 (v123_3 a0_0 a0_1 a0_2 a0_3)])
  | _ => none
theorem k123 : Known Try.prog 123 := ⟨Try.f123, Try.func123, by kernel_rfl, by kernel_rfl⟩
theorem meets123 : Meets Try.prog 123 m123 := by
  refine meet (f := Try.f123) (l := []) (hs := [(123, 999, [2])]) (ts := []) (ws := []) (is := []) (ls := []) (lvl := 0) mixed k123 Try.func123 (by kernel_rfl) noLoop allT_nil allM_nil noI fun w xs us r hl hv h => ?_
  unfold m123 at h
  split at h
  · rename_i a0_0 a0_1 a0_2 a0_3
    obtain ⟨h1, rfl⟩ := pair_inj h
    exact r123 a0_0 a0_1 a0_2 a0_3
  · cases h

/-! ### 70 loop.example/g01984/laws.toStampS -/
def F70_0 (t0 : List AV) (t4 : Int) (h0 : List AV) : Out ((Int × (List AV))) (((List AV))) := (bif decide (t4 < (t0.length : Int)) then (bif (decide (0 ≤ t4) && decide (t4 < (t0.length : Int))) then (bif (decide (0 ≤ t4) && decide (t4 < (h0.length : Int))) then .next (IntKind.i64.wrap (t4 + 1), h0.set t4.toNat (AV.agg [AV.int .i64 (v123_0 (fI (t0.getD t4.toNat AV.undef) 0) (fI (t0.getD t4.toNat AV.undef) 1) (fI (t0.getD t4.toNat AV.undef) 2) (fI (t0.getD t4.toNat AV.undef) 3)), AV.int .i64 (v123_1 (fI (t0.getD t4.toNat AV.undef) 0) (fI (t0.getD t4.toNat AV.undef) 1) (fI (t0.getD t4.toNat AV.undef) 2) (fI (t0.getD t4.toNat AV.undef) 3)), AV.int .i64 (v123_2 (fI (t0.getD t4.toNat AV.undef) 0) (fI (t0.getD t4.toNat AV.undef) 1) (fI (t0.getD t4.toNat AV.undef) 2) (fI (t0.getD t4.toNat AV.undef) 3)), AV.int .i64 (v123_3 (fI (t0.getD t4.toNat AV.undef) 0) (fI (t0.getD t4.toNat AV.undef) 1) (fI (t0.getD t4.toNat AV.undef) 2) (fI (t0.getD t4.toNat AV.undef) 3))]))
    else .fail)
   else .fail)
  else .stop h0)
def R70_0 (t0 : List AV) : ((Int × (List AV))) → Out ((Int × (List AV))) (((List AV))) := fun s : Int × (List AV) => F70_0 t0 s.1 s.2
def l70_0 : LModel := fun _ _ st k => match st with
  | ⟨[(0, .sl g0 t0), (3, .own g1), (4, .int .i64 t4)], [(g2, ⟨false, g3, h0⟩)]⟩ => bif ctsEq g0 ([.int .i64, .int .i64, .int .i64, .int .i64]) && nmEq g1 ([0, 3]) && nmEq g2 ([0, 3]) && ctsEq g3 ([.int .i64, .int .i64, .int .i64, .int .i64]) then ro (runW (R70_0 t0) (((t0.length : Int) - t4).toNat + 1) (t4, h0)) none (fun p : (List AV) => k (.exit 0) ⟨[(3, AV.own [0, 3])], [([0, 3], ⟨false, [.int .i64, .int .i64, .int .i64, .int .i64], p⟩)]⟩) else none
  | _ => none
noncomputable def c70 : Cfg := cfg Try.prog [(70, 0, [0, 3, 4]), (70, 999, [2]), (70, 1000, [3]), (70, 1001, [0, 3, 4])] [(123, m123)] [] [] [(70, 0, l70_0)]
theorem s70_0 (ce : CallE) (t0 : List AV) (t4 : Int) (h0 : List AV) (next : St → Option AV) (k : Kont) : stepA (codeA c70 ce [] 70 0 (sub [1, 1, 0, 1, 0, 0] (body Try.f70))) (normA [] [0, 3, 4]) next ⟨[(0, AV.sl [.int .i64, .int .i64, .int .i64, .int .i64] t0), (3, AV.own [0, 3]), (4, AV.int .i64 t4)], [([0, 3], ⟨false, [.int .i64, .int .i64, .int .i64, .int .i64], h0⟩)]⟩ k = (bif decide (t4 < (t0.length : Int)) then (bif (decide (0 ≤ t4) && decide (t4 < (t0.length : Int))) then (bif (decide (0 ≤ t4) && decide (t4 < (h0.length : Int))) then next ⟨[(0, AV.sl [.int .i64, .int .i64, .int .i64, .int .i64] t0), (3, AV.own [0, 3]), (4, AV.int .i64 (IntKind.i64.wrap (t4 + 1)))], [([0, 3], ⟨false, [.int .i64, .int .i64, .int .i64, .int .i64], h0.set t4.toNat (AV.agg [AV.int .i64 (v123_0 (fI (t0.getD t4.toNat AV.undef) 0) (fI (t0.getD t4.toNat AV.undef) 1) (fI (t0.getD t4.toNat AV.undef) 2) (fI (t0.getD t4.toNat AV.undef) 3)), AV.int .i64 (v123_1 (fI (t0.getD t4.toNat AV.undef) 0) (fI (t0.getD t4.toNat AV.undef) 1) (fI (t0.getD t4.toNat AV.undef) 2) (fI (t0.getD t4.toNat AV.undef) 3)), AV.int .i64 (v123_2 (fI (t0.getD t4.toNat AV.undef) 0) (fI (t0.getD t4.toNat AV.undef) 1) (fI (t0.getD t4.toNat AV.undef) 2) (fI (t0.getD t4.toNat AV.undef) 3)), AV.int .i64 (v123_3 (fI (t0.getD t4.toNat AV.undef) 0) (fI (t0.getD t4.toNat AV.undef) 1) (fI (t0.getD t4.toNat AV.undef) 2) (fI (t0.getD t4.toNat AV.undef) 3))])⟩)]⟩
    else none)
   else none)
  else k (.exit 0) ⟨[(3, AV.own [0, 3])], [([0, 3], ⟨false, [.int .i64, .int .i64, .int .i64, .int .i64], h0⟩)]⟩) := by kernel_rfl
theorem st70_0 (t0 : List AV) (ce : CallE) (k : Kont) (s : (Int × (List AV))) (next : St → Option AV) : stepA (codeA c70 ce [] 70 0 (sub [1, 1, 0, 1, 0, 0] (body Try.f70))) (normA [] [0, 3, 4]) next ((fun s : Int × (List AV) => ⟨[(0, AV.sl [.int .i64, .int .i64, .int .i64, .int .i64] t0), (3, AV.own [0, 3]), (4, AV.int .i64 s.1)], [([0, 3], ⟨false, [.int .i64, .int .i64, .int .i64, .int .i64], s.2⟩)]⟩) s) k = (R70_0 t0 s).el none (fun s => next ((fun s : Int × (List AV) => ⟨[(0, AV.sl [.int .i64, .int .i64, .int .i64, .int .i64] t0), (3, AV.own [0, 3]), (4, AV.int .i64 s.1)], [([0, 3], ⟨false, [.int .i64, .int .i64, .int .i64, .int .i64], s.2⟩)]⟩) s)) (fun p : (List AV) => k (.exit 0) ⟨[(3, AV.own [0, 3])], [([0, 3], ⟨false, [.int .i64, .int .i64, .int .i64, .int .i64], p⟩)]⟩) := (s70_0 ce t0 s.1 s.2 next k).trans (by unfold R70_0; unfold F70_0; simp only [el_cond, el_ro, el_sum, el_fail, el_next, el_stop] <;> rfl)
theorem ok70_0 {ce : CallE} : LoopOK c70 ce [] 70 0 (sub [1, 1, 0, 1, 0, 0] (body Try.f70)) := by
  intro m hm st k r h
  obtain rfl : l70_0 = m := Option.some.inj hm
  unfold l70_0 at h
  split at h
  · rename_i g0 t0 g1 t4 g2 g3 h0
    obtain ⟨hg, h⟩ := bif_some h
    simp only [Bool.and_eq_true] at hg
    obtain ⟨⟨⟨q0, q1⟩, q2⟩, q3⟩ := hg
    obtain rfl := ctsEq_eq _ _ q0
    obtain rfl := (nmEq_iff _ _).1 q1
    obtain rfl := (nmEq_iff _ _).1 q2
    obtain rfl := ctsEq_eq _ _ q3
    refine ⟨(((t0.length : Int) - t4).toNat + 1), ?_⟩
    rw [← h]
    exact loop_run (fun s : Int × (List AV) => ⟨[(0, AV.sl [.int .i64, .int .i64, .int .i64, .int .i64] t0), (3, AV.own [0, 3]), (4, AV.int .i64 s.1)], [([0, 3], ⟨false, [.int .i64, .int .i64, .int .i64, .int .i64], s.2⟩)]⟩) (fun p : (List AV) => k (.exit 0) ⟨[(3, AV.own [0, 3])], [([0, 3], ⟨false, [.int .i64, .int .i64, .int .i64, .int .i64], p⟩)]⟩) (st70_0 t0 ce k) _ (t4, h0)
  · cases h
def q70 (a0 : List AV) : Bool := ((decide (0 ≤ (a0.length : Int)) && decide ((a0.length : Int) ≤ (a0.length : Int)) && decide ((a0.length : Int) * 32 ≤ 140737488355328) && decide ((a0.length : Int) ≤ 140737488355328)) && (ro (runW (R70_0 a0) (((a0.length : Int) - 0).toNat + 1) (0, List.replicate (Int.toNat (a0.length : Int)) (AV.agg [AV.int .i64 0, AV.int .i64 0, AV.int .i64 0, AV.int .i64 0]))) false (fun p1 => true)))
def v70_0 (a0 : List AV) : List AV := (ro (runW (R70_0 a0) (((a0.length : Int) - 0).toNat + 1) (0, List.replicate (Int.toNat (a0.length : Int)) (AV.agg [AV.int .i64 0, AV.int .i64 0, AV.int .i64 0, AV.int .i64 0]))) [] (fun p1 => p1))
theorem e70 (a0 : List AV) : funA c70 0 70 [AV.sl [.int .i64, .int .i64, .int .i64, .int .i64] a0] = (bif (decide (0 ≤ (a0.length : Int)) && decide ((a0.length : Int) ≤ (a0.length : Int)) && decide ((a0.length : Int) * 32 ≤ 140737488355328) && decide ((a0.length : Int) ≤ 140737488355328)) then (ro (runW (R70_0 a0) (((a0.length : Int) - 0).toNat + 1) (0, List.replicate (Int.toNat (a0.length : Int)) (AV.agg [AV.int .i64 0, AV.int .i64 0, AV.int .i64 0, AV.int .i64 0]))) none (fun p1 => some (AV.fl [.int .i64, .int .i64, .int .i64, .int .i64] p1)))
  else none) := by kernel_rfl
theorem r70 (a0 : List AV) (h : q70 a0 = true) : funA c70 0 70 [AV.sl [.int .i64, .int .i64, .int .i64, .int .i64] a0] = some (AV.fl [.int .i64, .int .i64, .int .i64, .int .i64] (v70_0 a0)) := (e70 a0).trans ((brL (brO (fun o : Option (((List AV))) => some (AV.fl [.int .i64, .int .i64, .int .i64, .int .i64] (ro o [] (fun p1 => p1)))) (fun p1 => (fun _ => rfl)))) h)
def m70 : TModel
  | [.sl g0 a0] => bif ctsEq g0 ([.int .i64, .int .i64, .int .i64, .int .i64]) then some (q70 a0, AV.fl [.int .i64, .int .i64, .int .i64, .int .i64] (v70_0 a0)) else none
  | _ => none
theorem k70 : Known Try.prog 70 := ⟨Try.f70, Try.func70, by kernel_rfl, by kernel_rfl⟩
theorem meets70 : Meets Try.prog 70 m70 := by
  refine meet (f := Try.f70) (l := [(0, sub [1, 1, 0, 1, 0, 0] (body Try.f70))]) (hs := [(70, 0, [0, 3, 4]), (70, 999, [2]), (70, 1000, [3]), (70, 1001, [0, 3, 4])]) (ts := [(123, m123)]) (ws := []) (is := []) (ls := [(70, 0, l70_0)]) (lvl := 0) mixed k70 Try.func70 (by kernel_rfl) (loops_cons ok70_0 noLoop) (allT_cons meets123 allT_nil) allM_nil noI fun w xs us r hl hv h => ?_
  unfold m70 at h
  split at h
  · rename_i g0 a0
    obtain ⟨hg, h⟩ := bif_pair h
    have q0 := hg
    obtain rfl := ctsEq_eq _ _ q0
    obtain ⟨h1, rfl⟩ := pair_inj h
    exact r70 a0 h1
  · cases h

/-! ### 30 loop.example/g01984/laws.toIntS -/
def F30_0 (t0 : List AV) (t4 : Int) (h0 : List AV) : Out ((Int × (List AV))) (((List AV))) := (bif decide (t4 < (t0.length : Int)) then (bif (decide (0 ≤ t4) && decide (t4 < (t0.length : Int))) then (bif (decide (0 ≤ t4) && decide (t4 < (h0.length : Int))) then .next (IntKind.i64.wrap (t4 + 1), h0.set t4.toNat (AV.agg [AV.int .i64 (fI (t0.getD t4.toNat AV.undef) 0)]))
    else .fail)
   else .fail)
  else .stop h0)
def R30_0 (t0 : List AV) : ((Int × (List AV))) → Out ((Int × (List AV))) (((List AV))) := fun s : Int × (List AV) => F30_0 t0 s.1 s.2
def l30_0 : LModel := fun _ _ st k => match st with
  | ⟨[(0, .sl g0 t0), (3, .own g1), (4, .int .i64 t4)], [(g2, ⟨false, g3, h0⟩)]⟩ => bif ctsEq g0 ([.int .i64]) && nmEq g1 ([0, 3]) && nmEq g2 ([0, 3]) && ctsEq g3 ([.int .i64]) then ro (runW (R30_0 t0) (((t0.length : Int) - t4).toNat + 1) (t4, h0)) none (fun p : (List AV) => k (.exit 0) ⟨[(3, AV.own [0, 3])], [([0, 3], ⟨false, [.int .i64], p⟩)]⟩) else none
  | _ => none
noncomputable def c30 : Cfg := cfg Try.prog [(30, 0, [0, 3, 4]), (30, 999, [2]), (30, 1000, [3]), (30, 1001, [0, 3, 4])] [] [] [] [(30, 0, l30_0)]
theorem s30_0 (ce : CallE) (t0 : List AV) (t4 : Int) (h0 : List AV) (next : St → Option AV) (k : Kont) : stepA (codeA c30 ce [] 30 0 (sub [1, 1, 0, 1, 0, 0] (body Try.f30))) (normA [] [0, 3, 4]) next ⟨[(0, AV.sl [.int .i64] t0), (3, AV.own [0, 3]), (4, AV.int .i64 t4)], [([0, 3], ⟨false, [.int .i64], h0⟩)]⟩ k = (bif decide (t4 < (t0.length : Int)) then (bif (decide (0 ≤ t4) && decide (t4 < (t0.length : Int))) then (bif (decide (0 ≤ t4) && decide (t4 < (h0.length : Int))) then next ⟨[(0, AV.sl [.int .i64] t0), (3, AV.own [0, 3]), (4, AV.int .i64 (IntKind.i64.wrap (t4 + 1)))], [([0, 3], ⟨false, [.int .i64], h0.set t4.toNat (AV.agg [AV.int .i64 (fI (t0.getD t4.toNat AV.undef) 0)])⟩)]⟩
    else none)
   else none)
  else k (.exit 0) ⟨[(3, AV.own [0, 3])], [([0, 3], ⟨false, [.int .i64], h0⟩)]⟩) := by kernel_rfl
theorem st30_0 (t0 : List AV) (ce : CallE) (k : Kont) (s : (Int × (List AV))) (next : St → Option AV) : stepA (codeA c30 ce [] 30 0 (sub [1, 1, 0, 1, 0, 0] (body Try.f30))) (normA [] [0, 3, 4]) next ((fun s : Int × (List AV) => ⟨[(0, AV.sl [.int .i64] t0), (3, AV.own [0, 3]), (4, AV.int .i64 s.1)], [([0, 3], ⟨false, [.int .i64], s.2⟩)]⟩) s) k = (R30_0 t0 s).el none (fun s => next ((fun s : Int × (List AV) => ⟨[(0, AV.sl [.int .i64] t0), (3, AV.own [0, 3]), (4, AV.int .i64 s.1)], [([0, 3], ⟨false, [.int .i64], s.2⟩)]⟩) s)) (fun p : (List AV) => k (.exit 0) ⟨[(3, AV.own [0, 3])], [([0, 3], ⟨false, [.int .i64], p⟩)]⟩) := (s30_0 ce t0 s.1 s.2 next k).trans (by unfold R30_0; unfold F30_0; simp only [el_cond, el_ro, el_sum, el_fail, el_next, el_stop] <;> rfl)
theorem ok30_0 {ce : CallE} : LoopOK c30 ce [] 30 0 (sub [1, 1, 0, 1, 0, 0] (body Try.f30)) := by
  intro m hm st k r h
  obtain rfl : l30_0 = m := Option.some.inj hm
  unfold l30_0 at h
  split at h
  · rename_i g0 t0 g1 t4 g2 g3 h0
    obtain ⟨hg, h⟩ := bif_some h
    simp only [Bool.and_eq_true] at hg
    obtain ⟨⟨⟨q0, q1⟩, q2⟩, q3⟩ := hg
    obtain rfl := ctsEq_eq _ _ q0
    obtain rfl := (nmEq_iff _ _).1 q1
    obtain rfl := (nmEq_iff _ _).1 q2
    obtain rfl := ctsEq_eq _ _ q3
    refine ⟨(((t0.length : Int) - t4).toNat + 1), ?_⟩
    rw [← h]
    exact loop_run (fun s : Int × (List AV) => ⟨[(0, AV.sl [.int .i64] t0), (3, AV.own [0, 3]), (4, AV.int .i64 s.1)], [([0, 3], ⟨false, [.int .i64], s.2⟩)]⟩) (fun p : (List AV) => k (.exit 0) ⟨[(3, AV.own [0, 3])], [([0, 3], ⟨false, [.int .i64], p⟩)]⟩) (st30_0 t0 ce k) _ (t4, h0)
  · cases h
def q30 (a0 : List AV) : Bool := ((decide (0 ≤ (a0.length : Int)) && decide ((a0.length : Int) ≤ (a0.length : Int)) && decide ((a0.length : Int) * 8 ≤ 140737488355328) && decide ((a0.length : Int) ≤ 140737488355328)) && (ro (runW (R30_0 a0) (((a0.length : Int) - 0).toNat + 1) (0, List.replicate (Int.toNat (a0.length : Int)) (AV.int .i64 0))) false (fun p2 => true)))
def v30_0 (a0 : List AV) : List AV := (ro (runW (R30_0 a0) (((a0.length : Int) - 0).toNat + 1) (0, List.replicate (Int.toNat (a0.length : Int)) (AV.int .i64 0))) [] (fun p2 => p2))
theorem e30 (a0 : List AV) : funA c30 0 30 [AV.sl [.int .i64] a0] = (bif (decide (0 ≤ (a0.length : Int)) && decide ((a0.length : Int) ≤ (a0.length : Int)) && decide ((a0.length : Int) * 8 ≤ 140737488355328) && decide ((a0.length : Int) ≤ 140737488355328)) then (ro (runW (R30_0 a0) (((a0.length : Int) - 0).toNat + 1) (0, List.replicate (Int.toNat (a0.length : Int)) (AV.int .i64 0))) none (fun p2 => some (AV.fl [.int .i64] p2)))
  else none) := by kernel_rfl
theorem r30 (a0 : List AV) (h : q30 a0 = true) : funA c30 0 30 [AV.sl [.int .i64] a0] = some (AV.fl [.int .i64] (v30_0 a0)) := (e30 a0).trans ((brL (brO (fun o : Option (((List AV))) => some (AV.fl [.int .i64] (ro o [] (fun p2 => p2)))) (fun p2 => (fun _ => rfl)))) h)
def m30 : TModel
  | [.sl g0 a0] => bif ctsEq g0 ([.int .i64]) then some (q30 a0, AV.fl [.int .i64] (v30_0 a0)) else none
  | _ => none
theorem k30 : Known Try.prog 30 := ⟨Try.f30, Try.func30, by kernel_rfl, by kernel_rfl⟩
theorem meets30 : Meets Try.prog 30 m30 := by
  refine meet (f := Try.f30) (l := [(0, sub [1, 1, 0, 1, 0, 0] (body Try.f30))]) (hs := [(30, 0, [0, 3, 4]), (30, 999, [2]), (30, 1000, [3]), (30, 1001, [0, 3, 4])]) (ts := []) (ws := []) (is := []) (ls := [(30, 0, l30_0)]) (lvl := 0) mixed k30 Try.func30 (by kernel_rfl) (loops_cons ok30_0 noLoop) allT_nil allM_nil noI fun w xs us r hl hv h => ?_
  unfold m30 at h
  split at h
  · rename_i g0 a0
    obtain ⟨hg, h⟩ := bif_pair h
    have q0 := hg
    obtain rfl := ctsEq_eq _ _ q0
    obtain ⟨h1, rfl⟩ := pair_inj h
    exact r30 a0 h1
  · cases h

/-! ### 141 loop.example/g01984/laws.toPivot -/
noncomputable def c141 : Cfg := cfg Try.prog [(141, 999, [2])] [] [] [] []
def q141 (a0_0 : Int) (a0_1 : Int) : Bool := true
def v141_0 (a0_0 : Int) (a0_1 : Int) : Int := a0_0
def v141_1 (a0_0 : Int) (a0_1 : Int) : Int := a0_1
theorem e141 (a0_0 : Int) (a0_1 : Int) : funA c141 0 141 [AV.agg [AV.int .i64 a0_0, AV.int .i64 a0_1]] = some (AV.agg [AV.int .i64 a0_0, AV.int .i64 a0_1]) := by kernel_rfl
theorem r141 (a0_0 : Int) (a0_1 : Int) : funA c141 0 141 [AV.agg [AV.int .i64 a0_0, AV.int .i64 a0_1]] = some (AV.agg [AV.int .i64 (v141_0 a0_0 a0_1), AV.int .i64 (v141_1 a0_0 a0_1)]) := (e141 a0_0 a0_1).trans (of_tt (fun _ => rfl))
def m141 : TModel
  | [.agg [.int .i64 a0_0, .int .i64 a0_1]] => some (true, AV.agg [AV.int .i64 (v141_0 a0_0 a0_1), AV.int .i64 (v141_1 a0_0 a0_1)])
  | _ => none
theorem k141 : Known Try.prog 141 := ⟨Try.f141, Try.func141, by kernel_rfl, by kernel_rfl⟩
theorem meets141 : Meets Try.prog 141 m141 := by
  refine meet (f := Try.f141) (l := []) (hs := [(141, 999, [2])]) (ts := []) (ws := []) (is := []) (ls := []) (lvl := 0) mixed k141 Try.func141 (by kernel_rfl) noLoop allT_nil allM_nil noI fun w xs us r hl hv h => ?_
  unfold m141 at h
  split at h
  · rename_i a0_0 a0_1
    obtain ⟨h1, rfl⟩ := pair_inj h
    exact r141 a0_0 a0_1
  · cases h

/-! ### 93 loop.example/g01984/laws.toPivotS -/
def F93_0 (t0 : List AV) (t4 : Int) (h0 : List AV) : Out ((Int × (List AV))) (((List AV))) := (bif decide (t4 < (t0.length : Int)) then (bif (decide (0 ≤ t4) && decide (t4 < (t0.length : Int))) then (bif (decide (0 ≤ t4) && decide (t4 < (h0.length : Int))) then .next (IntKind.i64.wrap (t4 + 1), h0.set t4.toNat (AV.agg [AV.int .i64 (v141_0 (fI (t0.getD t4.toNat AV.undef) 0) (fI (t0.getD t4.toNat AV.undef) 1)), AV.int .i64 (v141_1 (fI (t0.getD t4.toNat AV.undef) 0) (fI (t0.getD t4.toNat AV.undef) 1))]))
    else .fail)
   else .fail)
  else .stop h0)
def R93_0 (t0 : List AV) : ((Int × (List AV))) → Out ((Int × (List AV))) (((List AV))) := fun s : Int × (List AV) => F93_0 t0 s.1 s.2
def l93_0 : LModel := fun _ _ st k => match st with
  | ⟨[(0, .sl g0 t0), (3, .own g1), (4, .int .i64 t4)], [(g2, ⟨false, g3, h0⟩)]⟩ => bif ctsEq g0 ([.int .i64, .int .i64]) && nmEq g1 ([0, 3]) && nmEq g2 ([0, 3]) && ctsEq g3 ([.int .i64, .int .i64]) then ro (runW (R93_0 t0) (((t0.length : Int) - t4).toNat + 1) (t4, h0)) none (fun p : (List AV) => k (.exit 0) ⟨[(3, AV.own [0, 3])], [([0, 3], ⟨false, [.int .i64, .int .i64], p⟩)]⟩) else none
  | _ => none
noncomputable def c93 : Cfg := cfg Try.prog [(93, 0, [0, 3, 4]), (93, 999, [2]), (93, 1000, [3]), (93, 1001, [0, 3, 4])] [(141, m141)] [] [] [(93, 0, l93_0)]
theorem s93_0 (ce : CallE) (t0 : List AV) (t4 : Int) (h0 : List AV) (next : St → Option AV) (k : Kont) : stepA (codeA c93 ce [] 93 0 (sub [1, 1, 0, 1, 0, 0] (body Try.f93))) (normA [] [0, 3, 4]) next ⟨[(0, AV.sl [.int .i64, .int .i64] t0), (3, AV.own [0, 3]), (4, AV.int .i64 t4)], [([0, 3], ⟨false, [.int .i64, .int .i64], h0⟩)]⟩ k = (bif decide (t4 < (t0.length : Int)) then (bif (decide (0 ≤ t4) && decide (t4 < (t0.length : Int))) then (bif (decide (0 ≤ t4) && decide (t4 < (h0.length : Int))) then next ⟨[(0, AV.sl [.int .i64, .int .i64] t0), (3, AV.own [0, 3]), (4, AV.int .i64 (IntKind.i64.wrap (t4 + 1)))], [([0, 3], ⟨false, [.int .i64, .int .i64], h0.set t4.toNat (AV.agg [AV.int .i64 (v141_0 (fI (t0.getD t4.toNat AV.undef) 0) (fI (t0.getD t4.toNat AV.undef) 1)), AV.int .i64 (v141_1 (fI (t0.getD t4.toNat AV.undef) 0) (fI (t0.getD t4.toNat AV.undef) 1))])⟩)]⟩
    else none)
   else none)
  else k (.exit 0) ⟨[(3, AV.own [0, 3])], [([0, 3], ⟨false, [.int .i64, .int .i64], h0⟩)]⟩) := by kernel_rfl
theorem st93_0 (t0 : List AV) (ce : CallE) (k : Kont) (s : (Int × (List AV))) (next : St → Option AV) : stepA (codeA c93 ce [] 93 0 (sub [1, 1, 0, 1, 0, 0] (body Try.f93))) (normA [] [0, 3, 4]) next ((fun s : Int × (List AV) => ⟨[(0, AV.sl [.int .i64, .int .i64] t0), (3, AV.own [0, 3]), (4, AV.int .i64 s.1)], [([0, 3], ⟨false, [.int .i64, .int .i64], s.2⟩)]⟩) s) k = (R93_0 t0 s).el none (fun s => next ((fun s : Int × (List AV) => ⟨[(0, AV.sl [.int .i64, .int .i64] t0), (3, AV.own [0, 3]), (4, AV.int .i64 s.1)], [([0, 3], ⟨false, [.int .i64, .int .i64], s.2⟩)]⟩) s)) (fun p : (List AV) => k (.exit 0) ⟨[(3, AV.own [0, 3])], [([0, 3], ⟨false, [.int .i64, .int .i64], p⟩)]⟩) := (s93_0 ce t0 s.1 s.2 next k).trans (by unfold R93_0; unfold F93_0; simp only [el_cond, el_ro, el_sum, el_fail, el_next, el_stop] <;> rfl)
theorem ok93_0 {ce : CallE} : LoopOK c93 ce [] 93 0 (sub [1, 1, 0, 1, 0, 0] (body Try.f93)) := by
  intro m hm st k r h
  obtain rfl : l93_0 = m := Option.some.inj hm
  unfold l93_0 at h
  split at h
  · rename_i g0 t0 g1 t4 g2 g3 h0
    obtain ⟨hg, h⟩ := bif_some h
    simp only [Bool.and_eq_true] at hg
    obtain ⟨⟨⟨q0, q1⟩, q2⟩, q3⟩ := hg
    obtain rfl := ctsEq_eq _ _ q0
    obtain rfl := (nmEq_iff _ _).1 q1
    obtain rfl := (nmEq_iff _ _).1 q2
    obtain rfl := ctsEq_eq _ _ q3
    refine ⟨(((t0.length : Int) - t4).toNat + 1), ?_⟩
    rw [← h]
    exact loop_run (fun s : Int × (List AV) => ⟨[(0, AV.sl [.int .i64, .int .i64] t0), (3, AV.own [0, 3]), (4, AV.int .i64 s.1)], [([0, 3], ⟨false, [.int .i64, .int .i64], s.2⟩)]⟩) (fun p : (List AV) => k (.exit 0) ⟨[(3, AV.own [0, 3])], [([0, 3], ⟨false, [.int .i64, .int .i64], p⟩)]⟩) (st93_0 t0 ce k) _ (t4, h0)
  · cases h
def q93 (a0 : List AV) : Bool := ((decide (0 ≤ (a0.length : Int)) && decide ((a0.length : Int) ≤ (a0.length : Int)) && decide ((a0.length : Int) * 16 ≤ 140737488355328) && decide ((a0.length : Int) ≤ 140737488355328)) && (ro (runW (R93_0 a0) (((a0.length : Int) - 0).toNat + 1) (0, List.replicate (Int.toNat (a0.length : Int)) (AV.agg [AV.int .i64 0, AV.int .i64 0]))) false (fun p3 => true)))
def v93_0 (a0 : List AV) : List AV := (ro (runW (R93_0 a0) (((a0.length : Int) - 0).toNat + 1) (0, List.replicate (Int.toNat (a0.length : Int)) (AV.agg [AV.int .i64 0, AV.int .i64 0]))) [] (fun p3 => p3))
theorem e93 (a0 : List AV) : funA c93 0 93 [AV.sl [.int .i64, .int .i64] a0] = (bif (decide (0 ≤ (a0.length : Int)) && decide ((a0.length : Int) ≤ (a0.length : Int)) && decide ((a0.length : Int) * 16 ≤ 140737488355328) && decide ((a0.length : Int) ≤ 140737488355328)) then (ro (runW (R93_0 a0) (((a0.length : Int) - 0).toNat + 1) (0, List.replicate (Int.toNat (a0.length : Int)) (AV.agg [AV.int .i64 0, AV.int .i64 0]))) none (fun p3 => some (AV.fl [.int .i64, .int .i64] p3)))
  else none) := by kernel_rfl
theorem r93 (a0 : List AV) (h : q93 a0 = true) : funA c93 0 93 [AV.sl [.int .i64, .int .i64] a0] = some (AV.fl [.int .i64, .int .i64] (v93_0 a0)) := (e93 a0).trans ((brL (brO (fun o : Option (((List AV))) => some (AV.fl [.int .i64, .int .i64] (ro o [] (fun p3 => p3)))) (fun p3 => (fun _ => rfl)))) h)
def m93 : TModel
  | [.sl g0 a0] => bif ctsEq g0 ([.int .i64, .int .i64]) then some (q93 a0, AV.fl [.int .i64, .int .i64] (v93_0 a0)) else none
  | _ => none
theorem k93 : Known Try.prog 93 := ⟨Try.f93, Try.func93, by kernel_rfl, by kernel_rfl⟩
theorem meets93 : Meets Try.prog 93 m93 := by
  refine meet (f := Try.f93) (l := [(0, sub [1, 1, 0, 1, 0, 0] (body Try.f93))]) (hs := [(93, 0, [0, 3, 4]), (93, 999, [2]), (93, 1000, [3]), (93, 1001, [0, 3, 4])]) (ts := [(141, m141)]) (ws := []) (is := []) (ls := [(93, 0, l93_0)]) (lvl := 0) mixed k93 Try.func93 (by kernel_rfl) (loops_cons ok93_0 noLoop) (allT_cons meets141 allT_nil) allM_nil noI fun w xs us r hl hv h => ?_
  unfold m93 at h
  split at h
  · rename_i g0 a0
    obtain ⟨hg, h⟩ := bif_pair h
    have q0 := hg
    obtain rfl := ctsEq_eq _ _ q0
    obtain ⟨h1, rfl⟩ := pair_inj h
    exact r93 a0 h1
  · cases h

/-! ### 38 loop.example/g01984/laws.toCracker -/
noncomputable def c38 : Cfg := cfg Try.prog [(38, 999, [2])] [(30, m30), (93, m93)] [] [] []
def q38 (a0_0 : List AV) (a0_1 : List AV) (a0_2 : List AV) : Bool := (q30 a0_0 && (q30 a0_1 && q93 a0_2))
def v38_0 (a0_0 : List AV) (a0_1 : List AV) (a0_2 : List AV) : List AV := (v30_0 a0_0)
def v38_1 (a0_0 : List AV) (a0_1 : List AV) (a0_2 : List AV) : List AV := (v30_0 a0_1)
def v38_2 (a0_0 : List AV) (a0_1 : List AV) (a0_2 : List AV) : List AV := (v93_0 a0_2)
theorem e38 (a0_0 : List AV) (a0_1 : List AV) (a0_2 : List AV) : funA c38 0 38 [AV.agg [AV.sl [.int .i64] a0_0, AV.sl [.int .i64] a0_1, AV.sl [.int .i64, .int .i64] a0_2]] = (bif q30 a0_0 then (bif q30 a0_1 then (bif q93 a0_2 then some (AV.agg [AV.fl [.int .i64] (v30_0 a0_0), AV.fl [.int .i64] (v30_0 a0_1), AV.fl [.int .i64, .int .i64] (v93_0 a0_2)])
    else none)
   else none)
  else none) := by kernel_rfl
theorem r38 (a0_0 : List AV) (a0_1 : List AV) (a0_2 : List AV) (h : q38 a0_0 a0_1 a0_2 = true) : funA c38 0 38 [AV.agg [AV.sl [.int .i64] a0_0, AV.sl [.int .i64] a0_1, AV.sl [.int .i64, .int .i64] a0_2]] = some (AV.agg [AV.fl [.int .i64] (v38_0 a0_0 a0_1 a0_2), AV.fl [.int .i64] (v38_1 a0_0 a0_1 a0_2), AV.fl [.int .i64, .int .i64] (v38_2 a0_0 a0_1 a0_2)]) := (e38 a0_0 a0_1 a0_2).trans ((brL (brL (brL1 (fun _ => rfl)))) h)
def m38 : TModel
  | [.agg [.sl g0 a0_0, .sl g1 a0_1, .sl g2 a0_2]] => bif ctsEq g0 ([.int .i64]) && ctsEq g1 ([.int .i64]) && ctsEq g2 ([.int .i64, .int .i64]) then some (q38 a0_0 a0_1 a0_2, AV.agg [AV.fl [.int .i64] (v38_0 a0_0 a0_1 a0_2), AV.fl [.int .i64] (v38_1 a0_0 a0_1 a0_2), AV.fl [.int .i64, .int .i64] (v38_2 a0_0 a0_1 a0_2)]) else none
  | _ => none
theorem k38 : Known Try.prog 38 := ⟨Try.f38, Try.func38, by kernel_rfl, by kernel_rfl⟩
theorem meets38 : Meets Try.prog 38 m38 := by
  refine meet (f := Try.f38) (l := []) (hs := [(38, 999, [2])]) (ts := [(30, m30), (93, m93)]) (ws := []) (is := []) (ls := []) (lvl := 0) mixed k38 Try.func38 (by kernel_rfl) noLoop (allT_cons meets30 (allT_cons meets93 allT_nil)) allM_nil noI fun w xs us r hl hv h => ?_
  unfold m38 at h
  split at h
  · rename_i g0 a0_0 g1 a0_1 g2 a0_2
    obtain ⟨hg, h⟩ := bif_pair h
    simp only [Bool.and_eq_true] at hg
    obtain ⟨⟨q0, q1⟩, q2⟩ := hg
    obtain rfl := ctsEq_eq _ _ q0
    obtain rfl := ctsEq_eq _ _ q1
    obtain rfl := ctsEq_eq _ _ q2
    obtain ⟨h1, rfl⟩ := pair_inj h
    exact r38 a0_0 a0_1 a0_2 h1
  · cases h

/-! ### 17 loop.example/g01984/laws.toStore -/
noncomputable def c17 : Cfg := cfg Try.prog [(17, 999, [2])] [(38, m38), (70, m70)] [] [] []
def q17 (a0_0 : List AV) (a0_1 : Int) (a0_2 : List AV) (a0_3 : List AV) (a0_4 : List AV) : Bool := (q70 a0_0 && q38 a0_2 a0_3 a0_4)
def v17_0 (a0_0 : List AV) (a0_1 : Int) (a0_2 : List AV) (a0_3 : List AV) (a0_4 : List AV) : List AV := (v70_0 a0_0)
def v17_1 (a0_0 : List AV) (a0_1 : Int) (a0_2 : List AV) (a0_3 : List AV) (a0_4 : List AV) : Int := a0_1
def v17_2 (a0_0 : List AV) (a0_1 : Int) (a0_2 : List AV) (a0_3 : List AV) (a0_4 : List AV) : List AV := (v38_0 a0_2 a0_3 a0_4)
def v17_3 (a0_0 : List AV) (a0_1 : Int) (a0_2 : List AV) (a0_3 : List AV) (a0_4 : List AV) : List AV := (v38_1 a0_2 a0_3 a0_4)
def v17_4 (a0_0 : List AV) (a0_1 : Int) (a0_2 : List AV) (a0_3 : List AV) (a0_4 : List AV) : List AV := (v38_2 a0_2 a0_3 a0_4)
theorem e17 (a0_0 : List AV) (a0_1 : Int) (a0_2 : List AV) (a0_3 : List AV) (a0_4 : List AV) : funA c17 0 17 [AV.agg [AV.sl [.int .i64, .int .i64, .int .i64, .int .i64] a0_0, AV.int .i64 a0_1, AV.sl [.int .i64] a0_2, AV.sl [.int .i64] a0_3, AV.sl [.int .i64, .int .i64] a0_4]] = (bif q70 a0_0 then (bif q38 a0_2 a0_3 a0_4 then some (AV.agg [AV.fl [.int .i64, .int .i64, .int .i64, .int .i64] (v70_0 a0_0), AV.int .i64 a0_1, AV.fl [.int .i64] (v38_0 a0_2 a0_3 a0_4), AV.fl [.int .i64] (v38_1 a0_2 a0_3 a0_4), AV.fl [.int .i64, .int .i64] (v38_2 a0_2 a0_3 a0_4)])
   else none)
  else none) := by kernel_rfl
theorem r17 (a0_0 : List AV) (a0_1 : Int) (a0_2 : List AV) (a0_3 : List AV) (a0_4 : List AV) (h : q17 a0_0 a0_1 a0_2 a0_3 a0_4 = true) : funA c17 0 17 [AV.agg [AV.sl [.int .i64, .int .i64, .int .i64, .int .i64] a0_0, AV.int .i64 a0_1, AV.sl [.int .i64] a0_2, AV.sl [.int .i64] a0_3, AV.sl [.int .i64, .int .i64] a0_4]] = some (AV.agg [AV.fl [.int .i64, .int .i64, .int .i64, .int .i64] (v17_0 a0_0 a0_1 a0_2 a0_3 a0_4), AV.int .i64 (v17_1 a0_0 a0_1 a0_2 a0_3 a0_4), AV.fl [.int .i64] (v17_2 a0_0 a0_1 a0_2 a0_3 a0_4), AV.fl [.int .i64] (v17_3 a0_0 a0_1 a0_2 a0_3 a0_4), AV.fl [.int .i64, .int .i64] (v17_4 a0_0 a0_1 a0_2 a0_3 a0_4)]) := (e17 a0_0 a0_1 a0_2 a0_3 a0_4).trans ((brL (brL1 (fun _ => rfl))) h)
def m17 : TModel
  | [.agg [.sl g0 a0_0, .int .i64 a0_1, .sl g1 a0_2, .sl g2 a0_3, .sl g3 a0_4]] => bif ctsEq g0 ([.int .i64, .int .i64, .int .i64, .int .i64]) && ctsEq g1 ([.int .i64]) && ctsEq g2 ([.int .i64]) && ctsEq g3 ([.int .i64, .int .i64]) then some (q17 a0_0 a0_1 a0_2 a0_3 a0_4, AV.agg [AV.fl [.int .i64, .int .i64, .int .i64, .int .i64] (v17_0 a0_0 a0_1 a0_2 a0_3 a0_4), AV.int .i64 (v17_1 a0_0 a0_1 a0_2 a0_3 a0_4), AV.fl [.int .i64] (v17_2 a0_0 a0_1 a0_2 a0_3 a0_4), AV.fl [.int .i64] (v17_3 a0_0 a0_1 a0_2 a0_3 a0_4), AV.fl [.int .i64, .int .i64] (v17_4 a0_0 a0_1 a0_2 a0_3 a0_4)]) else none
  | _ => none
theorem k17 : Known Try.prog 17 := ⟨Try.f17, Try.func17, by kernel_rfl, by kernel_rfl⟩
theorem meets17 : Meets Try.prog 17 m17 := by
  refine meet (f := Try.f17) (l := []) (hs := [(17, 999, [2])]) (ts := [(38, m38), (70, m70)]) (ws := []) (is := []) (ls := []) (lvl := 0) mixed k17 Try.func17 (by kernel_rfl) noLoop (allT_cons meets38 (allT_cons meets70 allT_nil)) allM_nil noI fun w xs us r hl hv h => ?_
  unfold m17 at h
  split at h
  · rename_i g0 a0_0 a0_1 g1 a0_2 g2 a0_3 g3 a0_4
    obtain ⟨hg, h⟩ := bif_pair h
    simp only [Bool.and_eq_true] at hg
    obtain ⟨⟨⟨q0, q1⟩, q2⟩, q3⟩ := hg
    obtain rfl := ctsEq_eq _ _ q0
    obtain rfl := ctsEq_eq _ _ q1
    obtain rfl := ctsEq_eq _ _ q2
    obtain rfl := ctsEq_eq _ _ q3
    obtain ⟨h1, rfl⟩ := pair_inj h
    exact r17 a0_0 a0_1 a0_2 a0_3 a0_4 h1
  · cases h

/-! ### 127 loop.example/g01984/spec.l4Copy -/
noncomputable def c127 : Cfg := cfg Try.prog [(127, 999, [2])] [] [] [] []
def q127 (a0_0 : List AV) (a0_1 : List AV) (a0_2 : List AV) : Bool := ((decide ((([] : List AV).length + a0_0.length) * 8 ≤ 140737488355328) && decide ((([] : List AV).length + a0_0.length) ≤ 140737488355328)) && ((decide ((([] : List AV).length + a0_1.length) * 8 ≤ 140737488355328) && decide ((([] : List AV).length + a0_1.length) ≤ 140737488355328)) && (decide ((([] : List AV).length + a0_2.length) * 16 ≤ 140737488355328) && decide ((([] : List AV).length + a0_2.length) ≤ 140737488355328))))
def v127_0 (a0_0 : List AV) (a0_1 : List AV) (a0_2 : List AV) : List AV := ([] : List AV) ++ a0_0
def v127_1 (a0_0 : List AV) (a0_1 : List AV) (a0_2 : List AV) : List AV := ([] : List AV) ++ a0_1
def v127_2 (a0_0 : List AV) (a0_1 : List AV) (a0_2 : List AV) : List AV := ([] : List AV) ++ a0_2
theorem e127 (a0_0 : List AV) (a0_1 : List AV) (a0_2 : List AV) : funA c127 0 127 [AV.agg [AV.sl [.int .i64] a0_0, AV.sl [.int .i64] a0_1, AV.sl [.int .i64, .int .i64] a0_2]] = (bif (decide ((([] : List AV).length + a0_0.length) * 8 ≤ 140737488355328) && decide ((([] : List AV).length + a0_0.length) ≤ 140737488355328)) then (bif (decide ((([] : List AV).length + a0_1.length) * 8 ≤ 140737488355328) && decide ((([] : List AV).length + a0_1.length) ≤ 140737488355328)) then (bif (decide ((([] : List AV).length + a0_2.length) * 16 ≤ 140737488355328) && decide ((([] : List AV).length + a0_2.length) ≤ 140737488355328)) then some (AV.agg [AV.fl [.int .i64] (([] : List AV) ++ a0_0), AV.fl [.int .i64] (([] : List AV) ++ a0_1), AV.fl [.int .i64, .int .i64] (([] : List AV) ++ a0_2)])
    else none)
   else none)
  else none) := by kernel_rfl
theorem r127 (a0_0 : List AV) (a0_1 : List AV) (a0_2 : List AV) (h : q127 a0_0 a0_1 a0_2 = true) : funA c127 0 127 [AV.agg [AV.sl [.int .i64] a0_0, AV.sl [.int .i64] a0_1, AV.sl [.int .i64, .int .i64] a0_2]] = some (AV.agg [AV.fl [.int .i64] (v127_0 a0_0 a0_1 a0_2), AV.fl [.int .i64] (v127_1 a0_0 a0_1 a0_2), AV.fl [.int .i64, .int .i64] (v127_2 a0_0 a0_1 a0_2)]) := (e127 a0_0 a0_1 a0_2).trans ((brL (brL (brL1 (fun _ => rfl)))) h)
def m127 : TModel
  | [.agg [.sl g0 a0_0, .sl g1 a0_1, .sl g2 a0_2]] => bif ctsEq g0 ([.int .i64]) && ctsEq g1 ([.int .i64]) && ctsEq g2 ([.int .i64, .int .i64]) then some (q127 a0_0 a0_1 a0_2, AV.agg [AV.fl [.int .i64] (v127_0 a0_0 a0_1 a0_2), AV.fl [.int .i64] (v127_1 a0_0 a0_1 a0_2), AV.fl [.int .i64, .int .i64] (v127_2 a0_0 a0_1 a0_2)]) else none
  | _ => none
theorem k127 : Known Try.prog 127 := ⟨Try.f127, Try.func127, by kernel_rfl, by kernel_rfl⟩
theorem meets127 : Meets Try.prog 127 m127 := by
  refine meet (f := Try.f127) (l := []) (hs := [(127, 999, [2])]) (ts := []) (ws := []) (is := []) (ls := []) (lvl := 0) mixed k127 Try.func127 (by kernel_rfl) noLoop allT_nil allM_nil noI fun w xs us r hl hv h => ?_
  unfold m127 at h
  split at h
  · rename_i g0 a0_0 g1 a0_1 g2 a0_2
    obtain ⟨hg, h⟩ := bif_pair h
    simp only [Bool.and_eq_true] at hg
    obtain ⟨⟨q0, q1⟩, q2⟩ := hg
    obtain rfl := ctsEq_eq _ _ q0
    obtain rfl := ctsEq_eq _ _ q1
    obtain rfl := ctsEq_eq _ _ q2
    obtain ⟨h1, rfl⟩ := pair_inj h
    exact r127 a0_0 a0_1 a0_2 h1
  · cases h

/-! ### 74 loop.example/g01984/spec.l19Copy -/
noncomputable def c74 : Cfg := cfg Try.prog [(74, 999, [2])] [(127, m127)] [] [] []
def q74 (a0_0 : List AV) (a0_1 : Int) (a0_2 : List AV) (a0_3 : List AV) (a0_4 : List AV) : Bool := ((decide ((([] : List AV).length + a0_0.length) * 32 ≤ 140737488355328) && decide ((([] : List AV).length + a0_0.length) ≤ 140737488355328)) && q127 a0_2 a0_3 a0_4)
def v74_0 (a0_0 : List AV) (a0_1 : Int) (a0_2 : List AV) (a0_3 : List AV) (a0_4 : List AV) : List AV := ([] : List AV) ++ a0_0
def v74_1 (a0_0 : List AV) (a0_1 : Int) (a0_2 : List AV) (a0_3 : List AV) (a0_4 : List AV) : Int := a0_1
def v74_2 (a0_0 : List AV) (a0_1 : Int) (a0_2 : List AV) (a0_3 : List AV) (a0_4 : List AV) : List AV := (v127_0 a0_2 a0_3 a0_4)
def v74_3 (a0_0 : List AV) (a0_1 : Int) (a0_2 : List AV) (a0_3 : List AV) (a0_4 : List AV) : List AV := (v127_1 a0_2 a0_3 a0_4)
def v74_4 (a0_0 : List AV) (a0_1 : Int) (a0_2 : List AV) (a0_3 : List AV) (a0_4 : List AV) : List AV := (v127_2 a0_2 a0_3 a0_4)
theorem e74 (a0_0 : List AV) (a0_1 : Int) (a0_2 : List AV) (a0_3 : List AV) (a0_4 : List AV) : funA c74 0 74 [AV.agg [AV.sl [.int .i64, .int .i64, .int .i64, .int .i64] a0_0, AV.int .i64 a0_1, AV.sl [.int .i64] a0_2, AV.sl [.int .i64] a0_3, AV.sl [.int .i64, .int .i64] a0_4]] = (bif (decide ((([] : List AV).length + a0_0.length) * 32 ≤ 140737488355328) && decide ((([] : List AV).length + a0_0.length) ≤ 140737488355328)) then (bif q127 a0_2 a0_3 a0_4 then some (AV.agg [AV.fl [.int .i64, .int .i64, .int .i64, .int .i64] (([] : List AV) ++ a0_0), AV.int .i64 a0_1, AV.fl [.int .i64] (v127_0 a0_2 a0_3 a0_4), AV.fl [.int .i64] (v127_1 a0_2 a0_3 a0_4), AV.fl [.int .i64, .int .i64] (v127_2 a0_2 a0_3 a0_4)])
   else none)
  else none) := by kernel_rfl
theorem r74 (a0_0 : List AV) (a0_1 : Int) (a0_2 : List AV) (a0_3 : List AV) (a0_4 : List AV) (h : q74 a0_0 a0_1 a0_2 a0_3 a0_4 = true) : funA c74 0 74 [AV.agg [AV.sl [.int .i64, .int .i64, .int .i64, .int .i64] a0_0, AV.int .i64 a0_1, AV.sl [.int .i64] a0_2, AV.sl [.int .i64] a0_3, AV.sl [.int .i64, .int .i64] a0_4]] = some (AV.agg [AV.fl [.int .i64, .int .i64, .int .i64, .int .i64] (v74_0 a0_0 a0_1 a0_2 a0_3 a0_4), AV.int .i64 (v74_1 a0_0 a0_1 a0_2 a0_3 a0_4), AV.fl [.int .i64] (v74_2 a0_0 a0_1 a0_2 a0_3 a0_4), AV.fl [.int .i64] (v74_3 a0_0 a0_1 a0_2 a0_3 a0_4), AV.fl [.int .i64, .int .i64] (v74_4 a0_0 a0_1 a0_2 a0_3 a0_4)]) := (e74 a0_0 a0_1 a0_2 a0_3 a0_4).trans ((brL (brL1 (fun _ => rfl))) h)
def m74 : TModel
  | [.agg [.sl g0 a0_0, .int .i64 a0_1, .sl g1 a0_2, .sl g2 a0_3, .sl g3 a0_4]] => bif ctsEq g0 ([.int .i64, .int .i64, .int .i64, .int .i64]) && ctsEq g1 ([.int .i64]) && ctsEq g2 ([.int .i64]) && ctsEq g3 ([.int .i64, .int .i64]) then some (q74 a0_0 a0_1 a0_2 a0_3 a0_4, AV.agg [AV.fl [.int .i64, .int .i64, .int .i64, .int .i64] (v74_0 a0_0 a0_1 a0_2 a0_3 a0_4), AV.int .i64 (v74_1 a0_0 a0_1 a0_2 a0_3 a0_4), AV.fl [.int .i64] (v74_2 a0_0 a0_1 a0_2 a0_3 a0_4), AV.fl [.int .i64] (v74_3 a0_0 a0_1 a0_2 a0_3 a0_4), AV.fl [.int .i64, .int .i64] (v74_4 a0_0 a0_1 a0_2 a0_3 a0_4)]) else none
  | _ => none
theorem k74 : Known Try.prog 74 := ⟨Try.f74, Try.func74, by kernel_rfl, by kernel_rfl⟩
theorem meets74 : Meets Try.prog 74 m74 := by
  refine meet (f := Try.f74) (l := []) (hs := [(74, 999, [2])]) (ts := [(127, m127)]) (ws := []) (is := []) (ls := []) (lvl := 0) mixed k74 Try.func74 (by kernel_rfl) noLoop (allT_cons meets127 allT_nil) allM_nil noI fun w xs us r hl hv h => ?_
  unfold m74 at h
  split at h
  · rename_i g0 a0_0 a0_1 g1 a0_2 g2 a0_3 g3 a0_4
    obtain ⟨hg, h⟩ := bif_pair h
    simp only [Bool.and_eq_true] at hg
    obtain ⟨⟨⟨q0, q1⟩, q2⟩, q3⟩ := hg
    obtain rfl := ctsEq_eq _ _ q0
    obtain rfl := ctsEq_eq _ _ q1
    obtain rfl := ctsEq_eq _ _ q2
    obtain rfl := ctsEq_eq _ _ q3
    obtain ⟨h1, rfl⟩ := pair_inj h
    exact r74 a0_0 a0_1 a0_2 a0_3 a0_4 h1
  · cases h

/-! ### 68 loop.example/g01984/spec.l1In -/
noncomputable def c68 : Cfg := cfg Try.prog [(68, 999, [6])] [] [] [] []
def q68 (a0 : Int) (a1 : Int) (a2 : Int) : Bool := true
def v68_0 (a0 : Int) (a1 : Int) (a2 : Int) : Bool := (bif decide (a0 ≥ a1) then decide (a0 ≤ a2) else false)
theorem e68 (a0 : Int) (a1 : Int) (a2 : Int) : funA c68 0 68 [AV.int .i64 a0, AV.int .i64 a1, AV.int .i64 a2] = (bif decide (a0 ≥ a1) then some (AV.bool (decide (a0 ≤ a2)))
  else some (AV.bool false)) := by kernel_rfl
theorem r68 (a0 : Int) (a1 : Int) (a2 : Int) : funA c68 0 68 [AV.int .i64 a0, AV.int .i64 a1, AV.int .i64 a2] = some (AV.bool (v68_0 a0 a1 a2)) := (e68 a0 a1 a2).trans (of_tt (brT (fun b => some (AV.bool (bif b then decide (a0 ≤ a2) else false))) (fun _ => rfl) (fun _ => rfl)))
def m68 : TModel
  | [.int .i64 a0, .int .i64 a1, .int .i64 a2] => some (true, AV.bool (v68_0 a0 a1 a2))
  | _ => none
theorem k68 : Known Try.prog 68 := ⟨Try.f68, Try.func68, by kernel_rfl, by kernel_rfl⟩
theorem meets68 : Meets Try.prog 68 m68 := by
  refine meet (f := Try.f68) (l := []) (hs := [(68, 999, [6])]) (ts := []) (ws := []) (is := []) (ls := []) (lvl := 0) mixed k68 Try.func68 (by kernel_rfl) noLoop allT_nil allM_nil noI fun w xs us r hl hv h => ?_
  unfold m68 at h
  split at h
  · rename_i a0 a1 a2
    obtain ⟨h1, rfl⟩ := pair_inj h
    exact r68 a0 a1 a2
  · cases h

/-! ### 103 loop.example/g01984/spec.AreValues -/
def F103_0 (t0 : List AV) (t3 : Int) : Out (Int) (Unit ⊕ Unit) := (bif decide (t3 < (t0.length : Int)) then (bif (decide (0 ≤ t3) && decide (t3 < (t0.length : Int))) then (bif !(v68_0 (fI (t0.getD t3.toNat AV.undef) 0) (-999) 999) then .stop (.inr ())
    else .next (IntKind.i64.wrap (t3 + 1)))
   else .fail)
  else .stop (.inl ()))
def R103_0 (t0 : List AV) : (Int) → Out (Int) (Unit ⊕ Unit) := fun s : Int => F103_0 t0 s
def l103_0 : LModel := fun _ _ st k => match st with
  | ⟨[(0, .sl g0 t0), (3, .int .i64 t3)], []⟩ => bif ctsEq g0 ([.int .i64]) then ro (runW (R103_0 t0) (((t0.length : Int) - t3).toNat + 1) t3) none (sumE (fun _ : Unit => k (.exit 0) ⟨[(0, AV.sl [.int .i64] t0)], []⟩) (fun _ : Unit => k .ret ⟨[(2, AV.bool false)], []⟩)) else none
  | _ => none
noncomputable def c103 : Cfg := cfg Try.prog [(103, 0, [0, 3]), (103, 999, [2]), (103, 1000, [0]), (103, 1001, [0, 3])] [(68, m68)] [] [] [(103, 0, l103_0)]
theorem s103_0 (ce : CallE) (t0 : List AV) (t3 : Int) (next : St → Option AV) (k : Kont) : stepA (codeA c103 ce [] 103 0 (sub [1, 0, 1, 0, 0] (body Try.f103))) (normA [] [0, 3]) next ⟨[(0, AV.sl [.int .i64] t0), (3, AV.int .i64 t3)], []⟩ k = (bif decide (t3 < (t0.length : Int)) then (bif (decide (0 ≤ t3) && decide (t3 < (t0.length : Int))) then (bif !(v68_0 (fI (t0.getD t3.toNat AV.undef) 0) (-999) 999) then k .ret ⟨[(2, AV.bool false)], []⟩
    else next ⟨[(0, AV.sl [.int .i64] t0), (3, AV.int .i64 (IntKind.i64.wrap (t3 + 1)))], []⟩)
   else none)
  else k (.exit 0) ⟨[(0, AV.sl [.int .i64] t0)], []⟩) := by kernel_rfl
theorem st103_0 (t0 : List AV) (ce : CallE) (k : Kont) (s : Int) (next : St → Option AV) : stepA (codeA c103 ce [] 103 0 (sub [1, 0, 1, 0, 0] (body Try.f103))) (normA [] [0, 3]) next ((fun s : Int => ⟨[(0, AV.sl [.int .i64] t0), (3, AV.int .i64 s)], []⟩) s) k = (R103_0 t0 s).el none (fun s => next ((fun s : Int => ⟨[(0, AV.sl [.int .i64] t0), (3, AV.int .i64 s)], []⟩) s)) (sumE (fun _ : Unit => k (.exit 0) ⟨[(0, AV.sl [.int .i64] t0)], []⟩) (fun _ : Unit => k .ret ⟨[(2, AV.bool false)], []⟩)) := (s103_0 ce t0 s next k).trans (by unfold R103_0; unfold F103_0; simp only [el_cond, el_ro, el_sum, el_fail, el_next, el_stop] <;> rfl)
theorem ok103_0 {ce : CallE} : LoopOK c103 ce [] 103 0 (sub [1, 0, 1, 0, 0] (body Try.f103)) := by
  intro m hm st k r h
  obtain rfl : l103_0 = m := Option.some.inj hm
  unfold l103_0 at h
  split at h
  · rename_i g0 t0 t3
    obtain ⟨hg, h⟩ := bif_some h
    have q0 := hg
    obtain rfl := ctsEq_eq _ _ q0
    refine ⟨(((t0.length : Int) - t3).toNat + 1), ?_⟩
    rw [← h]
    exact loop_run (fun s : Int => ⟨[(0, AV.sl [.int .i64] t0), (3, AV.int .i64 s)], []⟩) (sumE (fun _ : Unit => k (.exit 0) ⟨[(0, AV.sl [.int .i64] t0)], []⟩) (fun _ : Unit => k .ret ⟨[(2, AV.bool false)], []⟩)) (st103_0 t0 ce k) _ t3
  · cases h
def q103 (a0 : List AV) : Bool := (ro (runW (R103_0 a0) (((a0.length : Int) - 0).toNat + 1) 0) false (sumE (fun _ => true) (fun _ => true)))
def v103_0 (a0 : List AV) : Bool := (ro (runW (R103_0 a0) (((a0.length : Int) - 0).toNat + 1) 0) false (sumE (fun _ => decide ((a0.length : Int) ≤ 64)) (fun _ => false)))
theorem e103 (a0 : List AV) : funA c103 0 103 [AV.sl [.int .i64] a0] = (ro (runW (R103_0 a0) (((a0.length : Int) - 0).toNat + 1) 0) none (sumE (fun _ => some (AV.bool (decide ((a0.length : Int) ≤ 64)))) (fun _ => some (AV.bool false)))) := by kernel_rfl
theorem r103 (a0 : List AV) (h : q103 a0 = true) : funA c103 0 103 [AV.sl [.int .i64] a0] = some (AV.bool (v103_0 a0)) := (e103 a0).trans ((brO (fun o : Option (Unit ⊕ Unit) => some (AV.bool (ro o false (sumE (fun _ => decide ((a0.length : Int) ≤ 64)) (fun _ => false))))) (brS (fun o : Unit ⊕ Unit => some (AV.bool ((sumE (fun _ => decide ((a0.length : Int) ≤ 64)) (fun _ => false)) o))) (fun _ => (fun _ => rfl)) (fun _ => (fun _ => rfl)))) h)
def m103 : TModel
  | [.sl g0 a0] => bif ctsEq g0 ([.int .i64]) then some (q103 a0, AV.bool (v103_0 a0)) else none
  | _ => none
theorem k103 : Known Try.prog 103 := ⟨Try.f103, Try.func103, by kernel_rfl, by kernel_rfl⟩
theorem meets103 : Meets Try.prog 103 m103 := by
  refine meet (f := Try.f103) (l := [(0, sub [1, 0, 1, 0, 0] (body Try.f103))]) (hs := [(103, 0, [0, 3]), (103, 999, [2]), (103, 1000, [0]), (103, 1001, [0, 3])]) (ts := [(68, m68)]) (ws := []) (is := []) (ls := [(103, 0, l103_0)]) (lvl := 0) mixed k103 Try.func103 (by kernel_rfl) (loops_cons ok103_0 noLoop) (allT_cons meets68 allT_nil) allM_nil noI fun w xs us r hl hv h => ?_
  unfold m103 at h
  split at h
  · rename_i g0 a0
    obtain ⟨hg, h⟩ := bif_pair h
    have q0 := hg
    obtain rfl := ctsEq_eq _ _ q0
    obtain ⟨h1, rfl⟩ := pair_inj h
    exact r103 a0 h1
  · cases h

/-! ### 116 loop.example/g01984/spec.l4Has -/
def F116_0 (t0 : List AV) (t1 : Int) (t5 : Int) : Out (Int) (Unit ⊕ Unit) := (bif decide (t5 < (t0.length : Int)) then (bif (decide (0 ≤ t5) && decide (t5 < (t0.length : Int))) then (bif decide (fI (t0.getD t5.toNat AV.undef) 0 = t1) then .stop (.inr ())
    else .next (IntKind.i64.wrap (t5 + 1)))
   else .fail)
  else .stop (.inl ()))
def R116_0 (t0 : List AV) (t1 : Int) : (Int) → Out (Int) (Unit ⊕ Unit) := fun s : Int => F116_0 t0 t1 s
def l116_0 : LModel := fun _ _ st k => match st with
  | ⟨[(0, .sl g0 t0), (1, .int .i64 t1), (5, .int .i64 t5)], []⟩ => bif ctsEq g0 ([.int .i64]) then ro (runW (R116_0 t0 t1) (((t0.length : Int) - t5).toNat + 1) t5) none (sumE (fun _ : Unit => k (.exit 0) ⟨[], []⟩) (fun _ : Unit => k .ret ⟨[(4, AV.bool true)], []⟩)) else none
  | _ => none
noncomputable def c116 : Cfg := cfg Try.prog [(116, 0, [0, 1, 5]), (116, 999, [4]), (116, 1000, []), (116, 1001, [0, 1, 5])] [] [] [] [(116, 0, l116_0)]
theorem s116_0 (ce : CallE) (t0 : List AV) (t1 : Int) (t5 : Int) (next : St → Option AV) (k : Kont) : stepA (codeA c116 ce [] 116 0 (sub [1, 0, 1, 0, 0] (body Try.f116))) (normA [] [0, 1, 5]) next ⟨[(0, AV.sl [.int .i64] t0), (1, AV.int .i64 t1), (5, AV.int .i64 t5)], []⟩ k = (bif decide (t5 < (t0.length : Int)) then (bif (decide (0 ≤ t5) && decide (t5 < (t0.length : Int))) then (bif decide (fI (t0.getD t5.toNat AV.undef) 0 = t1) then k .ret ⟨[(4, AV.bool true)], []⟩
    else next ⟨[(0, AV.sl [.int .i64] t0), (1, AV.int .i64 t1), (5, AV.int .i64 (IntKind.i64.wrap (t5 + 1)))], []⟩)
   else none)
  else k (.exit 0) ⟨[], []⟩) := by kernel_rfl
theorem st116_0 (t0 : List AV) (t1 : Int) (ce : CallE) (k : Kont) (s : Int) (next : St → Option AV) : stepA (codeA c116 ce [] 116 0 (sub [1, 0, 1, 0, 0] (body Try.f116))) (normA [] [0, 1, 5]) next ((fun s : Int => ⟨[(0, AV.sl [.int .i64] t0), (1, AV.int .i64 t1), (5, AV.int .i64 s)], []⟩) s) k = (R116_0 t0 t1 s).el none (fun s => next ((fun s : Int => ⟨[(0, AV.sl [.int .i64] t0), (1, AV.int .i64 t1), (5, AV.int .i64 s)], []⟩) s)) (sumE (fun _ : Unit => k (.exit 0) ⟨[], []⟩) (fun _ : Unit => k .ret ⟨[(4, AV.bool true)], []⟩)) := (s116_0 ce t0 t1 s next k).trans (by unfold R116_0; unfold F116_0; simp only [el_cond, el_ro, el_sum, el_fail, el_next, el_stop] <;> rfl)
theorem ok116_0 {ce : CallE} : LoopOK c116 ce [] 116 0 (sub [1, 0, 1, 0, 0] (body Try.f116)) := by
  intro m hm st k r h
  obtain rfl : l116_0 = m := Option.some.inj hm
  unfold l116_0 at h
  split at h
  · rename_i g0 t0 t1 t5
    obtain ⟨hg, h⟩ := bif_some h
    have q0 := hg
    obtain rfl := ctsEq_eq _ _ q0
    refine ⟨(((t0.length : Int) - t5).toNat + 1), ?_⟩
    rw [← h]
    exact loop_run (fun s : Int => ⟨[(0, AV.sl [.int .i64] t0), (1, AV.int .i64 t1), (5, AV.int .i64 s)], []⟩) (sumE (fun _ : Unit => k (.exit 0) ⟨[], []⟩) (fun _ : Unit => k .ret ⟨[(4, AV.bool true)], []⟩)) (st116_0 t0 t1 ce k) _ t5
  · cases h
def q116 (a0 : List AV) (a1 : Int) : Bool := (ro (runW (R116_0 a0 a1) (((a0.length : Int) - 0).toNat + 1) 0) false (sumE (fun _ => true) (fun _ => true)))
def v116_0 (a0 : List AV) (a1 : Int) : Bool := (ro (runW (R116_0 a0 a1) (((a0.length : Int) - 0).toNat + 1) 0) false (sumE (fun _ => false) (fun _ => true)))
theorem e116 (a0 : List AV) (a1 : Int) : funA c116 0 116 [AV.sl [.int .i64] a0, AV.int .i64 a1] = (ro (runW (R116_0 a0 a1) (((a0.length : Int) - 0).toNat + 1) 0) none (sumE (fun _ => some (AV.bool false)) (fun _ => some (AV.bool true)))) := by kernel_rfl
theorem r116 (a0 : List AV) (a1 : Int) (h : q116 a0 a1 = true) : funA c116 0 116 [AV.sl [.int .i64] a0, AV.int .i64 a1] = some (AV.bool (v116_0 a0 a1)) := (e116 a0 a1).trans ((brO (fun o : Option (Unit ⊕ Unit) => some (AV.bool (ro o false (sumE (fun _ => false) (fun _ => true))))) (brS (fun o : Unit ⊕ Unit => some (AV.bool ((sumE (fun _ => false) (fun _ => true)) o))) (fun _ => (fun _ => rfl)) (fun _ => (fun _ => rfl)))) h)
def m116 : TModel
  | [.sl g0 a0, .int .i64 a1] => bif ctsEq g0 ([.int .i64]) then some (q116 a0 a1, AV.bool (v116_0 a0 a1)) else none
  | _ => none
theorem k116 : Known Try.prog 116 := ⟨Try.f116, Try.func116, by kernel_rfl, by kernel_rfl⟩
theorem meets116 : Meets Try.prog 116 m116 := by
  refine meet (f := Try.f116) (l := [(0, sub [1, 0, 1, 0, 0] (body Try.f116))]) (hs := [(116, 0, [0, 1, 5]), (116, 999, [4]), (116, 1000, []), (116, 1001, [0, 1, 5])]) (ts := []) (ws := []) (is := []) (ls := [(116, 0, l116_0)]) (lvl := 0) mixed k116 Try.func116 (by kernel_rfl) (loops_cons ok116_0 noLoop) allT_nil allM_nil noI fun w xs us r hl hv h => ?_
  unfold m116 at h
  split at h
  · rename_i g0 a0 a1
    obtain ⟨hg, h⟩ := bif_pair h
    have q0 := hg
    obtain rfl := ctsEq_eq _ _ q0
    obtain ⟨h1, rfl⟩ := pair_inj h
    exact r116 a0 a1 h1
  · cases h

/-! ### 122 loop.example/g01984/spec.l4Pivots -/
def F122_2 (t0 : List AV) (t1 : List AV) (t5 : Int) (h0_0 : Int) (h0_1 : Int) (t7 : Int) : Out (Int) (Unit ⊕ Unit) := (bif decide (t7 < (t0.length : Int)) then (bif (decide (0 ≤ t7) && decide (t7 < (t0.length : Int))) then (bif !(decide (fI (t0.getD t7.toNat AV.undef) 0 < h0_0) == decide (t7 < h0_1)) then .stop (.inr ())
    else .next (IntKind.i64.wrap (t7 + 1)))
   else .fail)
  else .stop (.inl ()))
def R122_2 (t0 : List AV) (t1 : List AV) (t5 : Int) (h0_0 : Int) (h0_1 : Int) : (Int) → Out (Int) (Unit ⊕ Unit) := fun s : Int => F122_2 t0 t1 t5 h0_0 h0_1 s
def l122_2 : LModel := fun _ _ st k => match st with
  | ⟨[(0, .sl g0 t0), (1, .sl g1 t1), (5, .int .i64 t5), (6, .ptr g2 g3 g4), (7, .int .i64 t7)], [(g5, ⟨true, [], [.agg [.int .i64 h0_0, .int .i64 h0_1]]⟩)]⟩ => bif ctsEq g0 ([.int .i64]) && ctsEq g1 ([.int .i64, .int .i64]) && nmEq g2 ([0, 6]) && Nat.beq g3 0 && Nat.beq g4 0 && nmEq g5 ([0, 6]) then ro (runW (R122_2 t0 t1 t5 h0_0 h0_1) (((t0.length : Int) - t7).toNat + 1) t7) none (sumE (fun _ : Unit => k (.exit 2) ⟨[(0, AV.sl [.int .i64] t0), (1, AV.sl [.int .i64, .int .i64] t1), (5, AV.int .i64 t5)], [([0, 6], ⟨true, [], [AV.agg [AV.int .i64 h0_0, AV.int .i64 h0_1]]⟩)]⟩) (fun _ : Unit => k .ret ⟨[(4, AV.bool false)], [([0, 6], ⟨true, [], [AV.agg [AV.int .i64 h0_0, AV.int .i64 h0_1]]⟩)]⟩)) else none
  | _ => none
def F122_0 (t0 : List AV) (t1 : List AV) (t5 : Int) : Out (Int) (Unit ⊕ (Int × Int) ⊕ (Int × Int)) := (bif decide (t5 < (t1.length : Int)) then (bif (decide (0 ≤ t5) && decide (t5 < (t1.length : Int))) then (bif !(v68_0 (fI (t1.getD t5.toNat AV.undef) 0) (-1000) 1000) then .stop (.inr (.inl (fI (t1.getD t5.toNat AV.undef) 0, fI (t1.getD t5.toNat AV.undef) 1)))
    else (bif !(v68_0 (fI (t1.getD t5.toNat AV.undef) 1) 0 (t0.length : Int)) then .stop (.inr (.inl (fI (t1.getD t5.toNat AV.undef) 0, fI (t1.getD t5.toNat AV.undef) 1)))
     else (bif decide (t5 > 0) then (bif (decide (0 ≤ IntKind.i64.wrap (t5 - 1)) && decide (IntKind.i64.wrap (t5 - 1) < (t1.length : Int))) then (bif decide (fI (t1.getD t5.toNat AV.undef) 0 ≤ fI (t1.getD (IntKind.i64.wrap (t5 - 1)).toNat AV.undef) 0) then .stop (.inr (.inl (fI (t1.getD t5.toNat AV.undef) 0, fI (t1.getD t5.toNat AV.undef) 1)))
        else (bif (decide (0 ≤ IntKind.i64.wrap (t5 - 1)) && decide (IntKind.i64.wrap (t5 - 1) < (t1.length : Int))) then (bif decide (fI (t1.getD t5.toNat AV.undef) 1 < fI (t1.getD (IntKind.i64.wrap (t5 - 1)).toNat AV.undef) 1) then .stop (.inr (.inl (fI (t1.getD t5.toNat AV.undef) 0, fI (t1.getD t5.toNat AV.undef) 1)))
          else (ro (runW (R122_2 t0 t1 t5 (fI (t1.getD t5.toNat AV.undef) 0) (fI (t1.getD t5.toNat AV.undef) 1)) (((t0.length : Int) - 0).toNat + 1) 0) .fail (sumE (fun _ => .next (IntKind.i64.wrap (t5 + 1))) (fun _ => .stop (.inr (.inr (fI (t1.getD t5.toNat AV.undef) 0, fI (t1.getD t5.toNat AV.undef) 1)))))))
         else .fail))
       else .fail)
      else (ro (runW (R122_2 t0 t1 t5 (fI (t1.getD t5.toNat AV.undef) 0) (fI (t1.getD t5.toNat AV.undef) 1)) (((t0.length : Int) - 0).toNat + 1) 0) .fail (sumE (fun _ => .next (IntKind.i64.wrap (t5 + 1))) (fun _ => .stop (.inr (.inr (fI (t1.getD t5.toNat AV.undef) 0, fI (t1.getD t5.toNat AV.undef) 1)))))))))
   else .fail)
  else .stop (.inl ()))
def R122_0 (t0 : List AV) (t1 : List AV) : (Int) → Out (Int) (Unit ⊕ (Int × Int) ⊕ (Int × Int)) := fun s : Int => F122_0 t0 t1 s
def l122_0 : LModel := fun _ _ st k => match st with
  | ⟨[(0, .sl g0 t0), (1, .sl g1 t1), (5, .int .i64 t5)], []⟩ => bif ctsEq g0 ([.int .i64]) && ctsEq g1 ([.int .i64, .int .i64]) then ro (runW (R122_0 t0 t1) (((t1.length : Int) - t5).toNat + 1) t5) none (sumE (fun _ : Unit => k (.exit 0) ⟨[], []⟩) (sumE (fun p : Int × Int => k .ret ⟨[(4, AV.bool false)], [([1, 6], ⟨true, [], [AV.agg [AV.int .i64 p.1, AV.int .i64 p.2]]⟩)]⟩) (fun p : Int × Int => k .ret ⟨[(4, AV.bool false)], [([0, 6], ⟨true, [], [AV.agg [AV.int .i64 p.1, AV.int .i64 p.2]]⟩)]⟩))) else none
  | _ => none
noncomputable def c122 : Cfg := cfg Try.prog [(122, 0, [0, 1, 5]), (122, 2, [0, 1, 5, 6, 7]), (122, 999, [4]), (122, 1000, []), (122, 1001, [0, 1, 5]), (122, 1002, [0, 1, 5]), (122, 1003, [0, 1, 5, 6, 7])] [(68, m68)] [] [] [(122, 0, l122_0), (122, 2, l122_2)]
theorem s122_2 (ce : CallE) (t0 : List AV) (t1 : List AV) (t5 : Int) (t7 : Int) (h0_0 : Int) (h0_1 : Int) (next : St → Option AV) (k : Kont) : stepA (codeA c122 ce [] 122 2 (sub [1, 0, 1, 0, 0, 1, 0, 0, 1, 1, 1, 0, 0] (body Try.f122))) (normA [] [0, 1, 5, 6, 7]) next ⟨[(0, AV.sl [.int .i64] t0), (1, AV.sl [.int .i64, .int .i64] t1), (5, AV.int .i64 t5), (6, AV.ptr [0, 6] 0 0), (7, AV.int .i64 t7)], [([0, 6], ⟨true, [], [AV.agg [AV.int .i64 h0_0, AV.int .i64 h0_1]]⟩)]⟩ k = (bif decide (t7 < (t0.length : Int)) then (bif (decide (0 ≤ t7) && decide (t7 < (t0.length : Int))) then (bif !(decide (fI (t0.getD t7.toNat AV.undef) 0 < h0_0) == decide (t7 < h0_1)) then k .ret ⟨[(4, AV.bool false)], [([0, 6], ⟨true, [], [AV.agg [AV.int .i64 h0_0, AV.int .i64 h0_1]]⟩)]⟩
    else next ⟨[(0, AV.sl [.int .i64] t0), (1, AV.sl [.int .i64, .int .i64] t1), (5, AV.int .i64 t5), (6, AV.ptr [0, 6] 0 0), (7, AV.int .i64 (IntKind.i64.wrap (t7 + 1)))], [([0, 6], ⟨true, [], [AV.agg [AV.int .i64 h0_0, AV.int .i64 h0_1]]⟩)]⟩)
   else none)
  else k (.exit 2) ⟨[(0, AV.sl [.int .i64] t0), (1, AV.sl [.int .i64, .int .i64] t1), (5, AV.int .i64 t5)], [([0, 6], ⟨true, [], [AV.agg [AV.int .i64 h0_0, AV.int .i64 h0_1]]⟩)]⟩) := by kernel_rfl
theorem st122_2 (t0 : List AV) (t1 : List AV) (t5 : Int) (h0_0 : Int) (h0_1 : Int) (ce : CallE) (k : Kont) (s : Int) (next : St → Option AV) : stepA (codeA c122 ce [] 122 2 (sub [1, 0, 1, 0, 0, 1, 0, 0, 1, 1, 1, 0, 0] (body Try.f122))) (normA [] [0, 1, 5, 6, 7]) next ((fun s : Int => ⟨[(0, AV.sl [.int .i64] t0), (1, AV.sl [.int .i64, .int .i64] t1), (5, AV.int .i64 t5), (6, AV.ptr [0, 6] 0 0), (7, AV.int .i64 s)], [([0, 6], ⟨true, [], [AV.agg [AV.int .i64 h0_0, AV.int .i64 h0_1]]⟩)]⟩) s) k = (R122_2 t0 t1 t5 h0_0 h0_1 s).el none (fun s => next ((fun s : Int => ⟨[(0, AV.sl [.int .i64] t0), (1, AV.sl [.int .i64, .int .i64] t1), (5, AV.int .i64 t5), (6, AV.ptr [0, 6] 0 0), (7, AV.int .i64 s)], [([0, 6], ⟨true, [], [AV.agg [AV.int .i64 h0_0, AV.int .i64 h0_1]]⟩)]⟩) s)) (sumE (fun _ : Unit => k (.exit 2) ⟨[(0, AV.sl [.int .i64] t0), (1, AV.sl [.int .i64, .int .i64] t1), (5, AV.int .i64 t5)], [([0, 6], ⟨true, [], [AV.agg [AV.int .i64 h0_0, AV.int .i64 h0_1]]⟩)]⟩) (fun _ : Unit => k .ret ⟨[(4, AV.bool false)], [([0, 6], ⟨true, [], [AV.agg [AV.int .i64 h0_0, AV.int .i64 h0_1]]⟩)]⟩)) := (s122_2 ce t0 t1 t5 s h0_0 h0_1 next k).trans (by unfold R122_2; unfold F122_2; simp only [el_cond, el_ro, el_sum, el_fail, el_next, el_stop] <;> rfl)
theorem ok122_2 {ce : CallE} : LoopOK c122 ce [] 122 2 (sub [1, 0, 1, 0, 0, 1, 0, 0, 1, 1, 1, 0, 0] (body Try.f122)) := by
  intro m hm st k r h
  obtain rfl : l122_2 = m := Option.some.inj hm
  unfold l122_2 at h
  split at h
  · rename_i g0 t0 g1 t1 t5 g2 g3 g4 t7 g5 h0_0 h0_1
    obtain ⟨hg, h⟩ := bif_some h
    simp only [Bool.and_eq_true] at hg
    obtain ⟨⟨⟨⟨⟨q0, q1⟩, q2⟩, q3⟩, q4⟩, q5⟩ := hg
    obtain rfl := ctsEq_eq _ _ q0
    obtain rfl := ctsEq_eq _ _ q1
    obtain rfl := (nmEq_iff _ _).1 q2
    obtain rfl := Nat.eq_of_beq_eq_true q3
    obtain rfl := Nat.eq_of_beq_eq_true q4
    obtain rfl := (nmEq_iff _ _).1 q5
    refine ⟨(((t0.length : Int) - t7).toNat + 1), ?_⟩
    rw [← h]
    exact loop_run (fun s : Int => ⟨[(0, AV.sl [.int .i64] t0), (1, AV.sl [.int .i64, .int .i64] t1), (5, AV.int .i64 t5), (6, AV.ptr [0, 6] 0 0), (7, AV.int .i64 s)], [([0, 6], ⟨true, [], [AV.agg [AV.int .i64 h0_0, AV.int .i64 h0_1]]⟩)]⟩) (sumE (fun _ : Unit => k (.exit 2) ⟨[(0, AV.sl [.int .i64] t0), (1, AV.sl [.int .i64, .int .i64] t1), (5, AV.int .i64 t5)], [([0, 6], ⟨true, [], [AV.agg [AV.int .i64 h0_0, AV.int .i64 h0_1]]⟩)]⟩) (fun _ : Unit => k .ret ⟨[(4, AV.bool false)], [([0, 6], ⟨true, [], [AV.agg [AV.int .i64 h0_0, AV.int .i64 h0_1]]⟩)]⟩)) (st122_2 t0 t1 t5 h0_0 h0_1 ce k) _ t7
  · cases h
theorem s122_0 (ce : CallE) (t0 : List AV) (t1 : List AV) (t5 : Int) (next : St → Option AV) (k : Kont) : stepA (codeA c122 ce [] 122 0 (sub [1, 0, 1, 0, 0] (body Try.f122))) (normA [] [0, 1, 5]) next ⟨[(0, AV.sl [.int .i64] t0), (1, AV.sl [.int .i64, .int .i64] t1), (5, AV.int .i64 t5)], []⟩ k = (bif decide (t5 < (t1.length : Int)) then (bif (decide (0 ≤ t5) && decide (t5 < (t1.length : Int))) then (bif !(v68_0 (fI (t1.getD t5.toNat AV.undef) 0) (-1000) 1000) then k .ret ⟨[(4, AV.bool false)], [([1, 6], ⟨true, [], [AV.agg [AV.int .i64 (fI (t1.getD t5.toNat AV.undef) 0), AV.int .i64 (fI (t1.getD t5.toNat AV.undef) 1)]]⟩)]⟩
    else (bif !(v68_0 (fI (t1.getD t5.toNat AV.undef) 1) 0 (t0.length : Int)) then k .ret ⟨[(4, AV.bool false)], [([1, 6], ⟨true, [], [AV.agg [AV.int .i64 (fI (t1.getD t5.toNat AV.undef) 0), AV.int .i64 (fI (t1.getD t5.toNat AV.undef) 1)]]⟩)]⟩
     else (bif decide (t5 > 0) then (bif (decide (0 ≤ IntKind.i64.wrap (t5 - 1)) && decide (IntKind.i64.wrap (t5 - 1) < (t1.length : Int))) then (bif decide (fI (t1.getD t5.toNat AV.undef) 0 ≤ fI (t1.getD (IntKind.i64.wrap (t5 - 1)).toNat AV.undef) 0) then k .ret ⟨[(4, AV.bool false)], [([1, 6], ⟨true, [], [AV.agg [AV.int .i64 (fI (t1.getD t5.toNat AV.undef) 0), AV.int .i64 (fI (t1.getD t5.toNat AV.undef) 1)]]⟩)]⟩
        else (bif (decide (0 ≤ IntKind.i64.wrap (t5 - 1)) && decide (IntKind.i64.wrap (t5 - 1) < (t1.length : Int))) then (bif decide (fI (t1.getD t5.toNat AV.undef) 1 < fI (t1.getD (IntKind.i64.wrap (t5 - 1)).toNat AV.undef) 1) then k .ret ⟨[(4, AV.bool false)], [([1, 6], ⟨true, [], [AV.agg [AV.int .i64 (fI (t1.getD t5.toNat AV.undef) 0), AV.int .i64 (fI (t1.getD t5.toNat AV.undef) 1)]]⟩)]⟩
          else (ro (runW (R122_2 t0 t1 t5 (fI (t1.getD t5.toNat AV.undef) 0) (fI (t1.getD t5.toNat AV.undef) 1)) (((t0.length : Int) - 0).toNat + 1) 0) none (sumE (fun _ => next ⟨[(0, AV.sl [.int .i64] t0), (1, AV.sl [.int .i64, .int .i64] t1), (5, AV.int .i64 (IntKind.i64.wrap (t5 + 1)))], []⟩) (fun _ => k .ret ⟨[(4, AV.bool false)], [([0, 6], ⟨true, [], [AV.agg [AV.int .i64 (fI (t1.getD t5.toNat AV.undef) 0), AV.int .i64 (fI (t1.getD t5.toNat AV.undef) 1)]]⟩)]⟩))))
         else none))
       else none)
      else (ro (runW (R122_2 t0 t1 t5 (fI (t1.getD t5.toNat AV.undef) 0) (fI (t1.getD t5.toNat AV.undef) 1)) (((t0.length : Int) - 0).toNat + 1) 0) none (sumE (fun _ => next ⟨[(0, AV.sl [.int .i64] t0), (1, AV.sl [.int .i64, .int .i64] t1), (5, AV.int .i64 (IntKind.i64.wrap (t5 + 1)))], []⟩) (fun _ => k .ret ⟨[(4, AV.bool false)], [([0, 6], ⟨true, [], [AV.agg [AV.int .i64 (fI (t1.getD t5.toNat AV.undef) 0), AV.int .i64 (fI (t1.getD t5.toNat AV.undef) 1)]]⟩)]⟩))))))
   else none)
  else k (.exit 0) ⟨[], []⟩) := by kernel_rfl
theorem st122_0 (t0 : List AV) (t1 : List AV) (ce : CallE) (k : Kont) (s : Int) (next : St → Option AV) : stepA (codeA c122 ce [] 122 0 (sub [1, 0, 1, 0, 0] (body Try.f122))) (normA [] [0, 1, 5]) next ((fun s : Int => ⟨[(0, AV.sl [.int .i64] t0), (1, AV.sl [.int .i64, .int .i64] t1), (5, AV.int .i64 s)], []⟩) s) k = (R122_0 t0 t1 s).el none (fun s => next ((fun s : Int => ⟨[(0, AV.sl [.int .i64] t0), (1, AV.sl [.int .i64, .int .i64] t1), (5, AV.int .i64 s)], []⟩) s)) (sumE (fun _ : Unit => k (.exit 0) ⟨[], []⟩) (sumE (fun p : Int × Int => k .ret ⟨[(4, AV.bool false)], [([1, 6], ⟨true, [], [AV.agg [AV.int .i64 p.1, AV.int .i64 p.2]]⟩)]⟩) (fun p : Int × Int => k .ret ⟨[(4, AV.bool false)], [([0, 6], ⟨true, [], [AV.agg [AV.int .i64 p.1, AV.int .i64 p.2]]⟩)]⟩))) := (s122_0 ce t0 t1 s next k).trans (by unfold R122_0; unfold F122_0; simp only [el_cond, el_ro, el_sum, el_fail, el_next, el_stop] <;> rfl)
theorem ok122_0 {ce : CallE} : LoopOK c122 ce [] 122 0 (sub [1, 0, 1, 0, 0] (body Try.f122)) := by
  intro m hm st k r h
  obtain rfl : l122_0 = m := Option.some.inj hm
  unfold l122_0 at h
  split at h
  · rename_i g0 t0 g1 t1 t5
    obtain ⟨hg, h⟩ := bif_some h
    simp only [Bool.and_eq_true] at hg
    obtain ⟨q0, q1⟩ := hg
    obtain rfl := ctsEq_eq _ _ q0
    obtain rfl := ctsEq_eq _ _ q1
    refine ⟨(((t1.length : Int) - t5).toNat + 1), ?_⟩
    rw [← h]
    exact loop_run (fun s : Int => ⟨[(0, AV.sl [.int .i64] t0), (1, AV.sl [.int .i64, .int .i64] t1), (5, AV.int .i64 s)], []⟩) (sumE (fun _ : Unit => k (.exit 0) ⟨[], []⟩) (sumE (fun p : Int × Int => k .ret ⟨[(4, AV.bool false)], [([1, 6], ⟨true, [], [AV.agg [AV.int .i64 p.1, AV.int .i64 p.2]]⟩)]⟩) (fun p : Int × Int => k .ret ⟨[(4, AV.bool false)], [([0, 6], ⟨true, [], [AV.agg [AV.int .i64 p.1, AV.int .i64 p.2]]⟩)]⟩))) (st122_0 t0 t1 ce k) _ t5
  · cases h
def q122 (a0 : List AV) (a1 : List AV) : Bool := (ro (runW (R122_0 a0 a1) (((a1.length : Int) - 0).toNat + 1) 0) false (sumE (fun _ => true) (sumE (fun p14 => true) (fun p15 => true))))
def v122_0 (a0 : List AV) (a1 : List AV) : Bool := (ro (runW (R122_0 a0 a1) (((a1.length : Int) - 0).toNat + 1) 0) false (sumE (fun _ => true) (sumE (fun p14 => false) (fun p15 => false))))
theorem e122 (a0 : List AV) (a1 : List AV) : funA c122 0 122 [AV.sl [.int .i64] a0, AV.sl [.int .i64, .int .i64] a1] = (ro (runW (R122_0 a0 a1) (((a1.length : Int) - 0).toNat + 1) 0) none (sumE (fun _ => some (AV.bool true)) (sumE (fun p14 => some (AV.bool false)) (fun p15 => some (AV.bool false))))) := by kernel_rfl
theorem r122 (a0 : List AV) (a1 : List AV) (h : q122 a0 a1 = true) : funA c122 0 122 [AV.sl [.int .i64] a0, AV.sl [.int .i64, .int .i64] a1] = some (AV.bool (v122_0 a0 a1)) := (e122 a0 a1).trans ((brO (fun o : Option (Unit ⊕ (Int × Int) ⊕ (Int × Int)) => some (AV.bool (ro o false (sumE (fun _ => true) (sumE (fun p14 => false) (fun p15 => false)))))) (brS (fun o : Unit ⊕ (Int × Int) ⊕ (Int × Int) => some (AV.bool ((sumE (fun _ => true) (sumE (fun p14 => false) (fun p15 => false))) o))) (fun _ => (fun _ => rfl)) (brS (fun o : (Int × Int) ⊕ (Int × Int) => some (AV.bool ((sumE (fun p14 => false) (fun p15 => false)) o))) (fun p14 => (fun _ => rfl)) (fun p15 => (fun _ => rfl))))) h)
def m122 : TModel
  | [.sl g0 a0, .sl g1 a1] => bif ctsEq g0 ([.int .i64]) && ctsEq g1 ([.int .i64, .int .i64]) then some (q122 a0 a1, AV.bool (v122_0 a0 a1)) else none
  | _ => none
theorem k122 : Known Try.prog 122 := ⟨Try.f122, Try.func122, by kernel_rfl, by kernel_rfl⟩
theorem meets122 : Meets Try.prog 122 m122 := by
  refine meet (f := Try.f122) (l := [(0, sub [1, 0, 1, 0, 0] (body Try.f122)), (2, sub [1, 0, 1, 0, 0, 1, 0, 0, 1, 1, 1, 0, 0] (body Try.f122))]) (hs := [(122, 0, [0, 1, 5]), (122, 2, [0, 1, 5, 6, 7]), (122, 999, [4]), (122, 1000, []), (122, 1001, [0, 1, 5]), (122, 1002, [0, 1, 5]), (122, 1003, [0, 1, 5, 6, 7])]) (ts := [(68, m68)]) (ws := []) (is := []) (ls := [(122, 0, l122_0), (122, 2, l122_2)]) (lvl := 0) mixed k122 Try.func122 (by kernel_rfl) (loops_cons ok122_0 (loops_cons ok122_2 noLoop)) (allT_cons meets68 allT_nil) allM_nil noI fun w xs us r hl hv h => ?_
  unfold m122 at h
  split at h
  · rename_i g0 a0 g1 a1
    obtain ⟨hg, h⟩ := bif_pair h
    simp only [Bool.and_eq_true] at hg
    obtain ⟨q0, q1⟩ := hg
    obtain rfl := ctsEq_eq _ _ q0
    obtain rfl := ctsEq_eq _ _ q1
    obtain ⟨h1, rfl⟩ := pair_inj h
    exact r122 a0 a1 h1
  · cases h

/-! ### 67 loop.example/g01984/spec.IsCracker -/
def F67_0 (h0_0 : List AV) (h0_1 : List AV) (h0_2 : List AV) (t3 : Int) : Out (Int) (Unit ⊕ Unit) := (bif decide (t3 < (h0_1.length : Int)) then (bif (decide (0 ≤ t3) && decide (t3 < (h0_1.length : Int))) then (bif !(v68_0 (fI (h0_1.getD t3.toNat AV.undef) 0) 0 999) then .stop (.inr ())
    else (bif (decide (0 ≤ 0) && decide (0 ≤ t3) && decide (t3 ≤ (h0_1.length : Int))) then (bif (decide (0 ≤ t3) && decide (t3 < (h0_1.length : Int))) then (bif q116 ((h0_1.take (Int.toNat t3)).drop (Int.toNat 0)) (fI (h0_1.getD t3.toNat AV.undef) 0) then (bif (v116_0 ((h0_1.take (Int.toNat t3)).drop (Int.toNat 0)) (fI (h0_1.getD t3.toNat AV.undef) 0)) then .stop (.inr ())
        else .next (IntKind.i64.wrap (t3 + 1)))
       else .fail)
      else .fail)
     else .fail))
   else .fail)
  else .stop (.inl ()))
def R67_0 (h0_0 : List AV) (h0_1 : List AV) (h0_2 : List AV) : (Int) → Out (Int) (Unit ⊕ Unit) := fun s : Int => F67_0 h0_0 h0_1 h0_2 s
def l67_0 : LModel := fun _ _ st k => match st with
  | ⟨[(1, .ptr g0 g1 g2), (3, .int .i64 t3)], [(g3, ⟨true, [], [.agg [.sl g4 h0_0, .sl g5 h0_1, .sl g6 h0_2]]⟩)]⟩ => bif nmEq g0 ([0, 1]) && Nat.beq g1 0 && Nat.beq g2 0 && nmEq g3 ([0, 1]) && ctsEq g4 ([.int .i64]) && ctsEq g5 ([.int .i64]) && ctsEq g6 ([.int .i64, .int .i64]) then ro (runW (R67_0 h0_0 h0_1 h0_2) (((h0_1.length : Int) - t3).toNat + 1) t3) none (sumE (fun _ : Unit => k (.exit 0) ⟨[(1, AV.ptr [0, 1] 0 0)], [([0, 1], ⟨true, [], [AV.agg [AV.sl [.int .i64] h0_0, AV.sl [.int .i64] h0_1, AV.sl [.int .i64, .int .i64] h0_2]]⟩)]⟩) (fun _ : Unit => k .ret ⟨[(2, AV.bool false)], [([0, 1], ⟨true, [], [AV.agg [AV.sl [.int .i64] h0_0, AV.sl [.int .i64] h0_1, AV.sl [.int .i64, .int .i64] h0_2]]⟩)]⟩)) else none
  | _ => none
noncomputable def c67 : Cfg := cfg Try.prog [(67, 0, [1, 3]), (67, 999, [2]), (67, 1000, [1]), (67, 1001, [1, 3])] [(68, m68), (103, m103), (116, m116), (122, m122)] [] [] [(67, 0, l67_0)]
theorem s67_0 (ce : CallE) (t3 : Int) (h0_0 : List AV) (h0_1 : List AV) (h0_2 : List AV) (next : St → Option AV) (k : Kont) : stepA (codeA c67 ce [] 67 0 (sub [1, 1, 0, 1, 0, 0] (body Try.f67))) (normA [] [1, 3]) next ⟨[(1, AV.ptr [0, 1] 0 0), (3, AV.int .i64 t3)], [([0, 1], ⟨true, [], [AV.agg [AV.sl [.int .i64] h0_0, AV.sl [.int .i64] h0_1, AV.sl [.int .i64, .int .i64] h0_2]]⟩)]⟩ k = (bif decide (t3 < (h0_1.length : Int)) then (bif (decide (0 ≤ t3) && decide (t3 < (h0_1.length : Int))) then (bif !(v68_0 (fI (h0_1.getD t3.toNat AV.undef) 0) 0 999) then k .ret ⟨[(2, AV.bool false)], [([0, 1], ⟨true, [], [AV.agg [AV.sl [.int .i64] h0_0, AV.sl [.int .i64] h0_1, AV.sl [.int .i64, .int .i64] h0_2]]⟩)]⟩
    else (bif (decide (0 ≤ 0) && decide (0 ≤ t3) && decide (t3 ≤ (h0_1.length : Int))) then (bif (decide (0 ≤ t3) && decide (t3 < (h0_1.length : Int))) then (bif q116 ((h0_1.take (Int.toNat t3)).drop (Int.toNat 0)) (fI (h0_1.getD t3.toNat AV.undef) 0) then (bif (v116_0 ((h0_1.take (Int.toNat t3)).drop (Int.toNat 0)) (fI (h0_1.getD t3.toNat AV.undef) 0)) then k .ret ⟨[(2, AV.bool false)], [([0, 1], ⟨true, [], [AV.agg [AV.sl [.int .i64] h0_0, AV.sl [.int .i64] h0_1, AV.sl [.int .i64, .int .i64] h0_2]]⟩)]⟩
        else next ⟨[(1, AV.ptr [0, 1] 0 0), (3, AV.int .i64 (IntKind.i64.wrap (t3 + 1)))], [([0, 1], ⟨true, [], [AV.agg [AV.sl [.int .i64] h0_0, AV.sl [.int .i64] h0_1, AV.sl [.int .i64, .int .i64] h0_2]]⟩)]⟩)
       else none)
      else none)
     else none))
   else none)
  else k (.exit 0) ⟨[(1, AV.ptr [0, 1] 0 0)], [([0, 1], ⟨true, [], [AV.agg [AV.sl [.int .i64] h0_0, AV.sl [.int .i64] h0_1, AV.sl [.int .i64, .int .i64] h0_2]]⟩)]⟩) := by kernel_rfl
theorem st67_0 (h0_0 : List AV) (h0_1 : List AV) (h0_2 : List AV) (ce : CallE) (k : Kont) (s : Int) (next : St → Option AV) : stepA (codeA c67 ce [] 67 0 (sub [1, 1, 0, 1, 0, 0] (body Try.f67))) (normA [] [1, 3]) next ((fun s : Int => ⟨[(1, AV.ptr [0, 1] 0 0), (3, AV.int .i64 s)], [([0, 1], ⟨true, [], [AV.agg [AV.sl [.int .i64] h0_0, AV.sl [.int .i64] h0_1, AV.sl [.int .i64, .int .i64] h0_2]]⟩)]⟩) s) k = (R67_0 h0_0 h0_1 h0_2 s).el none (fun s => next ((fun s : Int => ⟨[(1, AV.ptr [0, 1] 0 0), (3, AV.int .i64 s)], [([0, 1], ⟨true, [], [AV.agg [AV.sl [.int .i64] h0_0, AV.sl [.int .i64] h0_1, AV.sl [.int .i64, .int .i64] h0_2]]⟩)]⟩) s)) (sumE (fun _ : Unit => k (.exit 0) ⟨[(1, AV.ptr [0, 1] 0 0)], [([0, 1], ⟨true, [], [AV.agg [AV.sl [.int .i64] h0_0, AV.sl [.int .i64] h0_1, AV.sl [.int .i64, .int .i64] h0_2]]⟩)]⟩) (fun _ : Unit => k .ret ⟨[(2, AV.bool false)], [([0, 1], ⟨true, [], [AV.agg [AV.sl [.int .i64] h0_0, AV.sl [.int .i64] h0_1, AV.sl [.int .i64, .int .i64] h0_2]]⟩)]⟩)) := (s67_0 ce s h0_0 h0_1 h0_2 next k).trans (by unfold R67_0; unfold F67_0; simp only [el_cond, el_ro, el_sum, el_fail, el_next, el_stop] <;> rfl)
theorem ok67_0 {ce : CallE} : LoopOK c67 ce [] 67 0 (sub [1, 1, 0, 1, 0, 0] (body Try.f67)) := by
  intro m hm st k r h
  obtain rfl : l67_0 = m := Option.some.inj hm
  unfold l67_0 at h
  split at h
  · rename_i g0 g1 g2 t3 g3 g4 h0_0 g5 h0_1 g6 h0_2
    obtain ⟨hg, h⟩ := bif_some h
    simp only [Bool.and_eq_true] at hg
    obtain ⟨⟨⟨⟨⟨⟨q0, q1⟩, q2⟩, q3⟩, q4⟩, q5⟩, q6⟩ := hg
    obtain rfl := (nmEq_iff _ _).1 q0
    obtain rfl := Nat.eq_of_beq_eq_true q1
    obtain rfl := Nat.eq_of_beq_eq_true q2
    obtain rfl := (nmEq_iff _ _).1 q3
    obtain rfl := ctsEq_eq _ _ q4
    obtain rfl := ctsEq_eq _ _ q5
    obtain rfl := ctsEq_eq _ _ q6
    refine ⟨(((h0_1.length : Int) - t3).toNat + 1), ?_⟩
    rw [← h]
    exact loop_run (fun s : Int => ⟨[(1, AV.ptr [0, 1] 0 0), (3, AV.int .i64 s)], [([0, 1], ⟨true, [], [AV.agg [AV.sl [.int .i64] h0_0, AV.sl [.int .i64] h0_1, AV.sl [.int .i64, .int .i64] h0_2]]⟩)]⟩) (sumE (fun _ : Unit => k (.exit 0) ⟨[(1, AV.ptr [0, 1] 0 0)], [([0, 1], ⟨true, [], [AV.agg [AV.sl [.int .i64] h0_0, AV.sl [.int .i64] h0_1, AV.sl [.int .i64, .int .i64] h0_2]]⟩)]⟩) (fun _ : Unit => k .ret ⟨[(2, AV.bool false)], [([0, 1], ⟨true, [], [AV.agg [AV.sl [.int .i64] h0_0, AV.sl [.int .i64] h0_1, AV.sl [.int .i64, .int .i64] h0_2]]⟩)]⟩)) (st67_0 h0_0 h0_1 h0_2 ce k) _ t3
  · cases h
def q67 (a0_0 : List AV) (a0_1 : List AV) (a0_2 : List AV) : Bool := (q103 a0_0 && (bif !(v103_0 a0_0) then true else (bif !decide ((a0_1.length : Int) = (a0_0.length : Int)) then true else (ro (runW (R67_0 a0_0 a0_1 a0_2) (((a0_1.length : Int) - 0).toNat + 1) 0) false (sumE (fun _ => q122 a0_0 a0_2) (fun _ => true))))))
def v67_0 (a0_0 : List AV) (a0_1 : List AV) (a0_2 : List AV) : Bool := (bif !(v103_0 a0_0) then false else (bif !decide ((a0_1.length : Int) = (a0_0.length : Int)) then false else (ro (runW (R67_0 a0_0 a0_1 a0_2) (((a0_1.length : Int) - 0).toNat + 1) 0) false (sumE (fun _ => (v122_0 a0_0 a0_2)) (fun _ => false)))))
theorem e67 (a0_0 : List AV) (a0_1 : List AV) (a0_2 : List AV) : funA c67 0 67 [AV.agg [AV.sl [.int .i64] a0_0, AV.sl [.int .i64] a0_1, AV.sl [.int .i64, .int .i64] a0_2]] = (bif q103 a0_0 then (bif !(v103_0 a0_0) then some (AV.bool false)
   else (bif !decide ((a0_1.length : Int) = (a0_0.length : Int)) then some (AV.bool false)
    else (ro (runW (R67_0 a0_0 a0_1 a0_2) (((a0_1.length : Int) - 0).toNat + 1) 0) none (sumE (fun _ => (bif q122 a0_0 a0_2 then some (AV.bool (v122_0 a0_0 a0_2))
      else none)) (fun _ => some (AV.bool false))))))
  else none) := by kernel_rfl
theorem r67 (a0_0 : List AV) (a0_1 : List AV) (a0_2 : List AV) (h : q67 a0_0 a0_1 a0_2 = true) : funA c67 0 67 [AV.agg [AV.sl [.int .i64] a0_0, AV.sl [.int .i64] a0_1, AV.sl [.int .i64, .int .i64] a0_2]] = some (AV.bool (v67_0 a0_0 a0_1 a0_2)) := (e67 a0_0 a0_1 a0_2).trans ((brL (br (fun b => some (AV.bool (bif b then false else (bif !decide ((a0_1.length : Int) = (a0_0.length : Int)) then false else (ro (runW (R67_0 a0_0 a0_1 a0_2) (((a0_1.length : Int) - 0).toNat + 1) 0) false (sumE (fun _ => (v122_0 a0_0 a0_2)) (fun _ => false))))))) (fun _ => rfl) (br (fun b => some (AV.bool (bif b then false else (ro (runW (R67_0 a0_0 a0_1 a0_2) (((a0_1.length : Int) - 0).toNat + 1) 0) false (sumE (fun _ => (v122_0 a0_0 a0_2)) (fun _ => false)))))) (fun _ => rfl) (brO (fun o : Option (Unit ⊕ Unit) => some (AV.bool (ro o false (sumE (fun _ => (v122_0 a0_0 a0_2)) (fun _ => false))))) (brS (fun o : Unit ⊕ Unit => some (AV.bool ((sumE (fun _ => (v122_0 a0_0 a0_2)) (fun _ => false)) o))) (fun _ => (brL1 (fun _ => rfl))) (fun _ => (fun _ => rfl))))))) h)
def m67 : TModel
  | [.agg [.sl g0 a0_0, .sl g1 a0_1, .sl g2 a0_2]] => bif ctsEq g0 ([.int .i64]) && ctsEq g1 ([.int .i64]) && ctsEq g2 ([.int .i64, .int .i64]) then some (q67 a0_0 a0_1 a0_2, AV.bool (v67_0 a0_0 a0_1 a0_2)) else none
  | _ => none
theorem k67 : Known Try.prog 67 := ⟨Try.f67, Try.func67, by kernel_rfl, by kernel_rfl⟩
theorem meets67 : Meets Try.prog 67 m67 := by
  refine meet (f := Try.f67) (l := [(0, sub [1, 1, 0, 1, 0, 0] (body Try.f67))]) (hs := [(67, 0, [1, 3]), (67, 999, [2]), (67, 1000, [1]), (67, 1001, [1, 3])]) (ts := [(68, m68), (103, m103), (116, m116), (122, m122)]) (ws := []) (is := []) (ls := [(67, 0, l67_0)]) (lvl := 0) mixed k67 Try.func67 (by kernel_rfl) (loops_cons ok67_0 noLoop) (allT_cons meets68 (allT_cons meets103 (allT_cons meets116 (allT_cons meets122 allT_nil)))) allM_nil noI fun w xs us r hl hv h => ?_
  unfold m67 at h
  split at h
  · rename_i g0 a0_0 g1 a0_1 g2 a0_2
    obtain ⟨hg, h⟩ := bif_pair h
    simp only [Bool.and_eq_true] at hg
    obtain ⟨⟨q0, q1⟩, q2⟩ := hg
    obtain rfl := ctsEq_eq _ _ q0
    obtain rfl := ctsEq_eq _ _ q1
    obtain rfl := ctsEq_eq _ _ q2
    obtain ⟨h1, rfl⟩ := pair_inj h
    exact r67 a0_0 a0_1 a0_2 h1
  · cases h

/-! ### 69 loop.example/g01984/spec.FindRow -/
def F69_0 (t1 : Int) (h0_0 : List AV) (h0_1 : List AV) (h0_2 : List AV) (t5 : Int) : Out (Int) (Unit ⊕ Int) := (bif decide (t5 < (h0_1.length : Int)) then (bif (decide (0 ≤ t5) && decide (t5 < (h0_1.length : Int))) then (bif decide (fI (h0_1.getD t5.toNat AV.undef) 0 = t1) then .stop (.inr t5)
    else .next (IntKind.i64.wrap (t5 + 1)))
   else .fail)
  else .stop (.inl ()))
def R69_0 (t1 : Int) (h0_0 : List AV) (h0_1 : List AV) (h0_2 : List AV) : (Int) → Out (Int) (Unit ⊕ Int) := fun s : Int => F69_0 t1 h0_0 h0_1 h0_2 s
def l69_0 : LModel := fun _ _ st k => match st with
  | ⟨[(1, .int .i64 t1), (2, .ptr g0 g1 g2), (5, .int .i64 t5)], [(g3, ⟨true, [], [.agg [.sl g4 h0_0, .sl g5 h0_1, .sl g6 h0_2]]⟩)]⟩ => bif nmEq g0 ([0, 2]) && Nat.beq g1 0 && Nat.beq g2 0 && nmEq g3 ([0, 2]) && ctsEq g4 ([.int .i64]) && ctsEq g5 ([.int .i64]) && ctsEq g6 ([.int .i64, .int .i64]) then ro (runW (R69_0 t1 h0_0 h0_1 h0_2) (((h0_1.length : Int) - t5).toNat + 1) t5) none (sumE (fun _ : Unit => k (.exit 0) ⟨[], [([0, 2], ⟨true, [], [AV.agg [AV.sl [.int .i64] h0_0, AV.sl [.int .i64] h0_1, AV.sl [.int .i64, .int .i64] h0_2]]⟩)]⟩) (fun p : Int => k .ret ⟨[(4, AV.int .i64 p)], [([0, 2], ⟨true, [], [AV.agg [AV.sl [.int .i64] h0_0, AV.sl [.int .i64] h0_1, AV.sl [.int .i64, .int .i64] h0_2]]⟩)]⟩)) else none
  | _ => none
noncomputable def c69 : Cfg := cfg Try.prog [(69, 0, [1, 2, 5]), (69, 999, [4]), (69, 1000, []), (69, 1001, [1, 2, 5])] [] [] [] [(69, 0, l69_0)]
theorem s69_0 (ce : CallE) (t1 : Int) (t5 : Int) (h0_0 : List AV) (h0_1 : List AV) (h0_2 : List AV) (next : St → Option AV) (k : Kont) : stepA (codeA c69 ce [] 69 0 (sub [1, 0, 1, 0, 0] (body Try.f69))) (normA [] [1, 2, 5]) next ⟨[(1, AV.int .i64 t1), (2, AV.ptr [0, 2] 0 0), (5, AV.int .i64 t5)], [([0, 2], ⟨true, [], [AV.agg [AV.sl [.int .i64] h0_0, AV.sl [.int .i64] h0_1, AV.sl [.int .i64, .int .i64] h0_2]]⟩)]⟩ k = (bif decide (t5 < (h0_1.length : Int)) then (bif (decide (0 ≤ t5) && decide (t5 < (h0_1.length : Int))) then (bif decide (fI (h0_1.getD t5.toNat AV.undef) 0 = t1) then k .ret ⟨[(4, AV.int .i64 t5)], [([0, 2], ⟨true, [], [AV.agg [AV.sl [.int .i64] h0_0, AV.sl [.int .i64] h0_1, AV.sl [.int .i64, .int .i64] h0_2]]⟩)]⟩
    else next ⟨[(1, AV.int .i64 t1), (2, AV.ptr [0, 2] 0 0), (5, AV.int .i64 (IntKind.i64.wrap (t5 + 1)))], [([0, 2], ⟨true, [], [AV.agg [AV.sl [.int .i64] h0_0, AV.sl [.int .i64] h0_1, AV.sl [.int .i64, .int .i64] h0_2]]⟩)]⟩)
   else none)
  else k (.exit 0) ⟨[], [([0, 2], ⟨true, [], [AV.agg [AV.sl [.int .i64] h0_0, AV.sl [.int .i64] h0_1, AV.sl [.int .i64, .int .i64] h0_2]]⟩)]⟩) := by kernel_rfl
theorem st69_0 (t1 : Int) (h0_0 : List AV) (h0_1 : List AV) (h0_2 : List AV) (ce : CallE) (k : Kont) (s : Int) (next : St → Option AV) : stepA (codeA c69 ce [] 69 0 (sub [1, 0, 1, 0, 0] (body Try.f69))) (normA [] [1, 2, 5]) next ((fun s : Int => ⟨[(1, AV.int .i64 t1), (2, AV.ptr [0, 2] 0 0), (5, AV.int .i64 s)], [([0, 2], ⟨true, [], [AV.agg [AV.sl [.int .i64] h0_0, AV.sl [.int .i64] h0_1, AV.sl [.int .i64, .int .i64] h0_2]]⟩)]⟩) s) k = (R69_0 t1 h0_0 h0_1 h0_2 s).el none (fun s => next ((fun s : Int => ⟨[(1, AV.int .i64 t1), (2, AV.ptr [0, 2] 0 0), (5, AV.int .i64 s)], [([0, 2], ⟨true, [], [AV.agg [AV.sl [.int .i64] h0_0, AV.sl [.int .i64] h0_1, AV.sl [.int .i64, .int .i64] h0_2]]⟩)]⟩) s)) (sumE (fun _ : Unit => k (.exit 0) ⟨[], [([0, 2], ⟨true, [], [AV.agg [AV.sl [.int .i64] h0_0, AV.sl [.int .i64] h0_1, AV.sl [.int .i64, .int .i64] h0_2]]⟩)]⟩) (fun p : Int => k .ret ⟨[(4, AV.int .i64 p)], [([0, 2], ⟨true, [], [AV.agg [AV.sl [.int .i64] h0_0, AV.sl [.int .i64] h0_1, AV.sl [.int .i64, .int .i64] h0_2]]⟩)]⟩)) := (s69_0 ce t1 s h0_0 h0_1 h0_2 next k).trans (by unfold R69_0; unfold F69_0; simp only [el_cond, el_ro, el_sum, el_fail, el_next, el_stop] <;> rfl)
theorem ok69_0 {ce : CallE} : LoopOK c69 ce [] 69 0 (sub [1, 0, 1, 0, 0] (body Try.f69)) := by
  intro m hm st k r h
  obtain rfl : l69_0 = m := Option.some.inj hm
  unfold l69_0 at h
  split at h
  · rename_i t1 g0 g1 g2 t5 g3 g4 h0_0 g5 h0_1 g6 h0_2
    obtain ⟨hg, h⟩ := bif_some h
    simp only [Bool.and_eq_true] at hg
    obtain ⟨⟨⟨⟨⟨⟨q0, q1⟩, q2⟩, q3⟩, q4⟩, q5⟩, q6⟩ := hg
    obtain rfl := (nmEq_iff _ _).1 q0
    obtain rfl := Nat.eq_of_beq_eq_true q1
    obtain rfl := Nat.eq_of_beq_eq_true q2
    obtain rfl := (nmEq_iff _ _).1 q3
    obtain rfl := ctsEq_eq _ _ q4
    obtain rfl := ctsEq_eq _ _ q5
    obtain rfl := ctsEq_eq _ _ q6
    refine ⟨(((h0_1.length : Int) - t5).toNat + 1), ?_⟩
    rw [← h]
    exact loop_run (fun s : Int => ⟨[(1, AV.int .i64 t1), (2, AV.ptr [0, 2] 0 0), (5, AV.int .i64 s)], [([0, 2], ⟨true, [], [AV.agg [AV.sl [.int .i64] h0_0, AV.sl [.int .i64] h0_1, AV.sl [.int .i64, .int .i64] h0_2]]⟩)]⟩) (sumE (fun _ : Unit => k (.exit 0) ⟨[], [([0, 2], ⟨true, [], [AV.agg [AV.sl [.int .i64] h0_0, AV.sl [.int .i64] h0_1, AV.sl [.int .i64, .int .i64] h0_2]]⟩)]⟩) (fun p : Int => k .ret ⟨[(4, AV.int .i64 p)], [([0, 2], ⟨true, [], [AV.agg [AV.sl [.int .i64] h0_0, AV.sl [.int .i64] h0_1, AV.sl [.int .i64, .int .i64] h0_2]]⟩)]⟩)) (st69_0 t1 h0_0 h0_1 h0_2 ce k) _ t5
  · cases h
def q69 (a0_0 : List AV) (a0_1 : List AV) (a0_2 : List AV) (a1 : Int) : Bool := (ro (runW (R69_0 a1 a0_0 a0_1 a0_2) (((a0_1.length : Int) - 0).toNat + 1) 0) false (sumE (fun _ => true) (fun p18 => true)))
def v69_0 (a0_0 : List AV) (a0_1 : List AV) (a0_2 : List AV) (a1 : Int) : Int := (ro (runW (R69_0 a1 a0_0 a0_1 a0_2) (((a0_1.length : Int) - 0).toNat + 1) 0) 0 (sumE (fun _ => (-1)) (fun p18 => p18)))
theorem e69 (a0_0 : List AV) (a0_1 : List AV) (a0_2 : List AV) (a1 : Int) : funA c69 0 69 [AV.agg [AV.sl [.int .i64] a0_0, AV.sl [.int .i64] a0_1, AV.sl [.int .i64, .int .i64] a0_2], AV.int .i64 a1] = (ro (runW (R69_0 a1 a0_0 a0_1 a0_2) (((a0_1.length : Int) - 0).toNat + 1) 0) none (sumE (fun _ => some (AV.int .i64 (-1))) (fun p18 => some (AV.int .i64 p18)))) := by kernel_rfl
theorem r69 (a0_0 : List AV) (a0_1 : List AV) (a0_2 : List AV) (a1 : Int) (h : q69 a0_0 a0_1 a0_2 a1 = true) : funA c69 0 69 [AV.agg [AV.sl [.int .i64] a0_0, AV.sl [.int .i64] a0_1, AV.sl [.int .i64, .int .i64] a0_2], AV.int .i64 a1] = some (AV.int .i64 (v69_0 a0_0 a0_1 a0_2 a1)) := (e69 a0_0 a0_1 a0_2 a1).trans ((brO (fun o : Option (Unit ⊕ Int) => some (AV.int .i64 (ro o 0 (sumE (fun _ => (-1)) (fun p18 => p18))))) (brS (fun o : Unit ⊕ Int => some (AV.int .i64 ((sumE (fun _ => (-1)) (fun p18 => p18)) o))) (fun _ => (fun _ => rfl)) (fun p18 => (fun _ => rfl)))) h)
def m69 : TModel
  | [.agg [.sl g0 a0_0, .sl g1 a0_1, .sl g2 a0_2], .int .i64 a1] => bif ctsEq g0 ([.int .i64]) && ctsEq g1 ([.int .i64]) && ctsEq g2 ([.int .i64, .int .i64]) then some (q69 a0_0 a0_1 a0_2 a1, AV.int .i64 (v69_0 a0_0 a0_1 a0_2 a1)) else none
  | _ => none
theorem k69 : Known Try.prog 69 := ⟨Try.f69, Try.func69, by kernel_rfl, by kernel_rfl⟩
theorem meets69 : Meets Try.prog 69 m69 := by
  refine meet (f := Try.f69) (l := [(0, sub [1, 0, 1, 0, 0] (body Try.f69))]) (hs := [(69, 0, [1, 2, 5]), (69, 999, [4]), (69, 1000, []), (69, 1001, [1, 2, 5])]) (ts := []) (ws := []) (is := []) (ls := [(69, 0, l69_0)]) (lvl := 0) mixed k69 Try.func69 (by kernel_rfl) (loops_cons ok69_0 noLoop) allT_nil allM_nil noI fun w xs us r hl hv h => ?_
  unfold m69 at h
  split at h
  · rename_i g0 a0_0 g1 a0_1 g2 a0_2 a1
    obtain ⟨hg, h⟩ := bif_pair h
    simp only [Bool.and_eq_true] at hg
    obtain ⟨⟨q0, q1⟩, q2⟩ := hg
    obtain rfl := ctsEq_eq _ _ q0
    obtain rfl := ctsEq_eq _ _ q1
    obtain rfl := ctsEq_eq _ _ q2
    obtain ⟨h1, rfl⟩ := pair_inj h
    exact r69 a0_0 a0_1 a0_2 a1 h1
  · cases h

/-! ### 16 loop.example/g01984/spec.IsStore -/
def F16_0 (h0_0 : List AV) (h0_1 : Int) (h0_2 : List AV) (h0_3 : List AV) (h0_4 : List AV) (t3 : Int) : Out (Int) (Unit ⊕ (Int × Int × Int × Int)) := (bif decide (t3 < (h0_0.length : Int)) then (bif (decide (0 ≤ t3) && decide (t3 < (h0_0.length : Int))) then (bif q69 h0_2 h0_3 h0_4 (fI (h0_0.getD t3.toNat AV.undef) 1) then (bif decide ((v69_0 h0_2 h0_3 h0_4 (fI (h0_0.getD t3.toNat AV.undef) 1)) < 0) then .stop (.inr (fI (h0_0.getD t3.toNat AV.undef) 0, fI (h0_0.getD t3.toNat AV.undef) 1, fI (h0_0.getD t3.toNat AV.undef) 2, fI (h0_0.getD t3.toNat AV.undef) 3))
     else (bif (decide (0 ≤ (v69_0 h0_2 h0_3 h0_4 (fI (h0_0.getD t3.toNat AV.undef) 1))) && decide ((v69_0 h0_2 h0_3 h0_4 (fI (h0_0.getD t3.toNat AV.undef) 1)) < (h0_2.length : Int))) then (bif !decide (fI (h0_2.getD (v69_0 h0_2 h0_3 h0_4 (fI (h0_0.getD t3.toNat AV.undef) 1)).toNat AV.undef) 0 = fI (h0_0.getD t3.toNat AV.undef) 0) then .stop (.inr (fI (h0_0.getD t3.toNat AV.undef) 0, fI (h0_0.getD t3.toNat AV.undef) 1, fI (h0_0.getD t3.toNat AV.undef) 2, fI (h0_0.getD t3.toNat AV.undef) 3))
       else (bif decide (t3 > 0) then (bif (decide (0 ≤ IntKind.i64.wrap (t3 - 1)) && decide (IntKind.i64.wrap (t3 - 1) < (h0_0.length : Int))) then (bif decide (fI (h0_0.getD t3.toNat AV.undef) 1 ≤ fI (h0_0.getD (IntKind.i64.wrap (t3 - 1)).toNat AV.undef) 1) then .stop (.inr (fI (h0_0.getD t3.toNat AV.undef) 0, fI (h0_0.getD t3.toNat AV.undef) 1, fI (h0_0.getD t3.toNat AV.undef) 2, fI (h0_0.getD t3.toNat AV.undef) 3))
          else (bif !(v68_0 (fI (h0_0.getD t3.toNat AV.undef) 2) 0 h0_1) then .stop (.inr (fI (h0_0.getD t3.toNat AV.undef) 0, fI (h0_0.getD t3.toNat AV.undef) 1, fI (h0_0.getD t3.toNat AV.undef) 2, fI (h0_0.getD t3.toNat AV.undef) 3))
           else (bif !decide (fI (h0_0.getD t3.toNat AV.undef) 3 = (-1)) then (bif !(v68_0 (fI (h0_0.getD t3.toNat AV.undef) 3) (IntKind.i64.wrap (fI (h0_0.getD t3.toNat AV.undef) 2 + 1)) h0_1) then .stop (.inr (fI (h0_0.getD t3.toNat AV.undef) 0, fI (h0_0.getD t3.toNat AV.undef) 1, fI (h0_0.getD t3.toNat AV.undef) 2, fI (h0_0.getD t3.toNat AV.undef) 3))
             else .next (IntKind.i64.wrap (t3 + 1)))
            else .next (IntKind.i64.wrap (t3 + 1)))))
         else .fail)
        else (bif !(v68_0 (fI (h0_0.getD t3.toNat AV.undef) 2) 0 h0_1) then .stop (.inr (fI (h0_0.getD t3.toNat AV.undef) 0, fI (h0_0.getD t3.toNat AV.undef) 1, fI (h0_0.getD t3.toNat AV.undef) 2, fI (h0_0.getD t3.toNat AV.undef) 3))
         else (bif !decide (fI (h0_0.getD t3.toNat AV.undef) 3 = (-1)) then (bif !(v68_0 (fI (h0_0.getD t3.toNat AV.undef) 3) (IntKind.i64.wrap (fI (h0_0.getD t3.toNat AV.undef) 2 + 1)) h0_1) then .stop (.inr (fI (h0_0.getD t3.toNat AV.undef) 0, fI (h0_0.getD t3.toNat AV.undef) 1, fI (h0_0.getD t3.toNat AV.undef) 2, fI (h0_0.getD t3.toNat AV.undef) 3))
           else .next (IntKind.i64.wrap (t3 + 1)))
          else .next (IntKind.i64.wrap (t3 + 1))))))
      else .fail))
    else .fail)
   else .fail)
  else .stop (.inl ()))
def R16_0 (h0_0 : List AV) (h0_1 : Int) (h0_2 : List AV) (h0_3 : List AV) (h0_4 : List AV) : (Int) → Out (Int) (Unit ⊕ (Int × Int × Int × Int)) := fun s : Int => F16_0 h0_0 h0_1 h0_2 h0_3 h0_4 s
def l16_0 : LModel := fun _ _ st k => match st with
  | ⟨[(1, .ptr g0 g1 g2), (3, .int .i64 t3)], [(g3, ⟨true, [], [.agg [.sl g4 h0_0, .int .i64 h0_1, .sl g5 h0_2, .sl g6 h0_3, .sl g7 h0_4]]⟩)]⟩ => bif nmEq g0 ([0, 1]) && Nat.beq g1 0 && Nat.beq g2 0 && nmEq g3 ([0, 1]) && ctsEq g4 ([.int .i64, .int .i64, .int .i64, .int .i64]) && ctsEq g5 ([.int .i64]) && ctsEq g6 ([.int .i64]) && ctsEq g7 ([.int .i64, .int .i64]) then ro (runW (R16_0 h0_0 h0_1 h0_2 h0_3 h0_4) (((h0_0.length : Int) - t3).toNat + 1) t3) none (sumE (fun _ : Unit => k (.exit 0) ⟨[], [([0, 1], ⟨true, [], [AV.agg [AV.sl [.int .i64, .int .i64, .int .i64, .int .i64] h0_0, AV.int .i64 h0_1, AV.sl [.int .i64] h0_2, AV.sl [.int .i64] h0_3, AV.sl [.int .i64, .int .i64] h0_4]]⟩)]⟩) (fun p : Int × Int × Int × Int => k .ret ⟨[(2, AV.bool false)], [([0, 1], ⟨true, [], [AV.agg [AV.sl [.int .i64, .int .i64, .int .i64, .int .i64] h0_0, AV.int .i64 h0_1, AV.sl [.int .i64] h0_2, AV.sl [.int .i64] h0_3, AV.sl [.int .i64, .int .i64] h0_4]]⟩), ([1, 4], ⟨true, [], [AV.agg [AV.int .i64 p.1, AV.int .i64 p.2.1, AV.int .i64 p.2.2.1, AV.int .i64 p.2.2.2]]⟩)]⟩)) else none
  | _ => none
noncomputable def c16 : Cfg := cfg Try.prog [(16, 0, [1, 3]), (16, 999, [2]), (16, 1000, []), (16, 1001, [1, 3])] [(67, m67), (68, m68), (69, m69)] [] [] [(16, 0, l16_0)]
theorem s16_0 (ce : CallE) (t3 : Int) (h0_0 : List AV) (h0_1 : Int) (h0_2 : List AV) (h0_3 : List AV) (h0_4 : List AV) (next : St → Option AV) (k : Kont) : stepA (codeA c16 ce [] 16 0 (sub [1, 1, 0, 1, 0, 0] (body Try.f16))) (normA [] [1, 3]) next ⟨[(1, AV.ptr [0, 1] 0 0), (3, AV.int .i64 t3)], [([0, 1], ⟨true, [], [AV.agg [AV.sl [.int .i64, .int .i64, .int .i64, .int .i64] h0_0, AV.int .i64 h0_1, AV.sl [.int .i64] h0_2, AV.sl [.int .i64] h0_3, AV.sl [.int .i64, .int .i64] h0_4]]⟩)]⟩ k = (bif decide (t3 < (h0_0.length : Int)) then (bif (decide (0 ≤ t3) && decide (t3 < (h0_0.length : Int))) then (bif q69 h0_2 h0_3 h0_4 (fI (h0_0.getD t3.toNat AV.undef) 1) then (bif decide ((v69_0 h0_2 h0_3 h0_4 (fI (h0_0.getD t3.toNat AV.undef) 1)) < 0) then k .ret ⟨[(2, AV.bool false)], [([0, 1], ⟨true, [], [AV.agg [AV.sl [.int .i64, .int .i64, .int .i64, .int .i64] h0_0, AV.int .i64 h0_1, AV.sl [.int .i64] h0_2, AV.sl [.int .i64] h0_3, AV.sl [.int .i64, .int .i64] h0_4]]⟩), ([1, 4], ⟨true, [], [AV.agg [AV.int .i64 (fI (h0_0.getD t3.toNat AV.undef) 0), AV.int .i64 (fI (h0_0.getD t3.toNat AV.undef) 1), AV.int .i64 (fI (h0_0.getD t3.toNat AV.undef) 2), AV.int .i64 (fI (h0_0.getD t3.toNat AV.undef) 3)]]⟩)]⟩
     else (bif (decide (0 ≤ (v69_0 h0_2 h0_3 h0_4 (fI (h0_0.getD t3.toNat AV.undef) 1))) && decide ((v69_0 h0_2 h0_3 h0_4 (fI (h0_0.getD t3.toNat AV.undef) 1)) < (h0_2.length : Int))) then (bif !decide (fI (h0_2.getD (v69_0 h0_2 h0_3 h0_4 (fI (h0_0.getD t3.toNat AV.undef) 1)).toNat AV.undef) 0 = fI (h0_0.getD t3.toNat AV.undef) 0) then k .ret ⟨[(2, AV.bool false)], [([0, 1], ⟨true, [], [AV.agg [AV.sl [.int .i64, .int .i64, .int .i64, .int .i64] h0_0, AV.int .i64 h0_1, AV.sl [.int .i64] h0_2, AV.sl [.int .i64] h0_3, AV.sl [.int .i64, .int .i64] h0_4]]⟩), ([1, 4], ⟨true, [], [AV.agg [AV.int .i64 (fI (h0_0.getD t3.toNat AV.undef) 0), AV.int .i64 (fI (h0_0.getD t3.toNat AV.undef) 1), AV.int .i64 (fI (h0_0.getD t3.toNat AV.undef) 2), AV.int .i64 (fI (h0_0.getD t3.toNat AV.undef) 3)]]⟩)]⟩
       else (bif decide (t3 > 0) then (bif (decide (0 ≤ IntKind.i64.wrap (t3 - 1)) && decide (IntKind.i64.wrap (t3 - 1) < (h0_0.length : Int))) then (bif decide (fI (h0_0.getD t3.toNat AV.undef) 1 ≤ fI (h0_0.getD (IntKind.i64.wrap (t3 - 1)).toNat AV.undef) 1) then k .ret ⟨[(2, AV.bool false)], [([0, 1], ⟨true, [], [AV.agg [AV.sl [.int .i64, .int .i64, .int .i64, .int .i64] h0_0, AV.int .i64 h0_1, AV.sl [.int .i64] h0_2, AV.sl [.int .i64] h0_3, AV.sl [.int .i64, .int .i64] h0_4]]⟩), ([1, 4], ⟨true, [], [AV.agg [AV.int .i64 (fI (h0_0.getD t3.toNat AV.undef) 0), AV.int .i64 (fI (h0_0.getD t3.toNat AV.undef) 1), AV.int .i64 (fI (h0_0.getD t3.toNat AV.undef) 2), AV.int .i64 (fI (h0_0.getD t3.toNat AV.undef) 3)]]⟩)]⟩
          else (bif !(v68_0 (fI (h0_0.getD t3.toNat AV.undef) 2) 0 h0_1) then k .ret ⟨[(2, AV.bool false)], [([0, 1], ⟨true, [], [AV.agg [AV.sl [.int .i64, .int .i64, .int .i64, .int .i64] h0_0, AV.int .i64 h0_1, AV.sl [.int .i64] h0_2, AV.sl [.int .i64] h0_3, AV.sl [.int .i64, .int .i64] h0_4]]⟩), ([1, 4], ⟨true, [], [AV.agg [AV.int .i64 (fI (h0_0.getD t3.toNat AV.undef) 0), AV.int .i64 (fI (h0_0.getD t3.toNat AV.undef) 1), AV.int .i64 (fI (h0_0.getD t3.toNat AV.undef) 2), AV.int .i64 (fI (h0_0.getD t3.toNat AV.undef) 3)]]⟩)]⟩
           else (bif !decide (fI (h0_0.getD t3.toNat AV.undef) 3 = (-1)) then (bif !(v68_0 (fI (h0_0.getD t3.toNat AV.undef) 3) (IntKind.i64.wrap (fI (h0_0.getD t3.toNat AV.undef) 2 + 1)) h0_1) then k .ret ⟨[(2, AV.bool false)], [([0, 1], ⟨true, [], [AV.agg [AV.sl [.int .i64, .int .i64, .int .i64, .int .i64] h0_0, AV.int .i64 h0_1, AV.sl [.int .i64] h0_2, AV.sl [.int .i64] h0_3, AV.sl [.int .i64, .int .i64] h0_4]]⟩), ([1, 4], ⟨true, [], [AV.agg [AV.int .i64 (fI (h0_0.getD t3.toNat AV.undef) 0), AV.int .i64 (fI (h0_0.getD t3.toNat AV.undef) 1), AV.int .i64 (fI (h0_0.getD t3.toNat AV.undef) 2), AV.int .i64 (fI (h0_0.getD t3.toNat AV.undef) 3)]]⟩)]⟩
             else next ⟨[(1, AV.ptr [0, 1] 0 0), (3, AV.int .i64 (IntKind.i64.wrap (t3 + 1)))], [([0, 1], ⟨true, [], [AV.agg [AV.sl [.int .i64, .int .i64, .int .i64, .int .i64] h0_0, AV.int .i64 h0_1, AV.sl [.int .i64] h0_2, AV.sl [.int .i64] h0_3, AV.sl [.int .i64, .int .i64] h0_4]]⟩)]⟩)
            else next ⟨[(1, AV.ptr [0, 1] 0 0), (3, AV.int .i64 (IntKind.i64.wrap (t3 + 1)))], [([0, 1], ⟨true, [], [AV.agg [AV.sl [.int .i64, .int .i64, .int .i64, .int .i64] h0_0, AV.int .i64 h0_1, AV.sl [.int .i64] h0_2, AV.sl [.int .i64] h0_3, AV.sl [.int .i64, .int .i64] h0_4]]⟩)]⟩)))
         else none)
        else (bif !(v68_0 (fI (h0_0.getD t3.toNat AV.undef) 2) 0 h0_1) then k .ret ⟨[(2, AV.bool false)], [([0, 1], ⟨true, [], [AV.agg [AV.sl [.int .i64, .int .i64, .int .i64, .int .i64] h0_0, AV.int .i64 h0_1, AV.sl [.int .i64] h0_2, AV.sl [.int .i64] h0_3, AV.sl [.int .i64, .int .i64] h0_4]]⟩), ([1, 4], ⟨true, [], [AV.agg [AV.int .i64 (fI (h0_0.getD t3.toNat AV.undef) 0), AV.int .i64 (fI (h0_0.getD t3.toNat AV.undef) 1), AV.int .i64 (fI (h0_0.getD t3.toNat AV.undef) 2), AV.int .i64 (fI (h0_0.getD t3.toNat AV.undef) 3)]]⟩)]⟩
         else (bif !decide (fI (h0_0.getD t3.toNat AV.undef) 3 = (-1)) then (bif !(v68_0 (fI (h0_0.getD t3.toNat AV.undef) 3) (IntKind.i64.wrap (fI (h0_0.getD t3.toNat AV.undef) 2 + 1)) h0_1) then k .ret ⟨[(2, AV.bool false)], [([0, 1], ⟨true, [], [AV.agg [AV.sl [.int .i64, .int .i64, .int .i64, .int .i64] h0_0, AV.int .i64 h0_1, AV.sl [.int .i64] h0_2, AV.sl [.int .i64] h0_3, AV.sl [.int .i64, .int .i64] h0_4]]⟩), ([1, 4], ⟨true, [], [AV.agg [AV.int .i64 (fI (h0_0.getD t3.toNat AV.undef) 0), AV.int .i64 (fI (h0_0.getD t3.toNat AV.undef) 1), AV.int .i64 (fI (h0_0.getD t3.toNat AV.undef) 2), AV.int .i64 (fI (h0_0.getD t3.toNat AV.undef) 3)]]⟩)]⟩
           else next ⟨[(1, AV.ptr [0, 1] 0 0), (3, AV.int .i64 (IntKind.i64.wrap (t3 + 1)))], [([0, 1], ⟨true, [], [AV.agg [AV.sl [.int .i64, .int .i64, .int .i64, .int .i64] h0_0, AV.int .i64 h0_1, AV.sl [.int .i64] h0_2, AV.sl [.int .i64] h0_3, AV.sl [.int .i64, .int .i64] h0_4]]⟩)]⟩)
          else next ⟨[(1, AV.ptr [0, 1] 0 0), (3, AV.int .i64 (IntKind.i64.wrap (t3 + 1)))], [([0, 1], ⟨true, [], [AV.agg [AV.sl [.int .i64, .int .i64, .int .i64, .int .i64] h0_0, AV.int .i64 h0_1, AV.sl [.int .i64] h0_2, AV.sl [.int .i64] h0_3, AV.sl [.int .i64, .int .i64] h0_4]]⟩)]⟩))))
      else none))
    else none)
   else none)
  else k (.exit 0) ⟨[], [([0, 1], ⟨true, [], [AV.agg [AV.sl [.int .i64, .int .i64, .int .i64, .int .i64] h0_0, AV.int .i64 h0_1, AV.sl [.int .i64] h0_2, AV.sl [.int .i64] h0_3, AV.sl [.int .i64, .int .i64] h0_4]]⟩)]⟩) := by kernel_rfl
theorem st16_0 (h0_0 : List AV) (h0_1 : Int) (h0_2 : List AV) (h0_3 : List AV) (h0_4 : List AV) (ce : CallE) (k : Kont) (s : Int) (next : St → Option AV) : stepA (codeA c16 ce [] 16 0 (sub [1, 1, 0, 1, 0, 0] (body Try.f16))) (normA [] [1, 3]) next ((fun s : Int => ⟨[(1, AV.ptr [0, 1] 0 0), (3, AV.int .i64 s)], [([0, 1], ⟨true, [], [AV.agg [AV.sl [.int .i64, .int .i64, .int .i64, .int .i64] h0_0, AV.int .i64 h0_1, AV.sl [.int .i64] h0_2, AV.sl [.int .i64] h0_3, AV.sl [.int .i64, .int .i64] h0_4]]⟩)]⟩) s) k = (R16_0 h0_0 h0_1 h0_2 h0_3 h0_4 s).el none (fun s => next ((fun s : Int => ⟨[(1, AV.ptr [0, 1] 0 0), (3, AV.int .i64 s)], [([0, 1], ⟨true, [], [AV.agg [AV.sl [.int .i64, .int .i64, .int .i64, .int .i64] h0_0, AV.int .i64 h0_1, AV.sl [.int .i64] h0_2, AV.sl [.int .i64] h0_3, AV.sl [.int .i64, .int .i64] h0_4]]⟩)]⟩) s)) (sumE (fun _ : Unit => k (.exit 0) ⟨[], [([0, 1], ⟨true, [], [AV.agg [AV.sl [.int .i64, .int .i64, .int .i64, .int .i64] h0_0, AV.int .i64 h0_1, AV.sl [.int .i64] h0_2, AV.sl [.int .i64] h0_3, AV.sl [.int .i64, .int .i64] h0_4]]⟩)]⟩) (fun p : Int × Int × Int × Int => k .ret ⟨[(2, AV.bool false)], [([0, 1], ⟨true, [], [AV.agg [AV.sl [.int .i64, .int .i64, .int .i64, .int .i64] h0_0, AV.int .i64 h0_1, AV.sl [.int .i64] h0_2, AV.sl [.int .i64] h0_3, AV.sl [.int .i64, .int .i64] h0_4]]⟩), ([1, 4], ⟨true, [], [AV.agg [AV.int .i64 p.1, AV.int .i64 p.2.1, AV.int .i64 p.2.2.1, AV.int .i64 p.2.2.2]]⟩)]⟩)) := (s16_0 ce s h0_0 h0_1 h0_2 h0_3 h0_4 next k).trans (by unfold R16_0; unfold F16_0; simp only [el_cond, el_ro, el_sum, el_fail, el_next, el_stop] <;> rfl)
theorem ok16_0 {ce : CallE} : LoopOK c16 ce [] 16 0 (sub [1, 1, 0, 1, 0, 0] (body Try.f16)) := by
  intro m hm st k r h
  obtain rfl : l16_0 = m := Option.some.inj hm
  unfold l16_0 at h
  split at h
  · rename_i g0 g1 g2 t3 g3 g4 h0_0 h0_1 g5 h0_2 g6 h0_3 g7 h0_4
    obtain ⟨hg, h⟩ := bif_some h
    simp only [Bool.and_eq_true] at hg
    obtain ⟨⟨⟨⟨⟨⟨⟨q0, q1⟩, q2⟩, q3⟩, q4⟩, q5⟩, q6⟩, q7⟩ := hg
    obtain rfl := (nmEq_iff _ _).1 q0
    obtain rfl := Nat.eq_of_beq_eq_true q1
    obtain rfl := Nat.eq_of_beq_eq_true q2
    obtain rfl := (nmEq_iff _ _).1 q3
    obtain rfl := ctsEq_eq _ _ q4
    obtain rfl := ctsEq_eq _ _ q5
    obtain rfl := ctsEq_eq _ _ q6
    obtain rfl := ctsEq_eq _ _ q7
    refine ⟨(((h0_0.length : Int) - t3).toNat + 1), ?_⟩
    rw [← h]
    exact loop_run (fun s : Int => ⟨[(1, AV.ptr [0, 1] 0 0), (3, AV.int .i64 s)], [([0, 1], ⟨true, [], [AV.agg [AV.sl [.int .i64, .int .i64, .int .i64, .int .i64] h0_0, AV.int .i64 h0_1, AV.sl [.int .i64] h0_2, AV.sl [.int .i64] h0_3, AV.sl [.int .i64, .int .i64] h0_4]]⟩)]⟩) (sumE (fun _ : Unit => k (.exit 0) ⟨[], [([0, 1], ⟨true, [], [AV.agg [AV.sl [.int .i64, .int .i64, .int .i64, .int .i64] h0_0, AV.int .i64 h0_1, AV.sl [.int .i64] h0_2, AV.sl [.int .i64] h0_3, AV.sl [.int .i64, .int .i64] h0_4]]⟩)]⟩) (fun p : Int × Int × Int × Int => k .ret ⟨[(2, AV.bool false)], [([0, 1], ⟨true, [], [AV.agg [AV.sl [.int .i64, .int .i64, .int .i64, .int .i64] h0_0, AV.int .i64 h0_1, AV.sl [.int .i64] h0_2, AV.sl [.int .i64] h0_3, AV.sl [.int .i64, .int .i64] h0_4]]⟩), ([1, 4], ⟨true, [], [AV.agg [AV.int .i64 p.1, AV.int .i64 p.2.1, AV.int .i64 p.2.2.1, AV.int .i64 p.2.2.2]]⟩)]⟩)) (st16_0 h0_0 h0_1 h0_2 h0_3 h0_4 ce k) _ t3
  · cases h
def q16 (a0_0 : List AV) (a0_1 : Int) (a0_2 : List AV) (a0_3 : List AV) (a0_4 : List AV) : Bool := (q67 a0_2 a0_3 a0_4 && (bif !(v67_0 a0_2 a0_3 a0_4) then true else (bif !decide ((a0_0.length : Int) = (a0_2.length : Int)) then true else (bif !(v68_0 a0_1 0 1000) then true else (ro (runW (R16_0 a0_0 a0_1 a0_2 a0_3 a0_4) (((a0_0.length : Int) - 0).toNat + 1) 0) false (sumE (fun _ => true) (fun p20 => true)))))))
def v16_0 (a0_0 : List AV) (a0_1 : Int) (a0_2 : List AV) (a0_3 : List AV) (a0_4 : List AV) : Bool := (bif !(v67_0 a0_2 a0_3 a0_4) then false else (bif !decide ((a0_0.length : Int) = (a0_2.length : Int)) then false else (bif !(v68_0 a0_1 0 1000) then false else (ro (runW (R16_0 a0_0 a0_1 a0_2 a0_3 a0_4) (((a0_0.length : Int) - 0).toNat + 1) 0) false (sumE (fun _ => true) (fun p20 => false))))))
theorem e16 (a0_0 : List AV) (a0_1 : Int) (a0_2 : List AV) (a0_3 : List AV) (a0_4 : List AV) : funA c16 0 16 [AV.agg [AV.sl [.int .i64, .int .i64, .int .i64, .int .i64] a0_0, AV.int .i64 a0_1, AV.sl [.int .i64] a0_2, AV.sl [.int .i64] a0_3, AV.sl [.int .i64, .int .i64] a0_4]] = (bif q67 a0_2 a0_3 a0_4 then (bif !(v67_0 a0_2 a0_3 a0_4) then some (AV.bool false)
   else (bif !decide ((a0_0.length : Int) = (a0_2.length : Int)) then some (AV.bool false)
    else (bif !(v68_0 a0_1 0 1000) then some (AV.bool false)
     else (ro (runW (R16_0 a0_0 a0_1 a0_2 a0_3 a0_4) (((a0_0.length : Int) - 0).toNat + 1) 0) none (sumE (fun _ => some (AV.bool true)) (fun p20 => some (AV.bool false)))))))
  else none) := by kernel_rfl
theorem r16 (a0_0 : List AV) (a0_1 : Int) (a0_2 : List AV) (a0_3 : List AV) (a0_4 : List AV) (h : q16 a0_0 a0_1 a0_2 a0_3 a0_4 = true) : funA c16 0 16 [AV.agg [AV.sl [.int .i64, .int .i64, .int .i64, .int .i64] a0_0, AV.int .i64 a0_1, AV.sl [.int .i64] a0_2, AV.sl [.int .i64] a0_3, AV.sl [.int .i64, .int .i64] a0_4]] = some (AV.bool (v16_0 a0_0 a0_1 a0_2 a0_3 a0_4)) := (e16 a0_0 a0_1 a0_2 a0_3 a0_4).trans ((brL (br (fun b => some (AV.bool (bif b then false else (bif !decide ((a0_0.length : Int) = (a0_2.length : Int)) then false else (bif !(v68_0 a0_1 0 1000) then false else (ro (runW (R16_0 a0_0 a0_1 a0_2 a0_3 a0_4) (((a0_0.length : Int) - 0).toNat + 1) 0) false (sumE (fun _ => true) (fun p20 => false)))))))) (fun _ => rfl) (br (fun b => some (AV.bool (bif b then false else (bif !(v68_0 a0_1 0 1000) then false else (ro (runW (R16_0 a0_0 a0_1 a0_2 a0_3 a0_4) (((a0_0.length : Int) - 0).toNat + 1) 0) false (sumE (fun _ => true) (fun p20 => false))))))) (fun _ => rfl) (br (fun b => some (AV.bool (bif b then false else (ro (runW (R16_0 a0_0 a0_1 a0_2 a0_3 a0_4) (((a0_0.length : Int) - 0).toNat + 1) 0) false (sumE (fun _ => true) (fun p20 => false)))))) (fun _ => rfl) (brO (fun o : Option (Unit ⊕ (Int × Int × Int × Int)) => some (AV.bool (ro o false (sumE (fun _ => true) (fun p20 => false))))) (brS (fun o : Unit ⊕ (Int × Int × Int × Int) => some (AV.bool ((sumE (fun _ => true) (fun p20 => false)) o))) (fun _ => (fun _ => rfl)) (fun p20 => (fun _ => rfl)))))))) h)
def m16 : TModel
  | [.agg [.sl g0 a0_0, .int .i64 a0_1, .sl g1 a0_2, .sl g2 a0_3, .sl g3 a0_4]] => bif ctsEq g0 ([.int .i64, .int .i64, .int .i64, .int .i64]) && ctsEq g1 ([.int .i64]) && ctsEq g2 ([.int .i64]) && ctsEq g3 ([.int .i64, .int .i64]) then some (q16 a0_0 a0_1 a0_2 a0_3 a0_4, AV.bool (v16_0 a0_0 a0_1 a0_2 a0_3 a0_4)) else none
  | _ => none
theorem k16 : Known Try.prog 16 := ⟨Try.f16, Try.func16, by kernel_rfl, by kernel_rfl⟩
theorem meets16 : Meets Try.prog 16 m16 := by
  refine meet (f := Try.f16) (l := [(0, sub [1, 1, 0, 1, 0, 0] (body Try.f16))]) (hs := [(16, 0, [1, 3]), (16, 999, [2]), (16, 1000, []), (16, 1001, [1, 3])]) (ts := [(67, m67), (68, m68), (69, m69)]) (ws := []) (is := []) (ls := [(16, 0, l16_0)]) (lvl := 0) mixed k16 Try.func16 (by kernel_rfl) (loops_cons ok16_0 noLoop) (allT_cons meets67 (allT_cons meets68 (allT_cons meets69 allT_nil))) allM_nil noI fun w xs us r hl hv h => ?_
  unfold m16 at h
  split at h
  · rename_i g0 a0_0 a0_1 g1 a0_2 g2 a0_3 g3 a0_4
    obtain ⟨hg, h⟩ := bif_pair h
    simp only [Bool.and_eq_true] at hg
    obtain ⟨⟨⟨q0, q1⟩, q2⟩, q3⟩ := hg
    obtain rfl := ctsEq_eq _ _ q0
    obtain rfl := ctsEq_eq _ _ q1
    obtain rfl := ctsEq_eq _ _ q2
    obtain rfl := ctsEq_eq _ _ q3
    obtain ⟨h1, rfl⟩ := pair_inj h
    exact r16 a0_0 a0_1 a0_2 a0_3 a0_4 h1
  · cases h

/-! ### 80 loop.example/g01984/spec.RippleDelete -/
def F80_0 (t9 : Int) (t7 : Int) (t10 : Int) (t11 : Int) (h0 : List AV) (h1 : List AV) (h2 : List AV) : Out ((Int × Int × Int × (List AV) × (List AV) × (List AV))) ((Int × Int × (List AV) × (List AV) × (List AV))) := (bif decide (t11 < (h2.length : Int)) then (bif (decide (0 ≤ t11) && decide (t11 < (h2.length : Int))) then (bif decide (fI (h2.getD t11.toNat AV.undef) 0 ≤ t9) then .next (t7, t10, IntKind.i64.wrap (t11 + 1), h0, h1, h2)
    else (bif (decide (0 ≤ t11) && decide (t11 < (h2.length : Int))) then (bif decide (IntKind.i64.wrap (fI (h2.getD t11.toNat AV.undef) 1 - 1) = t7) then (bif (decide (0 ≤ t11) && decide (t11 < (h2.length : Int))) then .next (IntKind.i64.wrap (fI (h2.getD t11.toNat AV.undef) 1 - 1), IntKind.i64.wrap (t10 + 0), IntKind.i64.wrap (t11 + 1), h0, h1, h2.set t11.toNat (AV.agg [AV.int .i64 (fI (h2.getD t11.toNat AV.undef) 0), AV.int .i64 (IntKind.i64.wrap (fI (h2.getD t11.toNat AV.undef) 1 - 1))]))
       else .fail)
      else (bif (decide (0 ≤ IntKind.i64.wrap (fI (h2.getD t11.toNat AV.undef) 1 - 1)) && decide (IntKind.i64.wrap (fI (h2.getD t11.toNat AV.undef) 1 - 1) < (h0.length : Int))) then (bif (decide (0 ≤ t7) && decide (t7 < (h0.length : Int))) then (bif (decide (0 ≤ IntKind.i64.wrap (fI (h2.getD t11.toNat AV.undef) 1 - 1)) && decide (IntKind.i64.wrap (fI (h2.getD t11.toNat AV.undef) 1 - 1) < (h1.length : Int))) then (bif (decide (0 ≤ t7) && decide (t7 < (h1.length : Int))) then (bif (decide (0 ≤ t11) && decide (t11 < (h2.length : Int))) then .next (IntKind.i64.wrap (fI (h2.getD t11.toNat AV.undef) 1 - 1), IntKind.i64.wrap (t10 + 1), IntKind.i64.wrap (t11 + 1), h0.set t7.toNat (AV.agg [AV.int .i64 (fI (h0.getD (IntKind.i64.wrap (fI (h2.getD t11.toNat AV.undef) 1 - 1)).toNat AV.undef) 0)]), h1.set t7.toNat (AV.agg [AV.int .i64 (fI (h1.getD (IntKind.i64.wrap (fI (h2.getD t11.toNat AV.undef) 1 - 1)).toNat AV.undef) 0)]), h2.set t11.toNat (AV.agg [AV.int .i64 (fI (h2.getD t11.toNat AV.undef) 0), AV.int .i64 (IntKind.i64.wrap (fI (h2.getD t11.toNat AV.undef) 1 - 1))]))
           else .fail)
          else .fail)
         else .fail)
        else .fail)
       else .fail))
     else .fail))
   else .fail)
  else .stop (t7, t10, h0, h1, h2))
def R80_0 (t9 : Int) : ((Int × Int × Int × (List AV) × (List AV) × (List AV))) → Out ((Int × Int × Int × (List AV) × (List AV) × (List AV))) ((Int × Int × (List AV) × (List AV) × (List AV))) := fun s : Int × Int × Int × (List AV) × (List AV) × (List AV) => F80_0 t9 s.1 s.2.1 s.2.2.1 s.2.2.2.1 s.2.2.2.2.1 s.2.2.2.2.2
def l80_0 : LModel := fun _ _ st k => match st with
  | ⟨[(4, .ptr g0 g1 g2), (7, .int .i64 t7), (8, .ptr g3 g4 g5), (9, .int .i64 t9), (10, .int .i64 t10), (11, .int .i64 t11)], [(g6, ⟨false, g7, h0⟩), (g8, ⟨false, g9, h1⟩), (g10, ⟨false, g11, h2⟩), (g12, ⟨true, [], [.agg [.snil, .snil, .snil]]⟩), (g13, ⟨true, [], [.agg [.own g14, .own g15, .own g16]]⟩)]⟩ => bif nmEq g0 ([0, 4]) && Nat.beq g1 0 && Nat.beq g2 0 && nmEq g3 ([0, 8]) && Nat.beq g4 0 && Nat.beq g5 0 && nmEq g6 ([0, 0, 8]) && ctsEq g7 ([.int .i64]) && nmEq g8 ([0, 1, 8]) && ctsEq g9 ([.int .i64]) && nmEq g10 ([0, 2, 8]) && ctsEq g11 ([.int .i64, .int .i64]) && nmEq g12 ([0, 4]) && nmEq g13 ([0, 8]) && nmEq g14 ([0, 0, 8]) && nmEq g15 ([0, 1, 8]) && nmEq g16 ([0, 2, 8]) then ro (runW (R80_0 t9) (((h2.length : Int) - t11).toNat + 1) (t7, t10, t11, h0, h1, h2)) none (fun p : Int × Int × (List AV) × (List AV) × (List AV) => k (.exit 0) ⟨[(4, AV.ptr [0, 4] 0 0), (7, AV.int .i64 p.1), (8, AV.ptr [0, 8] 0 0), (10, AV.int .i64 p.2.1)], [([0, 0, 8], ⟨false, [.int .i64], p.2.2.1⟩), ([0, 1, 8], ⟨false, [.int .i64], p.2.2.2.1⟩), ([0, 2, 8], ⟨false, [.int .i64, .int .i64], p.2.2.2.2⟩), ([0, 4], ⟨true, [], [AV.agg [AV.snil, AV.snil, AV.snil]]⟩), ([0, 8], ⟨true, [], [AV.agg [AV.own [0, 0, 8], AV.own [0, 1, 8], AV.own [0, 2, 8]]]⟩)]⟩) else none
  | _ => none
noncomputable def c80 : Cfg := cfg Try.prog [(80, 0, [4, 7, 8, 9, 10, 11]), (80, 999, [4, 5, 6]), (80, 1000, [4, 7, 8, 10]), (80, 1001, [4, 7, 8, 9, 10, 11]), (130, 999, [6])] [(67, m67), (69, m69), (127, m127)] [] [130] [(80, 0, l80_0)]
theorem s80_0 (t7 : Int) (t9 : Int) (t10 : Int) (t11 : Int) (h0 : List AV) (h1 : List AV) (h2 : List AV) (next : St → Option AV) (k : Kont) : stepA (codeA c80 (inlA c80 1) [] 80 0 (sub [1, 1, 1, 1, 1, 1, 0, 1, 0, 0] (body Try.f80))) (normA [] [4, 7, 8, 9, 10, 11]) next ⟨[(4, AV.ptr [0, 4] 0 0), (7, AV.int .i64 t7), (8, AV.ptr [0, 8] 0 0), (9, AV.int .i64 t9), (10, AV.int .i64 t10), (11, AV.int .i64 t11)], [([0, 0, 8], ⟨false, [.int .i64], h0⟩), ([0, 1, 8], ⟨false, [.int .i64], h1⟩), ([0, 2, 8], ⟨false, [.int .i64, .int .i64], h2⟩), ([0, 4], ⟨true, [], [AV.agg [AV.snil, AV.snil, AV.snil]]⟩), ([0, 8], ⟨true, [], [AV.agg [AV.own [0, 0, 8], AV.own [0, 1, 8], AV.own [0, 2, 8]]]⟩)]⟩ k = (bif decide (t11 < (h2.length : Int)) then (bif (decide (0 ≤ t11) && decide (t11 < (h2.length : Int))) then (bif decide (fI (h2.getD t11.toNat AV.undef) 0 ≤ t9) then next ⟨[(4, AV.ptr [0, 4] 0 0), (7, AV.int .i64 t7), (8, AV.ptr [0, 8] 0 0), (9, AV.int .i64 t9), (10, AV.int .i64 t10), (11, AV.int .i64 (IntKind.i64.wrap (t11 + 1)))], [([0, 0, 8], ⟨false, [.int .i64], h0⟩), ([0, 1, 8], ⟨false, [.int .i64], h1⟩), ([0, 2, 8], ⟨false, [.int .i64, .int .i64], h2⟩), ([0, 4], ⟨true, [], [AV.agg [AV.snil, AV.snil, AV.snil]]⟩), ([0, 8], ⟨true, [], [AV.agg [AV.own [0, 0, 8], AV.own [0, 1, 8], AV.own [0, 2, 8]]]⟩)]⟩
    else (bif (decide (0 ≤ t11) && decide (t11 < (h2.length : Int))) then (bif decide (IntKind.i64.wrap (fI (h2.getD t11.toNat AV.undef) 1 - 1) = t7) then (bif (decide (0 ≤ t11) && decide (t11 < (h2.length : Int))) then next ⟨[(4, AV.ptr [0, 4] 0 0), (7, AV.int .i64 (IntKind.i64.wrap (fI (h2.getD t11.toNat AV.undef) 1 - 1))), (8, AV.ptr [0, 8] 0 0), (9, AV.int .i64 t9), (10, AV.int .i64 (IntKind.i64.wrap (t10 + 0))), (11, AV.int .i64 (IntKind.i64.wrap (t11 + 1)))], [([0, 0, 8], ⟨false, [.int .i64], h0⟩), ([0, 1, 8], ⟨false, [.int .i64], h1⟩), ([0, 2, 8], ⟨false, [.int .i64, .int .i64], h2.set t11.toNat (AV.agg [AV.int .i64 (fI (h2.getD t11.toNat AV.undef) 0), AV.int .i64 (IntKind.i64.wrap (fI (h2.getD t11.toNat AV.undef) 1 - 1))])⟩), ([0, 4], ⟨true, [], [AV.agg [AV.snil, AV.snil, AV.snil]]⟩), ([0, 8], ⟨true, [], [AV.agg [AV.own [0, 0, 8], AV.own [0, 1, 8], AV.own [0, 2, 8]]]⟩)]⟩
       else none)
      else (bif (decide (0 ≤ IntKind.i64.wrap (fI (h2.getD t11.toNat AV.undef) 1 - 1)) && decide (IntKind.i64.wrap (fI (h2.getD t11.toNat AV.undef) 1 - 1) < (h0.length : Int))) then (bif (decide (0 ≤ t7) && decide (t7 < (h0.length : Int))) then (bif (decide (0 ≤ IntKind.i64.wrap (fI (h2.getD t11.toNat AV.undef) 1 - 1)) && decide (IntKind.i64.wrap (fI (h2.getD t11.toNat AV.undef) 1 - 1) < (h1.length : Int))) then (bif (decide (0 ≤ t7) && decide (t7 < (h1.length : Int))) then (bif (decide (0 ≤ t11) && decide (t11 < (h2.length : Int))) then next ⟨[(4, AV.ptr [0, 4] 0 0), (7, AV.int .i64 (IntKind.i64.wrap (fI (h2.getD t11.toNat AV.undef) 1 - 1))), (8, AV.ptr [0, 8] 0 0), (9, AV.int .i64 t9), (10, AV.int .i64 (IntKind.i64.wrap (t10 + 1))), (11, AV.int .i64 (IntKind.i64.wrap (t11 + 1)))], [([0, 0, 8], ⟨false, [.int .i64], h0.set t7.toNat (AV.agg [AV.int .i64 (fI (h0.getD (IntKind.i64.wrap (fI (h2.getD t11.toNat AV.undef) 1 - 1)).toNat AV.undef) 0)])⟩), ([0, 1, 8], ⟨false, [.int .i64], h1.set t7.toNat (AV.agg [AV.int .i64 (fI (h1.getD (IntKind.i64.wrap (fI (h2.getD t11.toNat AV.undef) 1 - 1)).toNat AV.undef) 0)])⟩), ([0, 2, 8], ⟨false, [.int .i64, .int .i64], h2.set t11.toNat (AV.agg [AV.int .i64 (fI (h2.getD t11.toNat AV.undef) 0), AV.int .i64 (IntKind.i64.wrap (fI (h2.getD t11.toNat AV.undef) 1 - 1))])⟩), ([0, 4], ⟨true, [], [AV.agg [AV.snil, AV.snil, AV.snil]]⟩), ([0, 8], ⟨true, [], [AV.agg [AV.own [0, 0, 8], AV.own [0, 1, 8], AV.own [0, 2, 8]]]⟩)]⟩
           else none)
          else none)
         else none)
        else none)
       else none))
     else none))
   else none)
  else k (.exit 0) ⟨[(4, AV.ptr [0, 4] 0 0), (7, AV.int .i64 t7), (8, AV.ptr [0, 8] 0 0), (10, AV.int .i64 t10)], [([0, 0, 8], ⟨false, [.int .i64], h0⟩), ([0, 1, 8], ⟨false, [.int .i64], h1⟩), ([0, 2, 8], ⟨false, [.int .i64, .int .i64], h2⟩), ([0, 4], ⟨true, [], [AV.agg [AV.snil, AV.snil, AV.snil]]⟩), ([0, 8], ⟨true, [], [AV.agg [AV.own [0, 0, 8], AV.own [0, 1, 8], AV.own [0, 2, 8]]]⟩)]⟩) := by kernel_rfl
theorem st80_0 (t9 : Int) (k : Kont) (s : (Int × Int × Int × (List AV) × (List AV) × (List AV))) (next : St → Option AV) : stepA (codeA c80 (inlA c80 1) [] 80 0 (sub [1, 1, 1, 1, 1, 1, 0, 1, 0, 0] (body Try.f80))) (normA [] [4, 7, 8, 9, 10, 11]) next ((fun s : Int × Int × Int × (List AV) × (List AV) × (List AV) => ⟨[(4, AV.ptr [0, 4] 0 0), (7, AV.int .i64 s.1), (8, AV.ptr [0, 8] 0 0), (9, AV.int .i64 t9), (10, AV.int .i64 s.2.1), (11, AV.int .i64 s.2.2.1)], [([0, 0, 8], ⟨false, [.int .i64], s.2.2.2.1⟩), ([0, 1, 8], ⟨false, [.int .i64], s.2.2.2.2.1⟩), ([0, 2, 8], ⟨false, [.int .i64, .int .i64], s.2.2.2.2.2⟩), ([0, 4], ⟨true, [], [AV.agg [AV.snil, AV.snil, AV.snil]]⟩), ([0, 8], ⟨true, [], [AV.agg [AV.own [0, 0, 8], AV.own [0, 1, 8], AV.own [0, 2, 8]]]⟩)]⟩) s) k = (R80_0 t9 s).el none (fun s => next ((fun s : Int × Int × Int × (List AV) × (List AV) × (List AV) => ⟨[(4, AV.ptr [0, 4] 0 0), (7, AV.int .i64 s.1), (8, AV.ptr [0, 8] 0 0), (9, AV.int .i64 t9), (10, AV.int .i64 s.2.1), (11, AV.int .i64 s.2.2.1)], [([0, 0, 8], ⟨false, [.int .i64], s.2.2.2.1⟩), ([0, 1, 8], ⟨false, [.int .i64], s.2.2.2.2.1⟩), ([0, 2, 8], ⟨false, [.int .i64, .int .i64], s.2.2.2.2.2⟩), ([0, 4], ⟨true, [], [AV.agg [AV.snil, AV.snil, AV.snil]]⟩), ([0, 8], ⟨true, [], [AV.agg [AV.own [0, 0, 8], AV.own [0, 1, 8], AV.own [0, 2, 8]]]⟩)]⟩) s)) (fun p : Int × Int × (List AV) × (List AV) × (List AV) => k (.exit 0) ⟨[(4, AV.ptr [0, 4] 0 0), (7, AV.int .i64 p.1), (8, AV.ptr [0, 8] 0 0), (10, AV.int .i64 p.2.1)], [([0, 0, 8], ⟨false, [.int .i64], p.2.2.1⟩), ([0, 1, 8], ⟨false, [.int .i64], p.2.2.2.1⟩), ([0, 2, 8], ⟨false, [.int .i64, .int .i64], p.2.2.2.2⟩), ([0, 4], ⟨true, [], [AV.agg [AV.snil, AV.snil, AV.snil]]⟩), ([0, 8], ⟨true, [], [AV.agg [AV.own [0, 0, 8], AV.own [0, 1, 8], AV.own [0, 2, 8]]]⟩)]⟩) := (s80_0 s.1 t9 s.2.1 s.2.2.1 s.2.2.2.1 s.2.2.2.2.1 s.2.2.2.2.2 next k).trans (by unfold R80_0; unfold F80_0; simp only [el_cond, el_ro, el_sum, el_fail, el_next, el_stop] <;> rfl)
theorem ok80_0 : LoopOK c80 (inlA c80 1) [] 80 0 (sub [1, 1, 1, 1, 1, 1, 0, 1, 0, 0] (body Try.f80)) := by
  intro m hm st k r h
  obtain rfl : l80_0 = m := Option.some.inj hm
  unfold l80_0 at h
  split at h
  · rename_i g0 g1 g2 t7 g3 g4 g5 t9 t10 t11 g6 g7 h0 g8 g9 h1 g10 g11 h2 g12 g13 g14 g15 g16
    obtain ⟨hg, h⟩ := bif_some h
    simp only [Bool.and_eq_true] at hg
    obtain ⟨⟨⟨⟨⟨⟨⟨⟨⟨⟨⟨⟨⟨⟨⟨⟨q0, q1⟩, q2⟩, q3⟩, q4⟩, q5⟩, q6⟩, q7⟩, q8⟩, q9⟩, q10⟩, q11⟩, q12⟩, q13⟩, q14⟩, q15⟩, q16⟩ := hg
    obtain rfl := (nmEq_iff _ _).1 q0
    obtain rfl := Nat.eq_of_beq_eq_true q1
    obtain rfl := Nat.eq_of_beq_eq_true q2
    obtain rfl := (nmEq_iff _ _).1 q3
    obtain rfl := Nat.eq_of_beq_eq_true q4
    obtain rfl := Nat.eq_of_beq_eq_true q5
    obtain rfl := (nmEq_iff _ _).1 q6
    obtain rfl := ctsEq_eq _ _ q7
    obtain rfl := (nmEq_iff _ _).1 q8
    obtain rfl := ctsEq_eq _ _ q9
    obtain rfl := (nmEq_iff _ _).1 q10
    obtain rfl := ctsEq_eq _ _ q11
    obtain rfl := (nmEq_iff _ _).1 q12
    obtain rfl := (nmEq_iff _ _).1 q13
    obtain rfl := (nmEq_iff _ _).1 q14
    obtain rfl := (nmEq_iff _ _).1 q15
    obtain rfl := (nmEq_iff _ _).1 q16
    refine ⟨(((h2.length : Int) - t11).toNat + 1), ?_⟩
    rw [← h]
    exact loop_run (fun s : Int × Int × Int × (List AV) × (List AV) × (List AV) => ⟨[(4, AV.ptr [0, 4] 0 0), (7, AV.int .i64 s.1), (8, AV.ptr [0, 8] 0 0), (9, AV.int .i64 t9), (10, AV.int .i64 s.2.1), (11, AV.int .i64 s.2.2.1)], [([0, 0, 8], ⟨false, [.int .i64], s.2.2.2.1⟩), ([0, 1, 8], ⟨false, [.int .i64], s.2.2.2.2.1⟩), ([0, 2, 8], ⟨false, [.int .i64, .int .i64], s.2.2.2.2.2⟩), ([0, 4], ⟨true, [], [AV.agg [AV.snil, AV.snil, AV.snil]]⟩), ([0, 8], ⟨true, [], [AV.agg [AV.own [0, 0, 8], AV.own [0, 1, 8], AV.own [0, 2, 8]]]⟩)]⟩) (fun p : Int × Int × (List AV) × (List AV) × (List AV) => k (.exit 0) ⟨[(4, AV.ptr [0, 4] 0 0), (7, AV.int .i64 p.1), (8, AV.ptr [0, 8] 0 0), (10, AV.int .i64 p.2.1)], [([0, 0, 8], ⟨false, [.int .i64], p.2.2.1⟩), ([0, 1, 8], ⟨false, [.int .i64], p.2.2.2.1⟩), ([0, 2, 8], ⟨false, [.int .i64, .int .i64], p.2.2.2.2⟩), ([0, 4], ⟨true, [], [AV.agg [AV.snil, AV.snil, AV.snil]]⟩), ([0, 8], ⟨true, [], [AV.agg [AV.own [0, 0, 8], AV.own [0, 1, 8], AV.own [0, 2, 8]]]⟩)]⟩) (st80_0 t9 k) _ (t7, t10, t11, h0, h1, h2)
  · cases h
def q80 (a0_0 : List AV) (a0_1 : List AV) (a0_2 : List AV) (a1 : Int) : Bool := (q69 a0_0 a0_1 a0_2 a1 && (q67 a0_0 a0_1 a0_2 && (bif !(v67_0 a0_0 a0_1 a0_2) then q127 a0_0 a0_1 a0_2 else (bif decide ((v69_0 a0_0 a0_1 a0_2 a1) < 0) then q127 a0_0 a0_1 a0_2 else (q127 a0_0 a0_1 a0_2 && ((decide (0 ≤ (v69_0 a0_0 a0_1 a0_2 a1)) && decide ((v69_0 a0_0 a0_1 a0_2 a1) < (a0_0.length : Int))) && (ro (runW (R80_0 (fI (a0_0.getD (v69_0 a0_0 a0_1 a0_2 a1).toNat AV.undef) 0)) ((((v127_2 a0_0 a0_1 a0_2).length : Int) - 0).toNat + 1) ((v69_0 a0_0 a0_1 a0_2 a1), 0, 0, (v127_0 a0_0 a0_1 a0_2), (v127_1 a0_0 a0_1 a0_2), (v127_2 a0_0 a0_1 a0_2))) false (fun p21 => (bif decide (IntKind.i64.wrap ((p21.2.2.1.length : Int) - 1) = p21.1) then ((decide (0 ≤ 0) && decide (0 ≤ IntKind.i64.wrap ((p21.2.2.1.length : Int) - 1)) && decide (IntKind.i64.wrap ((p21.2.2.1.length : Int) - 1) ≤ (p21.2.2.1.length : Int))) && (decide (0 ≤ 0) && decide (0 ≤ IntKind.i64.wrap ((p21.2.2.2.1.length : Int) - 1)) && decide (IntKind.i64.wrap ((p21.2.2.2.1.length : Int) - 1) ≤ (p21.2.2.2.1.length : Int)))) else ((decide (0 ≤ IntKind.i64.wrap ((p21.2.2.1.length : Int) - 1)) && decide (IntKind.i64.wrap ((p21.2.2.1.length : Int) - 1) < (p21.2.2.1.length : Int))) && ((decide (0 ≤ p21.1) && decide (p21.1 < (p21.2.2.1.length : Int))) && ((decide (0 ≤ IntKind.i64.wrap ((p21.2.2.1.length : Int) - 1)) && decide (IntKind.i64.wrap ((p21.2.2.1.length : Int) - 1) < (p21.2.2.2.1.length : Int))) && ((decide (0 ≤ p21.1) && decide (p21.1 < (p21.2.2.2.1.length : Int))) && ((decide (0 ≤ 0) && decide (0 ≤ IntKind.i64.wrap (((p21.2.2.1.set p21.1.toNat (AV.agg [AV.int .i64 (fI (p21.2.2.1.getD (IntKind.i64.wrap ((p21.2.2.1.length : Int) - 1)).toNat AV.undef) 0)])).length : Int) - 1)) && decide (IntKind.i64.wrap (((p21.2.2.1.set p21.1.toNat (AV.agg [AV.int .i64 (fI (p21.2.2.1.getD (IntKind.i64.wrap ((p21.2.2.1.length : Int) - 1)).toNat AV.undef) 0)])).length : Int) - 1) ≤ ((p21.2.2.1.set p21.1.toNat (AV.agg [AV.int .i64 (fI (p21.2.2.1.getD (IntKind.i64.wrap ((p21.2.2.1.length : Int) - 1)).toNat AV.undef) 0)])).length : Int))) && (decide (0 ≤ 0) && decide (0 ≤ IntKind.i64.wrap (((p21.2.2.2.1.set p21.1.toNat (AV.agg [AV.int .i64 (fI (p21.2.2.2.1.getD (IntKind.i64.wrap ((p21.2.2.1.length : Int) - 1)).toNat AV.undef) 0)])).length : Int) - 1)) && decide (IntKind.i64.wrap (((p21.2.2.2.1.set p21.1.toNat (AV.agg [AV.int .i64 (fI (p21.2.2.2.1.getD (IntKind.i64.wrap ((p21.2.2.1.length : Int) - 1)).toNat AV.undef) 0)])).length : Int) - 1) ≤ ((p21.2.2.2.1.set p21.1.toNat (AV.agg [AV.int .i64 (fI (p21.2.2.2.1.getD (IntKind.i64.wrap ((p21.2.2.1.length : Int) - 1)).toNat AV.undef) 0)])).length : Int)))))))))))))))))
def v80_0 (a0_0 : List AV) (a0_1 : List AV) (a0_2 : List AV) (a1 : Int) : List AV := (bif !(v67_0 a0_0 a0_1 a0_2) then (v127_0 a0_0 a0_1 a0_2) else (bif decide ((v69_0 a0_0 a0_1 a0_2 a1) < 0) then (v127_0 a0_0 a0_1 a0_2) else (ro (runW (R80_0 (fI (a0_0.getD (v69_0 a0_0 a0_1 a0_2 a1).toNat AV.undef) 0)) ((((v127_2 a0_0 a0_1 a0_2).length : Int) - 0).toNat + 1) ((v69_0 a0_0 a0_1 a0_2 a1), 0, 0, (v127_0 a0_0 a0_1 a0_2), (v127_1 a0_0 a0_1 a0_2), (v127_2 a0_0 a0_1 a0_2))) [] (fun p21 => (bif decide (IntKind.i64.wrap ((p21.2.2.1.length : Int) - 1) = p21.1) then (p21.2.2.1.drop (Int.toNat 0)).take (Int.toNat (IntKind.i64.wrap ((p21.2.2.1.length : Int) - 1)) - (Int.toNat 0)) else ((p21.2.2.1.set p21.1.toNat (AV.agg [AV.int .i64 (fI (p21.2.2.1.getD (IntKind.i64.wrap ((p21.2.2.1.length : Int) - 1)).toNat AV.undef) 0)])).drop (Int.toNat 0)).take (Int.toNat (IntKind.i64.wrap (((p21.2.2.1.set p21.1.toNat (AV.agg [AV.int .i64 (fI (p21.2.2.1.getD (IntKind.i64.wrap ((p21.2.2.1.length : Int) - 1)).toNat AV.undef) 0)])).length : Int) - 1)) - (Int.toNat 0)))))))
def v80_1 (a0_0 : List AV) (a0_1 : List AV) (a0_2 : List AV) (a1 : Int) : List AV := (bif !(v67_0 a0_0 a0_1 a0_2) then (v127_1 a0_0 a0_1 a0_2) else (bif decide ((v69_0 a0_0 a0_1 a0_2 a1) < 0) then (v127_1 a0_0 a0_1 a0_2) else (ro (runW (R80_0 (fI (a0_0.getD (v69_0 a0_0 a0_1 a0_2 a1).toNat AV.undef) 0)) ((((v127_2 a0_0 a0_1 a0_2).length : Int) - 0).toNat + 1) ((v69_0 a0_0 a0_1 a0_2 a1), 0, 0, (v127_0 a0_0 a0_1 a0_2), (v127_1 a0_0 a0_1 a0_2), (v127_2 a0_0 a0_1 a0_2))) [] (fun p21 => (bif decide (IntKind.i64.wrap ((p21.2.2.1.length : Int) - 1) = p21.1) then (p21.2.2.2.1.drop (Int.toNat 0)).take (Int.toNat (IntKind.i64.wrap ((p21.2.2.2.1.length : Int) - 1)) - (Int.toNat 0)) else ((p21.2.2.2.1.set p21.1.toNat (AV.agg [AV.int .i64 (fI (p21.2.2.2.1.getD (IntKind.i64.wrap ((p21.2.2.1.length : Int) - 1)).toNat AV.undef) 0)])).drop (Int.toNat 0)).take (Int.toNat (IntKind.i64.wrap (((p21.2.2.2.1.set p21.1.toNat (AV.agg [AV.int .i64 (fI (p21.2.2.2.1.getD (IntKind.i64.wrap ((p21.2.2.1.length : Int) - 1)).toNat AV.undef) 0)])).length : Int) - 1)) - (Int.toNat 0)))))))
def v80_2 (a0_0 : List AV) (a0_1 : List AV) (a0_2 : List AV) (a1 : Int) : List AV := (bif !(v67_0 a0_0 a0_1 a0_2) then (v127_2 a0_0 a0_1 a0_2) else (bif decide ((v69_0 a0_0 a0_1 a0_2 a1) < 0) then (v127_2 a0_0 a0_1 a0_2) else (ro (runW (R80_0 (fI (a0_0.getD (v69_0 a0_0 a0_1 a0_2 a1).toNat AV.undef) 0)) ((((v127_2 a0_0 a0_1 a0_2).length : Int) - 0).toNat + 1) ((v69_0 a0_0 a0_1 a0_2 a1), 0, 0, (v127_0 a0_0 a0_1 a0_2), (v127_1 a0_0 a0_1 a0_2), (v127_2 a0_0 a0_1 a0_2))) [] (fun p21 => p21.2.2.2.2))))
def v80_3 (a0_0 : List AV) (a0_1 : List AV) (a0_2 : List AV) (a1 : Int) : Int := (bif !(v67_0 a0_0 a0_1 a0_2) then 0 else (bif decide ((v69_0 a0_0 a0_1 a0_2 a1) < 0) then 0 else (ro (runW (R80_0 (fI (a0_0.getD (v69_0 a0_0 a0_1 a0_2 a1).toNat AV.undef) 0)) ((((v127_2 a0_0 a0_1 a0_2).length : Int) - 0).toNat + 1) ((v69_0 a0_0 a0_1 a0_2 a1), 0, 0, (v127_0 a0_0 a0_1 a0_2), (v127_1 a0_0 a0_1 a0_2), (v127_2 a0_0 a0_1 a0_2))) 0 (fun p21 => (bif decide (IntKind.i64.wrap ((p21.2.2.1.length : Int) - 1) = p21.1) then IntKind.i64.wrap (p21.2.1 + 0) else IntKind.i64.wrap (p21.2.1 + 1))))))
def v80_4 (a0_0 : List AV) (a0_1 : List AV) (a0_2 : List AV) (a1 : Int) : Bool := (bif !(v67_0 a0_0 a0_1 a0_2) then false else (bif decide ((v69_0 a0_0 a0_1 a0_2 a1) < 0) then false else true))
theorem e80 (a0_0 : List AV) (a0_1 : List AV) (a0_2 : List AV) (a1 : Int) : funA c80 1 80 [AV.agg [AV.sl [.int .i64] a0_0, AV.sl [.int .i64] a0_1, AV.sl [.int .i64, .int .i64] a0_2], AV.int .i64 a1] = (bif q69 a0_0 a0_1 a0_2 a1 then (bif q67 a0_0 a0_1 a0_2 then (bif !(v67_0 a0_0 a0_1 a0_2) then (bif q127 a0_0 a0_1 a0_2 then some (AV.tup [AV.agg [AV.fl [.int .i64] (v127_0 a0_0 a0_1 a0_2), AV.fl [.int .i64] (v127_1 a0_0 a0_1 a0_2), AV.fl [.int .i64, .int .i64] (v127_2 a0_0 a0_1 a0_2)], AV.int .i64 0, AV.bool false])
     else none)
    else (bif decide ((v69_0 a0_0 a0_1 a0_2 a1) < 0) then (bif q127 a0_0 a0_1 a0_2 then some (AV.tup [AV.agg [AV.fl [.int .i64] (v127_0 a0_0 a0_1 a0_2), AV.fl [.int .i64] (v127_1 a0_0 a0_1 a0_2), AV.fl [.int .i64, .int .i64] (v127_2 a0_0 a0_1 a0_2)], AV.int .i64 0, AV.bool false])
      else none)
     else (bif q127 a0_0 a0_1 a0_2 then (bif (decide (0 ≤ (v69_0 a0_0 a0_1 a0_2 a1)) && decide ((v69_0 a0_0 a0_1 a0_2 a1) < (a0_0.length : Int))) then (ro (runW (R80_0 (fI (a0_0.getD (v69_0 a0_0 a0_1 a0_2 a1).toNat AV.undef) 0)) ((((v127_2 a0_0 a0_1 a0_2).length : Int) - 0).toNat + 1) ((v69_0 a0_0 a0_1 a0_2 a1), 0, 0, (v127_0 a0_0 a0_1 a0_2), (v127_1 a0_0 a0_1 a0_2), (v127_2 a0_0 a0_1 a0_2))) none (fun p21 => (bif decide (IntKind.i64.wrap ((p21.2.2.1.length : Int) - 1) = p21.1) then (bif (decide (0 ≤ 0) && decide (0 ≤ IntKind.i64.wrap ((p21.2.2.1.length : Int) - 1)) && decide (IntKind.i64.wrap ((p21.2.2.1.length : Int) - 1) ≤ (p21.2.2.1.length : Int))) then (bif (decide (0 ≤ 0) && decide (0 ≤ IntKind.i64.wrap ((p21.2.2.2.1.length : Int) - 1)) && decide (IntKind.i64.wrap ((p21.2.2.2.1.length : Int) - 1) ≤ (p21.2.2.2.1.length : Int))) then some (AV.tup [AV.agg [AV.fl [.int .i64] ((p21.2.2.1.drop (Int.toNat 0)).take (Int.toNat (IntKind.i64.wrap ((p21.2.2.1.length : Int) - 1)) - (Int.toNat 0))), AV.fl [.int .i64] ((p21.2.2.2.1.drop (Int.toNat 0)).take (Int.toNat (IntKind.i64.wrap ((p21.2.2.2.1.length : Int) - 1)) - (Int.toNat 0))), AV.fl [.int .i64, .int .i64] p21.2.2.2.2], AV.int .i64 (IntKind.i64.wrap (p21.2.1 + 0)), AV.bool true])
           else none)
          else none)
         else (bif (decide (0 ≤ IntKind.i64.wrap ((p21.2.2.1.length : Int) - 1)) && decide (IntKind.i64.wrap ((p21.2.2.1.length : Int) - 1) < (p21.2.2.1.length : Int))) then (bif (decide (0 ≤ p21.1) && decide (p21.1 < (p21.2.2.1.length : Int))) then (bif (decide (0 ≤ IntKind.i64.wrap ((p21.2.2.1.length : Int) - 1)) && decide (IntKind.i64.wrap ((p21.2.2.1.length : Int) - 1) < (p21.2.2.2.1.length : Int))) then (bif (decide (0 ≤ p21.1) && decide (p21.1 < (p21.2.2.2.1.length : Int))) then (bif (decide (0 ≤ 0) && decide (0 ≤ IntKind.i64.wrap (((p21.2.2.1.set p21.1.toNat (AV.agg [AV.int .i64 (fI (p21.2.2.1.getD (IntKind.i64.wrap ((p21.2.2.1.length : Int) - 1)).toNat AV.undef) 0)])).length : Int) - 1)) && decide (IntKind.i64.wrap (((p21.2.2.1.set p21.1.toNat (AV.agg [AV.int .i64 (fI (p21.2.2.1.getD (IntKind.i64.wrap ((p21.2.2.1.length : Int) - 1)).toNat AV.undef) 0)])).length : Int) - 1) ≤ ((p21.2.2.1.set p21.1.toNat (AV.agg [AV.int .i64 (fI (p21.2.2.1.getD (IntKind.i64.wrap ((p21.2.2.1.length : Int) - 1)).toNat AV.undef) 0)])).length : Int))) then (bif (decide (0 ≤ 0) && decide (0 ≤ IntKind.i64.wrap (((p21.2.2.2.1.set p21.1.toNat (AV.agg [AV.int .i64 (fI (p21.2.2.2.1.getD (IntKind.i64.wrap ((p21.2.2.1.length : Int) - 1)).toNat AV.undef) 0)])).length : Int) - 1)) && decide (IntKind.i64.wrap (((p21.2.2.2.1.set p21.1.toNat (AV.agg [AV.int .i64 (fI (p21.2.2.2.1.getD (IntKind.i64.wrap ((p21.2.2.1.length : Int) - 1)).toNat AV.undef) 0)])).length : Int) - 1) ≤ ((p21.2.2.2.1.set p21.1.toNat (AV.agg [AV.int .i64 (fI (p21.2.2.2.1.getD (IntKind.i64.wrap ((p21.2.2.1.length : Int) - 1)).toNat AV.undef) 0)])).length : Int))) then some (AV.tup [AV.agg [AV.fl [.int .i64] (((p21.2.2.1.set p21.1.toNat (AV.agg [AV.int .i64 (fI (p21.2.2.1.getD (IntKind.i64.wrap ((p21.2.2.1.length : Int) - 1)).toNat AV.undef) 0)])).drop (Int.toNat 0)).take (Int.toNat (IntKind.i64.wrap (((p21.2.2.1.set p21.1.toNat (AV.agg [AV.int .i64 (fI (p21.2.2.1.getD (IntKind.i64.wrap ((p21.2.2.1.length : Int) - 1)).toNat AV.undef) 0)])).length : Int) - 1)) - (Int.toNat 0))), AV.fl [.int .i64] (((p21.2.2.2.1.set p21.1.toNat (AV.agg [AV.int .i64 (fI (p21.2.2.2.1.getD (IntKind.i64.wrap ((p21.2.2.1.length : Int) - 1)).toNat AV.undef) 0)])).drop (Int.toNat 0)).take (Int.toNat (IntKind.i64.wrap (((p21.2.2.2.1.set p21.1.toNat (AV.agg [AV.int .i64 (fI (p21.2.2.2.1.getD (IntKind.i64.wrap ((p21.2.2.1.length : Int) - 1)).toNat AV.undef) 0)])).length : Int) - 1)) - (Int.toNat 0))), AV.fl [.int .i64, .int .i64] p21.2.2.2.2], AV.int .i64 (IntKind.i64.wrap (p21.2.1 + 1)), AV.bool true])
               else none)
              else none)
             else none)
            else none)
           else none)
          else none))))
       else none)
      else none)))
   else none)
  else none) := by kernel_rfl
theorem r80 (a0_0 : List AV) (a0_1 : List AV) (a0_2 : List AV) (a1 : Int) (h : q80 a0_0 a0_1 a0_2 a1 = true) : funA c80 1 80 [AV.agg [AV.sl [.int .i64] a0_0, AV.sl [.int .i64] a0_1, AV.sl [.int .i64, .int .i64] a0_2], AV.int .i64 a1] = some (AV.tup [AV.agg [AV.fl [.int .i64] (v80_0 a0_0 a0_1 a0_2 a1), AV.fl [.int .i64] (v80_1 a0_0 a0_1 a0_2 a1), AV.fl [.int .i64, .int .i64] (v80_2 a0_0 a0_1 a0_2 a1)], AV.int .i64 (v80_3 a0_0 a0_1 a0_2 a1), AV.bool (v80_4 a0_0 a0_1 a0_2 a1)]) := (e80 a0_0 a0_1 a0_2 a1).trans ((brL (brL (br (fun b => some (AV.tup [AV.agg [AV.fl [.int .i64] (bif b then (v127_0 a0_0 a0_1 a0_2) else (bif decide ((v69_0 a0_0 a0_1 a0_2 a1) < 0) then (v127_0 a0_0 a0_1 a0_2) else (ro (runW (R80_0 (fI (a0_0.getD (v69_0 a0_0 a0_1 a0_2 a1).toNat AV.undef) 0)) ((((v127_2 a0_0 a0_1 a0_2).length : Int) - 0).toNat + 1) ((v69_0 a0_0 a0_1 a0_2 a1), 0, 0, (v127_0 a0_0 a0_1 a0_2), (v127_1 a0_0 a0_1 a0_2), (v127_2 a0_0 a0_1 a0_2))) [] (fun p21 => (bif decide (IntKind.i64.wrap ((p21.2.2.1.length : Int) - 1) = p21.1) then (p21.2.2.1.drop (Int.toNat 0)).take (Int.toNat (IntKind.i64.wrap ((p21.2.2.1.length : Int) - 1)) - (Int.toNat 0)) else ((p21.2.2.1.set p21.1.toNat (AV.agg [AV.int .i64 (fI (p21.2.2.1.getD (IntKind.i64.wrap ((p21.2.2.1.length : Int) - 1)).toNat AV.undef) 0)])).drop (Int.toNat 0)).take (Int.toNat (IntKind.i64.wrap (((p21.2.2.1.set p21.1.toNat (AV.agg [AV.int .i64 (fI (p21.2.2.1.getD (IntKind.i64.wrap ((p21.2.2.1.length : Int) - 1)).toNat AV.undef) 0)])).length : Int) - 1)) - (Int.toNat 0))))))), AV.fl [.int .i64] (bif b then (v127_1 a0_0 a0_1 a0_2) else (bif decide ((v69_0 a0_0 a0_1 a0_2 a1) < 0) then (v127_1 a0_0 a0_1 a0_2) else (ro (runW (R80_0 (fI (a0_0.getD (v69_0 a0_0 a0_1 a0_2 a1).toNat AV.undef) 0)) ((((v127_2 a0_0 a0_1 a0_2).length : Int) - 0).toNat + 1) ((v69_0 a0_0 a0_1 a0_2 a1), 0, 0, (v127_0 a0_0 a0_1 a0_2), (v127_1 a0_0 a0_1 a0_2), (v127_2 a0_0 a0_1 a0_2))) [] (fun p21 => (bif decide (IntKind.i64.wrap ((p21.2.2.1.length : Int) - 1) = p21.1) then (p21.2.2.2.1.drop (Int.toNat 0)).take (Int.toNat (IntKind.i64.wrap ((p21.2.2.2.1.length : Int) - 1)) - (Int.toNat 0)) else ((p21.2.2.2.1.set p21.1.toNat (AV.agg [AV.int .i64 (fI (p21.2.2.2.1.getD (IntKind.i64.wrap ((p21.2.2.1.length : Int) - 1)).toNat AV.undef) 0)])).drop (Int.toNat 0)).take (Int.toNat (IntKind.i64.wrap (((p21.2.2.2.1.set p21.1.toNat (AV.agg [AV.int .i64 (fI (p21.2.2.2.1.getD (IntKind.i64.wrap ((p21.2.2.1.length : Int) - 1)).toNat AV.undef) 0)])).length : Int) - 1)) - (Int.toNat 0))))))), AV.fl [.int .i64, .int .i64] (bif b then (v127_2 a0_0 a0_1 a0_2) else (bif decide ((v69_0 a0_0 a0_1 a0_2 a1) < 0) then (v127_2 a0_0 a0_1 a0_2) else (ro (runW (R80_0 (fI (a0_0.getD (v69_0 a0_0 a0_1 a0_2 a1).toNat AV.undef) 0)) ((((v127_2 a0_0 a0_1 a0_2).length : Int) - 0).toNat + 1) ((v69_0 a0_0 a0_1 a0_2 a1), 0, 0, (v127_0 a0_0 a0_1 a0_2), (v127_1 a0_0 a0_1 a0_2), (v127_2 a0_0 a0_1 a0_2))) [] (fun p21 => p21.2.2.2.2))))], AV.int .i64 (bif b then 0 else (bif decide ((v69_0 a0_0 a0_1 a0_2 a1) < 0) then 0 else (ro (runW (R80_0 (fI (a0_0.getD (v69_0 a0_0 a0_1 a0_2 a1).toNat AV.undef) 0)) ((((v127_2 a0_0 a0_1 a0_2).length : Int) - 0).toNat + 1) ((v69_0 a0_0 a0_1 a0_2 a1), 0, 0, (v127_0 a0_0 a0_1 a0_2), (v127_1 a0_0 a0_1 a0_2), (v127_2 a0_0 a0_1 a0_2))) 0 (fun p21 => (bif decide (IntKind.i64.wrap ((p21.2.2.1.length : Int) - 1) = p21.1) then IntKind.i64.wrap (p21.2.1 + 0) else IntKind.i64.wrap (p21.2.1 + 1)))))), AV.bool (bif b then false else (bif decide ((v69_0 a0_0 a0_1 a0_2 a1) < 0) then false else true))])) (brL1 (fun _ => rfl)) (br (fun b => some (AV.tup [AV.agg [AV.fl [.int .i64] (bif b then (v127_0 a0_0 a0_1 a0_2) else (ro (runW (R80_0 (fI (a0_0.getD (v69_0 a0_0 a0_1 a0_2 a1).toNat AV.undef) 0)) ((((v127_2 a0_0 a0_1 a0_2).length : Int) - 0).toNat + 1) ((v69_0 a0_0 a0_1 a0_2 a1), 0, 0, (v127_0 a0_0 a0_1 a0_2), (v127_1 a0_0 a0_1 a0_2), (v127_2 a0_0 a0_1 a0_2))) [] (fun p21 => (bif decide (IntKind.i64.wrap ((p21.2.2.1.length : Int) - 1) = p21.1) then (p21.2.2.1.drop (Int.toNat 0)).take (Int.toNat (IntKind.i64.wrap ((p21.2.2.1.length : Int) - 1)) - (Int.toNat 0)) else ((p21.2.2.1.set p21.1.toNat (AV.agg [AV.int .i64 (fI (p21.2.2.1.getD (IntKind.i64.wrap ((p21.2.2.1.length : Int) - 1)).toNat AV.undef) 0)])).drop (Int.toNat 0)).take (Int.toNat (IntKind.i64.wrap (((p21.2.2.1.set p21.1.toNat (AV.agg [AV.int .i64 (fI (p21.2.2.1.getD (IntKind.i64.wrap ((p21.2.2.1.length : Int) - 1)).toNat AV.undef) 0)])).length : Int) - 1)) - (Int.toNat 0)))))), AV.fl [.int .i64] (bif b then (v127_1 a0_0 a0_1 a0_2) else (ro (runW (R80_0 (fI (a0_0.getD (v69_0 a0_0 a0_1 a0_2 a1).toNat AV.undef) 0)) ((((v127_2 a0_0 a0_1 a0_2).length : Int) - 0).toNat + 1) ((v69_0 a0_0 a0_1 a0_2 a1), 0, 0, (v127_0 a0_0 a0_1 a0_2), (v127_1 a0_0 a0_1 a0_2), (v127_2 a0_0 a0_1 a0_2))) [] (fun p21 => (bif decide (IntKind.i64.wrap ((p21.2.2.1.length : Int) - 1) = p21.1) then (p21.2.2.2.1.drop (Int.toNat 0)).take (Int.toNat (IntKind.i64.wrap ((p21.2.2.2.1.length : Int) - 1)) - (Int.toNat 0)) else ((p21.2.2.2.1.set p21.1.toNat (AV.agg [AV.int .i64 (fI (p21.2.2.2.1.getD (IntKind.i64.wrap ((p21.2.2.1.length : Int) - 1)).toNat AV.undef) 0)])).drop (Int.toNat 0)).take (Int.toNat (IntKind.i64.wrap (((p21.2.2.2.1.set p21.1.toNat (AV.agg [AV.int .i64 (fI (p21.2.2.2.1.getD (IntKind.i64.wrap ((p21.2.2.1.length : Int) - 1)).toNat AV.undef) 0)])).length : Int) - 1)) - (Int.toNat 0)))))), AV.fl [.int .i64, .int .i64] (bif b then (v127_2 a0_0 a0_1 a0_2) else (ro (runW (R80_0 (fI (a0_0.getD (v69_0 a0_0 a0_1 a0_2 a1).toNat AV.undef) 0)) ((((v127_2 a0_0 a0_1 a0_2).length : Int) - 0).toNat + 1) ((v69_0 a0_0 a0_1 a0_2 a1), 0, 0, (v127_0 a0_0 a0_1 a0_2), (v127_1 a0_0 a0_1 a0_2), (v127_2 a0_0 a0_1 a0_2))) [] (fun p21 => p21.2.2.2.2)))], AV.int .i64 (bif b then 0 else (ro (runW (R80_0 (fI (a0_0.getD (v69_0 a0_0 a0_1 a0_2 a1).toNat AV.undef) 0)) ((((v127_2 a0_0 a0_1 a0_2).length : Int) - 0).toNat + 1) ((v69_0 a0_0 a0_1 a0_2 a1), 0, 0, (v127_0 a0_0 a0_1 a0_2), (v127_1 a0_0 a0_1 a0_2), (v127_2 a0_0 a0_1 a0_2))) 0 (fun p21 => (bif decide (IntKind.i64.wrap ((p21.2.2.1.length : Int) - 1) = p21.1) then IntKind.i64.wrap (p21.2.1 + 0) else IntKind.i64.wrap (p21.2.1 + 1))))), AV.bool (bif b then false else true)])) (brL1 (fun _ => rfl)) (brL (brL (brO (fun o : Option ((Int × Int × (List AV) × (List AV) × (List AV))) => some (AV.tup [AV.agg [AV.fl [.int .i64] (ro o [] (fun p21 => (bif decide (IntKind.i64.wrap ((p21.2.2.1.length : Int) - 1) = p21.1) then (p21.2.2.1.drop (Int.toNat 0)).take (Int.toNat (IntKind.i64.wrap ((p21.2.2.1.length : Int) - 1)) - (Int.toNat 0)) else ((p21.2.2.1.set p21.1.toNat (AV.agg [AV.int .i64 (fI (p21.2.2.1.getD (IntKind.i64.wrap ((p21.2.2.1.length : Int) - 1)).toNat AV.undef) 0)])).drop (Int.toNat 0)).take (Int.toNat (IntKind.i64.wrap (((p21.2.2.1.set p21.1.toNat (AV.agg [AV.int .i64 (fI (p21.2.2.1.getD (IntKind.i64.wrap ((p21.2.2.1.length : Int) - 1)).toNat AV.undef) 0)])).length : Int) - 1)) - (Int.toNat 0))))), AV.fl [.int .i64] (ro o [] (fun p21 => (bif decide (IntKind.i64.wrap ((p21.2.2.1.length : Int) - 1) = p21.1) then (p21.2.2.2.1.drop (Int.toNat 0)).take (Int.toNat (IntKind.i64.wrap ((p21.2.2.2.1.length : Int) - 1)) - (Int.toNat 0)) else ((p21.2.2.2.1.set p21.1.toNat (AV.agg [AV.int .i64 (fI (p21.2.2.2.1.getD (IntKind.i64.wrap ((p21.2.2.1.length : Int) - 1)).toNat AV.undef) 0)])).drop (Int.toNat 0)).take (Int.toNat (IntKind.i64.wrap (((p21.2.2.2.1.set p21.1.toNat (AV.agg [AV.int .i64 (fI (p21.2.2.2.1.getD (IntKind.i64.wrap ((p21.2.2.1.length : Int) - 1)).toNat AV.undef) 0)])).length : Int) - 1)) - (Int.toNat 0))))), AV.fl [.int .i64, .int .i64] (ro o [] (fun p21 => p21.2.2.2.2))], AV.int .i64 (ro o 0 (fun p21 => (bif decide (IntKind.i64.wrap ((p21.2.2.1.length : Int) - 1) = p21.1) then IntKind.i64.wrap (p21.2.1 + 0) else IntKind.i64.wrap (p21.2.1 + 1)))), AV.bool true])) (fun p21 => (br (fun b => some (AV.tup [AV.agg [AV.fl [.int .i64] (bif b then (p21.2.2.1.drop (Int.toNat 0)).take (Int.toNat (IntKind.i64.wrap ((p21.2.2.1.length : Int) - 1)) - (Int.toNat 0)) else ((p21.2.2.1.set p21.1.toNat (AV.agg [AV.int .i64 (fI (p21.2.2.1.getD (IntKind.i64.wrap ((p21.2.2.1.length : Int) - 1)).toNat AV.undef) 0)])).drop (Int.toNat 0)).take (Int.toNat (IntKind.i64.wrap (((p21.2.2.1.set p21.1.toNat (AV.agg [AV.int .i64 (fI (p21.2.2.1.getD (IntKind.i64.wrap ((p21.2.2.1.length : Int) - 1)).toNat AV.undef) 0)])).length : Int) - 1)) - (Int.toNat 0))), AV.fl [.int .i64] (bif b then (p21.2.2.2.1.drop (Int.toNat 0)).take (Int.toNat (IntKind.i64.wrap ((p21.2.2.2.1.length : Int) - 1)) - (Int.toNat 0)) else ((p21.2.2.2.1.set p21.1.toNat (AV.agg [AV.int .i64 (fI (p21.2.2.2.1.getD (IntKind.i64.wrap ((p21.2.2.1.length : Int) - 1)).toNat AV.undef) 0)])).drop (Int.toNat 0)).take (Int.toNat (IntKind.i64.wrap (((p21.2.2.2.1.set p21.1.toNat (AV.agg [AV.int .i64 (fI (p21.2.2.2.1.getD (IntKind.i64.wrap ((p21.2.2.1.length : Int) - 1)).toNat AV.undef) 0)])).length : Int) - 1)) - (Int.toNat 0))), AV.fl [.int .i64, .int .i64] p21.2.2.2.2], AV.int .i64 (bif b then IntKind.i64.wrap (p21.2.1 + 0) else IntKind.i64.wrap (p21.2.1 + 1)), AV.bool true])) (brL (brL1 (fun _ => rfl))) (brL (brL (brL (brL (brL (brL1 (fun _ => rfl)))))))))))))))) h)
def m80 : TModel
  | [.agg [.sl g0 a0_0, .sl g1 a0_1, .sl g2 a0_2], .int .i64 a1] => bif ctsEq g0 ([.int .i64]) && ctsEq g1 ([.int .i64]) && ctsEq g2 ([.int .i64, .int .i64]) then some (q80 a0_0 a0_1 a0_2 a1, AV.tup [AV.agg [AV.fl [.int .i64] (v80_0 a0_0 a0_1 a0_2 a1), AV.fl [.int .i64] (v80_1 a0_0 a0_1 a0_2 a1), AV.fl [.int .i64, .int .i64] (v80_2 a0_0 a0_1 a0_2 a1)], AV.int .i64 (v80_3 a0_0 a0_1 a0_2 a1), AV.bool (v80_4 a0_0 a0_1 a0_2 a1)]) else none
  | _ => none
theorem k80 : Known Try.prog 80 := ⟨Try.f80, Try.func80, by kernel_rfl, by kernel_rfl⟩
theorem i80_130 : InlK Try.prog [(80, 0, [4, 7, 8, 9, 10, 11]), (80, 999, [4, 5, 6]), (80, 1000, [4, 7, 8, 10]), (80, 1001, [4, 7, 8, 9, 10, 11]), (130, 999, [6])] [(67, m67), (69, m69), (127, m127)] [] [130] [(80, 0, l80_0)] 130 := ⟨⟨Try.f130, Try.func130, by kernel_rfl, by kernel_rfl⟩, Try.f130, [], Try.func130, by kernel_rfl, fun _ _ => noLoop⟩
theorem meets80 : Meets Try.prog 80 m80 := by
  refine meet (f := Try.f80) (l := [(0, sub [1, 1, 1, 1, 1, 1, 0, 1, 0, 0] (body Try.f80))]) (hs := [(80, 0, [4, 7, 8, 9, 10, 11]), (80, 999, [4, 5, 6]), (80, 1000, [4, 7, 8, 10]), (80, 1001, [4, 7, 8, 9, 10, 11]), (130, 999, [6])]) (ts := [(67, m67), (69, m69), (127, m127)]) (ws := []) (is := [130]) (ls := [(80, 0, l80_0)]) (lvl := 1) mixed k80 Try.func80 (by kernel_rfl) (loops_cons ok80_0 noLoop) (allT_cons meets67 (allT_cons meets69 (allT_cons meets127 allT_nil))) allM_nil (allI_cons i80_130 noI) fun w xs us r hl hv h => ?_
  unfold m80 at h
  split at h
  · rename_i g0 a0_0 g1 a0_1 g2 a0_2 a1
    obtain ⟨hg, h⟩ := bif_pair h
    simp only [Bool.and_eq_true] at hg
    obtain ⟨⟨q0, q1⟩, q2⟩ := hg
    obtain rfl := ctsEq_eq _ _ q0
    obtain rfl := ctsEq_eq _ _ q1
    obtain rfl := ctsEq_eq _ _ q2
    obtain ⟨h1, rfl⟩ := pair_inj h
    exact r80 a0_0 a0_1 a0_2 a1 h1
  · cases h

/-! ### 24 loop.example/g01984/spec.VacuumStore -/
def F24_0 (t1 : Int) (h1_0 : List AV) (h1_1 : Int) (h1_2 : List AV) (h1_3 : List AV) (h1_4 : List AV) (h4 : Int) (h6 : Int) (t7 : Int) (t8 : Int) (h0 : List AV) (h2 : List AV) (h3 : List AV) (h5 : List AV) : Out ((Int × Int × (List AV) × (List AV) × (List AV) × (List AV))) ((Int × (List AV) × (List AV) × (List AV) × (List AV))) := (bif decide (t8 < (h1_0.length : Int)) then (bif (decide (0 ≤ t8) && decide (t8 < (h1_0.length : Int))) then (bif decide (fI (h1_0.getD t8.toNat AV.undef) 3 = (-1)) then (bif (decide ((h0.length + ([AV.agg [AV.int .i64 (fI (h1_0.getD t8.toNat AV.undef) 0), AV.int .i64 (fI (h1_0.getD t8.toNat AV.undef) 1), AV.int .i64 (fI (h1_0.getD t8.toNat AV.undef) 2), AV.int .i64 (fI (h1_0.getD t8.toNat AV.undef) 3)]]).length) * 32 ≤ 140737488355328) && decide ((h0.length + ([AV.agg [AV.int .i64 (fI (h1_0.getD t8.toNat AV.undef) 0), AV.int .i64 (fI (h1_0.getD t8.toNat AV.undef) 1), AV.int .i64 (fI (h1_0.getD t8.toNat AV.undef) 2), AV.int .i64 (fI (h1_0.getD t8.toNat AV.undef) 3)]]).length) ≤ 140737488355328)) then .next (t7, IntKind.i64.wrap (t8 + 1), h0 ++ ([AV.agg [AV.int .i64 (fI (h1_0.getD t8.toNat AV.undef) 0), AV.int .i64 (fI (h1_0.getD t8.toNat AV.undef) 1), AV.int .i64 (fI (h1_0.getD t8.toNat AV.undef) 2), AV.int .i64 (fI (h1_0.getD t8.toNat AV.undef) 3)]]), h2, h3, h5)
     else .fail)
    else (bif decide (fI (h1_0.getD t8.toNat AV.undef) 3 > t1) then (bif (decide ((h0.length + ([AV.agg [AV.int .i64 (fI (h1_0.getD t8.toNat AV.undef) 0), AV.int .i64 (fI (h1_0.getD t8.toNat AV.undef) 1), AV.int .i64 (fI (h1_0.getD t8.toNat AV.undef) 2), AV.int .i64 (fI (h1_0.getD t8.toNat AV.undef) 3)]]).length) * 32 ≤ 140737488355328) && decide ((h0.length + ([AV.agg [AV.int .i64 (fI (h1_0.getD t8.toNat AV.undef) 0), AV.int .i64 (fI (h1_0.getD t8.toNat AV.undef) 1), AV.int .i64 (fI (h1_0.getD t8.toNat AV.undef) 2), AV.int .i64 (fI (h1_0.getD t8.toNat AV.undef) 3)]]).length) ≤ 140737488355328)) then .next (t7, IntKind.i64.wrap (t8 + 1), h0 ++ ([AV.agg [AV.int .i64 (fI (h1_0.getD t8.toNat AV.undef) 0), AV.int .i64 (fI (h1_0.getD t8.toNat AV.undef) 1), AV.int .i64 (fI (h1_0.getD t8.toNat AV.undef) 2), AV.int .i64 (fI (h1_0.getD t8.toNat AV.undef) 3)]]), h2, h3, h5)
      else .fail)
     else (bif q80 h2 h3 h5 (fI (h1_0.getD t8.toNat AV.undef) 1) then .next (IntKind.i64.wrap (t7 + 1), IntKind.i64.wrap (t8 + 1), h0, (v80_0 h2 h3 h5 (fI (h1_0.getD t8.toNat AV.undef) 1)), (v80_1 h2 h3 h5 (fI (h1_0.getD t8.toNat AV.undef) 1)), (v80_2 h2 h3 h5 (fI (h1_0.getD t8.toNat AV.undef) 1)))
      else .fail)))
   else .fail)
  else .stop (t7, h0, h2, h3, h5))
def R24_0 (t1 : Int) (h1_0 : List AV) (h1_1 : Int) (h1_2 : List AV) (h1_3 : List AV) (h1_4 : List AV) (h4 : Int) (h6 : Int) : ((Int × Int × (List AV) × (List AV) × (List AV) × (List AV))) → Out ((Int × Int × (List AV) × (List AV) × (List AV) × (List AV))) ((Int × (List AV) × (List AV) × (List AV) × (List AV))) := fun s : Int × Int × (List AV) × (List AV) × (List AV) × (List AV) => F24_0 t1 h1_0 h1_1 h1_2 h1_3 h1_4 h4 h6 s.1 s.2.1 s.2.2.1 s.2.2.2.1 s.2.2.2.2.1 s.2.2.2.2.2
def l24_0 : LModel := fun _ _ st k => match st with
  | ⟨[(1, .int .i64 t1), (2, .ptr g0 g1 g2), (4, .ptr g3 g4 g5), (6, .ptr g6 g7 g8), (7, .int .i64 t7), (8, .int .i64 t8)], [(g9, ⟨false, g10, h0⟩), (g11, ⟨true, [], [.agg [.sl g12 h1_0, .int .i64 h1_1, .sl g13 h1_2, .sl g14 h1_3, .sl g15 h1_4]]⟩), (g16, ⟨false, g17, h2⟩), (g18, ⟨false, g19, h3⟩), (g20, ⟨true, [], [.agg [.snil, .int .i64 h4, .snil, .snil, .snil]]⟩), (g21, ⟨false, g22, h5⟩), (g23, ⟨true, [], [.agg [.own g24, .int .i64 h6, .own g25, .own g26, .own g27]]⟩)]⟩ => bif nmEq g0 ([0, 2]) && Nat.beq g1 0 && Nat.beq g2 0 && nmEq g3 ([0, 4]) && Nat.beq g4 0 && Nat.beq g5 0 && nmEq g6 ([0, 6]) && Nat.beq g7 0 && Nat.beq g8 0 && nmEq g9 ([0, 0, 6]) && ctsEq g10 ([.int .i64, .int .i64, .int .i64, .int .i64]) && nmEq g11 ([0, 2]) && ctsEq g12 ([.int .i64, .int .i64, .int .i64, .int .i64]) && ctsEq g13 ([.int .i64]) && ctsEq g14 ([.int .i64]) && ctsEq g15 ([.int .i64, .int .i64]) && nmEq g16 ([0, 2, 6]) && ctsEq g17 ([.int .i64]) && nmEq g18 ([0, 3, 6]) && ctsEq g19 ([.int .i64]) && nmEq g20 ([0, 4]) && nmEq g21 ([0, 4, 6]) && ctsEq g22 ([.int .i64, .int .i64]) && nmEq g23 ([0, 6]) && nmEq g24 ([0, 0, 6]) && nmEq g25 ([0, 2, 6]) && nmEq g26 ([0, 3, 6]) && nmEq g27 ([0, 4, 6]) then ro (runW (R24_0 t1 h1_0 h1_1 h1_2 h1_3 h1_4 h4 h6) (((h1_0.length : Int) - t8).toNat + 1) (t7, t8, h0, h2, h3, h5)) none (fun p : Int × (List AV) × (List AV) × (List AV) × (List AV) => k (.exit 0) ⟨[(4, AV.ptr [0, 4] 0 0), (6, AV.ptr [0, 6] 0 0), (7, AV.int .i64 p.1)], [([0, 0, 6], ⟨false, [.int .i64, .int .i64, .int .i64, .int .i64], p.2.1⟩), ([0, 2], ⟨true, [], [AV.agg [AV.sl [.int .i64, .int .i64, .int .i64, .int .i64] h1_0, AV.int .i64 h1_1, AV.sl [.int .i64] h1_2, AV.sl [.int .i64] h1_3, AV.sl [.int .i64, .int .i64] h1_4]]⟩), ([0, 2, 6], ⟨false, [.int .i64], p.2.2.1⟩), ([0, 3, 6], ⟨false, [.int .i64], p.2.2.2.1⟩), ([0, 4], ⟨true, [], [AV.agg [AV.snil, AV.int .i64 h4, AV.snil, AV.snil, AV.snil]]⟩), ([0, 4, 6], ⟨false, [.int .i64, .int .i64], p.2.2.2.2⟩), ([0, 6], ⟨true, [], [AV.agg [AV.own [0, 0, 6], AV.int .i64 h6, AV.own [0, 2, 6], AV.own [0, 3, 6], AV.own [0, 4, 6]]]⟩)]⟩) else none
  | _ => none
noncomputable def c24 : Cfg := cfg Try.prog [(24, 0, [1, 2, 4, 6, 7, 8]), (24, 999, [4, 5]), (24, 1000, [4, 6, 7]), (24, 1001, [1, 2, 4, 6, 7, 8])] [(16, m16), (74, m74), (80, m80)] [] [] [(24, 0, l24_0)]
theorem s24_0 (ce : CallE) (t1 : Int) (t7 : Int) (t8 : Int) (h0 : List AV) (h1_0 : List AV) (h1_1 : Int) (h1_2 : List AV) (h1_3 : List AV) (h1_4 : List AV) (h2 : List AV) (h3 : List AV) (h4 : Int) (h5 : List AV) (h6 : Int) (next : St → Option AV) (k : Kont) : stepA (codeA c24 ce [] 24 0 (sub [1, 1, 1, 1, 1, 0, 1, 0, 0] (body Try.f24))) (normA [] [1, 2, 4, 6, 7, 8]) next ⟨[(1, AV.int .i64 t1), (2, AV.ptr [0, 2] 0 0), (4, AV.ptr [0, 4] 0 0), (6, AV.ptr [0, 6] 0 0), (7, AV.int .i64 t7), (8, AV.int .i64 t8)], [([0, 0, 6], ⟨false, [.int .i64, .int .i64, .int .i64, .int .i64], h0⟩), ([0, 2], ⟨true, [], [AV.agg [AV.sl [.int .i64, .int .i64, .int .i64, .int .i64] h1_0, AV.int .i64 h1_1, AV.sl [.int .i64] h1_2, AV.sl [.int .i64] h1_3, AV.sl [.int .i64, .int .i64] h1_4]]⟩), ([0, 2, 6], ⟨false, [.int .i64], h2⟩), ([0, 3, 6], ⟨false, [.int .i64], h3⟩), ([0, 4], ⟨true, [], [AV.agg [AV.snil, AV.int .i64 h4, AV.snil, AV.snil, AV.snil]]⟩), ([0, 4, 6], ⟨false, [.int .i64, .int .i64], h5⟩), ([0, 6], ⟨true, [], [AV.agg [AV.own [0, 0, 6], AV.int .i64 h6, AV.own [0, 2, 6], AV.own [0, 3, 6], AV.own [0, 4, 6]]]⟩)]⟩ k = (bif decide (t8 < (h1_0.length : Int)) then (bif (decide (0 ≤ t8) && decide (t8 < (h1_0.length : Int))) then (bif decide (fI (h1_0.getD t8.toNat AV.undef) 3 = (-1)) then (bif (decide ((h0.length + ([AV.agg [AV.int .i64 (fI (h1_0.getD t8.toNat AV.undef) 0), AV.int .i64 (fI (h1_0.getD t8.toNat AV.undef) 1), AV.int .i64 (fI (h1_0.getD t8.toNat AV.undef) 2), AV.int .i64 (fI (h1_0.getD t8.toNat AV.undef) 3)]]).length) * 32 ≤ 140737488355328) && decide ((h0.length + ([AV.agg [AV.int .i64 (fI (h1_0.getD t8.toNat AV.undef) 0), AV.int .i64 (fI (h1_0.getD t8.toNat AV.undef) 1), AV.int .i64 (fI (h1_0.getD t8.toNat AV.undef) 2), AV.int .i64 (fI (h1_0.getD t8.toNat AV.undef) 3)]]).length) ≤ 140737488355328)) then next ⟨[(1, AV.int .i64 t1), (2, AV.ptr [0, 2] 0 0), (4, AV.ptr [0, 4] 0 0), (6, AV.ptr [0, 6] 0 0), (7, AV.int .i64 t7), (8, AV.int .i64 (IntKind.i64.wrap (t8 + 1)))], [([0, 0, 6], ⟨false, [.int .i64, .int .i64, .int .i64, .int .i64], h0 ++ ([AV.agg [AV.int .i64 (fI (h1_0.getD t8.toNat AV.undef) 0), AV.int .i64 (fI (h1_0.getD t8.toNat AV.undef) 1), AV.int .i64 (fI (h1_0.getD t8.toNat AV.undef) 2), AV.int .i64 (fI (h1_0.getD t8.toNat AV.undef) 3)]])⟩), ([0, 2], ⟨true, [], [AV.agg [AV.sl [.int .i64, .int .i64, .int .i64, .int .i64] h1_0, AV.int .i64 h1_1, AV.sl [.int .i64] h1_2, AV.sl [.int .i64] h1_3, AV.sl [.int .i64, .int .i64] h1_4]]⟩), ([0, 2, 6], ⟨false, [.int .i64], h2⟩), ([0, 3, 6], ⟨false, [.int .i64], h3⟩), ([0, 4], ⟨true, [], [AV.agg [AV.snil, AV.int .i64 h4, AV.snil, AV.snil, AV.snil]]⟩), ([0, 4, 6], ⟨false, [.int .i64, .int .i64], h5⟩), ([0, 6], ⟨true, [], [AV.agg [AV.own [0, 0, 6], AV.int .i64 h6, AV.own [0, 2, 6], AV.own [0, 3, 6], AV.own [0, 4, 6]]]⟩)]⟩
     else none)
    else (bif decide (fI (h1_0.getD t8.toNat AV.undef) 3 > t1) then (bif (decide ((h0.length + ([AV.agg [AV.int .i64 (fI (h1_0.getD t8.toNat AV.undef) 0), AV.int .i64 (fI (h1_0.getD t8.toNat AV.undef) 1), AV.int .i64 (fI (h1_0.getD t8.toNat AV.undef) 2), AV.int .i64 (fI (h1_0.getD t8.toNat AV.undef) 3)]]).length) * 32 ≤ 140737488355328) && decide ((h0.length + ([AV.agg [AV.int .i64 (fI (h1_0.getD t8.toNat AV.undef) 0), AV.int .i64 (fI (h1_0.getD t8.toNat AV.undef) 1), AV.int .i64 (fI (h1_0.getD t8.toNat AV.undef) 2), AV.int .i64 (fI (h1_0.getD t8.toNat AV.undef) 3)]]).length) ≤ 140737488355328)) then next ⟨[(1, AV.int .i64 t1), (2, AV.ptr [0, 2] 0 0), (4, AV.ptr [0, 4] 0 0), (6, AV.ptr [0, 6] 0 0), (7, AV.int .i64 t7), (8, AV.int .i64 (IntKind.i64.wrap (t8 + 1)))], [([0, 0, 6], ⟨false, [.int .i64, .int .i64, .int .i64, .int .i64], h0 ++ ([AV.agg [AV.int .i64 (fI (h1_0.getD t8.toNat AV.undef) 0), AV.int .i64 (fI (h1_0.getD t8.toNat AV.undef) 1), AV.int .i64 (fI (h1_0.getD t8.toNat AV.undef) 2), AV.int .i64 (fI (h1_0.getD t8.toNat AV.undef) 3)]])⟩), ([0, 2], ⟨true, [], [AV.agg [AV.sl [.int .i64, .int .i64, .int .i64, .int .i64] h1_0, AV.int .i64 h1_1, AV.sl [.int .i64] h1_2, AV.sl [.int .i64] h1_3, AV.sl [.int .i64, .int .i64] h1_4]]⟩), ([0, 2, 6], ⟨false, [.int .i64], h2⟩), ([0, 3, 6], ⟨false, [.int .i64], h3⟩), ([0, 4], ⟨true, [], [AV.agg [AV.snil, AV.int .i64 h4, AV.snil, AV.snil, AV.snil]]⟩), ([0, 4, 6], ⟨false, [.int .i64, .int .i64], h5⟩), ([0, 6], ⟨true, [], [AV.agg [AV.own [0, 0, 6], AV.int .i64 h6, AV.own [0, 2, 6], AV.own [0, 3, 6], AV.own [0, 4, 6]]]⟩)]⟩
      else none)
     else (bif q80 h2 h3 h5 (fI (h1_0.getD t8.toNat AV.undef) 1) then next ⟨[(1, AV.int .i64 t1), (2, AV.ptr [0, 2] 0 0), (4, AV.ptr [0, 4] 0 0), (6, AV.ptr [0, 6] 0 0), (7, AV.int .i64 (IntKind.i64.wrap (t7 + 1))), (8, AV.int .i64 (IntKind.i64.wrap (t8 + 1)))], [([0, 0, 6], ⟨false, [.int .i64, .int .i64, .int .i64, .int .i64], h0⟩), ([0, 2], ⟨true, [], [AV.agg [AV.sl [.int .i64, .int .i64, .int .i64, .int .i64] h1_0, AV.int .i64 h1_1, AV.sl [.int .i64] h1_2, AV.sl [.int .i64] h1_3, AV.sl [.int .i64, .int .i64] h1_4]]⟩), ([0, 2, 6], ⟨false, [.int .i64], (v80_0 h2 h3 h5 (fI (h1_0.getD t8.toNat AV.undef) 1))⟩), ([0, 3, 6], ⟨false, [.int .i64], (v80_1 h2 h3 h5 (fI (h1_0.getD t8.toNat AV.undef) 1))⟩), ([0, 4], ⟨true, [], [AV.agg [AV.snil, AV.int .i64 h4, AV.snil, AV.snil, AV.snil]]⟩), ([0, 4, 6], ⟨false, [.int .i64, .int .i64], (v80_2 h2 h3 h5 (fI (h1_0.getD t8.toNat AV.undef) 1))⟩), ([0, 6], ⟨true, [], [AV.agg [AV.own [0, 0, 6], AV.int .i64 h6, AV.own [0, 2, 6], AV.own [0, 3, 6], AV.own [0, 4, 6]]]⟩)]⟩
      else none)))
   else none)
  else k (.exit 0) ⟨[(4, AV.ptr [0, 4] 0 0), (6, AV.ptr [0, 6] 0 0), (7, AV.int .i64 t7)], [([0, 0, 6], ⟨false, [.int .i64, .int .i64, .int .i64, .int .i64], h0⟩), ([0, 2], ⟨true, [], [AV.agg [AV.sl [.int .i64, .int .i64, .int .i64, .int .i64] h1_0, AV.int .i64 h1_1, AV.sl [.int .i64] h1_2, AV.sl [.int .i64] h1_3, AV.sl [.int .i64, .int .i64] h1_4]]⟩), ([0, 2, 6], ⟨false, [.int .i64], h2⟩), ([0, 3, 6], ⟨false, [.int .i64], h3⟩), ([0, 4], ⟨true, [], [AV.agg [AV.snil, AV.int .i64 h4, AV.snil, AV.snil, AV.snil]]⟩), ([0, 4, 6], ⟨false, [.int .i64, .int .i64], h5⟩), ([0, 6], ⟨true, [], [AV.agg [AV.own [0, 0, 6], AV.int .i64 h6, AV.own [0, 2, 6], AV.own [0, 3, 6], AV.own [0, 4, 6]]]⟩)]⟩) := by kernel_rfl
theorem st24_0 (t1 : Int) (h1_0 : List AV) (h1_1 : Int) (h1_2 : List AV) (h1_3 : List AV) (h1_4 : List AV) (h4 : Int) (h6 : Int) (ce : CallE) (k : Kont) (s : (Int × Int × (List AV) × (List AV) × (List AV) × (List AV))) (next : St → Option AV) : stepA (codeA c24 ce [] 24 0 (sub [1, 1, 1, 1, 1, 0, 1, 0, 0] (body Try.f24))) (normA [] [1, 2, 4, 6, 7, 8]) next ((fun s : Int × Int × (List AV) × (List AV) × (List AV) × (List AV) => ⟨[(1, AV.int .i64 t1), (2, AV.ptr [0, 2] 0 0), (4, AV.ptr [0, 4] 0 0), (6, AV.ptr [0, 6] 0 0), (7, AV.int .i64 s.1), (8, AV.int .i64 s.2.1)], [([0, 0, 6], ⟨false, [.int .i64, .int .i64, .int .i64, .int .i64], s.2.2.1⟩), ([0, 2], ⟨true, [], [AV.agg [AV.sl [.int .i64, .int .i64, .int .i64, .int .i64] h1_0, AV.int .i64 h1_1, AV.sl [.int .i64] h1_2, AV.sl [.int .i64] h1_3, AV.sl [.int .i64, .int .i64] h1_4]]⟩), ([0, 2, 6], ⟨false, [.int .i64], s.2.2.2.1⟩), ([0, 3, 6], ⟨false, [.int .i64], s.2.2.2.2.1⟩), ([0, 4], ⟨true, [], [AV.agg [AV.snil, AV.int .i64 h4, AV.snil, AV.snil, AV.snil]]⟩), ([0, 4, 6], ⟨false, [.int .i64, .int .i64], s.2.2.2.2.2⟩), ([0, 6], ⟨true, [], [AV.agg [AV.own [0, 0, 6], AV.int .i64 h6, AV.own [0, 2, 6], AV.own [0, 3, 6], AV.own [0, 4, 6]]]⟩)]⟩) s) k = (R24_0 t1 h1_0 h1_1 h1_2 h1_3 h1_4 h4 h6 s).el none (fun s => next ((fun s : Int × Int × (List AV) × (List AV) × (List AV) × (List AV) => ⟨[(1, AV.int .i64 t1), (2, AV.ptr [0, 2] 0 0), (4, AV.ptr [0, 4] 0 0), (6, AV.ptr [0, 6] 0 0), (7, AV.int .i64 s.1), (8, AV.int .i64 s.2.1)], [([0, 0, 6], ⟨false, [.int .i64, .int .i64, .int .i64, .int .i64], s.2.2.1⟩), ([0, 2], ⟨true, [], [AV.agg [AV.sl [.int .i64, .int .i64, .int .i64, .int .i64] h1_0, AV.int .i64 h1_1, AV.sl [.int .i64] h1_2, AV.sl [.int .i64] h1_3, AV.sl [.int .i64, .int .i64] h1_4]]⟩), ([0, 2, 6], ⟨false, [.int .i64], s.2.2.2.1⟩), ([0, 3, 6], ⟨false, [.int .i64], s.2.2.2.2.1⟩), ([0, 4], ⟨true, [], [AV.agg [AV.snil, AV.int .i64 h4, AV.snil, AV.snil, AV.snil]]⟩), ([0, 4, 6], ⟨false, [.int .i64, .int .i64], s.2.2.2.2.2⟩), ([0, 6], ⟨true, [], [AV.agg [AV.own [0, 0, 6], AV.int .i64 h6, AV.own [0, 2, 6], AV.own [0, 3, 6], AV.own [0, 4, 6]]]⟩)]⟩) s)) (fun p : Int × (List AV) × (List AV) × (List AV) × (List AV) => k (.exit 0) ⟨[(4, AV.ptr [0, 4] 0 0), (6, AV.ptr [0, 6] 0 0), (7, AV.int .i64 p.1)], [([0, 0, 6], ⟨false, [.int .i64, .int .i64, .int .i64, .int .i64], p.2.1⟩), ([0, 2], ⟨true, [], [AV.agg [AV.sl [.int .i64, .int .i64, .int .i64, .int .i64] h1_0, AV.int .i64 h1_1, AV.sl [.int .i64] h1_2, AV.sl [.int .i64] h1_3, AV.sl [.int .i64, .int .i64] h1_4]]⟩), ([0, 2, 6], ⟨false, [.int .i64], p.2.2.1⟩), ([0, 3, 6], ⟨false, [.int .i64], p.2.2.2.1⟩), ([0, 4], ⟨true, [], [AV.agg [AV.snil, AV.int .i64 h4, AV.snil, AV.snil, AV.snil]]⟩), ([0, 4, 6], ⟨false, [.int .i64, .int .i64], p.2.2.2.2⟩), ([0, 6], ⟨true, [], [AV.agg [AV.own [0, 0, 6], AV.int .i64 h6, AV.own [0, 2, 6], AV.own [0, 3, 6], AV.own [0, 4, 6]]]⟩)]⟩) := (s24_0 ce t1 s.1 s.2.1 s.2.2.1 h1_0 h1_1 h1_2 h1_3 h1_4 s.2.2.2.1 s.2.2.2.2.1 h4 s.2.2.2.2.2 h6 next k).trans (by unfold R24_0; unfold F24_0; simp only [el_cond, el_ro, el_sum, el_fail, el_next, el_stop] <;> rfl)
theorem ok24_0 {ce : CallE} : LoopOK c24 ce [] 24 0 (sub [1, 1, 1, 1, 1, 0, 1, 0, 0] (body Try.f24)) := by
  intro m hm st k r h
  obtain rfl : l24_0 = m := Option.some.inj hm
  unfold l24_0 at h
  split at h
  · rename_i t1 g0 g1 g2 g3 g4 g5 g6 g7 g8 t7 t8 g9 g10 h0 g11 g12 h1_0 h1_1 g13 h1_2 g14 h1_3 g15 h1_4 g16 g17 h2 g18 g19 h3 g20 h4 g21 g22 h5 g23 g24 h6 g25 g26 g27
    obtain ⟨hg, h⟩ := bif_some h
    simp only [Bool.and_eq_true] at hg
    obtain ⟨⟨⟨⟨⟨⟨⟨⟨⟨⟨⟨⟨⟨⟨⟨⟨⟨⟨⟨⟨⟨⟨⟨⟨⟨⟨⟨q0, q1⟩, q2⟩, q3⟩, q4⟩, q5⟩, q6⟩, q7⟩, q8⟩, q9⟩, q10⟩, q11⟩, q12⟩, q13⟩, q14⟩, q15⟩, q16⟩, q17⟩, q18⟩, q19⟩, q20⟩, q21⟩, q22⟩, q23⟩, q24⟩, q25⟩, q26⟩, q27⟩ := hg
    obtain rfl := (nmEq_iff _ _).1 q0
    obtain rfl := Nat.eq_of_beq_eq_true q1
    obtain rfl := Nat.eq_of_beq_eq_true q2
    obtain rfl := (nmEq_iff _ _).1 q3
    obtain rfl := Nat.eq_of_beq_eq_true q4
    obtain rfl := Nat.eq_of_beq_eq_true q5
    obtain rfl := (nmEq_iff _ _).1 q6
    obtain rfl := Nat.eq_of_beq_eq_true q7
    obtain rfl := Nat.eq_of_beq_eq_true q8
    obtain rfl := (nmEq_iff _ _).1 q9
    obtain rfl := ctsEq_eq _ _ q10
    obtain rfl := (nmEq_iff _ _).1 q11
    obtain rfl := ctsEq_eq _ _ q12
    obtain rfl := ctsEq_eq _ _ q13
    obtain rfl := ctsEq_eq _ _ q14
    obtain rfl := ctsEq_eq _ _ q15
    obtain rfl := (nmEq_iff _ _).1 q16
    obtain rfl := ctsEq_eq _ _ q17
    obtain rfl := (nmEq_iff _ _).1 q18
    obtain rfl := ctsEq_eq _ _ q19
    obtain rfl := (nmEq_iff _ _).1 q20
    obtain rfl := (nmEq_iff _ _).1 q21
    obtain rfl := ctsEq_eq _ _ q22
    obtain rfl := (nmEq_iff _ _).1 q23
    obtain rfl := (nmEq_iff _ _).1 q24
    obtain rfl := (nmEq_iff _ _).1 q25
    obtain rfl := (nmEq_iff _ _).1 q26
    obtain rfl := (nmEq_iff _ _).1 q27
    refine ⟨(((h1_0.length : Int) - t8).toNat + 1), ?_⟩
    rw [← h]
    exact loop_run (fun s : Int × Int × (List AV) × (List AV) × (List AV) × (List AV) => ⟨[(1, AV.int .i64 t1), (2, AV.ptr [0, 2] 0 0), (4, AV.ptr [0, 4] 0 0), (6, AV.ptr [0, 6] 0 0), (7, AV.int .i64 s.1), (8, AV.int .i64 s.2.1)], [([0, 0, 6], ⟨false, [.int .i64, .int .i64, .int .i64, .int .i64], s.2.2.1⟩), ([0, 2], ⟨true, [], [AV.agg [AV.sl [.int .i64, .int .i64, .int .i64, .int .i64] h1_0, AV.int .i64 h1_1, AV.sl [.int .i64] h1_2, AV.sl [.int .i64] h1_3, AV.sl [.int .i64, .int .i64] h1_4]]⟩), ([0, 2, 6], ⟨false, [.int .i64], s.2.2.2.1⟩), ([0, 3, 6], ⟨false, [.int .i64], s.2.2.2.2.1⟩), ([0, 4], ⟨true, [], [AV.agg [AV.snil, AV.int .i64 h4, AV.snil, AV.snil, AV.snil]]⟩), ([0, 4, 6], ⟨false, [.int .i64, .int .i64], s.2.2.2.2.2⟩), ([0, 6], ⟨true, [], [AV.agg [AV.own [0, 0, 6], AV.int .i64 h6, AV.own [0, 2, 6], AV.own [0, 3, 6], AV.own [0, 4, 6]]]⟩)]⟩) (fun p : Int × (List AV) × (List AV) × (List AV) × (List AV) => k (.exit 0) ⟨[(4, AV.ptr [0, 4] 0 0), (6, AV.ptr [0, 6] 0 0), (7, AV.int .i64 p.1)], [([0, 0, 6], ⟨false, [.int .i64, .int .i64, .int .i64, .int .i64], p.2.1⟩), ([0, 2], ⟨true, [], [AV.agg [AV.sl [.int .i64, .int .i64, .int .i64, .int .i64] h1_0, AV.int .i64 h1_1, AV.sl [.int .i64] h1_2, AV.sl [.int .i64] h1_3, AV.sl [.int .i64, .int .i64] h1_4]]⟩), ([0, 2, 6], ⟨false, [.int .i64], p.2.2.1⟩), ([0, 3, 6], ⟨false, [.int .i64], p.2.2.2.1⟩), ([0, 4], ⟨true, [], [AV.agg [AV.snil, AV.int .i64 h4, AV.snil, AV.snil, AV.snil]]⟩), ([0, 4, 6], ⟨false, [.int .i64, .int .i64], p.2.2.2.2⟩), ([0, 6], ⟨true, [], [AV.agg [AV.own [0, 0, 6], AV.int .i64 h6, AV.own [0, 2, 6], AV.own [0, 3, 6], AV.own [0, 4, 6]]]⟩)]⟩) (st24_0 t1 h1_0 h1_1 h1_2 h1_3 h1_4 h4 h6 ce k) _ (t7, t8, h0, h2, h3, h5)
  · cases h
def q24 (a0_0 : List AV) (a0_1 : Int) (a0_2 : List AV) (a0_3 : List AV) (a0_4 : List AV) (a1 : Int) : Bool := (q74 a0_0 a0_1 a0_2 a0_3 a0_4 && (q16 a0_0 a0_1 a0_2 a0_3 a0_4 && (bif !(v16_0 a0_0 a0_1 a0_2 a0_3 a0_4) then true else (ro (runW (R24_0 a1 a0_0 a0_1 a0_2 a0_3 a0_4 0 (v74_1 a0_0 a0_1 a0_2 a0_3 a0_4)) (((a0_0.length : Int) - 0).toNat + 1) (0, 0, ([] : List AV), (v74_2 a0_0 a0_1 a0_2 a0_3 a0_4), (v74_3 a0_0 a0_1 a0_2 a0_3 a0_4), (v74_4 a0_0 a0_1 a0_2 a0_3 a0_4))) false (fun p22 => true)))))
def v24_0 (a0_0 : List AV) (a0_1 : Int) (a0_2 : List AV) (a0_3 : List AV) (a0_4 : List AV) (a1 : Int) : List AV := (bif !(v16_0 a0_0 a0_1 a0_2 a0_3 a0_4) then (v74_0 a0_0 a0_1 a0_2 a0_3 a0_4) else (ro (runW (R24_0 a1 a0_0 a0_1 a0_2 a0_3 a0_4 0 (v74_1 a0_0 a0_1 a0_2 a0_3 a0_4)) (((a0_0.length : Int) - 0).toNat + 1) (0, 0, ([] : List AV), (v74_2 a0_0 a0_1 a0_2 a0_3 a0_4), (v74_3 a0_0 a0_1 a0_2 a0_3 a0_4), (v74_4 a0_0 a0_1 a0_2 a0_3 a0_4))) [] (fun p22 => p22.2.1)))
def v24_1 (a0_0 : List AV) (a0_1 : Int) (a0_2 : List AV) (a0_3 : List AV) (a0_4 : List AV) (a1 : Int) : Int := (v74_1 a0_0 a0_1 a0_2 a0_3 a0_4)
def v24_2 (a0_0 : List AV) (a0_1 : Int) (a0_2 : List AV) (a0_3 : List AV) (a0_4 : List AV) (a1 : Int) : List AV := (bif !(v16_0 a0_0 a0_1 a0_2 a0_3 a0_4) then (v74_2 a0_0 a0_1 a0_2 a0_3 a0_4) else (ro (runW (R24_0 a1 a0_0 a0_1 a0_2 a0_3 a0_4 0 (v74_1 a0_0 a0_1 a0_2 a0_3 a0_4)) (((a0_0.length : Int) - 0).toNat + 1) (0, 0, ([] : List AV), (v74_2 a0_0 a0_1 a0_2 a0_3 a0_4), (v74_3 a0_0 a0_1 a0_2 a0_3 a0_4), (v74_4 a0_0 a0_1 a0_2 a0_3 a0_4))) [] (fun p22 => p22.2.2.1)))
def v24_3 (a0_0 : List AV) (a0_1 : Int) (a0_2 : List AV) (a0_3 : List AV) (a0_4 : List AV) (a1 : Int) : List AV := (bif !(v16_0 a0_0 a0_1 a0_2 a0_3 a0_4) then (v74_3 a0_0 a0_1 a0_2 a0_3 a0_4) else (ro (runW (R24_0 a1 a0_0 a0_1 a0_2 a0_3 a0_4 0 (v74_1 a0_0 a0_1 a0_2 a0_3 a0_4)) (((a0_0.length : Int) - 0).toNat + 1) (0, 0, ([] : List AV), (v74_2 a0_0 a0_1 a0_2 a0_3 a0_4), (v74_3 a0_0 a0_1 a0_2 a0_3 a0_4), (v74_4 a0_0 a0_1 a0_2 a0_3 a0_4))) [] (fun p22 => p22.2.2.2.1)))
def v24_4 (a0_0 : List AV) (a0_1 : Int) (a0_2 : List AV) (a0_3 : List AV) (a0_4 : List AV) (a1 : Int) : List AV := (bif !(v16_0 a0_0 a0_1 a0_2 a0_3 a0_4) then (v74_4 a0_0 a0_1 a0_2 a0_3 a0_4) else (ro (runW (R24_0 a1 a0_0 a0_1 a0_2 a0_3 a0_4 0 (v74_1 a0_0 a0_1 a0_2 a0_3 a0_4)) (((a0_0.length : Int) - 0).toNat + 1) (0, 0, ([] : List AV), (v74_2 a0_0 a0_1 a0_2 a0_3 a0_4), (v74_3 a0_0 a0_1 a0_2 a0_3 a0_4), (v74_4 a0_0 a0_1 a0_2 a0_3 a0_4))) [] (fun p22 => p22.2.2.2.2)))
def v24_5 (a0_0 : List AV) (a0_1 : Int) (a0_2 : List AV) (a0_3 : List AV) (a0_4 : List AV) (a1 : Int) : Int := (bif !(v16_0 a0_0 a0_1 a0_2 a0_3 a0_4) then 0 else (ro (runW (R24_0 a1 a0_0 a0_1 a0_2 a0_3 a0_4 0 (v74_1 a0_0 a0_1 a0_2 a0_3 a0_4)) (((a0_0.length : Int) - 0).toNat + 1) (0, 0, ([] : List AV), (v74_2 a0_0 a0_1 a0_2 a0_3 a0_4), (v74_3 a0_0 a0_1 a0_2 a0_3 a0_4), (v74_4 a0_0 a0_1 a0_2 a0_3 a0_4))) 0 (fun p22 => p22.1)))
theorem e24 (a0_0 : List AV) (a0_1 : Int) (a0_2 : List AV) (a0_3 : List AV) (a0_4 : List AV) (a1 : Int) : funA c24 0 24 [AV.agg [AV.sl [.int .i64, .int .i64, .int .i64, .int .i64] a0_0, AV.int .i64 a0_1, AV.sl [.int .i64] a0_2, AV.sl [.int .i64] a0_3, AV.sl [.int .i64, .int .i64] a0_4], AV.int .i64 a1] = (bif q74 a0_0 a0_1 a0_2 a0_3 a0_4 then (bif q16 a0_0 a0_1 a0_2 a0_3 a0_4 then (bif !(v16_0 a0_0 a0_1 a0_2 a0_3 a0_4) then some (AV.tup [AV.agg [AV.fl [.int .i64, .int .i64, .int .i64, .int .i64] (v74_0 a0_0 a0_1 a0_2 a0_3 a0_4), AV.int .i64 (v74_1 a0_0 a0_1 a0_2 a0_3 a0_4), AV.fl [.int .i64] (v74_2 a0_0 a0_1 a0_2 a0_3 a0_4), AV.fl [.int .i64] (v74_3 a0_0 a0_1 a0_2 a0_3 a0_4), AV.fl [.int .i64, .int .i64] (v74_4 a0_0 a0_1 a0_2 a0_3 a0_4)], AV.int .i64 0])
    else (ro (runW (R24_0 a1 a0_0 a0_1 a0_2 a0_3 a0_4 0 (v74_1 a0_0 a0_1 a0_2 a0_3 a0_4)) (((a0_0.length : Int) - 0).toNat + 1) (0, 0, ([] : List AV), (v74_2 a0_0 a0_1 a0_2 a0_3 a0_4), (v74_3 a0_0 a0_1 a0_2 a0_3 a0_4), (v74_4 a0_0 a0_1 a0_2 a0_3 a0_4))) none (fun p22 => some (AV.tup [AV.agg [AV.fl [.int .i64, .int .i64, .int .i64, .int .i64] p22.2.1, AV.int .i64 (v74_1 a0_0 a0_1 a0_2 a0_3 a0_4), AV.fl [.int .i64] p22.2.2.1, AV.fl [.int .i64] p22.2.2.2.1, AV.fl [.int .i64, .int .i64] p22.2.2.2.2], AV.int .i64 p22.1]))))
   else none)
  else none) := by kernel_rfl
theorem r24 (a0_0 : List AV) (a0_1 : Int) (a0_2 : List AV) (a0_3 : List AV) (a0_4 : List AV) (a1 : Int) (h : q24 a0_0 a0_1 a0_2 a0_3 a0_4 a1 = true) : funA c24 0 24 [AV.agg [AV.sl [.int .i64, .int .i64, .int .i64, .int .i64] a0_0, AV.int .i64 a0_1, AV.sl [.int .i64] a0_2, AV.sl [.int .i64] a0_3, AV.sl [.int .i64, .int .i64] a0_4], AV.int .i64 a1] = some (AV.tup [AV.agg [AV.fl [.int .i64, .int .i64, .int .i64, .int .i64] (v24_0 a0_0 a0_1 a0_2 a0_3 a0_4 a1), AV.int .i64 (v24_1 a0_0 a0_1 a0_2 a0_3 a0_4 a1), AV.fl [.int .i64] (v24_2 a0_0 a0_1 a0_2 a0_3 a0_4 a1), AV.fl [.int .i64] (v24_3 a0_0 a0_1 a0_2 a0_3 a0_4 a1), AV.fl [.int .i64, .int .i64] (v24_4 a0_0 a0_1 a0_2 a0_3 a0_4 a1)], AV.int .i64 (v24_5 a0_0 a0_1 a0_2 a0_3 a0_4 a1)]) := (e24 a0_0 a0_1 a0_2 a0_3 a0_4 a1).trans ((brL (brL (br (fun b => some (AV.tup [AV.agg [AV.fl [.int .i64, .int .i64, .int .i64, .int .i64] (bif b then (v74_0 a0_0 a0_1 a0_2 a0_3 a0_4) else (ro (runW (R24_0 a1 a0_0 a0_1 a0_2 a0_3 a0_4 0 (v74_1 a0_0 a0_1 a0_2 a0_3 a0_4)) (((a0_0.length : Int) - 0).toNat + 1) (0, 0, ([] : List AV), (v74_2 a0_0 a0_1 a0_2 a0_3 a0_4), (v74_3 a0_0 a0_1 a0_2 a0_3 a0_4), (v74_4 a0_0 a0_1 a0_2 a0_3 a0_4))) [] (fun p22 => p22.2.1))), AV.int .i64 (v74_1 a0_0 a0_1 a0_2 a0_3 a0_4), AV.fl [.int .i64] (bif b then (v74_2 a0_0 a0_1 a0_2 a0_3 a0_4) else (ro (runW (R24_0 a1 a0_0 a0_1 a0_2 a0_3 a0_4 0 (v74_1 a0_0 a0_1 a0_2 a0_3 a0_4)) (((a0_0.length : Int) - 0).toNat + 1) (0, 0, ([] : List AV), (v74_2 a0_0 a0_1 a0_2 a0_3 a0_4), (v74_3 a0_0 a0_1 a0_2 a0_3 a0_4), (v74_4 a0_0 a0_1 a0_2 a0_3 a0_4))) [] (fun p22 => p22.2.2.1))), AV.fl [.int .i64] (bif b then (v74_3 a0_0 a0_1 a0_2 a0_3 a0_4) else (ro (runW (R24_0 a1 a0_0 a0_1 a0_2 a0_3 a0_4 0 (v74_1 a0_0 a0_1 a0_2 a0_3 a0_4)) (((a0_0.length : Int) - 0).toNat + 1) (0, 0, ([] : List AV), (v74_2 a0_0 a0_1 a0_2 a0_3 a0_4), (v74_3 a0_0 a0_1 a0_2 a0_3 a0_4), (v74_4 a0_0 a0_1 a0_2 a0_3 a0_4))) [] (fun p22 => p22.2.2.2.1))), AV.fl [.int .i64, .int .i64] (bif b then (v74_4 a0_0 a0_1 a0_2 a0_3 a0_4) else (ro (runW (R24_0 a1 a0_0 a0_1 a0_2 a0_3 a0_4 0 (v74_1 a0_0 a0_1 a0_2 a0_3 a0_4)) (((a0_0.length : Int) - 0).toNat + 1) (0, 0, ([] : List AV), (v74_2 a0_0 a0_1 a0_2 a0_3 a0_4), (v74_3 a0_0 a0_1 a0_2 a0_3 a0_4), (v74_4 a0_0 a0_1 a0_2 a0_3 a0_4))) [] (fun p22 => p22.2.2.2.2)))], AV.int .i64 (bif b then 0 else (ro (runW (R24_0 a1 a0_0 a0_1 a0_2 a0_3 a0_4 0 (v74_1 a0_0 a0_1 a0_2 a0_3 a0_4)) (((a0_0.length : Int) - 0).toNat + 1) (0, 0, ([] : List AV), (v74_2 a0_0 a0_1 a0_2 a0_3 a0_4), (v74_3 a0_0 a0_1 a0_2 a0_3 a0_4), (v74_4 a0_0 a0_1 a0_2 a0_3 a0_4))) 0 (fun p22 => p22.1)))])) (fun _ => rfl) (brO (fun o : Option ((Int × (List AV) × (List AV) × (List AV) × (List AV))) => some (AV.tup [AV.agg [AV.fl [.int .i64, .int .i64, .int .i64, .int .i64] (ro o [] (fun p22 => p22.2.1)), AV.int .i64 (v74_1 a0_0 a0_1 a0_2 a0_3 a0_4), AV.fl [.int .i64] (ro o [] (fun p22 => p22.2.2.1)), AV.fl [.int .i64] (ro o [] (fun p22 => p22.2.2.2.1)), AV.fl [.int .i64, .int .i64] (ro o [] (fun p22 => p22.2.2.2.2))], AV.int .i64 (ro o 0 (fun p22 => p22.1))])) (fun p22 => (fun _ => rfl)))))) h)
def m24 : TModel
  | [.agg [.sl g0 a0_0, .int .i64 a0_1, .sl g1 a0_2, .sl g2 a0_3, .sl g3 a0_4], .int .i64 a1] => bif ctsEq g0 ([.int .i64, .int .i64, .int .i64, .int .i64]) && ctsEq g1 ([.int .i64]) && ctsEq g2 ([.int .i64]) && ctsEq g3 ([.int .i64, .int .i64]) then some (q24 a0_0 a0_1 a0_2 a0_3 a0_4 a1, AV.tup [AV.agg [AV.fl [.int .i64, .int .i64, .int .i64, .int .i64] (v24_0 a0_0 a0_1 a0_2 a0_3 a0_4 a1), AV.int .i64 (v24_1 a0_0 a0_1 a0_2 a0_3 a0_4 a1), AV.fl [.int .i64] (v24_2 a0_0 a0_1 a0_2 a0_3 a0_4 a1), AV.fl [.int .i64] (v24_3 a0_0 a0_1 a0_2 a0_3 a0_4 a1), AV.fl [.int .i64, .int .i64] (v24_4 a0_0 a0_1 a0_2 a0_3 a0_4 a1)], AV.int .i64 (v24_5 a0_0 a0_1 a0_2 a0_3 a0_4 a1)]) else none
  | _ => none
theorem k24 : Known Try.prog 24 := ⟨Try.f24, Try.func24, by kernel_rfl, by kernel_rfl⟩
theorem meets24 : Meets Try.prog 24 m24 := by
  refine meet (f := Try.f24) (l := [(0, sub [1, 1, 1, 1, 1, 0, 1, 0, 0] (body Try.f24))]) (hs := [(24, 0, [1, 2, 4, 6, 7, 8]), (24, 999, [4, 5]), (24, 1000, [4, 6, 7]), (24, 1001, [1, 2, 4, 6, 7, 8])]) (ts := [(16, m16), (74, m74), (80, m80)]) (ws := []) (is := []) (ls := [(24, 0, l24_0)]) (lvl := 0) mixed k24 Try.func24 (by kernel_rfl) (loops_cons ok24_0 noLoop) (allT_cons meets16 (allT_cons meets74 (allT_cons meets80 allT_nil))) allM_nil noI fun w xs us r hl hv h => ?_
  unfold m24 at h
  split at h
  · rename_i g0 a0_0 a0_1 g1 a0_2 g2 a0_3 g3 a0_4 a1
    obtain ⟨hg, h⟩ := bif_pair h
    simp only [Bool.and_eq_true] at hg
    obtain ⟨⟨⟨q0, q1⟩, q2⟩, q3⟩ := hg
    obtain rfl := ctsEq_eq _ _ q0
    obtain rfl := ctsEq_eq _ _ q1
    obtain rfl := ctsEq_eq _ _ q2
    obtain rfl := ctsEq_eq _ _ q3
    obtain ⟨h1, rfl⟩ := pair_inj h
    exact r24 a0_0 a0_1 a0_2 a0_3 a0_4 a1 h1
  · cases h

/-! ### 128 slices.Clone[[]loop.example/g01984/impl.Stamp,loop.example/g01984/impl.Stamp] -/
noncomputable def c128 : Cfg := cfg Try.prog [(128, 999, [2])] [] [] [] []
def q128 (a0 : List AV) : Bool := decide (a0.length * 32 ≤ 140737488355328) && decide (a0.length ≤ 140737488355328)
def v128_0 (a0 : List AV) : List AV := a0
theorem e128 (a0 : List AV) : funA c128 0 128 [AV.sl [.int .i64, .int .i64, .int .i64, .int .i64] a0] = (bif decide (0 < a0.length) then (bif (decide ((([] : List AV).length + a0.length) * 32 ≤ 140737488355328) && decide ((([] : List AV).length + a0.length) ≤ 140737488355328)) then some (AV.fl [.int .i64, .int .i64, .int .i64, .int .i64] (([] : List AV) ++ a0))
   else none)
  else none) := by kernel_rfl
theorem e128n (b : Bool) : funA c128 0 128 [AV.sle b [.int .i64, .int .i64, .int .i64, .int .i64]] = some (AV.fl [.int .i64, .int .i64, .int .i64, .int .i64] []) := by cases b <;> kernel_rfl
def m128 : TModel
  | [.sl g0 a0] => bif ctsEq g0 [.int .i64, .int .i64, .int .i64, .int .i64] then some (q128 a0, AV.fl [.int .i64, .int .i64, .int .i64, .int .i64] (v128_0 a0)) else none
  | _ => none
theorem k128 : Known Try.prog 128 := ⟨Try.f128, Try.func128, by kernel_rfl, by kernel_rfl⟩
theorem meets128 : Meets Try.prog 128 m128 := by
  refine meet_nil (f := Try.f128) (l := []) (hs := [(128, 999, [2])]) (ts := []) (ws := []) (is := []) (ls := []) (lvl := 0) (tys := [.int .i64, .int .i64, .int .i64, .int .i64]) mixed k128 Try.func128 (by kernel_rfl) noLoop allT_nil allM_nil noI (fun xs r h => ?_) (fun b r h => ?_) (fun ys r h0 h => ?_)
  · unfold m128 at h
    split at h
    · rename_i g0 a0
      obtain ⟨hg, h⟩ := bif_pair h
      obtain rfl := ctsEq_eq _ _ hg
      exact ⟨a0, rfl⟩
    · cases h
  · obtain ⟨hg, h⟩ := bif_pair (g := ctsEq [.int .i64, .int .i64, .int .i64, .int .i64] [.int .i64, .int .i64, .int .i64, .int .i64]) h
    obtain ⟨_, rfl⟩ := pair_inj h
    exact e128n b
  · obtain ⟨hg, h⟩ := bif_pair (g := ctsEq [.int .i64, .int .i64, .int .i64, .int .i64] [.int .i64, .int .i64, .int .i64, .int .i64]) h
    obtain ⟨hq, rfl⟩ := pair_inj h
    refine (e128 ys).trans ?_
    unfold q128 at hq
    have e : ([] : List AV).length + ys.length = ys.length := by simp
    rw [e, hq, decide_eq_true h0]
    rfl

/-! ### 139 slices.Clone[[]int,int] -/
noncomputable def c139 : Cfg := cfg Try.prog [(139, 999, [2])] [] [] [] []
def q139 (a0 : List AV) : Bool := decide (a0.length * 8 ≤ 140737488355328) && decide (a0.length ≤ 140737488355328)
def v139_0 (a0 : List AV) : List AV := a0
theorem e139 (a0 : List AV) : funA c139 0 139 [AV.sl [.int .i64] a0] = (bif decide (0 < a0.length) then (bif (decide ((([] : List AV).length + a0.length) * 8 ≤ 140737488355328) && decide ((([] : List AV).length + a0.length) ≤ 140737488355328)) then some (AV.fl [.int .i64] (([] : List AV) ++ a0))
   else none)
  else none) := by kernel_rfl
theorem e139n (b : Bool) : funA c139 0 139 [AV.sle b [.int .i64]] = some (AV.fl [.int .i64] []) := by cases b <;> kernel_rfl
def m139 : TModel
  | [.sl g0 a0] => bif ctsEq g0 [.int .i64] then some (q139 a0, AV.fl [.int .i64] (v139_0 a0)) else none
  | _ => none
theorem k139 : Known Try.prog 139 := ⟨Try.f139, Try.func139, by kernel_rfl, by kernel_rfl⟩
theorem meets139 : Meets Try.prog 139 m139 := by
  refine meet_nil (f := Try.f139) (l := []) (hs := [(139, 999, [2])]) (ts := []) (ws := []) (is := []) (ls := []) (lvl := 0) (tys := [.int .i64]) mixed k139 Try.func139 (by kernel_rfl) noLoop allT_nil allM_nil noI (fun xs r h => ?_) (fun b r h => ?_) (fun ys r h0 h => ?_)
  · unfold m139 at h
    split at h
    · rename_i g0 a0
      obtain ⟨hg, h⟩ := bif_pair h
      obtain rfl := ctsEq_eq _ _ hg
      exact ⟨a0, rfl⟩
    · cases h
  · obtain ⟨hg, h⟩ := bif_pair (g := ctsEq [.int .i64] [.int .i64]) h
    obtain ⟨_, rfl⟩ := pair_inj h
    exact e139n b
  · obtain ⟨hg, h⟩ := bif_pair (g := ctsEq [.int .i64] [.int .i64]) h
    obtain ⟨hq, rfl⟩ := pair_inj h
    refine (e139 ys).trans ?_
    unfold q139 at hq
    have e : ([] : List AV).length + ys.length = ys.length := by simp
    rw [e, hq, decide_eq_true h0]
    rfl

/-! ### 164 slices.Clone[[]loop.example/g01984/impl.Pivot,loop.example/g01984/impl.Pivot] -/
noncomputable def c164 : Cfg := cfg Try.prog [(164, 999, [2])] [] [] [] []
def q164 (a0 : List AV) : Bool := decide (a0.length * 16 ≤ 140737488355328) && decide (a0.length ≤ 140737488355328)
def v164_0 (a0 : List AV) : List AV := a0
theorem e164 (a0 : List AV) : funA c164 0 164 [AV.sl [.int .i64, .int .i64] a0] = (bif decide (0 < a0.length) then (bif (decide ((([] : List AV).length + a0.length) * 16 ≤ 140737488355328) && decide ((([] : List AV).length + a0.length) ≤ 140737488355328)) then some (AV.fl [.int .i64, .int .i64] (([] : List AV) ++ a0))
   else none)
  else none) := by kernel_rfl
theorem e164n (b : Bool) : funA c164 0 164 [AV.sle b [.int .i64, .int .i64]] = some (AV.fl [.int .i64, .int .i64] []) := by cases b <;> kernel_rfl
def m164 : TModel
  | [.sl g0 a0] => bif ctsEq g0 [.int .i64, .int .i64] then some (q164 a0, AV.fl [.int .i64, .int .i64] (v164_0 a0)) else none
  | _ => none
theorem k164 : Known Try.prog 164 := ⟨Try.f164, Try.func164, by kernel_rfl, by kernel_rfl⟩
theorem meets164 : Meets Try.prog 164 m164 := by
  refine meet_nil (f := Try.f164) (l := []) (hs := [(164, 999, [2])]) (ts := []) (ws := []) (is := []) (ls := []) (lvl := 0) (tys := [.int .i64, .int .i64]) mixed k164 Try.func164 (by kernel_rfl) noLoop allT_nil allM_nil noI (fun xs r h => ?_) (fun b r h => ?_) (fun ys r h0 h => ?_)
  · unfold m164 at h
    split at h
    · rename_i g0 a0
      obtain ⟨hg, h⟩ := bif_pair h
      obtain rfl := ctsEq_eq _ _ hg
      exact ⟨a0, rfl⟩
    · cases h
  · obtain ⟨hg, h⟩ := bif_pair (g := ctsEq [.int .i64, .int .i64] [.int .i64, .int .i64]) h
    obtain ⟨_, rfl⟩ := pair_inj h
    exact e164n b
  · obtain ⟨hg, h⟩ := bif_pair (g := ctsEq [.int .i64, .int .i64] [.int .i64, .int .i64]) h
    obtain ⟨hq, rfl⟩ := pair_inj h
    refine (e164 ys).trans ?_
    unfold q164 at hq
    have e : ([] : List AV).length + ys.length = ys.length := by simp
    rw [e, hq, decide_eq_true h0]
    rfl

/-! ### 129 loop.example/g01984/impl.copyCracker -/
noncomputable def c129 : Cfg := cfg Try.prog [(129, 999, [2])] [(139, m139), (164, m164)] [] [] []
def q129 (a0_0 : List AV) (a0_1 : List AV) (a0_2 : List AV) : Bool := (q139 a0_0 && (q139 a0_1 && q164 a0_2))
def v129_0 (a0_0 : List AV) (a0_1 : List AV) (a0_2 : List AV) : List AV := (v139_0 a0_0)
def v129_1 (a0_0 : List AV) (a0_1 : List AV) (a0_2 : List AV) : List AV := (v139_0 a0_1)
def v129_2 (a0_0 : List AV) (a0_1 : List AV) (a0_2 : List AV) : List AV := (v164_0 a0_2)
theorem e129 (a0_0 : List AV) (a0_1 : List AV) (a0_2 : List AV) : funA c129 0 129 [AV.agg [AV.sl [.int .i64] a0_0, AV.sl [.int .i64] a0_1, AV.sl [.int .i64, .int .i64] a0_2]] = (bif q139 a0_0 then (bif q139 a0_1 then (bif q164 a0_2 then some (AV.agg [AV.fl [.int .i64] (v139_0 a0_0), AV.fl [.int .i64] (v139_0 a0_1), AV.fl [.int .i64, .int .i64] (v164_0 a0_2)])
    else none)
   else none)
  else none) := by kernel_rfl
theorem r129 (a0_0 : List AV) (a0_1 : List AV) (a0_2 : List AV) (h : q129 a0_0 a0_1 a0_2 = true) : funA c129 0 129 [AV.agg [AV.sl [.int .i64] a0_0, AV.sl [.int .i64] a0_1, AV.sl [.int .i64, .int .i64] a0_2]] = some (AV.agg [AV.fl [.int .i64] (v129_0 a0_0 a0_1 a0_2), AV.fl [.int .i64] (v129_1 a0_0 a0_1 a0_2), AV.fl [.int .i64, .int .i64] (v129_2 a0_0 a0_1 a0_2)]) := (e129 a0_0 a0_1 a0_2).trans ((brL (brL (brL1 (fun _ => rfl)))) h)
def m129 : TModel
  | [.agg [.sl g0 a0_0, .sl g1 a0_1, .sl g2 a0_2]] => bif ctsEq g0 ([.int .i64]) && ctsEq g1 ([.int .i64]) && ctsEq g2 ([.int .i64, .int .i64]) then some (q129 a0_0 a0_1 a0_2, AV.agg [AV.fl [.int .i64] (v129_0 a0_0 a0_1 a0_2), AV.fl [.int .i64] (v129_1 a0_0 a0_1 a0_2), AV.fl [.int .i64, .int .i64] (v129_2 a0_0 a0_1 a0_2)]) else none
  | _ => none
theorem k129 : Known Try.prog 129 := ⟨Try.f129, Try.func129, by kernel_rfl, by kernel_rfl⟩
theorem meets129 : Meets Try.prog 129 m129 := by
  refine meet (f := Try.f129) (l := []) (hs := [(129, 999, [2])]) (ts := [(139, m139), (164, m164)]) (ws := []) (is := []) (ls := []) (lvl := 0) mixed k129 Try.func129 (by kernel_rfl) noLoop (allT_cons meets139 (allT_cons meets164 allT_nil)) allM_nil noI fun w xs us r hl hv h => ?_
  unfold m129 at h
  split at h
  · rename_i g0 a0_0 g1 a0_1 g2 a0_2
    obtain ⟨hg, h⟩ := bif_pair h
    simp only [Bool.and_eq_true] at hg
    obtain ⟨⟨q0, q1⟩, q2⟩ := hg
    obtain rfl := ctsEq_eq _ _ q0
    obtain rfl := ctsEq_eq _ _ q1
    obtain rfl := ctsEq_eq _ _ q2
    obtain ⟨h1, rfl⟩ := pair_inj h
    exact r129 a0_0 a0_1 a0_2 h1
  · cases h

/-! ### 75 loop.example/g01984/impl.copyStore -/
noncomputable def c75 : Cfg := cfg Try.prog [(75, 999, [2])] [(128, m128), (129, m129)] [] [] []
def q75 (a0_0 : List AV) (a0_1 : Int) (a0_2 : List AV) (a0_3 : List AV) (a0_4 : List AV) : Bool := (q128 a0_0 && q129 a0_2 a0_3 a0_4)
def v75_0 (a0_0 : List AV) (a0_1 : Int) (a0_2 : List AV) (a0_3 : List AV) (a0_4 : List AV) : List AV := (v128_0 a0_0)
def v75_1 (a0_0 : List AV) (a0_1 : Int) (a0_2 : List AV) (a0_3 : List AV) (a0_4 : List AV) : Int := a0_1
def v75_2 (a0_0 : List AV) (a0_1 : Int) (a0_2 : List AV) (a0_3 : List AV) (a0_4 : List AV) : List AV := (v129_0 a0_2 a0_3 a0_4)
def v75_3 (a0_0 : List AV) (a0_1 : Int) (a0_2 : List AV) (a0_3 : List AV) (a0_4 : List AV) : List AV := (v129_1 a0_2 a0_3 a0_4)
def v75_4 (a0_0 : List AV) (a0_1 : Int) (a0_2 : List AV) (a0_3 : List AV) (a0_4 : List AV) : List AV := (v129_2 a0_2 a0_3 a0_4)
theorem e75 (a0_0 : List AV) (a0_1 : Int) (a0_2 : List AV) (a0_3 : List AV) (a0_4 : List AV) : funA c75 0 75 [AV.agg [AV.sl [.int .i64, .int .i64, .int .i64, .int .i64] a0_0, AV.int .i64 a0_1, AV.sl [.int .i64] a0_2, AV.sl [.int .i64] a0_3, AV.sl [.int .i64, .int .i64] a0_4]] = (bif q128 a0_0 then (bif q129 a0_2 a0_3 a0_4 then some (AV.agg [AV.fl [.int .i64, .int .i64, .int .i64, .int .i64] (v128_0 a0_0), AV.int .i64 a0_1, AV.fl [.int .i64] (v129_0 a0_2 a0_3 a0_4), AV.fl [.int .i64] (v129_1 a0_2 a0_3 a0_4), AV.fl [.int .i64, .int .i64] (v129_2 a0_2 a0_3 a0_4)])
   else none)
  else none) := by kernel_rfl
theorem r75 (a0_0 : List AV) (a0_1 : Int) (a0_2 : List AV) (a0_3 : List AV) (a0_4 : List AV) (h : q75 a0_0 a0_1 a0_2 a0_3 a0_4 = true) : funA c75 0 75 [AV.agg [AV.sl [.int .i64, .int .i64, .int .i64, .int .i64] a0_0, AV.int .i64 a0_1, AV.sl [.int .i64] a0_2, AV.sl [.int .i64] a0_3, AV.sl [.int .i64, .int .i64] a0_4]] = some (AV.agg [AV.fl [.int .i64, .int .i64, .int .i64, .int .i64] (v75_0 a0_0 a0_1 a0_2 a0_3 a0_4), AV.int .i64 (v75_1 a0_0 a0_1 a0_2 a0_3 a0_4), AV.fl [.int .i64] (v75_2 a0_0 a0_1 a0_2 a0_3 a0_4), AV.fl [.int .i64] (v75_3 a0_0 a0_1 a0_2 a0_3 a0_4), AV.fl [.int .i64, .int .i64] (v75_4 a0_0 a0_1 a0_2 a0_3 a0_4)]) := (e75 a0_0 a0_1 a0_2 a0_3 a0_4).trans ((brL (brL1 (fun _ => rfl))) h)
def m75 : TModel
  | [.agg [.sl g0 a0_0, .int .i64 a0_1, .sl g1 a0_2, .sl g2 a0_3, .sl g3 a0_4]] => bif ctsEq g0 ([.int .i64, .int .i64, .int .i64, .int .i64]) && ctsEq g1 ([.int .i64]) && ctsEq g2 ([.int .i64]) && ctsEq g3 ([.int .i64, .int .i64]) then some (q75 a0_0 a0_1 a0_2 a0_3 a0_4, AV.agg [AV.fl [.int .i64, .int .i64, .int .i64, .int .i64] (v75_0 a0_0 a0_1 a0_2 a0_3 a0_4), AV.int .i64 (v75_1 a0_0 a0_1 a0_2 a0_3 a0_4), AV.fl [.int .i64] (v75_2 a0_0 a0_1 a0_2 a0_3 a0_4), AV.fl [.int .i64] (v75_3 a0_0 a0_1 a0_2 a0_3 a0_4), AV.fl [.int .i64, .int .i64] (v75_4 a0_0 a0_1 a0_2 a0_3 a0_4)]) else none
  | _ => none
theorem k75 : Known Try.prog 75 := ⟨Try.f75, Try.func75, by kernel_rfl, by kernel_rfl⟩
theorem meets75 : Meets Try.prog 75 m75 := by
  refine meet (f := Try.f75) (l := []) (hs := [(75, 999, [2])]) (ts := [(128, m128), (129, m129)]) (ws := []) (is := []) (ls := []) (lvl := 0) mixed k75 Try.func75 (by kernel_rfl) noLoop (allT_cons meets128 (allT_cons meets129 allT_nil)) allM_nil noI fun w xs us r hl hv h => ?_
  unfold m75 at h
  split at h
  · rename_i g0 a0_0 a0_1 g1 a0_2 g2 a0_3 g3 a0_4
    obtain ⟨hg, h⟩ := bif_pair h
    simp only [Bool.and_eq_true] at hg
    obtain ⟨⟨⟨q0, q1⟩, q2⟩, q3⟩ := hg
    obtain rfl := ctsEq_eq _ _ q0
    obtain rfl := ctsEq_eq _ _ q1
    obtain rfl := ctsEq_eq _ _ q2
    obtain rfl := ctsEq_eq _ _ q3
    obtain ⟨h1, rfl⟩ := pair_inj h
    exact r75 a0_0 a0_1 a0_2 a0_3 a0_4 h1
  · cases h

/-! ### 163 loop.example/g01984/impl.within$1 -/
noncomputable def c163 : Cfg := cfg Try.prog [(163, 999, [4])] [] [] [] []
def q163 (a0 : Int) (a1 : AV) (a2 : AV) : Bool := true
def v163_0 (a0 : Int) (a1 : AV) (a2 : AV) : Bool := (bif decide (a0 < fI a1 0) then true else decide (a0 > fI a2 0))
theorem e163 (a0 : Int) (a1 : AV) (a2 : AV) : funA c163 0 163 [AV.int .i64 a0, AV.rptr [.int .i64] a1 0, AV.rptr [.int .i64] a2 0] = (bif decide (a0 < fI a1 0) then some (AV.bool true)
  else some (AV.bool (decide (a0 > fI a2 0)))) := by kernel_rfl
theorem r163 (a0 : Int) (a1 : AV) (a2 : AV) : funA c163 0 163 [AV.int .i64 a0, AV.rptr [.int .i64] a1 0, AV.rptr [.int .i64] a2 0] = some (AV.bool (v163_0 a0 a1 a2)) := (e163 a0 a1 a2).trans (of_tt (brT (fun b => some (AV.bool (bif b then true else decide (a0 > fI a2 0)))) (fun _ => rfl) (fun _ => rfl)))
def m163 : TModel
  | [.int .i64 a0, .rptr g0 a1 g1, .rptr g2 a2 g3] => bif ctsEq g0 ([.int .i64]) && Nat.beq g1 0 && ctsEq g2 ([.int .i64]) && Nat.beq g3 0 then some (true, AV.bool (v163_0 a0 a1 a2)) else none
  | _ => none
theorem k163 : Known Try.prog 163 := ⟨Try.f163, Try.func163, by kernel_rfl, by kernel_rfl⟩
theorem meets163 : Meets Try.prog 163 m163 := by
  refine meet (f := Try.f163) (l := []) (hs := [(163, 999, [4])]) (ts := []) (ws := []) (is := []) (ls := []) (lvl := 0) mixed k163 Try.func163 (by kernel_rfl) noLoop allT_nil allM_nil noI fun w xs us r hl hv h => ?_
  unfold m163 at h
  split at h
  · rename_i a0 g0 a1 g1 g2 a2 g3
    obtain ⟨hg, h⟩ := bif_pair h
    simp only [Bool.and_eq_true] at hg
    obtain ⟨⟨⟨q0, q1⟩, q2⟩, q3⟩ := hg
    obtain rfl := ctsEq_eq _ _ q0
    obtain rfl := Nat.eq_of_beq_eq_true q1
    obtain rfl := ctsEq_eq _ _ q2
    obtain rfl := Nat.eq_of_beq_eq_true q3
    obtain ⟨h1, rfl⟩ := pair_inj h
    exact r163 a0 a1 a2
  · cases h

/-! ### 178 slices.IndexFunc[[]int,int] -/
def F178_0 (t0 : List AV) (t1_0 : AV) (t1_1 : AV) (t7 : Int) (t8 : Int) : Out (Int) (Unit ⊕ Int) := (bif decide (t8 < t7) then (bif (decide (0 ≤ t8) && decide (t8 < (t0.length : Int))) then (bif (v163_0 (fI (t0.getD t8.toNat AV.undef) 0) t1_0 t1_1) then .stop (.inr t8)
    else .next (IntKind.i64.wrap (t8 + 1)))
   else .fail)
  else .stop (.inl ()))
def R178_0 (t0 : List AV) (t1_0 : AV) (t1_1 : AV) (t7 : Int) : (Int) → Out (Int) (Unit ⊕ Int) := fun s : Int => F178_0 t0 t1_0 t1_1 t7 s
def l178_0 : LModel := fun _ _ st k => match st with
  | ⟨[(0, .sl g0 t0), (1, .fn g1 [.rptr g2 t1_0 g3, .rptr g4 t1_1 g5]), (7, .int .i64 t7), (8, .int .i64 t8)], []⟩ => bif ctsEq g0 ([.int .i64]) && Nat.beq g1 163 && ctsEq g2 ([.int .i64]) && Nat.beq g3 0 && ctsEq g4 ([.int .i64]) && Nat.beq g5 0 then ro (runW (R178_0 t0 t1_0 t1_1 t7) ((t7 - t8).toNat + 1) t8) none (sumE (fun _ : Unit => k (.exit 0) ⟨[], []⟩) (fun p : Int => k .ret ⟨[(4, AV.int .i64 p)], []⟩)) else none
  | _ => none
noncomputable def c178 : Cfg := cfg Try.prog [(178, 0, [0, 1, 7, 8]), (178, 999, [4]), (178, 1000, []), (178, 1001, [0, 1, 7, 8])] [(163, m163)] [] [] [(178, 0, l178_0)]
theorem s178_0 (ce : CallE) (t0 : List AV) (t1_0 : AV) (t1_1 : AV) (t7 : Int) (t8 : Int) (next : St → Option AV) (k : Kont) : stepA (codeA c178 ce [] 178 0 (sub [1, 0, 1, 0, 0] (body Try.f178))) (normA [] [0, 1, 7, 8]) next ⟨[(0, AV.sl [.int .i64] t0), (1, AV.fn 163 [AV.rptr [.int .i64] t1_0 0, AV.rptr [.int .i64] t1_1 0]), (7, AV.int .i64 t7), (8, AV.int .i64 t8)], []⟩ k = (bif decide (t8 < t7) then (bif (decide (0 ≤ t8) && decide (t8 < (t0.length : Int))) then (bif (v163_0 (fI (t0.getD t8.toNat AV.undef) 0) t1_0 t1_1) then k .ret ⟨[(4, AV.int .i64 t8)], []⟩
    else next ⟨[(0, AV.sl [.int .i64] t0), (1, AV.fn 163 [AV.rptr [.int .i64] t1_0 0, AV.rptr [.int .i64] t1_1 0]), (7, AV.int .i64 t7), (8, AV.int .i64 (IntKind.i64.wrap (t8 + 1)))], []⟩)
   else none)
  else k (.exit 0) ⟨[], []⟩) := by kernel_rfl
theorem st178_0 (t0 : List AV) (t1_0 : AV) (t1_1 : AV) (t7 : Int) (ce : CallE) (k : Kont) (s : Int) (next : St → Option AV) : stepA (codeA c178 ce [] 178 0 (sub [1, 0, 1, 0, 0] (body Try.f178))) (normA [] [0, 1, 7, 8]) next ((fun s : Int => ⟨[(0, AV.sl [.int .i64] t0), (1, AV.fn 163 [AV.rptr [.int .i64] t1_0 0, AV.rptr [.int .i64] t1_1 0]), (7, AV.int .i64 t7), (8, AV.int .i64 s)], []⟩) s) k = (R178_0 t0 t1_0 t1_1 t7 s).el none (fun s => next ((fun s : Int => ⟨[(0, AV.sl [.int .i64] t0), (1, AV.fn 163 [AV.rptr [.int .i64] t1_0 0, AV.rptr [.int .i64] t1_1 0]), (7, AV.int .i64 t7), (8, AV.int .i64 s)], []⟩) s)) (sumE (fun _ : Unit => k (.exit 0) ⟨[], []⟩) (fun p : Int => k .ret ⟨[(4, AV.int .i64 p)], []⟩)) := (s178_0 ce t0 t1_0 t1_1 t7 s next k).trans (by unfold R178_0; unfold F178_0; simp only [el_cond, el_ro, el_sum, el_fail, el_next, el_stop] <;> rfl)
theorem ok178_0 {ce : CallE} : LoopOK c178 ce [] 178 0 (sub [1, 0, 1, 0, 0] (body Try.f178)) := by
  intro m hm st k r h
  obtain rfl : l178_0 = m := Option.some.inj hm
  unfold l178_0 at h
  split at h
  · rename_i g0 t0 g1 g2 t1_0 g3 g4 t1_1 g5 t7 t8
    obtain ⟨hg, h⟩ := bif_some h
    simp only [Bool.and_eq_true] at hg
    obtain ⟨⟨⟨⟨⟨q0, q1⟩, q2⟩, q3⟩, q4⟩, q5⟩ := hg
    obtain rfl := ctsEq_eq _ _ q0
    obtain rfl := Nat.eq_of_beq_eq_true q1
    obtain rfl := ctsEq_eq _ _ q2
    obtain rfl := Nat.eq_of_beq_eq_true q3
    obtain rfl := ctsEq_eq _ _ q4
    obtain rfl := Nat.eq_of_beq_eq_true q5
    refine ⟨((t7 - t8).toNat + 1), ?_⟩
    rw [← h]
    exact loop_run (fun s : Int => ⟨[(0, AV.sl [.int .i64] t0), (1, AV.fn 163 [AV.rptr [.int .i64] t1_0 0, AV.rptr [.int .i64] t1_1 0]), (7, AV.int .i64 t7), (8, AV.int .i64 s)], []⟩) (sumE (fun _ : Unit => k (.exit 0) ⟨[], []⟩) (fun p : Int => k .ret ⟨[(4, AV.int .i64 p)], []⟩)) (st178_0 t0 t1_0 t1_1 t7 ce k) _ t8
  · cases h
def q178 (a0 : List AV) (a1_0 : AV) (a1_1 : AV) : Bool := (ro (runW (R178_0 a0 a1_0 a1_1 (a0.length : Int)) (((a0.length : Int) - 0).toNat + 1) 0) false (sumE (fun _ => true) (fun p24 => true)))
def v178_0 (a0 : List AV) (a1_0 : AV) (a1_1 : AV) : Int := (ro (runW (R178_0 a0 a1_0 a1_1 (a0.length : Int)) (((a0.length : Int) - 0).toNat + 1) 0) 0 (sumE (fun _ => (-1)) (fun p24 => p24)))
theorem e178 (a0 : List AV) (a1_0 : AV) (a1_1 : AV) : funA c178 0 178 [AV.sl [.int .i64] a0, AV.fn 163 [AV.rptr [.int .i64] a1_0 0, AV.rptr [.int .i64] a1_1 0]] = (ro (runW (R178_0 a0 a1_0 a1_1 (a0.length : Int)) (((a0.length : Int) - 0).toNat + 1) 0) none (sumE (fun _ => some (AV.int .i64 (-1))) (fun p24 => some (AV.int .i64 p24)))) := by kernel_rfl
theorem r178 (a0 : List AV) (a1_0 : AV) (a1_1 : AV) (h : q178 a0 a1_0 a1_1 = true) : funA c178 0 178 [AV.sl [.int .i64] a0, AV.fn 163 [AV.rptr [.int .i64] a1_0 0, AV.rptr [.int .i64] a1_1 0]] = some (AV.int .i64 (v178_0 a0 a1_0 a1_1)) := (e178 a0 a1_0 a1_1).trans ((brO (fun o : Option (Unit ⊕ Int) => some (AV.int .i64 (ro o 0 (sumE (fun _ => (-1)) (fun p24 => p24))))) (brS (fun o : Unit ⊕ Int => some (AV.int .i64 ((sumE (fun _ => (-1)) (fun p24 => p24)) o))) (fun _ => (fun _ => rfl)) (fun p24 => (fun _ => rfl)))) h)
def m178 : TModel
  | [.sl g0 a0, .fn g1 [.rptr g2 a1_0 g3, .rptr g4 a1_1 g5]] => bif ctsEq g0 ([.int .i64]) && Nat.beq g1 163 && ctsEq g2 ([.int .i64]) && Nat.beq g3 0 && ctsEq g4 ([.int .i64]) && Nat.beq g5 0 then some (q178 a0 a1_0 a1_1, AV.int .i64 (v178_0 a0 a1_0 a1_1)) else none
  | _ => none
theorem k178 : Known Try.prog 178 := ⟨Try.f178, Try.func178, by kernel_rfl, by kernel_rfl⟩
theorem meets178 : Meets Try.prog 178 m178 := by
  refine meet (f := Try.f178) (l := [(0, sub [1, 0, 1, 0, 0] (body Try.f178))]) (hs := [(178, 0, [0, 1, 7, 8]), (178, 999, [4]), (178, 1000, []), (178, 1001, [0, 1, 7, 8])]) (ts := [(163, m163)]) (ws := []) (is := []) (ls := [(178, 0, l178_0)]) (lvl := 0) mixed k178 Try.func178 (by kernel_rfl) (loops_cons ok178_0 noLoop) (allT_cons meets163 allT_nil) allM_nil noI fun w xs us r hl hv h => ?_
  unfold m178 at h
  split at h
  · rename_i g0 a0 g1 g2 a1_0 g3 g4 a1_1 g5
    obtain ⟨hg, h⟩ := bif_pair h
    simp only [Bool.and_eq_true] at hg
    obtain ⟨⟨⟨⟨⟨q0, q1⟩, q2⟩, q3⟩, q4⟩, q5⟩ := hg
    obtain rfl := ctsEq_eq _ _ q0
    obtain rfl := Nat.eq_of_beq_eq_true q1
    obtain rfl := ctsEq_eq _ _ q2
    obtain rfl := Nat.eq_of_beq_eq_true q3
    obtain rfl := ctsEq_eq _ _ q4
    obtain rfl := Nat.eq_of_beq_eq_true q5
    obtain ⟨h1, rfl⟩ := pair_inj h
    exact r178 a0 a1_0 a1_1 h1
  · cases h

/-! ### 162 slices.ContainsFunc[[]int,int] -/
noncomputable def c162 : Cfg := cfg Try.prog [(162, 999, [4])] [(178, m178)] [] [] []
def q162 (a0 : List AV) (a1_0 : AV) (a1_1 : AV) : Bool := q178 a0 a1_0 a1_1
def v162_0 (a0 : List AV) (a1_0 : AV) (a1_1 : AV) : Bool := decide ((v178_0 a0 a1_0 a1_1) ≥ 0)
theorem e162 (a0 : List AV) (a1_0 : AV) (a1_1 : AV) : funA c162 0 162 [AV.sl [.int .i64] a0, AV.fn 163 [AV.rptr [.int .i64] a1_0 0, AV.rptr [.int .i64] a1_1 0]] = (bif q178 a0 a1_0 a1_1 then some (AV.bool (decide ((v178_0 a0 a1_0 a1_1) ≥ 0)))
  else none) := by kernel_rfl
theorem r162 (a0 : List AV) (a1_0 : AV) (a1_1 : AV) (h : q162 a0 a1_0 a1_1 = true) : funA c162 0 162 [AV.sl [.int .i64] a0, AV.fn 163 [AV.rptr [.int .i64] a1_0 0, AV.rptr [.int .i64] a1_1 0]] = some (AV.bool (v162_0 a0 a1_0 a1_1)) := (e162 a0 a1_0 a1_1).trans ((brL1 (fun _ => rfl)) h)
def m162 : TModel
  | [.sl g0 a0, .fn g1 [.rptr g2 a1_0 g3, .rptr g4 a1_1 g5]] => bif ctsEq g0 ([.int .i64]) && Nat.beq g1 163 && ctsEq g2 ([.int .i64]) && Nat.beq g3 0 && ctsEq g4 ([.int .i64]) && Nat.beq g5 0 then some (q162 a0 a1_0 a1_1, AV.bool (v162_0 a0 a1_0 a1_1)) else none
  | _ => none
theorem k162 : Known Try.prog 162 := ⟨Try.f162, Try.func162, by kernel_rfl, by kernel_rfl⟩
theorem meets162 : Meets Try.prog 162 m162 := by
  refine meet (f := Try.f162) (l := []) (hs := [(162, 999, [4])]) (ts := [(178, m178)]) (ws := []) (is := []) (ls := []) (lvl := 0) mixed k162 Try.func162 (by kernel_rfl) noLoop (allT_cons meets178 allT_nil) allM_nil noI fun w xs us r hl hv h => ?_
  unfold m162 at h
  split at h
  · rename_i g0 a0 g1 g2 a1_0 g3 g4 a1_1 g5
    obtain ⟨hg, h⟩ := bif_pair h
    simp only [Bool.and_eq_true] at hg
    obtain ⟨⟨⟨⟨⟨q0, q1⟩, q2⟩, q3⟩, q4⟩, q5⟩ := hg
    obtain rfl := ctsEq_eq _ _ q0
    obtain rfl := Nat.eq_of_beq_eq_true q1
    obtain rfl := ctsEq_eq _ _ q2
    obtain rfl := Nat.eq_of_beq_eq_true q3
    obtain rfl := ctsEq_eq _ _ q4
    obtain rfl := Nat.eq_of_beq_eq_true q5
    obtain ⟨h1, rfl⟩ := pair_inj h
    exact r162 a0 a1_0 a1_1 h1
  · cases h

/-! ### 124 loop.example/g01984/impl.within -/
noncomputable def c124 : Cfg := cfg Try.prog [(124, 999, [6])] [(162, m162)] [] [] []
def q124 (a0 : List AV) (a1 : Int) (a2 : Int) : Bool := q162 a0 (AV.int .i64 a1) (AV.int .i64 a2)
def v124_0 (a0 : List AV) (a1 : Int) (a2 : Int) : Bool := !(v162_0 a0 (AV.int .i64 a1) (AV.int .i64 a2))
theorem e124 (a0 : List AV) (a1 : Int) (a2 : Int) : funA c124 0 124 [AV.sl [.int .i64] a0, AV.int .i64 a1, AV.int .i64 a2] = (bif q162 a0 (AV.int .i64 a1) (AV.int .i64 a2) then some (AV.bool (!(v162_0 a0 (AV.int .i64 a1) (AV.int .i64 a2))))
  else none) := by kernel_rfl
theorem r124 (a0 : List AV) (a1 : Int) (a2 : Int) (h : q124 a0 a1 a2 = true) : funA c124 0 124 [AV.sl [.int .i64] a0, AV.int .i64 a1, AV.int .i64 a2] = some (AV.bool (v124_0 a0 a1 a2)) := (e124 a0 a1 a2).trans ((brL1 (fun _ => rfl)) h)
def m124 : TModel
  | [.sl g0 a0, .int .i64 a1, .int .i64 a2] => bif ctsEq g0 ([.int .i64]) then some (q124 a0 a1 a2, AV.bool (v124_0 a0 a1 a2)) else none
  | _ => none
theorem k124 : Known Try.prog 124 := ⟨Try.f124, Try.func124, by kernel_rfl, by kernel_rfl⟩
theorem meets124 : Meets Try.prog 124 m124 := by
  refine meet (f := Try.f124) (l := []) (hs := [(124, 999, [6])]) (ts := [(162, m162)]) (ws := []) (is := []) (ls := []) (lvl := 0) mixed k124 Try.func124 (by kernel_rfl) noLoop (allT_cons meets162 allT_nil) allM_nil noI fun w xs us r hl hv h => ?_
  unfold m124 at h
  split at h
  · rename_i g0 a0 a1 a2
    obtain ⟨hg, h⟩ := bif_pair h
    have q0 := hg
    obtain rfl := ctsEq_eq _ _ q0
    obtain ⟨h1, rfl⟩ := pair_inj h
    exact r124 a0 a1 a2 h1
  · cases h

/-! ### 105 loop.example/g01984/impl.AreValues -/
noncomputable def c105 : Cfg := cfg Try.prog [(105, 999, [2])] [(124, m124)] [] [] []
def q105 (a0 : List AV) : Bool := (bif decide ((a0.length : Int) ≤ 64) then q124 a0 (-999) 999 else true)
def v105_0 (a0 : List AV) : Bool := (bif decide ((a0.length : Int) ≤ 64) then (v124_0 a0 (-999) 999) else false)
theorem e105 (a0 : List AV) : funA c105 0 105 [AV.sl [.int .i64] a0] = (bif decide ((a0.length : Int) ≤ 64) then (bif q124 a0 (-999) 999 then some (AV.bool (v124_0 a0 (-999) 999))
   else none)
  else some (AV.bool false)) := by kernel_rfl
theorem r105 (a0 : List AV) (h : q105 a0 = true) : funA c105 0 105 [AV.sl [.int .i64] a0] = some (AV.bool (v105_0 a0)) := (e105 a0).trans ((br (fun b => some (AV.bool (bif b then (v124_0 a0 (-999) 999) else false))) (brL1 (fun _ => rfl)) (fun _ => rfl)) h)
def m105 : TModel
  | [.sl g0 a0] => bif ctsEq g0 ([.int .i64]) then some (q105 a0, AV.bool (v105_0 a0)) else none
  | _ => none
theorem k105 : Known Try.prog 105 := ⟨Try.f105, Try.func105, by kernel_rfl, by kernel_rfl⟩
theorem meets105 : Meets Try.prog 105 m105 := by
  refine meet (f := Try.f105) (l := []) (hs := [(105, 999, [2])]) (ts := [(124, m124)]) (ws := []) (is := []) (ls := []) (lvl := 0) mixed k105 Try.func105 (by kernel_rfl) noLoop (allT_cons meets124 allT_nil) allM_nil noI fun w xs us r hl hv h => ?_
  unfold m105 at h
  split at h
  · rename_i g0 a0
    obtain ⟨hg, h⟩ := bif_pair h
    have q0 := hg
    obtain rfl := ctsEq_eq _ _ q0
    obtain ⟨h1, rfl⟩ := pair_inj h
    exact r105 a0 h1
  · cases h

/-! ### 90 slices.Index[[]int,int] -/
def F90_0 (t0 : List AV) (t1 : Int) (t7 : Int) (t8 : Int) : Out (Int) (Unit ⊕ Int) := (bif decide (t8 < t7) then (bif (decide (0 ≤ t8) && decide (t8 < (t0.length : Int))) then (bif decide (t1 = fI (t0.getD t8.toNat AV.undef) 0) then .stop (.inr t8)
    else .next (IntKind.i64.wrap (t8 + 1)))
   else .fail)
  else .stop (.inl ()))
def R90_0 (t0 : List AV) (t1 : Int) (t7 : Int) : (Int) → Out (Int) (Unit ⊕ Int) := fun s : Int => F90_0 t0 t1 t7 s
def l90_0 : LModel := fun _ _ st k => match st with
  | ⟨[(0, .sl g0 t0), (1, .int .i64 t1), (7, .int .i64 t7), (8, .int .i64 t8)], []⟩ => bif ctsEq g0 ([.int .i64]) then ro (runW (R90_0 t0 t1 t7) ((t7 - t8).toNat + 1) t8) none (sumE (fun _ : Unit => k (.exit 0) ⟨[], []⟩) (fun p : Int => k .ret ⟨[(4, AV.int .i64 p)], []⟩)) else none
  | _ => none
noncomputable def c90 : Cfg := cfg Try.prog [(90, 0, [0, 1, 7, 8]), (90, 999, [4]), (90, 1000, []), (90, 1001, [0, 1, 7, 8])] [] [] [] [(90, 0, l90_0)]
theorem s90_0 (ce : CallE) (t0 : List AV) (t1 : Int) (t7 : Int) (t8 : Int) (next : St → Option AV) (k : Kont) : stepA (codeA c90 ce [] 90 0 (sub [1, 0, 1, 0, 0] (body Try.f90))) (normA [] [0, 1, 7, 8]) next ⟨[(0, AV.sl [.int .i64] t0), (1, AV.int .i64 t1), (7, AV.int .i64 t7), (8, AV.int .i64 t8)], []⟩ k = (bif decide (t8 < t7) then (bif (decide (0 ≤ t8) && decide (t8 < (t0.length : Int))) then (bif decide (t1 = fI (t0.getD t8.toNat AV.undef) 0) then k .ret ⟨[(4, AV.int .i64 t8)], []⟩
    else next ⟨[(0, AV.sl [.int .i64] t0), (1, AV.int .i64 t1), (7, AV.int .i64 t7), (8, AV.int .i64 (IntKind.i64.wrap (t8 + 1)))], []⟩)
   else none)
  else k (.exit 0) ⟨[], []⟩) := by kernel_rfl
theorem st90_0 (t0 : List AV) (t1 : Int) (t7 : Int) (ce : CallE) (k : Kont) (s : Int) (next : St → Option AV) : stepA (codeA c90 ce [] 90 0 (sub [1, 0, 1, 0, 0] (body Try.f90))) (normA [] [0, 1, 7, 8]) next ((fun s : Int => ⟨[(0, AV.sl [.int .i64] t0), (1, AV.int .i64 t1), (7, AV.int .i64 t7), (8, AV.int .i64 s)], []⟩) s) k = (R90_0 t0 t1 t7 s).el none (fun s => next ((fun s : Int => ⟨[(0, AV.sl [.int .i64] t0), (1, AV.int .i64 t1), (7, AV.int .i64 t7), (8, AV.int .i64 s)], []⟩) s)) (sumE (fun _ : Unit => k (.exit 0) ⟨[], []⟩) (fun p : Int => k .ret ⟨[(4, AV.int .i64 p)], []⟩)) := (s90_0 ce t0 t1 t7 s next k).trans (by unfold R90_0; unfold F90_0; simp only [el_cond, el_ro, el_sum, el_fail, el_next, el_stop] <;> rfl)
theorem ok90_0 {ce : CallE} : LoopOK c90 ce [] 90 0 (sub [1, 0, 1, 0, 0] (body Try.f90)) := by
  intro m hm st k r h
  obtain rfl : l90_0 = m := Option.some.inj hm
  unfold l90_0 at h
  split at h
  · rename_i g0 t0 t1 t7 t8
    obtain ⟨hg, h⟩ := bif_some h
    have q0 := hg
    obtain rfl := ctsEq_eq _ _ q0
    refine ⟨((t7 - t8).toNat + 1), ?_⟩
    rw [← h]
    exact loop_run (fun s : Int => ⟨[(0, AV.sl [.int .i64] t0), (1, AV.int .i64 t1), (7, AV.int .i64 t7), (8, AV.int .i64 s)], []⟩) (sumE (fun _ : Unit => k (.exit 0) ⟨[], []⟩) (fun p : Int => k .ret ⟨[(4, AV.int .i64 p)], []⟩)) (st90_0 t0 t1 t7 ce k) _ t8
  · cases h
def q90 (a0 : List AV) (a1 : Int) : Bool := (ro (runW (R90_0 a0 a1 (a0.length : Int)) (((a0.length : Int) - 0).toNat + 1) 0) false (sumE (fun _ => true) (fun p26 => true)))
def v90_0 (a0 : List AV) (a1 : Int) : Int := (ro (runW (R90_0 a0 a1 (a0.length : Int)) (((a0.length : Int) - 0).toNat + 1) 0) 0 (sumE (fun _ => (-1)) (fun p26 => p26)))
theorem e90 (a0 : List AV) (a1 : Int) : funA c90 0 90 [AV.sl [.int .i64] a0, AV.int .i64 a1] = (ro (runW (R90_0 a0 a1 (a0.length : Int)) (((a0.length : Int) - 0).toNat + 1) 0) none (sumE (fun _ => some (AV.int .i64 (-1))) (fun p26 => some (AV.int .i64 p26)))) := by kernel_rfl
theorem r90 (a0 : List AV) (a1 : Int) (h : q90 a0 a1 = true) : funA c90 0 90 [AV.sl [.int .i64] a0, AV.int .i64 a1] = some (AV.int .i64 (v90_0 a0 a1)) := (e90 a0 a1).trans ((brO (fun o : Option (Unit ⊕ Int) => some (AV.int .i64 (ro o 0 (sumE (fun _ => (-1)) (fun p26 => p26))))) (brS (fun o : Unit ⊕ Int => some (AV.int .i64 ((sumE (fun _ => (-1)) (fun p26 => p26)) o))) (fun _ => (fun _ => rfl)) (fun p26 => (fun _ => rfl)))) h)
def m90 : TModel
  | [.sl g0 a0, .int .i64 a1] => bif ctsEq g0 ([.int .i64]) then some (q90 a0 a1, AV.int .i64 (v90_0 a0 a1)) else none
  | _ => none
theorem k90 : Known Try.prog 90 := ⟨Try.f90, Try.func90, by kernel_rfl, by kernel_rfl⟩
theorem meets90 : Meets Try.prog 90 m90 := by
  refine meet (f := Try.f90) (l := [(0, sub [1, 0, 1, 0, 0] (body Try.f90))]) (hs := [(90, 0, [0, 1, 7, 8]), (90, 999, [4]), (90, 1000, []), (90, 1001, [0, 1, 7, 8])]) (ts := []) (ws := []) (is := []) (ls := [(90, 0, l90_0)]) (lvl := 0) mixed k90 Try.func90 (by kernel_rfl) (loops_cons ok90_0 noLoop) allT_nil allM_nil noI fun w xs us r hl hv h => ?_
  unfold m90 at h
  split at h
  · rename_i g0 a0 a1
    obtain ⟨hg, h⟩ := bif_pair h
    have q0 := hg
    obtain rfl := ctsEq_eq _ _ q0
    obtain ⟨h1, rfl⟩ := pair_inj h
    exact r90 a0 a1 h1
  · cases h

/-! ### 125 slices.Contains[[]int,int] -/
noncomputable def c125 : Cfg := cfg Try.prog [(125, 999, [4])] [(90, m90)] [] [] []
def q125 (a0 : List AV) (a1 : Int) : Bool := q90 a0 a1
def v125_0 (a0 : List AV) (a1 : Int) : Bool := decide ((v90_0 a0 a1) ≥ 0)
theorem e125 (a0 : List AV) (a1 : Int) : funA c125 0 125 [AV.sl [.int .i64] a0, AV.int .i64 a1] = (bif q90 a0 a1 then some (AV.bool (decide ((v90_0 a0 a1) ≥ 0)))
  else none) := by kernel_rfl
theorem r125 (a0 : List AV) (a1 : Int) (h : q125 a0 a1 = true) : funA c125 0 125 [AV.sl [.int .i64] a0, AV.int .i64 a1] = some (AV.bool (v125_0 a0 a1)) := (e125 a0 a1).trans ((brL1 (fun _ => rfl)) h)
def m125 : TModel
  | [.sl g0 a0, .int .i64 a1] => bif ctsEq g0 ([.int .i64]) then some (q125 a0 a1, AV.bool (v125_0 a0 a1)) else none
  | _ => none
theorem k125 : Known Try.prog 125 := ⟨Try.f125, Try.func125, by kernel_rfl, by kernel_rfl⟩
theorem meets125 : Meets Try.prog 125 m125 := by
  refine meet (f := Try.f125) (l := []) (hs := [(125, 999, [4])]) (ts := [(90, m90)]) (ws := []) (is := []) (ls := []) (lvl := 0) mixed k125 Try.func125 (by kernel_rfl) noLoop (allT_cons meets90 allT_nil) allM_nil noI fun w xs us r hl hv h => ?_
  unfold m125 at h
  split at h
  · rename_i g0 a0 a1
    obtain ⟨hg, h⟩ := bif_pair h
    have q0 := hg
    obtain rfl := ctsEq_eq _ _ q0
    obtain ⟨h1, rfl⟩ := pair_inj h
    exact r125 a0 a1 h1
  · cases h

/-! ### 98 loop.example/g01984/impl.bound -/
noncomputable def c98 : Cfg := cfg Try.prog [(98, 999, [2])] [] [] [] []
def q98 (a0 : Int) : Bool := true
def v98_0 (a0 : Int) : Bool := (bif decide (a0 ≥ (-1000)) then decide (a0 ≤ 1000) else false)
theorem e98 (a0 : Int) : funA c98 0 98 [AV.int .i64 a0] = (bif decide (a0 ≥ (-1000)) then some (AV.bool (decide (a0 ≤ 1000)))
  else some (AV.bool false)) := by kernel_rfl
theorem r98 (a0 : Int) : funA c98 0 98 [AV.int .i64 a0] = some (AV.bool (v98_0 a0)) := (e98 a0).trans (of_tt (brT (fun b => some (AV.bool (bif b then decide (a0 ≤ 1000) else false))) (fun _ => rfl) (fun _ => rfl)))
def m98 : TModel
  | [.int .i64 a0] => some (true, AV.bool (v98_0 a0))
  | _ => none
theorem k98 : Known Try.prog 98 := ⟨Try.f98, Try.func98, by kernel_rfl, by kernel_rfl⟩
theorem meets98 : Meets Try.prog 98 m98 := by
  refine meet (f := Try.f98) (l := []) (hs := [(98, 999, [2])]) (ts := []) (ws := []) (is := []) (ls := []) (lvl := 0) mixed k98 Try.func98 (by kernel_rfl) noLoop allT_nil allM_nil noI fun w xs us r hl hv h => ?_
  unfold m98 at h
  split at h
  · rename_i a0
    obtain ⟨h1, rfl⟩ := pair_inj h
    exact r98 a0
  · cases h
end Go.Proofs.Ytepfklcdpkpepaa
