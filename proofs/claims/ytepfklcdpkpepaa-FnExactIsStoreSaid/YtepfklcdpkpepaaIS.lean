/- The walk of what this claim reaches: printed by a program, each equation checked by the kernel. -/
import Derived.Test.YtepfklcdpkpepaaVEy
import Derived.Test.YtepfklcdpkpepaaProg
import Derived.KernelRfl
namespace Go.Proofs.Ytepfklcdpkpepaa
open Go Go.Proofs.VE
set_option linter.unusedVariables false
set_option linter.unusedSimpArgs false
set_option maxRecDepth 100000
theorem mixed : Try.prog.follows .mixedOrders = true := by kernel_rfl
/-! ### 66 loop.example/g01984/laws.szStampS -/
noncomputable def c66 : Cfg := cfg Try.prog [(66, 999, [4])] [] [] [] []
def q66 (a0 : List AV) (a1 : Int) : Bool := true
def v66_0 (a0 : List AV) (a1 : Int) : Int := (bif decide (IntKind.i64.wrap (a1 - (a0.length : Int)) < 0) then (-1) else IntKind.i64.wrap (a1 - (a0.length : Int)))
theorem e66 (a0 : List AV) (a1 : Int) : funA c66 0 66 [AV.sl [.int .i64, .int .i64, .int .i64, .int .i64] a0, AV.int .i64 a1] = (bif decide (IntKind.i64.wrap (a1 - (a0.length : Int)) < 0) then some (AV.int .i64 (-1))
  else some (AV.int .i64 (IntKind.i64.wrap (a1 - (a0.length : Int))))) := by kernel_rfl
theorem r66 (a0 : List AV) (a1 : Int) : funA c66 0 66 [AV.sl [.int .i64, .int .i64, .int .i64, .int .i64] a0, AV.int .i64 a1] = some (AV.int .i64 (v66_0 a0 a1)) := (e66 a0 a1).trans (of_tt (brT (fun b => some (AV.int .i64 (bif b then (-1) else IntKind.i64.wrap (a1 - (a0.length : Int))))) (fun _ => rfl) (fun _ => rfl)))
def m66 : TModel
  | [.sl g0 a0, .int .i64 a1] => bif ctsEq g0 ([.int .i64, .int .i64, .int .i64, .int .i64]) then some (true, AV.int .i64 (v66_0 a0 a1)) else none
  | _ => none
theorem k66 : Known Try.prog 66 := ⟨Try.f66, Try.func66, by kernel_rfl, by kernel_rfl⟩
theorem meets66 : Meets Try.prog 66 m66 := by
  refine meet (f := Try.f66) (l := []) (hs := [(66, 999, [4])]) (ts := []) (ws := []) (is := []) (ls := []) (lvl := 0) mixed k66 Try.func66 (by kernel_rfl) noLoop allT_nil allM_nil noI fun w xs us r hl hv h => ?_
  unfold m66 at h
  split at h
  · rename_i g0 a0 a1
    obtain ⟨hg, h⟩ := bif_pair h
    have q0 := hg
    obtain rfl := ctsEq_eq _ _ q0
    obtain ⟨h1, rfl⟩ := pair_inj h
    exact r66 a0 a1
  · cases h

/-! ### 91 loop.example/g01984/laws.szIntS -/
noncomputable def c91 : Cfg := cfg Try.prog [(91, 999, [4])] [] [] [] []
def q91 (a0 : List AV) (a1 : Int) : Bool := true
def v91_0 (a0 : List AV) (a1 : Int) : Int := (bif decide (IntKind.i64.wrap (a1 - (a0.length : Int)) < 0) then (-1) else IntKind.i64.wrap (a1 - (a0.length : Int)))
theorem e91 (a0 : List AV) (a1 : Int) : funA c91 0 91 [AV.sl [.int .i64] a0, AV.int .i64 a1] = (bif decide (IntKind.i64.wrap (a1 - (a0.length : Int)) < 0) then some (AV.int .i64 (-1))
  else some (AV.int .i64 (IntKind.i64.wrap (a1 - (a0.length : Int))))) := by kernel_rfl
theorem r91 (a0 : List AV) (a1 : Int) : funA c91 0 91 [AV.sl [.int .i64] a0, AV.int .i64 a1] = some (AV.int .i64 (v91_0 a0 a1)) := (e91 a0 a1).trans (of_tt (brT (fun b => some (AV.int .i64 (bif b then (-1) else IntKind.i64.wrap (a1 - (a0.length : Int))))) (fun _ => rfl) (fun _ => rfl)))
def m91 : TModel
  | [.sl g0 a0, .int .i64 a1] => bif ctsEq g0 ([.int .i64]) then some (true, AV.int .i64 (v91_0 a0 a1)) else none
  | _ => none
theorem k91 : Known Try.prog 91 := ⟨Try.f91, Try.func91, by kernel_rfl, by kernel_rfl⟩
theorem meets91 : Meets Try.prog 91 m91 := by
  refine meet (f := Try.f91) (l := []) (hs := [(91, 999, [4])]) (ts := []) (ws := []) (is := []) (ls := []) (lvl := 0) mixed k91 Try.func91 (by kernel_rfl) noLoop allT_nil allM_nil noI fun w xs us r hl hv h => ?_
  unfold m91 at h
  split at h
  · rename_i g0 a0 a1
    obtain ⟨hg, h⟩ := bif_pair h
    have q0 := hg
    obtain rfl := ctsEq_eq _ _ q0
    obtain ⟨h1, rfl⟩ := pair_inj h
    exact r91 a0 a1
  · cases h

/-! ### 92 loop.example/g01984/laws.szPivotS -/
noncomputable def c92 : Cfg := cfg Try.prog [(92, 999, [4])] [] [] [] []
def q92 (a0 : List AV) (a1 : Int) : Bool := true
def v92_0 (a0 : List AV) (a1 : Int) : Int := (bif decide (IntKind.i64.wrap (a1 - (a0.length : Int)) < 0) then (-1) else IntKind.i64.wrap (a1 - (a0.length : Int)))
theorem e92 (a0 : List AV) (a1 : Int) : funA c92 0 92 [AV.sl [.int .i64, .int .i64] a0, AV.int .i64 a1] = (bif decide (IntKind.i64.wrap (a1 - (a0.length : Int)) < 0) then some (AV.int .i64 (-1))
  else some (AV.int .i64 (IntKind.i64.wrap (a1 - (a0.length : Int))))) := by kernel_rfl
theorem r92 (a0 : List AV) (a1 : Int) : funA c92 0 92 [AV.sl [.int .i64, .int .i64] a0, AV.int .i64 a1] = some (AV.int .i64 (v92_0 a0 a1)) := (e92 a0 a1).trans (of_tt (brT (fun b => some (AV.int .i64 (bif b then (-1) else IntKind.i64.wrap (a1 - (a0.length : Int))))) (fun _ => rfl) (fun _ => rfl)))
def m92 : TModel
  | [.sl g0 a0, .int .i64 a1] => bif ctsEq g0 ([.int .i64, .int .i64]) then some (true, AV.int .i64 (v92_0 a0 a1)) else none
  | _ => none
theorem k92 : Known Try.prog 92 := ⟨Try.f92, Try.func92, by kernel_rfl, by kernel_rfl⟩
theorem meets92 : Meets Try.prog 92 m92 := by
  refine meet (f := Try.f92) (l := []) (hs := [(92, 999, [4])]) (ts := []) (ws := []) (is := []) (ls := []) (lvl := 0) mixed k92 Try.func92 (by kernel_rfl) noLoop allT_nil allM_nil noI fun w xs us r hl hv h => ?_
  unfold m92 at h
  split at h
  · rename_i g0 a0 a1
    obtain ⟨hg, h⟩ := bif_pair h
    have q0 := hg
    obtain rfl := ctsEq_eq _ _ q0
    obtain ⟨h1, rfl⟩ := pair_inj h
    exact r92 a0 a1
  · cases h

/-! ### 36 loop.example/g01984/laws.szCracker -/
noncomputable def c36 : Cfg := cfg Try.prog [(36, 999, [4])] [(91, m91), (92, m92)] [] [] []
def q36 (a0_0 : List AV) (a0_1 : List AV) (a0_2 : List AV) (a1 : Int) : Bool := true
def v36_0 (a0_0 : List AV) (a0_1 : List AV) (a0_2 : List AV) (a1 : Int) : Int := (bif decide ((v91_0 a0_0 a1) < 0) then (-1) else (bif decide ((v91_0 a0_1 (v91_0 a0_0 a1)) < 0) then (-1) else (bif decide ((v92_0 a0_2 (v91_0 a0_1 (v91_0 a0_0 a1))) < 0) then (-1) else (v92_0 a0_2 (v91_0 a0_1 (v91_0 a0_0 a1))))))
theorem e36 (a0_0 : List AV) (a0_1 : List AV) (a0_2 : List AV) (a1 : Int) : funA c36 0 36 [AV.agg [AV.sl [.int .i64] a0_0, AV.sl [.int .i64] a0_1, AV.sl [.int .i64, .int .i64] a0_2], AV.int .i64 a1] = (bif decide ((v91_0 a0_0 a1) < 0) then some (AV.int .i64 (-1))
  else (bif decide ((v91_0 a0_1 (v91_0 a0_0 a1)) < 0) then some (AV.int .i64 (-1))
   else (bif decide ((v92_0 a0_2 (v91_0 a0_1 (v91_0 a0_0 a1))) < 0) then some (AV.int .i64 (-1))
    else some (AV.int .i64 (v92_0 a0_2 (v91_0 a0_1 (v91_0 a0_0 a1))))))) := by kernel_rfl
theorem r36 (a0_0 : List AV) (a0_1 : List AV) (a0_2 : List AV) (a1 : Int) : funA c36 0 36 [AV.agg [AV.sl [.int .i64] a0_0, AV.sl [.int .i64] a0_1, AV.sl [.int .i64, .int .i64] a0_2], AV.int .i64 a1] = some (AV.int .i64 (v36_0 a0_0 a0_1 a0_2 a1)) := (e36 a0_0 a0_1 a0_2 a1).trans (of_tt (brT (fun b => some (AV.int .i64 (bif b then (-1) else (bif decide ((v91_0 a0_1 (v91_0 a0_0 a1)) < 0) then (-1) else (bif decide ((v92_0 a0_2 (v91_0 a0_1 (v91_0 a0_0 a1))) < 0) then (-1) else (v92_0 a0_2 (v91_0 a0_1 (v91_0 a0_0 a1)))))))) (fun _ => rfl) (brT (fun b => some (AV.int .i64 (bif b then (-1) else (bif decide ((v92_0 a0_2 (v91_0 a0_1 (v91_0 a0_0 a1))) < 0) then (-1) else (v92_0 a0_2 (v91_0 a0_1 (v91_0 a0_0 a1))))))) (fun _ => rfl) (brT (fun b => some (AV.int .i64 (bif b then (-1) else (v92_0 a0_2 (v91_0 a0_1 (v91_0 a0_0 a1)))))) (fun _ => rfl) (fun _ => rfl)))))
def m36 : TModel
  | [.agg [.sl g0 a0_0, .sl g1 a0_1, .sl g2 a0_2], .int .i64 a1] => bif ctsEq g0 ([.int .i64]) && ctsEq g1 ([.int .i64]) && ctsEq g2 ([.int .i64, .int .i64]) then some (true, AV.int .i64 (v36_0 a0_0 a0_1 a0_2 a1)) else none
  | _ => none
theorem k36 : Known Try.prog 36 := ⟨Try.f36, Try.func36, by kernel_rfl, by kernel_rfl⟩
theorem meets36 : Meets Try.prog 36 m36 := by
  refine meet (f := Try.f36) (l := []) (hs := [(36, 999, [4])]) (ts := [(91, m91), (92, m92)]) (ws := []) (is := []) (ls := []) (lvl := 0) mixed k36 Try.func36 (by kernel_rfl) noLoop (allT_cons meets91 (allT_cons meets92 allT_nil)) allM_nil noI fun w xs us r hl hv h => ?_
  unfold m36 at h
  split at h
  · rename_i g0 a0_0 g1 a0_1 g2 a0_2 a1
    obtain ⟨hg, h⟩ := bif_pair h
    simp only [Bool.and_eq_true] at hg
    obtain ⟨⟨q0, q1⟩, q2⟩ := hg
    obtain rfl := ctsEq_eq _ _ q0
    obtain rfl := ctsEq_eq _ _ q1
    obtain rfl := ctsEq_eq _ _ q2
    obtain ⟨h1, rfl⟩ := pair_inj h
    exact r36 a0_0 a0_1 a0_2 a1
  · cases h

/-! ### 15 loop.example/g01984/laws.szStore -/
noncomputable def c15 : Cfg := cfg Try.prog [(15, 999, [4])] [(36, m36), (66, m66)] [] [] []
def q15 (a0_0 : List AV) (a0_1 : Int) (a0_2 : List AV) (a0_3 : List AV) (a0_4 : List AV) (a1 : Int) : Bool := true
def v15_0 (a0_0 : List AV) (a0_1 : Int) (a0_2 : List AV) (a0_3 : List AV) (a0_4 : List AV) (a1 : Int) : Int := (bif decide ((v66_0 a0_0 a1) < 0) then (-1) else (bif decide ((v36_0 a0_2 a0_3 a0_4 (v66_0 a0_0 a1)) < 0) then (-1) else (v36_0 a0_2 a0_3 a0_4 (v66_0 a0_0 a1))))
theorem e15 (a0_0 : List AV) (a0_1 : Int) (a0_2 : List AV) (a0_3 : List AV) (a0_4 : List AV) (a1 : Int) : funA c15 0 15 [AV.agg [AV.sl [.int .i64, .int .i64, .int .i64, .int .i64] a0_0, AV.int .i64 a0_1, AV.sl [.int .i64] a0_2, AV.sl [.int .i64] a0_3, AV.sl [.int .i64, .int .i64] a0_4], AV.int .i64 a1] = (bif decide ((v66_0 a0_0 a1) < 0) then some (AV.int .i64 (-1))
  else (bif decide ((v36_0 a0_2 a0_3 a0_4 (v66_0 a0_0 a1)) < 0) then some (AV.int .i64 (-1))
   else some (AV.int .i64 (v36_0 a0_2 a0_3 a0_4 (v66_0 a0_0 a1))))) := by kernel_rfl
theorem r15 (a0_0 : List AV) (a0_1 : Int) (a0_2 : List AV) (a0_3 : List AV) (a0_4 : List AV) (a1 : Int) : funA c15 0 15 [AV.agg [AV.sl [.int .i64, .int .i64, .int .i64, .int .i64] a0_0, AV.int .i64 a0_1, AV.sl [.int .i64] a0_2, AV.sl [.int .i64] a0_3, AV.sl [.int .i64, .int .i64] a0_4], AV.int .i64 a1] = some (AV.int .i64 (v15_0 a0_0 a0_1 a0_2 a0_3 a0_4 a1)) := (e15 a0_0 a0_1 a0_2 a0_3 a0_4 a1).trans (of_tt (brT (fun b => some (AV.int .i64 (bif b then (-1) else (bif decide ((v36_0 a0_2 a0_3 a0_4 (v66_0 a0_0 a1)) < 0) then (-1) else (v36_0 a0_2 a0_3 a0_4 (v66_0 a0_0 a1)))))) (fun _ => rfl) (brT (fun b => some (AV.int .i64 (bif b then (-1) else (v36_0 a0_2 a0_3 a0_4 (v66_0 a0_0 a1))))) (fun _ => rfl) (fun _ => rfl))))
def m15 : TModel
  | [.agg [.sl g0 a0_0, .int .i64 a0_1, .sl g1 a0_2, .sl g2 a0_3, .sl g3 a0_4], .int .i64 a1] => bif ctsEq g0 ([.int .i64, .int .i64, .int .i64, .int .i64]) && ctsEq g1 ([.int .i64]) && ctsEq g2 ([.int .i64]) && ctsEq g3 ([.int .i64, .int .i64]) then some (true, AV.int .i64 (v15_0 a0_0 a0_1 a0_2 a0_3 a0_4 a1)) else none
  | _ => none
theorem k15 : Known Try.prog 15 := ⟨Try.f15, Try.func15, by kernel_rfl, by kernel_rfl⟩
theorem meets15 : Meets Try.prog 15 m15 := by
  refine meet (f := Try.f15) (l := []) (hs := [(15, 999, [4])]) (ts := [(36, m36), (66, m66)]) (ws := []) (is := []) (ls := []) (lvl := 0) mixed k15 Try.func15 (by kernel_rfl) noLoop (allT_cons meets36 (allT_cons meets66 allT_nil)) allM_nil noI fun w xs us r hl hv h => ?_
  unfold m15 at h
  split at h
  · rename_i g0 a0_0 a0_1 g1 a0_2 g2 a0_3 g3 a0_4 a1
    obtain ⟨hg, h⟩ := bif_pair h
    simp only [Bool.and_eq_true] at hg
    obtain ⟨⟨⟨q0, q1⟩, q2⟩, q3⟩ := hg
    obtain rfl := ctsEq_eq _ _ q0
    obtain rfl := ctsEq_eq _ _ q1
    obtain rfl := ctsEq_eq _ _ q2
    obtain rfl := ctsEq_eq _ _ q3
    obtain ⟨h1, rfl⟩ := pair_inj h
    exact r15 a0_0 a0_1 a0_2 a0_3 a0_4 a1
  · cases h

/-! ### 123 loop.example/g01984/laws.toStamp -/
noncomputable def c123 : Cfg := cfg Try.prog [(123, 999, [2])] [] [] [] []
def q123 (a0_0 : Int) (a0_1 : Int) (a0_2 : Int) (a0_3 : Int) : Bool := true
def v123_0 (a0_0 : Int) (a0_1 : Int) (a0_2 : Int) (a0_3 : Int) : Int := a0_0
def v123_1 (a0_0 : Int) (a0_1 : Int) (a0_2 : Int) (a0_3 : Int) : Int := a0_1
def v123_2 (a0_0 : Int) (a0_1 : Int) (a0_2 : Int) (a0_3 : Int) : Int := a0_2
def v123_3 (a0_0 : Int) (a0_1 : Int) (a0_2 : Int) (a0_3 : Int) : Int := a0_3
theorem e123 (a0_0 : Int) (a0_1 : Int) (a0_2 : Int) (a0_3 : Int) : funA c123 0 123 [AV.agg [AV.int .i64 a0_0, AV.int .i64 a0_1, AV.int .i64 a0_2, AV.int .i64 a0_3]] = some (AV.agg [AV.int .i64 a0_0, AV.int .i64 a0_1, AV.int .i64 a0_2, AV.int .i64 a0_3]) := by kernel_rfl
theorem r123 (a0_0 : Int) (a0_1 : Int) (a0_2 : Int) (a0_3 : Int) : funA c123 0 123 [AV.agg [AV.int .i64 a0_0, AV.int .i64 a0_1, AV.int .i64 a0_2, AV.int .i64 a0_3]] = some (AV.agg [AV.int .i64 (v123_0 a0_0 a0_1 a0_2 a0_3), AV.int .i64 (v123_1 a0_0 a0_1 a0_2 a0_3), AV.int .i64 (v123_2 a0_0 a0_1 a0_2 a0_3), AV.int .i64 (v123_3 a0_0 a0_1 a0_2 a0_3)]) := (e123 a0_0 a0_1 a0_2 a0_3).trans (of_tt (fun _ => rfl))
def m123 : TModel
  | [.agg [.int .i64 a0_0, .int .i64 a0_1, .int .i64 a0_2, .int .i64 a0_3]] => some (true, AV.agg [AV.int .i64 (v123_0 a0_0 a0_1 a0_2 a0_3), AV.int .i64 (v123_1 a0_0 a0_1 a0_2 a0_3), AV.int .i64 (v123_2 a0_0 a0_1 a0_2 a0_3), AV.int .i64 (v123_3 a0_0 a0_1 a0_2 a0_3)])
  | _ => none
theorem k123 : Known Try.prog 123 := ⟨Try.f123, Try.func123, by kernel_rfl, by kernel_rfl⟩
theorem meets123 : Meets Try.prog 123 m123 := by
  refine meet (f := Try.f123) (l := []) (hs := [(123, 999, [2])]) (ts := []) (ws := []) (is := []) (ls := []) (lvl := 0) mixed k123 Try.func123 (by kernel_rfl) noLoop allT_nil allM_nil noI fun w xs us r hl hv h => ?_
  unfold m123 at h
  split at h
  · rename_i a0_0 a0_1 a0_2 a0_3
    obtain ⟨h1, rfl⟩ := pair_inj h
    exact r123 a0_0 a0_1 a0_2 a0_3
  · cases h

/-! ### 70 loop.example/g01984/laws.toStampS -/
def F70_0 (t0 : List AV) (t4 : Int) (h0 : List AV) : Out ((Int × (List AV))) (((List AV))) := (bif decide (t4 < (t0.length : Int)) then (bif (decide (0 ≤ t4) && decide (t4 < (t0.length : Int))) then (bif (decide (0 ≤ t4) && decide (t4 < (h0.length : Int))) then .next (IntKind.i64.wrap (t4 + 1), h0.set t4.toNat (AV.agg [AV.int .i64 (v123_0 (fI (t0.getD t4.toNat AV.undef) 0) (fI (t0.getD t4.toNat AV.undef) 1) (fI (t0.getD t4.toNat AV.undef) 2) (fI (t0.getD t4.toNat AV.undef) 3)), AV.int .i64 (v123_1 (fI (t0.getD t4.toNat AV.undef) 0) (fI (t0.getD t4.toNat AV.undef) 1) (fI (t0.getD t4.toNat AV.undef) 2) (fI (t0.getD t4.toNat AV.undef) 3)), AV.int .i64 (v123_2 (fI (t0.getD t4.toNat AV.undef) 0) (fI (t0.getD t4.toNat AV.undef) 1) (fI (t0.getD t4.toNat AV.undef) 2) (fI (t0.getD t4.toNat AV.undef) 3)), AV.int .i64 (v123_3 (fI (t0.getD t4.toNat AV.undef) 0) (fI (t0.getD t4.toNat AV.undef) 1) (fI (t0.getD t4.toNat AV.undef) 2) (fI (t0.getD t4.toNat AV.undef) 3))]))
    else .fail)
   else .fail)
  else .stop h0)
def R70_0 (t0 : List AV) : ((Int × (List AV))) → Out ((Int × (List AV))) (((List AV))) := fun s : Int × (List AV) => F70_0 t0 s.1 s.2
def l70_0 : LModel := fun _ _ st k => match st with
  | ⟨[(0, .sl g0 t0), (3, .own g1), (4, .int .i64 t4)], [(g2, ⟨false, g3, h0⟩)]⟩ => bif ctsEq g0 ([.int .i64, .int .i64, .int .i64, .int .i64]) && nmEq g1 ([0, 3]) && nmEq g2 ([0, 3]) && ctsEq g3 ([.int .i64, .int .i64, .int .i64, .int .i64]) then ro (runW (R70_0 t0) (((t0.length : Int) - t4).toNat + 1) (t4, h0)) none (fun p : (List AV) => k (.exit 0) ⟨[(3, AV.own [0, 3])], [([0, 3], ⟨false, [.int .i64, .int .i64, .int .i64, .int .i64], p⟩)]⟩) else none
  | _ => none
noncomputable def c70 : Cfg := cfg Try.prog [(70, 0, [0, 3, 4]), (70, 999, [2]), (70, 1000, [3]), (70, 1001, [0, 3, 4])] [(123, m123)] [] [] [(70, 0, l70_0)]
theorem s70_0 (ce : CallE) (t0 : List AV) (t4 : Int) (h0 : List AV) (next : St → Option AV) (k : Kont) : stepA (codeA c70 ce [] 70 0 (sub [1, 1, 0, 1, 0, 0] (body Try.f70))) (normA [] [0, 3, 4]) next ⟨[(0, AV.sl [.int .i64, .int .i64, .int .i64, .int .i64] t0), (3, AV.own [0, 3]), (4, AV.int .i64 t4)], [([0, 3], ⟨false, [.int .i64, .int .i64, .int .i64, .int .i64], h0⟩)]⟩ k = (bif decide (t4 < (t0.length : Int)) then (bif (decide (0 ≤ t4) && decide (t4 < (t0.length : Int))) then (bif (decide (0 ≤ t4) && decide (t4 < (h0.length : Int))) then next ⟨[(0, AV.sl [.int .i64, .int .i64, .int .i64, .int .i64] t0), (3, AV.own [0, 3]), (4, AV.int .i64 (IntKind.i64.wrap (t4 + 1)))], [([0, 3], ⟨false, [.int .i64, .int .i64, .int .i64, .int .i64], h0.set t4.toNat (AV.agg [AV.int .i64 (v123_0 (fI (t0.getD t4.toNat AV.undef) 0) (fI (t0.getD t4.toNat AV.undef) 1) (fI (t0.getD t4.toNat AV.undef) 2) (fI (t0.getD t4.toNat AV.undef) 3)), AV.int .i64 (v123_1 (fI (t0.getD t4.toNat AV.undef) 0) (fI (t0.getD t4.toNat AV.undef) 1) (fI (t0.getD t4.toNat AV.undef) 2) (fI (t0.getD t4.toNat AV.undef) 3)), AV.int .i64 (v123_2 (fI (t0.getD t4.toNat AV.undef) 0) (fI (t0.getD t4.toNat AV.undef) 1) (fI (t0.getD t4.toNat AV.undef) 2) (fI (t0.getD t4.toNat AV.undef) 3)), AV.int .i64 (v123_3 (fI (t0.getD t4.toNat AV.undef) 0) (fI (t0.getD t4.toNat AV.undef) 1) (fI (t0.getD t4.toNat AV.undef) 2) (fI (t0.getD t4.toNat AV.undef) 3))])⟩)]⟩
    else none)
   else none)
  else k (.exit 0) ⟨[(3, AV.own [0, 3])], [([0, 3], ⟨false, [.int .i64, .int .i64, .int .i64, .int .i64], h0⟩)]⟩) := by kernel_rfl
theorem st70_0 (t0 : List AV) (ce : CallE) (k : Kont) (s : (Int × (List AV))) (next : St → Option AV) : stepA (codeA c70 ce [] 70 0 (sub [1, 1, 0, 1, 0, 0] (body Try.f70))) (normA [] [0, 3, 4]) next ((fun s : Int × (List AV) => ⟨[(0, AV.sl [.int .i64, .int .i64, .int .i64, .int .i64] t0), (3, AV.own [0, 3]), (4, AV.int .i64 s.1)], [([0, 3], ⟨false, [.int .i64, .int .i64, .int .i64, .int .i64], s.2⟩)]⟩) s) k = (R70_0 t0 s).el none (fun s => next ((fun s : Int × (List AV) => ⟨[(0, AV.sl [.int .i64, .int .i64, .int .i64, .int .i64] t0), (3, AV.own [0, 3]), (4, AV.int .i64 s.1)], [([0, 3], ⟨false, [.int .i64, .int .i64, .int .i64, .int .i64], s.2⟩)]⟩) s)) (fun p : (List AV) => k (.exit 0) ⟨[(3, AV.own [0, 3])], [([0, 3], ⟨false, [.int .i64, .int .i64, .int .i64, .int .i64], p⟩)]⟩) := (s70_0 ce t0 s.1 s.2 next k).trans (by unfold R70_0; unfold F70_0; simp only [el_cond, el_ro, el_sum, el_fail, el_next, el_stop] <;> rfl)
theorem ok70_0 {ce : CallE} : LoopOK c70 ce [] 70 0 (sub [1, 1, 0, 1, 0, 0] (body Try.f70)) := by
  intro m hm st k r h
  obtain rfl : l70_0 = m := Option.some.inj hm
  unfold l70_0 at h
  split at h
  · rename_i g0 t0 g1 t4 g2 g3 h0
    obtain ⟨hg, h⟩ := bif_some h
    simp only [Bool.and_eq_true] at hg
    obtain ⟨⟨⟨q0, q1⟩, q2⟩, q3⟩ := hg
    obtain rfl := ctsEq_eq _ _ q0
    obtain rfl := (nmEq_iff _ _).1 q1
    obtain rfl := (nmEq_iff _ _).1 q2
    obtain rfl := ctsEq_eq _ _ q3
    refine ⟨(((t0.length : Int) - t4).toNat + 1), ?_⟩
    rw [← h]
    exact loop_run (fun s : Int × (List AV) => ⟨[(0, AV.sl [.int .i64, .int .i64, .int .i64, .int .i64] t0), (3, AV.own [0, 3]), (4, AV.int .i64 s.1)], [([0, 3], ⟨false, [.int .i64, .int .i64, .int .i64, .int .i64], s.2⟩)]⟩) (fun p : (List AV) => k (.exit 0) ⟨[(3, AV.own [0, 3])], [([0, 3], ⟨false, [.int .i64, .int .i64, .int .i64, .int .i64], p⟩)]⟩) (st70_0 t0 ce k) _ (t4, h0)
  · cases h
def q70 (a0 : List AV) : Bool := ((decide (0 ≤ (a0.length : Int)) && decide ((a0.length : Int) ≤ (a0.length : Int)) && decide ((a0.length : Int) * 32 ≤ 140737488355328) && decide ((a0.length : Int) ≤ 140737488355328)) && (ro (runW (R70_0 a0) (((a0.length : Int) - 0).toNat + 1) (0, List.replicate (Int.toNat (a0.length : Int)) (AV.agg [AV.int .i64 0, AV.int .i64 0, AV.int .i64 0, AV.int .i64 0]))) false (fun p1 => true)))
def v70_0 (a0 : List AV) : List AV := (ro (runW (R70_0 a0) (((a0.length : Int) - 0).toNat + 1) (0, List.replicate (Int.toNat (a0.length : Int)) (AV.agg [AV.int .i64 0, AV.int .i64 0, AV.int .i64 0, AV.int .i64 0]))) [] (fun p1 => p1))
theorem e70 (a0 : List AV) : funA c70 0 70 [AV.sl [.int .i64, .int .i64, .int .i64, .int .i64] a0] = (bif (decide (0 ≤ (a0.length : Int)) && decide ((a0.length : Int) ≤ (a0.length : Int)) && decide ((a0.length : Int) * 32 ≤ 140737488355328) && decide ((a0.length : Int) ≤ 140737488355328)) then (ro (runW (R70_0 a0) (((a0.length : Int) - 0).toNat + 1) (0, List.replicate (Int.toNat (a0.length : Int)) (AV.agg [AV.int .i64 0, AV.int .i64 0, AV.int .i64 0, AV.int .i64 0]))) none (fun p1 => some (AV.fl [.int .i64, .int .i64, .int .i64, .int .i64] p1)))
  else none) := by kernel_rfl
theorem r70 (a0 : List AV) (h : q70 a0 = true) : funA c70 0 70 [AV.sl [.int .i64, .int .i64, .int .i64, .int .i64] a0] = some (AV.fl [.int .i64, .int .i64, .int .i64, .int .i64] (v70_0 a0)) := (e70 a0).trans ((brL (brO (fun o : Option (((List AV))) => some (AV.fl [.int .i64, .int .i64, .int .i64, .int .i64] (ro o [] (fun p1 => p1)))) (fun p1 => (fun _ => rfl)))) h)
def m70 : TModel
  | [.sl g0 a0] => bif ctsEq g0 ([.int .i64, .int .i64, .int .i64, .int .i64]) then some (q70 a0, AV.fl [.int .i64, .int .i64, .int .i64, .int .i64] (v70_0 a0)) else none
  | _ => none
theorem k70 : Known Try.prog 70 := ⟨Try.f70, Try.func70, by kernel_rfl, by kernel_rfl⟩
theorem meets70 : Meets Try.prog 70 m70 := by
  refine meet (f := Try.f70) (l := [(0, sub [1, 1, 0, 1, 0, 0] (body Try.f70))]) (hs := [(70, 0, [0, 3, 4]), (70, 999, [2]), (70, 1000, [3]), (70, 1001, [0, 3, 4])]) (ts := [(123, m123)]) (ws := []) (is := []) (ls := [(70, 0, l70_0)]) (lvl := 0) mixed k70 Try.func70 (by kernel_rfl) (loops_cons ok70_0 noLoop) (allT_cons meets123 allT_nil) allM_nil noI fun w xs us r hl hv h => ?_
  unfold m70 at h
  split at h
  · rename_i g0 a0
    obtain ⟨hg, h⟩ := bif_pair h
    have q0 := hg
    obtain rfl := ctsEq_eq _ _ q0
    obtain ⟨h1, rfl⟩ := pair_inj h
    exact r70 a0 h1
  · cases h

/-! ### 30 loop.example/g01984/laws.toIntS -/
def F30_0 (t0 : List AV) (t4 : Int) (h0 : List AV) : Out ((Int × (List AV))) (((List AV))) := (bif decide (t4 < (t0.length : Int)) then (bif (decide (0 ≤ t4) && decide (t4 < (t0.length : Int))) then (bif (decide (0 ≤ t4) && decide (t4 < (h0.length : Int))) then .next (IntKind.i64.wrap (t4 + 1), h0.set t4.toNat (AV.agg [AV.int .i64 (fI (t0.getD t4.toNat AV.undef) 0)]))
    else .fail)
   else .fail)
  else .stop h0)
def R30_0 (t0 : List AV) : ((Int × (List AV))) → Out ((Int × (List AV))) (((List AV))) := fun s : Int × (List AV) => F30_0 t0 s.1 s.2
def l30_0 : LModel := fun _ _ st k => match st with
  | ⟨[(0, .sl g0 t0), (3, .own g1), (4, .int .i64 t4)], [(g2, ⟨false, g3, h0⟩)]⟩ => bif ctsEq g0 ([.int .i64]) && nmEq g1 ([0, 3]) && nmEq g2 ([0, 3]) && ctsEq g3 ([.int .i64]) then ro (runW (R30_0 t0) (((t0.length : Int) - t4).toNat + 1) (t4, h0)) none (fun p : (List AV) => k (.exit 0) ⟨[(3, AV.own [0, 3])], [([0, 3], ⟨false, [.int .i64], p⟩)]⟩) else none
  | _ => none
noncomputable def c30 : Cfg := cfg Try.prog [(30, 0, [0, 3, 4]), (30, 999, [2]), (30, 1000, [3]), (30, 1001, [0, 3, 4])] [] [] [] [(30, 0, l30_0)]
theorem s30_0 (ce : CallE) (t0 : List AV) (t4 : Int) (h0 : List AV) (next : St → Option AV) (k : Kont) : stepA (codeA c30 ce [] 30 0 (sub [1, 1, 0, 1, 0, 0] (body Try.f30))) (normA [] [0, 3, 4]) next ⟨[(0, AV.sl [.int .i64] t0), (3, AV.own [0, 3]), (4, AV.int .i64 t4)], [([0, 3], ⟨false, [.int .i64], h0⟩)]⟩ k = (bif decide (t4 < (t0.length : Int)) then (bif (decide (0 ≤ t4) && decide (t4 < (t0.length : Int))) then (bif (decide (0 ≤ t4) && decide (t4 < (h0.length : Int))) then next ⟨[(0, AV.sl [.int .i64] t0), (3, AV.own [0, 3]), (4, AV.int .i64 (IntKind.i64.wrap (t4 + 1)))], [([0, 3], ⟨false, [.int .i64], h0.set t4.toNat (AV.agg [AV.int .i64 (fI (t0.getD t4.toNat AV.undef) 0)])⟩)]⟩
    else none)
   else none)
  else k (.exit 0) ⟨[(3, AV.own [0, 3])], [([0, 3], ⟨false, [.int .i64], h0⟩)]⟩) := by kernel_rfl
theorem st30_0 (t0 : List AV) (ce : CallE) (k : Kont) (s : (Int × (List AV))) (next : St → Option AV) : stepA (codeA c30 ce [] 30 0 (sub [1, 1, 0, 1, 0, 0] (body Try.f30))) (normA [] [0, 3, 4]) next ((fun s : Int × (List AV) => ⟨[(0, AV.sl [.int .i64] t0), (3, AV.own [0, 3]), (4, AV.int .i64 s.1)], [([0, 3], ⟨false, [.int .i64], s.2⟩)]⟩) s) k = (R30_0 t0 s).el none (fun s => next ((fun s : Int × (List AV) => ⟨[(0, AV.sl [.int .i64] t0), (3, AV.own [0, 3]), (4, AV.int .i64 s.1)], [([0, 3], ⟨false, [.int .i64], s.2⟩)]⟩) s)) (fun p : (List AV) => k (.exit 0) ⟨[(3, AV.own [0, 3])], [([0, 3], ⟨false, [.int .i64], p⟩)]⟩) := (s30_0 ce t0 s.1 s.2 next k).trans (by unfold R30_0; unfold F30_0; simp only [el_cond, el_ro, el_sum, el_fail, el_next, el_stop] <;> rfl)
theorem ok30_0 {ce : CallE} : LoopOK c30 ce [] 30 0 (sub [1, 1, 0, 1, 0, 0] (body Try.f30)) := by
  intro m hm st k r h
  obtain rfl : l30_0 = m := Option.some.inj hm
  unfold l30_0 at h
  split at h
  · rename_i g0 t0 g1 t4 g2 g3 h0
    obtain ⟨hg, h⟩ := bif_some h
    simp only [Bool.and_eq_true] at hg
    obtain ⟨⟨⟨q0, q1⟩, q2⟩, q3⟩ := hg
    obtain rfl := ctsEq_eq _ _ q0
    obtain rfl := (nmEq_iff _ _).1 q1
    obtain rfl := (nmEq_iff _ _).1 q2
    obtain rfl := ctsEq_eq _ _ q3
    refine ⟨(((t0.length : Int) - t4).toNat + 1), ?_⟩
    rw [← h]
    exact loop_run (fun s : Int × (List AV) => ⟨[(0, AV.sl [.int .i64] t0), (3, AV.own [0, 3]), (4, AV.int .i64 s.1)], [([0, 3], ⟨false, [.int .i64], s.2⟩)]⟩) (fun p : (List AV) => k (.exit 0) ⟨[(3, AV.own [0, 3])], [([0, 3], ⟨false, [.int .i64], p⟩)]⟩) (st30_0 t0 ce k) _ (t4, h0)
  · cases h
def q30 (a0 : List AV) : Bool := ((decide (0 ≤ (a0.length : Int)) && decide ((a0.length : Int) ≤ (a0.length : Int)) && decide ((a0.length : Int) * 8 ≤ 140737488355328) && decide ((a0.length : Int) ≤ 140737488355328)) && (ro (runW (R30_0 a0) (((a0.length : Int) - 0).toNat + 1) (0, List.replicate (Int.toNat (a0.length : Int)) (AV.int .i64 0))) false (fun p2 => true)))
def v30_0 (a0 : List AV) : List AV := (ro (runW (R30_0 a0) (((a0.length : Int) - 0).toNat + 1) (0, List.replicate (Int.toNat (a0.length : Int)) (AV.int .i64 0))) [] (fun p2 => p2))
theorem e30 (a0 : List AV) : funA c30 0 30 [AV.sl [.int .i64] a0] = (bif (decide (0 ≤ (a0.length : Int)) && decide ((a0.length : Int) ≤ (a0.length : Int)) && decide ((a0.length : Int) * 8 ≤ 140737488355328) && decide ((a0.length : Int) ≤ 140737488355328)) then (ro (runW (R30_0 a0) (((a0.length : Int) - 0).toNat + 1) (0, List.replicate (Int.toNat (a0.length : Int)) (AV.int .i64 0))) none (fun p2 => some (AV.fl [.int .i64] p2)))
  else none) := by kernel_rfl
theorem r30 (a0 : List AV) (h : q30 a0 = true) : funA c30 0 30 [AV.sl [.int .i64] a0] = some (AV.fl [.int .i64] (v30_0 a0)) := (e30 a0).trans ((brL (brO (fun o : Option (((List AV))) => some (AV.fl [.int .i64] (ro o [] (fun p2 => p2)))) (fun p2 => (fun _ => rfl)))) h)
def m30 : TModel
  | [.sl g0 a0] => bif ctsEq g0 ([.int .i64]) then some (q30 a0, AV.fl [.int .i64] (v30_0 a0)) else none
  | _ => none
theorem k30 : Known Try.prog 30 := ⟨Try.f30, Try.func30, by kernel_rfl, by kernel_rfl⟩
theorem meets30 : Meets Try.prog 30 m30 := by
  refine meet (f := Try.f30) (l := [(0, sub [1, 1, 0, 1, 0, 0] (body Try.f30))]) (hs := [(30, 0, [0, 3, 4]), (30, 999, [2]), (30, 1000, [3]), (30, 1001, [0, 3, 4])]) (ts := []) (ws := []) (is := []) (ls := [(30, 0, l30_0)]) (lvl := 0) mixed k30 Try.func30 (by kernel_rfl) (loops_cons ok30_0 noLoop) allT_nil allM_nil noI fun w xs us r hl hv h => ?_
  unfold m30 at h
  split at h
  · rename_i g0 a0
    obtain ⟨hg, h⟩ := bif_pair h
    have q0 := hg
    obtain rfl := ctsEq_eq _ _ q0
    obtain ⟨h1, rfl⟩ := pair_inj h
    exact r30 a0 h1
  · cases h

/-! ### 141 loop.example/g01984/laws.toPivot -/
noncomputable def c141 : Cfg := cfg Try.prog [(141, 999, [2])] [] [] [] []
def q141 (a0_0 : Int) (a0_1 : Int) : Bool := true
def v141_0 (a0_0 : Int) (a0_1 : Int) : Int := a0_0
def v141_1 (a0_0 : Int) (a0_1 : Int) : Int := a0_1
theorem e141 (a0_0 : Int) (a0_1 : Int) : funA c141 0 141 [AV.agg [AV.int .i64 a0_0, AV.int .i64 a0_1]] = some (AV.agg [AV.int .i64 a0_0, AV.int .i64 a0_1]) := by kernel_rfl
theorem r141 (a0_0 : Int) (a0_1 : Int) : funA c141 0 141 [AV.agg [AV.int .i64 a0_0, AV.int .i64 a0_1]] = some (AV.agg [AV.int .i64 (v141_0 a0_0 a0_1), AV.int .i64 (v141_1 a0_0 a0_1)]) := (e141 a0_0 a0_1).trans (of_tt (fun _ => rfl))
def m141 : TModel
  | [.agg [.int .i64 a0_0, .int .i64 a0_1]] => some (true, AV.agg [AV.int .i64 (v141_0 a0_0 a0_1), AV.int .i64 (v141_1 a0_0 a0_1)])
  | _ => none
theorem k141 : Known Try.prog 141 := ⟨Try.f141, Try.func141, by kernel_rfl, by kernel_rfl⟩
theorem meets141 : Meets Try.prog 141 m141 := by
  refine meet (f := Try.f141) (l := []) (hs := [(141, 999, [2])]) (ts := []) (ws := []) (is := []) (ls := []) (lvl := 0) mixed k141 Try.func141 (by kernel_rfl) noLoop allT_nil allM_nil noI fun w xs us r hl hv h => ?_
  unfold m141 at h
  split at h
  · rename_i a0_0 a0_1
    obtain ⟨h1, rfl⟩ := pair_inj h
    exact r141 a0_0 a0_1
  · cases h

/-! ### 93 loop.example/g01984/laws.toPivotS -/
def F93_0 (t0 : List AV) (t4 : Int) (h0 : List AV) : Out ((Int × (List AV))) (((List AV))) := (bif decide (t4 < (t0.length : Int)) then (bif (decide (0 ≤ t4) && decide (t4 < (t0.length : Int))) then (bif (decide (0 ≤ t4) && decide (t4 < (h0.length : Int))) then .next (IntKind.i64.wrap (t4 + 1), h0.set t4.toNat (AV.agg [AV.int .i64 (v141_0 (fI (t0.getD t4.toNat AV.undef) 0) (fI (t0.getD t4.toNat AV.undef) 1)), AV.int .i64 (v141_1 (fI (t0.getD t4.toNat AV.undef) 0) (fI (t0.getD t4.toNat AV.undef) 1))]))
    else .fail)
   else .fail)
  else .stop h0)
def R93_0 (t0 : List AV) : ((Int × (List AV))) → Out ((Int × (List AV))) (((List AV))) := fun s : Int × (List AV) => F93_0 t0 s.1 s.2
def l93_0 : LModel := fun _ _ st k => match st with
  | ⟨[(0, .sl g0 t0), (3, .own g1), (4, .int .i64 t4)], [(g2, ⟨false, g3, h0⟩)]⟩ => bif ctsEq g0 ([.int .i64, .int .i64]) && nmEq g1 ([0, 3]) && nmEq g2 ([0, 3]) && ctsEq g3 ([.int .i64, .int .i64]) then ro (runW (R93_0 t0) (((t0.length : Int) - t4).toNat + 1) (t4, h0)) none (fun p : (List AV) => k (.exit 0) ⟨[(3, AV.own [0, 3])], [([0, 3], ⟨false, [.int .i64, .int .i64], p⟩)]⟩) else none
  | _ => none
noncomputable def c93 : Cfg := cfg Try.prog [(93, 0, [0, 3, 4]), (93, 999, [2]), (93, 1000, [3]), (93, 1001, [0, 3, 4])] [(141, m141)] [] [] [(93, 0, l93_0)]
theorem s93_0 (ce : CallE) (t0 : List AV) (t4 : Int) (h0 : List AV) (next : St → Option AV) (k : Kont) : stepA (codeA c93 ce [] 93 0 (sub [1, 1, 0, 1, 0, 0] (body Try.f93))) (normA [] [0, 3, 4]) next ⟨[(0, AV.sl [.int .i64, .int .i64] t0), (3, AV.own [0, 3]), (4, AV.int .i64 t4)], [([0, 3], ⟨false, [.int .i64, .int .i64], h0⟩)]⟩ k = (bif decide (t4 < (t0.length : Int)) then (bif (decide (0 ≤ t4) && decide (t4 < (t0.length : Int))) then (bif (decide (0 ≤ t4) && decide (t4 < (h0.length : Int))) then next ⟨[(0, AV.sl [.int .i64, .int .i64] t0), (3, AV.own [0, 3]), (4, AV.int .i64 (IntKind.i64.wrap (t4 + 1)))], [([0, 3], ⟨false, [.int .i64, .int .i64], h0.set t4.toNat (AV.agg [AV.int .i64 (v141_0 (fI (t0.getD t4.toNat AV.undef) 0) (fI (t0.getD t4.toNat AV.undef) 1)), AV.int .i64 (v141_1 (fI (t0.getD t4.toNat AV.undef) 0) (fI (t0.getD t4.toNat AV.undef) 1))])⟩)]⟩
    else none)
   else none)
  else k (.exit 0) ⟨[(3, AV.own [0, 3])], [([0, 3], ⟨false, [.int .i64, .int .i64], h0⟩)]⟩) := by kernel_rfl
theorem st93_0 (t0 : List AV) (ce : CallE) (k : Kont) (s : (Int × (List AV))) (next : St → Option AV) : stepA (codeA c93 ce [] 93 0 (sub [1, 1, 0, 1, 0, 0] (body Try.f93))) (normA [] [0, 3, 4]) next ((fun s : Int × (List AV) => ⟨[(0, AV.sl [.int .i64, .int .i64] t0), (3, AV.own [0, 3]), (4, AV.int .i64 s.1)], [([0, 3], ⟨false, [.int .i64, .int .i64], s.2⟩)]⟩) s) k = (R93_0 t0 s).el none (fun s => next ((fun s : Int × (List AV) => ⟨[(0, AV.sl [.int .i64, .int .i64] t0), (3, AV.own [0, 3]), (4, AV.int .i64 s.1)], [([0, 3], ⟨false, [.int .i64, .int .i64], s.2⟩)]⟩) s)) (fun p : (List AV) => k (.exit 0) ⟨[(3, AV.own [0, 3])], [([0, 3], ⟨false, [.int .i64, .int .i64], p⟩)]⟩) := (s93_0 ce t0 s.1 s.2 next k).trans (by unfold R93_0; unfold F93_0; simp only [el_cond, el_ro, el_sum, el_fail, el_next, el_stop] <;> rfl)
theorem ok93_0 {ce : CallE} : LoopOK c93 ce [] 93 0 (sub [1, 1, 0, 1, 0, 0] (body Try.f93)) := by
  intro m hm st k r h
  obtain rfl : l93_0 = m := Option.some.inj hm
  unfold l93_0 at h
  split at h
  · rename_i g0 t0 g1 t4 g2 g3 h0
    obtain ⟨hg, h⟩ := bif_some h
    simp only [Bool.and_eq_true] at hg
    obtain ⟨⟨⟨q0, q1⟩, q2⟩, q3⟩ := hg
    obtain rfl := ctsEq_eq _ _ q0
    obtain rfl := (nmEq_iff _ _).1 q1
    obtain rfl := (nmEq_iff _ _).1 q2
    obtain rfl := ctsEq_eq _ _ q3
    refine ⟨(((t0.length : Int) - t4).toNat + 1), ?_⟩
    rw [← h]
    exact loop_run (fun s : Int × (List AV) => ⟨[(0, AV.sl [.int .i64, .int .i64] t0), (3, AV.own [0, 3]), (4, AV.int .i64 s.1)], [([0, 3], ⟨false, [.int .i64, .int .i64], s.2⟩)]⟩) (fun p : (List AV) => k (.exit 0) ⟨[(3, AV.own [0, 3])], [([0, 3], ⟨false, [.int .i64, .int .i64], p⟩)]⟩) (st93_0 t0 ce k) _ (t4, h0)
  · cases h
def q93 (a0 : List AV) : Bool := ((decide (0 ≤ (a0.length : Int)) && decide ((a0.length : Int) ≤ (a0.length : Int)) && decide ((a0.length : Int) * 16 ≤ 140737488355328) && decide ((a0.length : Int) ≤ 140737488355328)) && (ro (runW (R93_0 a0) (((a0.length : Int) - 0).toNat + 1) (0, List.replicate (Int.toNat (a0.length : Int)) (AV.agg [AV.int .i64 0, AV.int .i64 0]))) false (fun p3 => true)))
def v93_0 (a0 : List AV) : List AV := (ro (runW (R93_0 a0) (((a0.length : Int) - 0).toNat + 1) (0, List.replicate (Int.toNat (a0.length : Int)) (AV.agg [AV.int .i64 0, AV.int .i64 0]))) [] (fun p3 => p3))
theorem e93 (a0 : List AV) : funA c93 0 93 [AV.sl [.int .i64, .int .i64] a0] = (bif (decide (0 ≤ (a0.length : Int)) && decide ((a0.length : Int) ≤ (a0.length : Int)) && decide ((a0.length : Int) * 16 ≤ 140737488355328) && decide ((a0.length : Int) ≤ 140737488355328)) then (ro (runW (R93_0 a0) (((a0.length : Int) - 0).toNat + 1) (0, List.replicate (Int.toNat (a0.length : Int)) (AV.agg [AV.int .i64 0, AV.int .i64 0]))) none (fun p3 => some (AV.fl [.int .i64, .int .i64] p3)))
  else none) := by kernel_rfl
theorem r93 (a0 : List AV) (h : q93 a0 = true) : funA c93 0 93 [AV.sl [.int .i64, .int .i64] a0] = some (AV.fl [.int .i64, .int .i64] (v93_0 a0)) := (e93 a0).trans ((brL (brO (fun o : Option (((List AV))) => some (AV.fl [.int .i64, .int .i64] (ro o [] (fun p3 => p3)))) (fun p3 => (fun _ => rfl)))) h)
def m93 : TModel
  | [.sl g0 a0] => bif ctsEq g0 ([.int .i64, .int .i64]) then some (q93 a0, AV.fl [.int .i64, .int .i64] (v93_0 a0)) else none
  | _ => none
theorem k93 : Known Try.prog 93 := ⟨Try.f93, Try.func93, by kernel_rfl, by kernel_rfl⟩
theorem meets93 : Meets Try.prog 93 m93 := by
  refine meet (f := Try.f93) (l := [(0, sub [1, 1, 0, 1, 0, 0] (body Try.f93))]) (hs := [(93, 0, [0, 3, 4]), (93, 999, [2]), (93, 1000, [3]), (93, 1001, [0, 3, 4])]) (ts := [(141, m141)]) (ws := []) (is := []) (ls := [(93, 0, l93_0)]) (lvl := 0) mixed k93 Try.func93 (by kernel_rfl) (loops_cons ok93_0 noLoop) (allT_cons meets141 allT_nil) allM_nil noI fun w xs us r hl hv h => ?_
  unfold m93 at h
  split at h
  · rename_i g0 a0
    obtain ⟨hg, h⟩ := bif_pair h
    have q0 := hg
    obtain rfl := ctsEq_eq _ _ q0
    obtain ⟨h1, rfl⟩ := pair_inj h
    exact r93 a0 h1
  · cases h

/-! ### 38 loop.example/g01984/laws.toCracker -/
noncomputable def c38 : Cfg := cfg Try.prog [(38, 999, [2])] [(30, m30), (93, m93)] [] [] []
def q38 (a0_0 : List AV) (a0_1 : List AV) (a0_2 : List AV) : Bool := (q30 a0_0 && (q30 a0_1 && q93 a0_2))
def v38_0 (a0_0 : List AV) (a0_1 : List AV) (a0_2 : List AV) : List AV := (v30_0 a0_0)
def v38_1 (a0_0 : List AV) (a0_1 : List AV) (a0_2 : List AV) : List AV := (v30_0 a0_1)
def v38_2 (a0_0 : List AV) (a0_1 : List AV) (a0_2 : List AV) : List AV := (v93_0 a0_2)
theorem e38 (a0_0 : List AV) (a0_1 : List AV) (a0_2 : List AV) : funA c38 0 38 [AV.agg [AV.sl [.int .i64] a0_0, AV.sl [.int .i64] a0_1, AV.sl [.int .i64, .int .i64] a0_2]] = (bif q30 a0_0 then (bif q30 a0_1 then (bif q93 a0_2 then some (AV.agg [AV.fl [.int .i64] (v30_0 a0_0), AV.fl [.int .i64] (v30_0 a0_1), AV.fl [.int .i64, .int .i64] (v93_0 a0_2)])
    else none)
   else none)
  else none) := by kernel_rfl
theorem r38 (a0_0 : List AV) (a0_1 : List AV) (a0_2 : List AV) (h : q38 a0_0 a0_1 a0_2 = true) : funA c38 0 38 [AV.agg [AV.sl [.int .i64] a0_0, AV.sl [.int .i64] a0_1, AV.sl [.int .i64, .int .i64] a0_2]] = some (AV.agg [AV.fl [.int .i64] (v38_0 a0_0 a0_1 a0_2), AV.fl [.int .i64] (v38_1 a0_0 a0_1 a0_2), AV.fl [.int .i64, .int .i64] (v38_2 a0_0 a0_1 a0_2)]) := (e38 a0_0 a0_1 a0_2).trans ((brL (brL (brL1 (fun _ => rfl)))) h)
def m38 : TModel
  | [.agg [.sl g0 a0_0, .sl g1 a0_1, .sl g2 a0_2]] => bif ctsEq g0 ([.int .i64]) && ctsEq g1 ([.int .i64]) && ctsEq g2 ([.int .i64, .int .i64]) then some (q38 a0_0 a0_1 a0_2, AV.agg [AV.fl [.int .i64] (v38_0 a0_0 a0_1 a0_2), AV.fl [.int .i64] (v38_1 a0_0 a0_1 a0_2), AV.fl [.int .i64, .int .i64] (v38_2 a0_0 a0_1 a0_2)]) else none
  | _ => none
theorem k38 : Known Try.prog 38 := ⟨Try.f38, Try.func38, by kernel_rfl, by kernel_rfl⟩
theorem meets38 : Meets Try.prog 38 m38 := by
  refine meet (f := Try.f38) (l := []) (hs := [(38, 999, [2])]) (ts := [(30, m30), (93, m93)]) (ws := []) (is := []) (ls := []) (lvl := 0) mixed k38 Try.func38 (by kernel_rfl) noLoop (allT_cons meets30 (allT_cons meets93 allT_nil)) allM_nil noI fun w xs us r hl hv h => ?_
  unfold m38 at h
  split at h
  · rename_i g0 a0_0 g1 a0_1 g2 a0_2
    obtain ⟨hg, h⟩ := bif_pair h
    simp only [Bool.and_eq_true] at hg
    obtain ⟨⟨q0, q1⟩, q2⟩ := hg
    obtain rfl := ctsEq_eq _ _ q0
    obtain rfl := ctsEq_eq _ _ q1
    obtain rfl := ctsEq_eq _ _ q2
    obtain ⟨h1, rfl⟩ := pair_inj h
    exact r38 a0_0 a0_1 a0_2 h1
  · cases h

/-! ### 17 loop.example/g01984/laws.toStore -/
noncomputable def c17 : Cfg := cfg Try.prog [(17, 999, [2])] [(38, m38), (70, m70)] [] [] []
def q17 (a0_0 : List AV) (a0_1 : Int) (a0_2 : List AV) (a0_3 : List AV) (a0_4 : List AV) : Bool := (q70 a0_0 && q38 a0_2 a0_3 a0_4)
def v17_0 (a0_0 : List AV) (a0_1 : Int) (a0_2 : List AV) (a0_3 : List AV) (a0_4 : List AV) : List AV := (v70_0 a0_0)
def v17_1 (a0_0 : List AV) (a0_1 : Int) (a0_2 : List AV) (a0_3 : List AV) (a0_4 : List AV) : Int := a0_1
def v17_2 (a0_0 : List AV) (a0_1 : Int) (a0_2 : List AV) (a0_3 : List AV) (a0_4 : List AV) : List AV := (v38_0 a0_2 a0_3 a0_4)
def v17_3 (a0_0 : List AV) (a0_1 : Int) (a0_2 : List AV) (a0_3 : List AV) (a0_4 : List AV) : List AV := (v38_1 a0_2 a0_3 a0_4)
def v17_4 (a0_0 : List AV) (a0_1 : Int) (a0_2 : List AV) (a0_3 : List AV) (a0_4 : List AV) : List AV := (v38_2 a0_2 a0_3 a0_4)
theorem e17 (a0_0 : List AV) (a0_1 : Int) (a0_2 : List AV) (a0_3 : List AV) (a0_4 : List AV) : funA c17 0 17 [AV.agg [AV.sl [.int .i64, .int .i64, .int .i64, .int .i64] a0_0, AV.int .i64 a0_1, AV.sl [.int .i64] a0_2, AV.sl [.int .i64] a0_3, AV.sl [.int .i64, .int .i64] a0_4]] = (bif q70 a0_0 then (bif q38 a0_2 a0_3 a0_4 then some (AV.agg [AV.fl [.int .i64, .int .i64, .int .i64, .int .i64] (v70_0 a0_0), AV.int .i64 a0_1, AV.fl [.int .i64] (v38_0 a0_2 a0_3 a0_4), AV.fl [.int .i64] (v38_1 a0_2 a0_3 a0_4), AV.fl [.int .i64, .int .i64] (v38_2 a0_2 a0_3 a0_4)])
   else none)
  else none) := by kernel_rfl
theorem r17 (a0_0 : List AV) (a0_1 : Int) (a0_2 : List AV) (a0_3 : List AV) (a0_4 : List AV) (h : q17 a0_0 a0_1 a0_2 a0_3 a0_4 = true) : funA c17 0 17 [AV.agg [AV.sl [.int .i64, .int .i64, .int .i64, .int .i64] a0_0, AV.int .i64 a0_1, AV.sl [.int .i64] a0_2, AV.sl [.int .i64] a0_3, AV.sl [.int .i64, .int .i64] a0_4]] = some (AV.agg [AV.fl [.int .i64, .int .i64, .int .i64, .int .i64] (v17_0 a0_0 a0_1 a0_2 a0_3 a0_4), AV.int .i64 (v17_1 a0_0 a0_1 a0_2 a0_3 a0_4), AV.fl [.int .i64] (v17_2 a0_0 a0_1 a0_2 a0_3 a0_4), AV.fl [.int .i64] (v17_3 a0_0 a0_1 a0_2 a0_3 a0_4), AV.fl [.int .i64, .int .i64] (v17_4 a0_0 a0_1 a0_2 a0_3 a0_4)]) := (e17 a0_0 a0_1 a0_2 a0_3 a0_4).trans ((brL (brL1 (fun _ => rfl))) h)
def m17 : TModel
  | [.agg [.sl g0 a0_0, .int .i64 a0_1, .sl g1 a0_2, .sl g2 a0_3, .sl g3 a0_4]] => bif ctsEq g0 ([.int .i64, .int .i64, .int .i64, .int .i64]) && ctsEq g1 ([.int .i64]) && ctsEq g2 ([.int .i64]) && ctsEq g3 ([.int .i64, .int .i64]) then some (q17 a0_0 a0_1 a0_2 a0_3 a0_4, AV.agg [AV.fl [.int .i64, .int .i64, .int .i64, .int .i64] (v17_0 a0_0 a0_1 a0_2 a0_3 a0_4), AV.int .i64 (v17_1 a0_0 a0_1 a0_2 a0_3 a0_4), AV.fl [.int .i64] (v17_2 a0_0 a0_1 a0_2 a0_3 a0_4), AV.fl [.int .i64] (v17_3 a0_0 a0_1 a0_2 a0_3 a0_4), AV.fl [.int .i64, .int .i64] (v17_4 a0_0 a0_1 a0_2 a0_3 a0_4)]) else none
  | _ => none
theorem k17 : Known Try.prog 17 := ⟨Try.f17, Try.func17, by kernel_rfl, by kernel_rfl⟩
theorem meets17 : Meets Try.prog 17 m17 := by
  refine meet (f := Try.f17) (l := []) (hs := [(17, 999, [2])]) (ts := [(38, m38), (70, m70)]) (ws := []) (is := []) (ls := []) (lvl := 0) mixed k17 Try.func17 (by kernel_rfl) noLoop (allT_cons meets38 (allT_cons meets70 allT_nil)) allM_nil noI fun w xs us r hl hv h => ?_
  unfold m17 at h
  split at h
  · rename_i g0 a0_0 a0_1 g1 a0_2 g2 a0_3 g3 a0_4
    obtain ⟨hg, h⟩ := bif_pair h
    simp only [Bool.and_eq_true] at hg
    obtain ⟨⟨⟨q0, q1⟩, q2⟩, q3⟩ := hg
    obtain rfl := ctsEq_eq _ _ q0
    obtain rfl := ctsEq_eq _ _ q1
    obtain rfl := ctsEq_eq _ _ q2
    obtain rfl := ctsEq_eq _ _ q3
    obtain ⟨h1, rfl⟩ := pair_inj h
    exact r17 a0_0 a0_1 a0_2 a0_3 a0_4 h1
  · cases h

/-! ### 68 loop.example/g01984/spec.l1In -/
noncomputable def c68 : Cfg := cfg Try.prog [(68, 999, [6])] [] [] [] []
def q68 (a0 : Int) (a1 : Int) (a2 : Int) : Bool := true
def v68_0 (a0 : Int) (a1 : Int) (a2 : Int) : Bool := (bif decide (a0 ≥ a1) then decide (a0 ≤ a2) else false)
theorem e68 (a0 : Int) (a1 : Int) (a2 : Int) : funA c68 0 68 [AV.int .i64 a0, AV.int .i64 a1, AV.int .i64 a2] = (bif decide (a0 ≥ a1) then some (AV.bool (decide (a0 ≤ a2)))
  else some (AV.bool false)) := by kernel_rfl
theorem r68 (a0 : Int) (a1 : Int) (a2 : Int) : funA c68 0 68 [AV.int .i64 a0, AV.int .i64 a1, AV.int .i64 a2] = some (AV.bool (v68_0 a0 a1 a2)) := (e68 a0 a1 a2).trans (of_tt (brT (fun b => some (AV.bool (bif b then decide (a0 ≤ a2) else false))) (fun _ => rfl) (fun _ => rfl)))
def m68 : TModel
  | [.int .i64 a0, .int .i64 a1, .int .i64 a2] => some (true, AV.bool (v68_0 a0 a1 a2))
  | _ => none
theorem k68 : Known Try.prog 68 := ⟨Try.f68, Try.func68, by kernel_rfl, by kernel_rfl⟩
theorem meets68 : Meets Try.prog 68 m68 := by
  refine meet (f := Try.f68) (l := []) (hs := [(68, 999, [6])]) (ts := []) (ws := []) (is := []) (ls := []) (lvl := 0) mixed k68 Try.func68 (by kernel_rfl) noLoop allT_nil allM_nil noI fun w xs us r hl hv h => ?_
  unfold m68 at h
  split at h
  · rename_i a0 a1 a2
    obtain ⟨h1, rfl⟩ := pair_inj h
    exact r68 a0 a1 a2
  · cases h

/-! ### 103 loop.example/g01984/spec.AreValues -/
def F103_0 (t0 : List AV) (t3 : Int) : Out (Int) (Unit ⊕ Unit) := (bif decide (t3 < (t0.length : Int)) then (bif (decide (0 ≤ t3) && decide (t3 < (t0.length : Int))) then (bif !(v68_0 (fI (t0.getD t3.toNat AV.undef) 0) (-999) 999) then .stop (.inr ())
    else .next (IntKind.i64.wrap (t3 + 1)))
   else .fail)
  else .stop (.inl ()))
def R103_0 (t0 : List AV) : (Int) → Out (Int) (Unit ⊕ Unit) := fun s : Int => F103_0 t0 s
def l103_0 : LModel := fun _ _ st k => match st with
  | ⟨[(0, .sl g0 t0), (3, .int .i64 t3)], []⟩ => bif ctsEq g0 ([.int .i64]) then ro (runW (R103_0 t0) (((t0.length : Int) - t3).toNat + 1) t3) none (sumE (fun _ : Unit => k (.exit 0) ⟨[(0, AV.sl [.int .i64] t0)], []⟩) (fun _ : Unit => k .ret ⟨[(2, AV.bool false)], []⟩)) else none
  | _ => none
noncomputable def c103 : Cfg := cfg Try.prog [(103, 0, [0, 3]), (103, 999, [2]), (103, 1000, [0]), (103, 1001, [0, 3])] [(68, m68)] [] [] [(103, 0, l103_0)]
theorem s103_0 (ce : CallE) (t0 : List AV) (t3 : Int) (next : St → Option AV) (k : Kont) : stepA (codeA c103 ce [] 103 0 (sub [1, 0, 1, 0, 0] (body Try.f103))) (normA [] [0, 3]) next ⟨[(0, AV.sl [.int .i64] t0), (3, AV.int .i64 t3)], []⟩ k = (bif decide (t3 < (t0.length : Int)) then (bif (decide (0 ≤ t3) && decide (t3 < (t0.length : Int))) then (bif !(v68_0 (fI (t0.getD t3.toNat AV.undef) 0) (-999) 999) then k .ret ⟨[(2, AV.bool false)], []⟩
    else next ⟨[(0, AV.sl [.int .i64] t0), (3, AV.int .i64 (IntKind.i64.wrap (t3 + 1)))], []⟩)
   else none)
  else k (.exit 0) ⟨[(0, AV.sl [.int .i64] t0)], []⟩) := by kernel_rfl
theorem st103_0 (t0 : List AV) (ce : CallE) (k : Kont) (s : Int) (next : St → Option AV) : stepA (codeA c103 ce [] 103 0 (sub [1, 0, 1, 0, 0] (body Try.f103))) (normA [] [0, 3]) next ((fun s : Int => ⟨[(0, AV.sl [.int .i64] t0), (3, AV.int .i64 s)], []⟩) s) k = (R103_0 t0 s).el none (fun s => next ((fun s : Int => ⟨[(0, AV.sl [.int .i64] t0), (3, AV.int .i64 s)], []⟩) s)) (sumE (fun _ : Unit => k (.exit 0) ⟨[(0, AV.sl [.int .i64] t0)], []⟩) (fun _ : Unit => k .ret ⟨[(2, AV.bool false)], []⟩)) := (s103_0 ce t0 s next k).trans (by unfold R103_0; unfold F103_0; simp only [el_cond, el_ro, el_sum, el_fail, el_next, el_stop] <;> rfl)
theorem ok103_0 {ce : CallE} : LoopOK c103 ce [] 103 0 (sub [1, 0, 1, 0, 0] (body Try.f103)) := by
  intro m hm st k r h
  obtain rfl : l103_0 = m := Option.some.inj hm
  unfold l103_0 at h
  split at h
  · rename_i g0 t0 t3
    obtain ⟨hg, h⟩ := bif_some h
    have q0 := hg
    obtain rfl := ctsEq_eq _ _ q0
    refine ⟨(((t0.length : Int) - t3).toNat + 1), ?_⟩
    rw [← h]
    exact loop_run (fun s : Int => ⟨[(0, AV.sl [.int .i64] t0), (3, AV.int .i64 s)], []⟩) (sumE (fun _ : Unit => k (.exit 0) ⟨[(0, AV.sl [.int .i64] t0)], []⟩) (fun _ : Unit => k .ret ⟨[(2, AV.bool false)], []⟩)) (st103_0 t0 ce k) _ t3
  · cases h
def q103 (a0 : List AV) : Bool := (ro (runW (R103_0 a0) (((a0.length : Int) - 0).toNat + 1) 0) false (sumE (fun _ => true) (fun _ => true)))
def v103_0 (a0 : List AV) : Bool := (ro (runW (R103_0 a0) (((a0.length : Int) - 0).toNat + 1) 0) false (sumE (fun _ => decide ((a0.length : Int) ≤ 64)) (fun _ => false)))
theorem e103 (a0 : List AV) : funA c103 0 103 [AV.sl [.int .i64] a0] = (ro (runW (R103_0 a0) (((a0.length : Int) - 0).toNat + 1) 0) none (sumE (fun _ => some (AV.bool (decide ((a0.length : Int) ≤ 64)))) (fun _ => some (AV.bool false)))) := by kernel_rfl
theorem r103 (a0 : List AV) (h : q103 a0 = true) : funA c103 0 103 [AV.sl [.int .i64] a0] = some (AV.bool (v103_0 a0)) := (e103 a0).trans ((brO (fun o : Option (Unit ⊕ Unit) => some (AV.bool (ro o false (sumE (fun _ => decide ((a0.length : Int) ≤ 64)) (fun _ => false))))) (brS (fun o : Unit ⊕ Unit => some (AV.bool ((sumE (fun _ => decide ((a0.length : Int) ≤ 64)) (fun _ => false)) o))) (fun _ => (fun _ => rfl)) (fun _ => (fun _ => rfl)))) h)
def m103 : TModel
  | [.sl g0 a0] => bif ctsEq g0 ([.int .i64]) then some (q103 a0, AV.bool (v103_0 a0)) else none
  | _ => none
theorem k103 : Known Try.prog 103 := ⟨Try.f103, Try.func103, by kernel_rfl, by kernel_rfl⟩
theorem meets103 : Meets Try.prog 103 m103 := by
  refine meet (f := Try.f103) (l := [(0, sub [1, 0, 1, 0, 0] (body Try.f103))]) (hs := [(103, 0, [0, 3]), (103, 999, [2]), (103, 1000, [0]), (103, 1001, [0, 3])]) (ts := [(68, m68)]) (ws := []) (is := []) (ls := [(103, 0, l103_0)]) (lvl := 0) mixed k103 Try.func103 (by kernel_rfl) (loops_cons ok103_0 noLoop) (allT_cons meets68 allT_nil) allM_nil noI fun w xs us r hl hv h => ?_
  unfold m103 at h
  split at h
  · rename_i g0 a0
    obtain ⟨hg, h⟩ := bif_pair h
    have q0 := hg
    obtain rfl := ctsEq_eq _ _ q0
    obtain ⟨h1, rfl⟩ := pair_inj h
    exact r103 a0 h1
  · cases h

/-! ### 116 loop.example/g01984/spec.l4Has -/
def F116_0 (t0 : List AV) (t1 : Int) (t5 : Int) : Out (Int) (Unit ⊕ Unit) := (bif decide (t5 < (t0.length : Int)) then (bif (decide (0 ≤ t5) && decide (t5 < (t0.length : Int))) then (bif decide (fI (t0.getD t5.toNat AV.undef) 0 = t1) then .stop (.inr ())
    else .next (IntKind.i64.wrap (t5 + 1)))
   else .fail)
  else .stop (.inl ()))
def R116_0 (t0 : List AV) (t1 : Int) : (Int) → Out (Int) (Unit ⊕ Unit) := fun s : Int => F116_0 t0 t1 s
def l116_0 : LModel := fun _ _ st k => match st with
  | ⟨[(0, .sl g0 t0), (1, .int .i64 t1), (5, .int .i64 t5)], []⟩ => bif ctsEq g0 ([.int .i64]) then ro (runW (R116_0 t0 t1) (((t0.length : Int) - t5).toNat + 1) t5) none (sumE (fun _ : Unit => k (.exit 0) ⟨[], []⟩) (fun _ : Unit => k .ret ⟨[(4, AV.bool true)], []⟩)) else none
  | _ => none
noncomputable def c116 : Cfg := cfg Try.prog [(116, 0, [0, 1, 5]), (116, 999, [4]), (116, 1000, []), (116, 1001, [0, 1, 5])] [] [] [] [(116, 0, l116_0)]
theorem s116_0 (ce : CallE) (t0 : List AV) (t1 : Int) (t5 : Int) (next : St → Option AV) (k : Kont) : stepA (codeA c116 ce [] 116 0 (sub [1, 0, 1, 0, 0] (body Try.f116))) (normA [] [0, 1, 5]) next ⟨[(0, AV.sl [.int .i64] t0), (1, AV.int .i64 t1), (5, AV.int .i64 t5)], []⟩ k = (bif decide (t5 < (t0.length : Int)) then (bif (decide (0 ≤ t5) && decide (t5 < (t0.length : Int))) then (bif decide (fI (t0.getD t5.toNat AV.undef) 0 = t1) then k .ret ⟨[(4, AV.bool true)], []⟩
    else next ⟨[(0, AV.sl [.int .i64] t0), (1, AV.int .i64 t1), (5, AV.int .i64 (IntKind.i64.wrap (t5 + 1)))], []⟩)
   else none)
  else k (.exit 0) ⟨[], []⟩) := by kernel_rfl
theorem st116_0 (t0 : List AV) (t1 : Int) (ce : CallE) (k : Kont) (s : Int) (next : St → Option AV) : stepA (codeA c116 ce [] 116 0 (sub [1, 0, 1, 0, 0] (body Try.f116))) (normA [] [0, 1, 5]) next ((fun s : Int => ⟨[(0, AV.sl [.int .i64] t0), (1, AV.int .i64 t1), (5, AV.int .i64 s)], []⟩) s) k = (R116_0 t0 t1 s).el none (fun s => next ((fun s : Int => ⟨[(0, AV.sl [.int .i64] t0), (1, AV.int .i64 t1), (5, AV.int .i64 s)], []⟩) s)) (sumE (fun _ : Unit => k (.exit 0) ⟨[], []⟩) (fun _ : Unit => k .ret ⟨[(4, AV.bool true)], []⟩)) := (s116_0 ce t0 t1 s next k).trans (by unfold R116_0; unfold F116_0; simp only [el_cond, el_ro, el_sum, el_fail, el_next, el_stop] <;> rfl)
theorem ok116_0 {ce : CallE} : LoopOK c116 ce [] 116 0 (sub [1, 0, 1, 0, 0] (body Try.f116)) := by
  intro m hm st k r h
  obtain rfl : l116_0 = m := Option.some.inj hm
  unfold l116_0 at h
  split at h
  · rename_i g0 t0 t1 t5
    obtain ⟨hg, h⟩ := bif_some h
    have q0 := hg
    obtain rfl := ctsEq_eq _ _ q0
    refine ⟨(((t0.length : Int) - t5).toNat + 1), ?_⟩
    rw [← h]
    exact loop_run (fun s : Int => ⟨[(0, AV.sl [.int .i64] t0), (1, AV.int .i64 t1), (5, AV.int .i64 s)], []⟩) (sumE (fun _ : Unit => k (.exit 0) ⟨[], []⟩) (fun _ : Unit => k .ret ⟨[(4, AV.bool true)], []⟩)) (st116_0 t0 t1 ce k) _ t5
  · cases h
def q116 (a0 : List AV) (a1 : Int) : Bool := (ro (runW (R116_0 a0 a1) (((a0.length : Int) - 0).toNat + 1) 0) false (sumE (fun _ => true) (fun _ => true)))
def v116_0 (a0 : List AV) (a1 : Int) : Bool := (ro (runW (R116_0 a0 a1) (((a0.length : Int) - 0).toNat + 1) 0) false (sumE (fun _ => false) (fun _ => true)))
theorem e116 (a0 : List AV) (a1 : Int) : funA c116 0 116 [AV.sl [.int .i64] a0, AV.int .i64 a1] = (ro (runW (R116_0 a0 a1) (((a0.length : Int) - 0).toNat + 1) 0) none (sumE (fun _ => some (AV.bool false)) (fun _ => some (AV.bool true)))) := by kernel_rfl
theorem r116 (a0 : List AV) (a1 : Int) (h : q116 a0 a1 = true) : funA c116 0 116 [AV.sl [.int .i64] a0, AV.int .i64 a1] = some (AV.bool (v116_0 a0 a1)) := (e116 a0 a1).trans ((brO (fun o : Option (Unit ⊕ Unit) => some (AV.bool (ro o false (sumE (fun _ => false) (fun _ => true))))) (brS (fun o : Unit ⊕ Unit => some (AV.bool ((sumE (fun _ => false) (fun _ => true)) o))) (fun _ => (fun _ => rfl)) (fun _ => (fun _ => rfl)))) h)
def m116 : TModel
  | [.sl g0 a0, .int .i64 a1] => bif ctsEq g0 ([.int .i64]) then some (q116 a0 a1, AV.bool (v116_0 a0 a1)) else none
  | _ => none
theorem k116 : Known Try.prog 116 := ⟨Try.f116, Try.func116, by kernel_rfl, by kernel_rfl⟩
theorem meets116 : Meets Try.prog 116 m116 := by
  refine meet (f := Try.f116) (l := [(0, sub [1, 0, 1, 0, 0] (body Try.f116))]) (hs := [(116, 0, [0, 1, 5]), (116, 999, [4]), (116, 1000, []), (116, 1001, [0, 1, 5])]) (ts := []) (ws := []) (is := []) (ls := [(116, 0, l116_0)]) (lvl := 0) mixed k116 Try.func116 (by kernel_rfl) (loops_cons ok116_0 noLoop) allT_nil allM_nil noI fun w xs us r hl hv h => ?_
  unfold m116 at h
  split at h
  · rename_i g0 a0 a1
    obtain ⟨hg, h⟩ := bif_pair h
    have q0 := hg
    obtain rfl := ctsEq_eq _ _ q0
    obtain ⟨h1, rfl⟩ := pair_inj h
    exact r116 a0 a1 h1
  · cases h

/-! ### 122 loop.example/g01984/spec.l4Pivots -/
def F122_2 (t0 : List AV) (t1 : List AV) (t5 : Int) (h0_0 : Int) (h0_1 : Int) (t7 : Int) : Out (Int) (Unit ⊕ Unit) := (bif decide (t7 < (t0.length : Int)) then (bif (decide (0 ≤ t7) && decide (t7 < (t0.length : Int))) then (bif !(decide (fI (t0.getD t7.toNat AV.undef) 0 < h0_0) == decide (t7 < h0_1)) then .stop (.inr ())
    else .next (IntKind.i64.wrap (t7 + 1)))
   else .fail)
  else .stop (.inl ()))
def R122_2 (t0 : List AV) (t1 : List AV) (t5 : Int) (h0_0 : Int) (h0_1 : Int) : (Int) → Out (Int) (Unit ⊕ Unit) := fun s : Int => F122_2 t0 t1 t5 h0_0 h0_1 s
def l122_2 : LModel := fun _ _ st k => match st with
  | ⟨[(0, .sl g0 t0), (1, .sl g1 t1), (5, .int .i64 t5), (6, .ptr g2 g3 g4), (7, .int .i64 t7)], [(g5, ⟨true, [], [.agg [.int .i64 h0_0, .int .i64 h0_1]]⟩)]⟩ => bif ctsEq g0 ([.int .i64]) && ctsEq g1 ([.int .i64, .int .i64]) && nmEq g2 ([0, 6]) && Nat.beq g3 0 && Nat.beq g4 0 && nmEq g5 ([0, 6]) then ro (runW (R122_2 t0 t1 t5 h0_0 h0_1) (((t0.length : Int) - t7).toNat + 1) t7) none (sumE (fun _ : Unit => k (.exit 2) ⟨[(0, AV.sl [.int .i64] t0), (1, AV.sl [.int .i64, .int .i64] t1), (5, AV.int .i64 t5)], [([0, 6], ⟨true, [], [AV.agg [AV.int .i64 h0_0, AV.int .i64 h0_1]]⟩)]⟩) (fun _ : Unit => k .ret ⟨[(4, AV.bool false)], [([0, 6], ⟨true, [], [AV.agg [AV.int .i64 h0_0, AV.int .i64 h0_1]]⟩)]⟩)) else none
  | _ => none
def F122_0 (t0 : List AV) (t1 : List AV) (t5 : Int) : Out (Int) (Unit ⊕ (Int × Int) ⊕ (Int × Int)) := (bif decide (t5 < (t1.length : Int)) then (bif (decide (0 ≤ t5) && decide (t5 < (t1.length : Int))) then (bif !(v68_0 (fI (t1.getD t5.toNat AV.undef) 0) (-1000) 1000) then .stop (.inr (.inl (fI (t1.getD t5.toNat AV.undef) 0, fI (t1.getD t5.toNat AV.undef) 1)))
    else (bif !(v68_0 (fI (t1.getD t5.toNat AV.undef) 1) 0 (t0.length : Int)) then .stop (.inr (.inl (fI (t1.getD t5.toNat AV.undef) 0, fI (t1.getD t5.toNat AV.undef) 1)))
     else (bif decide (t5 > 0) then (bif (decide (0 ≤ IntKind.i64.wrap (t5 - 1)) && decide (IntKind.i64.wrap (t5 - 1) < (t1.length : Int))) then (bif decide (fI (t1.getD t5.toNat AV.undef) 0 ≤ fI (t1.getD (IntKind.i64.wrap (t5 - 1)).toNat AV.undef) 0) then .stop (.inr (.inl (fI (t1.getD t5.toNat AV.undef) 0, fI (t1.getD t5.toNat AV.undef) 1)))
        else (bif (decide (0 ≤ IntKind.i64.wrap (t5 - 1)) && decide (IntKind.i64.wrap (t5 - 1) < (t1.length : Int))) then (bif decide (fI (t1.getD t5.toNat AV.undef) 1 < fI (t1.getD (IntKind.i64.wrap (t5 - 1)).toNat AV.undef) 1) then .stop (.inr (.inl (fI (t1.getD t5.toNat AV.undef) 0, fI (t1.getD t5.toNat AV.undef) 1)))
          else (ro (runW (R122_2 t0 t1 t5 (fI (t1.getD t5.toNat AV.undef) 0) (fI (t1.getD t5.toNat AV.undef) 1)) (((t0.length : Int) - 0).toNat + 1) 0) .fail (sumE (fun _ => .next (IntKind.i64.wrap (t5 + 1))) (fun _ => .stop (.inr (.inr (fI (t1.getD t5.toNat AV.undef) 0, fI (t1.getD t5.toNat AV.undef) 1)))))))
         else .fail))
       else .fail)
      else (ro (runW (R122_2 t0 t1 t5 (fI (t1.getD t5.toNat AV.undef) 0) (fI (t1.getD t5.toNat AV.undef) 1)) (((t0.length : Int) - 0).toNat + 1) 0) .fail (sumE (fun _ => .next (IntKind.i64.wrap (t5 + 1))) (fun _ => .stop (.inr (.inr (fI (t1.getD t5.toNat AV.undef) 0, fI (t1.getD t5.toNat AV.undef) 1)))))))))
   else .fail)
  else .stop (.inl ()))
def R122_0 (t0 : List AV) (t1 : List AV) : (Int) → Out (Int) (Unit ⊕ (Int × Int) ⊕ (Int × Int)) := fun s : Int => F122_0 t0 t1 s
def l122_0 : LModel := fun _ _ st k => match st with
  | ⟨[(0, .sl g0 t0), (1, .sl g1 t1), (5, .int .i64 t5)], []⟩ => bif ctsEq g0 ([.int .i64]) && ctsEq g1 ([.int .i64, .int .i64]) then ro (runW (R122_0 t0 t1) (((t1.length : Int) - t5).toNat + 1) t5) none (sumE (fun _ : Unit => k (.exit 0) ⟨[], []⟩) (sumE (fun p : Int × Int => k .ret ⟨[(4, AV.bool false)], [([1, 6], ⟨true, [], [AV.agg [AV.int .i64 p.1, AV.int .i64 p.2]]⟩)]⟩) (fun p : Int × Int => k .ret ⟨[(4, AV.bool false)], [([0, 6], ⟨true, [], [AV.agg [AV.int .i64 p.1, AV.int .i64 p.2]]⟩)]⟩))) else none
  | _ => none
noncomputable def c122 : Cfg := cfg Try.prog [(122, 0, [0, 1, 5]), (122, 2, [0, 1, 5, 6, 7]), (122, 999, [4]), (122, 1000, []), (122, 1001, [0, 1, 5]), (122, 1002, [0, 1, 5]), (122, 1003, [0, 1, 5, 6, 7])] [(68, m68)] [] [] [(122, 0, l122_0), (122, 2, l122_2)]
theorem s122_2 (ce : CallE) (t0 : List AV) (t1 : List AV) (t5 : Int) (t7 : Int) (h0_0 : Int) (h0_1 : Int) (next : St → Option AV) (k : Kont) : stepA (codeA c122 ce [] 122 2 (sub [1, 0, 1, 0, 0, 1, 0, 0, 1, 1, 1, 0, 0] (body Try.f122))) (normA [] [0, 1, 5, 6, 7]) next ⟨[(0, AV.sl [.int .i64] t0), (1, AV.sl [.int .i64, .int .i64] t1), (5, AV.int .i64 t5), (6, AV.ptr [0, 6] 0 0), (7, AV.int .i64 t7)], [([0, 6], ⟨true, [], [AV.agg [AV.int .i64 h0_0, AV.int .i64 h0_1]]⟩)]⟩ k = (bif decide (t7 < (t0.length : Int)) then (bif (decide (0 ≤ t7) && decide (t7 < (t0.length : Int))) then (bif !(decide (fI (t0.getD t7.toNat AV.undef) 0 < h0_0) == decide (t7 < h0_1)) then k .ret ⟨[(4, AV.bool false)], [([0, 6], ⟨true, [], [AV.agg [AV.int .i64 h0_0, AV.int .i64 h0_1]]⟩)]⟩
    else next ⟨[(0, AV.sl [.int .i64] t0), (1, AV.sl [.int .i64, .int .i64] t1), (5, AV.int .i64 t5), (6, AV.ptr [0, 6] 0 0), (7, AV.int .i64 (IntKind.i64.wrap (t7 + 1)))], [([0, 6], ⟨true, [], [AV.agg [AV.int .i64 h0_0, AV.int .i64 h0_1]]⟩)]⟩)
   else none)
  else k (.exit 2) ⟨[(0, AV.sl [.int .i64] t0), (1, AV.sl [.int .i64, .int .i64] t1), (5, AV.int .i64 t5)], [([0, 6], ⟨true, [], [AV.agg [AV.int .i64 h0_0, AV.int .i64 h0_1]]⟩)]⟩) := by kernel_rfl
theorem st122_2 (t0 : List AV) (t1 : List AV) (t5 : Int) (h0_0 : Int) (h0_1 : Int) (ce : CallE) (k : Kont) (s : Int) (next : St → Option AV) : stepA (codeA c122 ce [] 122 2 (sub [1, 0, 1, 0, 0, 1, 0, 0, 1, 1, 1, 0, 0] (body Try.f122))) (normA [] [0, 1, 5, 6, 7]) next ((fun s : Int => ⟨[(0, AV.sl [.int .i64] t0), (1, AV.sl [.int .i64, .int .i64] t1), (5, AV.int .i64 t5), (6, AV.ptr [0, 6] 0 0), (7, AV.int .i64 s)], [([0, 6], ⟨true, [], [AV.agg [AV.int .i64 h0_0, AV.int .i64 h0_1]]⟩)]⟩) s) k = (R122_2 t0 t1 t5 h0_0 h0_1 s).el none (fun s => next ((fun s : Int => ⟨[(0, AV.sl [.int .i64] t0), (1, AV.sl [.int .i64, .int .i64] t1), (5, AV.int .i64 t5), (6, AV.ptr [0, 6] 0 0), (7, AV.int .i64 s)], [([0, 6], ⟨true, [], [AV.agg [AV.int .i64 h0_0, AV.int .i64 h0_1]]⟩)]⟩) s)) (sumE (fun _ : Unit => k (.exit 2) ⟨[(0, AV.sl [.int .i64] t0), (1, AV.sl [.int .i64, .int .i64] t1), (5, AV.int .i64 t5)], [([0, 6], ⟨true, [], [AV.agg [AV.int .i64 h0_0, AV.int .i64 h0_1]]⟩)]⟩) (fun _ : Unit => k .ret ⟨[(4, AV.bool false)], [([0, 6], ⟨true, [], [AV.agg [AV.int .i64 h0_0, AV.int .i64 h0_1]]⟩)]⟩)) := (s122_2 ce t0 t1 t5 s h0_0 h0_1 next k).trans (by unfold R122_2; unfold F122_2; simp only [el_cond, el_ro, el_sum, el_fail, el_next, el_stop] <;> rfl)
theorem ok122_2 {ce : CallE} : LoopOK c122 ce [] 122 2 (sub [1, 0, 1, 0, 0, 1, 0, 0, 1, 1, 1, 0, 0] (body Try.f122)) := by
  intro m hm st k r h
  obtain rfl : l122_2 = m := Option.some.inj hm
  unfold l122_2 at h
  split at h
  · rename_i g0 t0 g1 t1 t5 g2 g3 g4 t7 g5 h0_0 h0_1
    obtain ⟨hg, h⟩ := bif_some h
    simp only [Bool.and_eq_true] at hg
    obtain ⟨⟨⟨⟨⟨q0, q1⟩, q2⟩, q3⟩, q4⟩, q5⟩ := hg
    obtain rfl := ctsEq_eq _ _ q0
    obtain rfl := ctsEq_eq _ _ q1
    obtain rfl := (nmEq_iff _ _).1 q2
    obtain rfl := Nat.eq_of_beq_eq_true q3
    obtain rfl := Nat.eq_of_beq_eq_true q4
    obtain rfl := (nmEq_iff _ _).1 q5
    refine ⟨(((t0.length : Int) - t7).toNat + 1), ?_⟩
    rw [← h]
    exact loop_run (fun s : Int => ⟨[(0, AV.sl [.int .i64] t0), (1, AV.sl [.int .i64, .int .i64] t1), (5, AV.int .i64 t5), (6, AV.ptr [0, 6] 0 0), (7, AV.int .i64 s)], [([0, 6], ⟨true, [], [AV.agg [AV.int .i64 h0_0, AV.int .i64 h0_1]]⟩)]⟩) (sumE (fun _ : Unit => k (.exit 2) ⟨[(0, AV.sl [.int .i64] t0), (1, AV.sl [.int .i64, .int .i64] t1), (5, AV.int .i64 t5)], [([0, 6], ⟨true, [], [AV.agg [AV.int .i64 h0_0, AV.int .i64 h0_1]]⟩)]⟩) (fun _ : Unit => k .ret ⟨[(4, AV.bool false)], [([0, 6], ⟨true, [], [AV.agg [AV.int .i64 h0_0, AV.int .i64 h0_1]]⟩)]⟩)) (st122_2 t0 t1 t5 h0_0 h0_1 ce k) _ t7
  · cases h
theorem s122_0 (ce : CallE) (t0 : List AV) (t1 : List AV) (t5 : Int) (next : St → Option AV) (k : Kont) : stepA (codeA c122 ce [] 122 0 (sub [1, 0, 1, 0, 0] (body Try.f122))) (normA [] [0, 1, 5]) next ⟨[(0, AV.sl [.int .i64] t0), (1, AV.sl [.int .i64, .int .i64] t1), (5, AV.int .i64 t5)], []⟩ k = (bif decide (t5 < (t1.length : Int)) then (bif (decide (0 ≤ t5) && decide (t5 < (t1.length : Int))) then (bif !(v68_0 (fI (t1.getD t5.toNat AV.undef) 0) (-1000) 1000) then k .ret ⟨[(4, AV.bool false)], [([1, 6], ⟨true, [], [AV.agg [AV.int .i64 (fI (t1.getD t5.toNat AV.undef) 0), AV.int .i64 (fI (t1.getD t5.toNat AV.undef) 1)]]⟩)]⟩
    else (bif !(v68_0 (fI (t1.getD t5.toNat AV.undef) 1) 0 (t0.length : Int)) then k .ret ⟨[(4, AV.bool false)], [([1, 6], ⟨true, [], [AV.agg [AV.int .i64 (fI (t1.getD t5.toNat AV.undef) 0), AV.int .i64 (fI (t1.getD t5.toNat AV.undef) 1)]]⟩)]⟩
     else (bif decide (t5 > 0) then (bif (decide (0 ≤ IntKind.i64.wrap (t5 - 1)) && decide (IntKind.i64.wrap (t5 - 1) < (t1.length : Int))) then (bif decide (fI (t1.getD t5.toNat AV.undef) 0 ≤ fI (t1.getD (IntKind.i64.wrap (t5 - 1)).toNat AV.undef) 0) then k .ret ⟨[(4, AV.bool false)], [([1, 6], ⟨true, [], [AV.agg [AV.int .i64 (fI (t1.getD t5.toNat AV.undef) 0), AV.int .i64 (fI (t1.getD t5.toNat AV.undef) 1)]]⟩)]⟩
        else (bif (decide (0 ≤ IntKind.i64.wrap (t5 - 1)) && decide (IntKind.i64.wrap (t5 - 1) < (t1.length : Int))) then (bif decide (fI (t1.getD t5.toNat AV.undef) 1 < fI (t1.getD (IntKind.i64.wrap (t5 - 1)).toNat AV.undef) 1) then k .ret ⟨[(4, AV.bool false)], [([1, 6], ⟨true, [], [AV.agg [AV.int .i64 (fI (t1.getD t5.toNat AV.undef) 0), AV.int .i64 (fI (t1.getD t5.toNat AV.undef) 1)]]⟩)]⟩
          else (ro (runW (R122_2 t0 t1 t5 (fI (t1.getD t5.toNat AV.undef) 0) (fI (t1.getD t5.toNat AV.undef) 1)) (((t0.length : Int) - 0).toNat + 1) 0) none (sumE (fun _ => next ⟨[(0, AV.sl [.int .i64] t0), (1, AV.sl [.int .i64, .int .i64] t1), (5, AV.int .i64 (IntKind.i64.wrap (t5 + 1)))], []⟩) (fun _ => k .ret ⟨[(4, AV.bool false)], [([0, 6], ⟨true, [], [AV.agg [AV.int .i64 (fI (t1.getD t5.toNat AV.undef) 0), AV.int .i64 (fI (t1.getD t5.toNat AV.undef) 1)]]⟩)]⟩))))
         else none))
       else none)
      else (ro (runW (R122_2 t0 t1 t5 (fI (t1.getD t5.toNat AV.undef) 0) (fI (t1.getD t5.toNat AV.undef) 1)) (((t0.length : Int) - 0).toNat + 1) 0) none (sumE (fun _ => next ⟨[(0, AV.sl [.int .i64] t0), (1, AV.sl [.int .i64, .int .i64] t1), (5, AV.int .i64 (IntKind.i64.wrap (t5 + 1)))], []⟩) (fun _ => k .ret ⟨[(4, AV.bool false)], [([0, 6], ⟨true, [], [AV.agg [AV.int .i64 (fI (t1.getD t5.toNat AV.undef) 0), AV.int .i64 (fI (t1.getD t5.toNat AV.undef) 1)]]⟩)]⟩))))))
   else none)
  else k (.exit 0) ⟨[], []⟩) := by kernel_rfl
theorem st122_0 (t0 : List AV) (t1 : List AV) (ce : CallE) (k : Kont) (s : Int) (next : St → Option AV) : stepA (codeA c122 ce [] 122 0 (sub [1, 0, 1, 0, 0] (body Try.f122))) (normA [] [0, 1, 5]) next ((fun s : Int => ⟨[(0, AV.sl [.int .i64] t0), (1, AV.sl [.int .i64, .int .i64] t1), (5, AV.int .i64 s)], []⟩) s) k = (R122_0 t0 t1 s).el none (fun s => next ((fun s : Int => ⟨[(0, AV.sl [.int .i64] t0), (1, AV.sl [.int .i64, .int .i64] t1), (5, AV.int .i64 s)], []⟩) s)) (sumE (fun _ : Unit => k (.exit 0) ⟨[], []⟩) (sumE (fun p : Int × Int => k .ret ⟨[(4, AV.bool false)], [([1, 6], ⟨true, [], [AV.agg [AV.int .i64 p.1, AV.int .i64 p.2]]⟩)]⟩) (fun p : Int × Int => k .ret ⟨[(4, AV.bool false)], [([0, 6], ⟨true, [], [AV.agg [AV.int .i64 p.1, AV.int .i64 p.2]]⟩)]⟩))) := (s122_0 ce t0 t1 s next k).trans (by unfold R122_0; unfold F122_0; simp only [el_cond, el_ro, el_sum, el_fail, el_next, el_stop] <;> rfl)
theorem ok122_0 {ce : CallE} : LoopOK c122 ce [] 122 0 (sub [1, 0, 1, 0, 0] (body Try.f122)) := by
  intro m hm st k r h
  obtain rfl : l122_0 = m := Option.some.inj hm
  unfold l122_0 at h
  split at h
  · rename_i g0 t0 g1 t1 t5
    obtain ⟨hg, h⟩ := bif_some h
    simp only [Bool.and_eq_true] at hg
    obtain ⟨q0, q1⟩ := hg
    obtain rfl := ctsEq_eq _ _ q0
    obtain rfl := ctsEq_eq _ _ q1
    refine ⟨(((t1.length : Int) - t5).toNat + 1), ?_⟩
    rw [← h]
    exact loop_run (fun s : Int => ⟨[(0, AV.sl [.int .i64] t0), (1, AV.sl [.int .i64, .int .i64] t1), (5, AV.int .i64 s)], []⟩) (sumE (fun _ : Unit => k (.exit 0) ⟨[], []⟩) (sumE (fun p : Int × Int => k .ret ⟨[(4, AV.bool false)], [([1, 6], ⟨true, [], [AV.agg [AV.int .i64 p.1, AV.int .i64 p.2]]⟩)]⟩) (fun p : Int × Int => k .ret ⟨[(4, AV.bool false)], [([0, 6], ⟨true, [], [AV.agg [AV.int .i64 p.1, AV.int .i64 p.2]]⟩)]⟩))) (st122_0 t0 t1 ce k) _ t5
  · cases h
def q122 (a0 : List AV) (a1 : List AV) : Bool := (ro (runW (R122_0 a0 a1) (((a1.length : Int) - 0).toNat + 1) 0) false (sumE (fun _ => true) (sumE (fun p14 => true) (fun p15 => true))))
def v122_0 (a0 : List AV) (a1 : List AV) : Bool := (ro (runW (R122_0 a0 a1) (((a1.length : Int) - 0).toNat + 1) 0) false (sumE (fun _ => true) (sumE (fun p14 => false) (fun p15 => false))))
theorem e122 (a0 : List AV) (a1 : List AV) : funA c122 0 122 [AV.sl [.int .i64] a0, AV.sl [.int .i64, .int .i64] a1] = (ro (runW (R122_0 a0 a1) (((a1.length : Int) - 0).toNat + 1) 0) none (sumE (fun _ => some (AV.bool true)) (sumE (fun p14 => some (AV.bool false)) (fun p15 => some (AV.bool false))))) := by kernel_rfl
theorem r122 (a0 : List AV) (a1 : List AV) (h : q122 a0 a1 = true) : funA c122 0 122 [AV.sl [.int .i64] a0, AV.sl [.int .i64, .int .i64] a1] = some (AV.bool (v122_0 a0 a1)) := (e122 a0 a1).trans ((brO (fun o : Option (Unit ⊕ (Int × Int) ⊕ (Int × Int)) => some (AV.bool (ro o false (sumE (fun _ => true) (sumE (fun p14 => false) (fun p15 => false)))))) (brS (fun o : Unit ⊕ (Int × Int) ⊕ (Int × Int) => some (AV.bool ((sumE (fun _ => true) (sumE (fun p14 => false) (fun p15 => false))) o))) (fun _ => (fun _ => rfl)) (brS (fun o : (Int × Int) ⊕ (Int × Int) => some (AV.bool ((sumE (fun p14 => false) (fun p15 => false)) o))) (fun p14 => (fun _ => rfl)) (fun p15 => (fun _ => rfl))))) h)
def m122 : TModel
  | [.sl g0 a0, .sl g1 a1] => bif ctsEq g0 ([.int .i64]) && ctsEq g1 ([.int .i64, .int .i64]) then some (q122 a0 a1, AV.bool (v122_0 a0 a1)) else none
  | _ => none
theorem k122 : Known Try.prog 122 := ⟨Try.f122, Try.func122, by kernel_rfl, by kernel_rfl⟩
theorem meets122 : Meets Try.prog 122 m122 := by
  refine meet (f := Try.f122) (l := [(0, sub [1, 0, 1, 0, 0] (body Try.f122)), (2, sub [1, 0, 1, 0, 0, 1, 0, 0, 1, 1, 1, 0, 0] (body Try.f122))]) (hs := [(122, 0, [0, 1, 5]), (122, 2, [0, 1, 5, 6, 7]), (122, 999, [4]), (122, 1000, []), (122, 1001, [0, 1, 5]), (122, 1002, [0, 1, 5]), (122, 1003, [0, 1, 5, 6, 7])]) (ts := [(68, m68)]) (ws := []) (is := []) (ls := [(122, 0, l122_0), (122, 2, l122_2)]) (lvl := 0) mixed k122 Try.func122 (by kernel_rfl) (loops_cons ok122_0 (loops_cons ok122_2 noLoop)) (allT_cons meets68 allT_nil) allM_nil noI fun w xs us r hl hv h => ?_
  unfold m122 at h
  split at h
  · rename_i g0 a0 g1 a1
    obtain ⟨hg, h⟩ := bif_pair h
    simp only [Bool.and_eq_true] at hg
    obtain ⟨q0, q1⟩ := hg
    obtain rfl := ctsEq_eq _ _ q0
    obtain rfl := ctsEq_eq _ _ q1
    obtain ⟨h1, rfl⟩ := pair_inj h
    exact r122 a0 a1 h1
  · cases h

/-! ### 67 loop.example/g01984/spec.IsCracker -/
def F67_0 (h0_0 : List AV) (h0_1 : List AV) (h0_2 : List AV) (t3 : Int) : Out (Int) (Unit ⊕ Unit) := (bif decide (t3 < (h0_1.length : Int)) then (bif (decide (0 ≤ t3) && decide (t3 < (h0_1.length : Int))) then (bif !(v68_0 (fI (h0_1.getD t3.toNat AV.undef) 0) 0 999) then .stop (.inr ())
    else (bif (decide (0 ≤ 0) && decide (0 ≤ t3) && decide (t3 ≤ (h0_1.length : Int))) then (bif (decide (0 ≤ t3) && decide (t3 < (h0_1.length : Int))) then (bif q116 ((h0_1.take (Int.toNat t3)).drop (Int.toNat 0)) (fI (h0_1.getD t3.toNat AV.undef) 0) then (bif (v116_0 ((h0_1.take (Int.toNat t3)).drop (Int.toNat 0)) (fI (h0_1.getD t3.toNat AV.undef) 0)) then .stop (.inr ())
        else .next (IntKind.i64.wrap (t3 + 1)))
       else .fail)
      else .fail)
     else .fail))
   else .fail)
  else .stop (.inl ()))
def R67_0 (h0_0 : List AV) (h0_1 : List AV) (h0_2 : List AV) : (Int) → Out (Int) (Unit ⊕ Unit) := fun s : Int => F67_0 h0_0 h0_1 h0_2 s
def l67_0 : LModel := fun _ _ st k => match st with
  | ⟨[(1, .ptr g0 g1 g2), (3, .int .i64 t3)], [(g3, ⟨true, [], [.agg [.sl g4 h0_0, .sl g5 h0_1, .sl g6 h0_2]]⟩)]⟩ => bif nmEq g0 ([0, 1]) && Nat.beq g1 0 && Nat.beq g2 0 && nmEq g3 ([0, 1]) && ctsEq g4 ([.int .i64]) && ctsEq g5 ([.int .i64]) && ctsEq g6 ([.int .i64, .int .i64]) then ro (runW (R67_0 h0_0 h0_1 h0_2) (((h0_1.length : Int) - t3).toNat + 1) t3) none (sumE (fun _ : Unit => k (.exit 0) ⟨[(1, AV.ptr [0, 1] 0 0)], [([0, 1], ⟨true, [], [AV.agg [AV.sl [.int .i64] h0_0, AV.sl [.int .i64] h0_1, AV.sl [.int .i64, .int .i64] h0_2]]⟩)]⟩) (fun _ : Unit => k .ret ⟨[(2, AV.bool false)], [([0, 1], ⟨true, [], [AV.agg [AV.sl [.int .i64] h0_0, AV.sl [.int .i64] h0_1, AV.sl [.int .i64, .int .i64] h0_2]]⟩)]⟩)) else none
  | _ => none
noncomputable def c67 : Cfg := cfg Try.prog [(67, 0, [1, 3]), (67, 999, [2]), (67, 1000, [1]), (67, 1001, [1, 3])] [(68, m68), (103, m103), (116, m116), (122, m122)] [] [] [(67, 0, l67_0)]
theorem s67_0 (ce : CallE) (t3 : Int) (h0_0 : List AV) (h0_1 : List AV) (h0_2 : List AV) (next : St → Option AV) (k : Kont) : stepA (codeA c67 ce [] 67 0 (sub [1, 1, 0, 1, 0, 0] (body Try.f67))) (normA [] [1, 3]) next ⟨[(1, AV.ptr [0, 1] 0 0), (3, AV.int .i64 t3)], [([0, 1], ⟨true, [], [AV.agg [AV.sl [.int .i64] h0_0, AV.sl [.int .i64] h0_1, AV.sl [.int .i64, .int .i64] h0_2]]⟩)]⟩ k = (bif decide (t3 < (h0_1.length : Int)) then (bif (decide (0 ≤ t3) && decide (t3 < (h0_1.length : Int))) then (bif !(v68_0 (fI (h0_1.getD t3.toNat AV.undef) 0) 0 999) then k .ret ⟨[(2, AV.bool false)], [([0, 1], ⟨true, [], [AV.agg [AV.sl [.int .i64] h0_0, AV.sl [.int .i64] h0_1, AV.sl [.int .i64, .int .i64] h0_2]]⟩)]⟩
    else (bif (decide (0 ≤ 0) && decide (0 ≤ t3) && decide (t3 ≤ (h0_1.length : Int))) then (bif (decide (0 ≤ t3) && decide (t3 < (h0_1.length : Int))) then (bif q116 ((h0_1.take (Int.toNat t3)).drop (Int.toNat 0)) (fI (h0_1.getD t3.toNat AV.undef) 0) then (bif (v116_0 ((h0_1.take (Int.toNat t3)).drop (Int.toNat 0)) (fI (h0_1.getD t3.toNat AV.undef) 0)) then k .ret ⟨[(2, AV.bool false)], [([0, 1], ⟨true, [], [AV.agg [AV.sl [.int .i64] h0_0, AV.sl [.int .i64] h0_1, AV.sl [.int .i64, .int .i64] h0_2]]⟩)]⟩
        else next ⟨[(1, AV.ptr [0, 1] 0 0), (3, AV.int .i64 (IntKind.i64.wrap (t3 + 1)))], [([0, 1], ⟨true, [], [AV.agg [AV.sl [.int .i64] h0_0, AV.sl [.int .i64] h0_1, AV.sl [.int .i64, .int .i64] h0_2]]⟩)]⟩)
       else none)
      else none)
     else none))
   else none)
  else k (.exit 0) ⟨[(1, AV.ptr [0, 1] 0 0)], [([0, 1], ⟨true, [], [AV.agg [AV.sl [.int .i64] h0_0, AV.sl [.int .i64] h0_1, AV.sl [.int .i64, .int .i64] h0_2]]⟩)]⟩) := by kernel_rfl
theorem st67_0 (h0_0 : List AV) (h0_1 : List AV) (h0_2 : List AV) (ce : CallE) (k : Kont) (s : Int) (next : St → Option AV) : stepA (codeA c67 ce [] 67 0 (sub [1, 1, 0, 1, 0, 0] (body Try.f67))) (normA [] [1, 3]) next ((fun s : Int => ⟨[(1, AV.ptr [0, 1] 0 0), (3, AV.int .i64 s)], [([0, 1], ⟨true, [], [AV.agg [AV.sl [.int .i64] h0_0, AV.sl [.int .i64] h0_1, AV.sl [.int .i64, .int .i64] h0_2]]⟩)]⟩) s) k = (R67_0 h0_0 h0_1 h0_2 s).el none (fun s => next ((fun s : Int => ⟨[(1, AV.ptr [0, 1] 0 0), (3, AV.int .i64 s)], [([0, 1], ⟨true, [], [AV.agg [AV.sl [.int .i64] h0_0, AV.sl [.int .i64] h0_1, AV.sl [.int .i64, .int .i64] h0_2]]⟩)]⟩) s)) (sumE (fun _ : Unit => k (.exit 0) ⟨[(1, AV.ptr [0, 1] 0 0)], [([0, 1], ⟨true, [], [AV.agg [AV.sl [.int .i64] h0_0, AV.sl [.int .i64] h0_1, AV.sl [.int .i64, .int .i64] h0_2]]⟩)]⟩) (fun _ : Unit => k .ret ⟨[(2, AV.bool false)], [([0, 1], ⟨true, [], [AV.agg [AV.sl [.int .i64] h0_0, AV.sl [.int .i64] h0_1, AV.sl [.int .i64, .int .i64] h0_2]]⟩)]⟩)) := (s67_0 ce s h0_0 h0_1 h0_2 next k).trans (by unfold R67_0; unfold F67_0; simp only [el_cond, el_ro, el_sum, el_fail, el_next, el_stop] <;> rfl)
theorem ok67_0 {ce : CallE} : LoopOK c67 ce [] 67 0 (sub [1, 1, 0, 1, 0, 0] (body Try.f67)) := by
  intro m hm st k r h
  obtain rfl : l67_0 = m := Option.some.inj hm
  unfold l67_0 at h
  split at h
  · rename_i g0 g1 g2 t3 g3 g4 h0_0 g5 h0_1 g6 h0_2
    obtain ⟨hg, h⟩ := bif_some h
    simp only [Bool.and_eq_true] at hg
    obtain ⟨⟨⟨⟨⟨⟨q0, q1⟩, q2⟩, q3⟩, q4⟩, q5⟩, q6⟩ := hg
    obtain rfl := (nmEq_iff _ _).1 q0
    obtain rfl := Nat.eq_of_beq_eq_true q1
    obtain rfl := Nat.eq_of_beq_eq_true q2
    obtain rfl := (nmEq_iff _ _).1 q3
    obtain rfl := ctsEq_eq _ _ q4
    obtain rfl := ctsEq_eq _ _ q5
    obtain rfl := ctsEq_eq _ _ q6
    refine ⟨(((h0_1.length : Int) - t3).toNat + 1), ?_⟩
    rw [← h]
    exact loop_run (fun s : Int => ⟨[(1, AV.ptr [0, 1] 0 0), (3, AV.int .i64 s)], [([0, 1], ⟨true, [], [AV.agg [AV.sl [.int .i64] h0_0, AV.sl [.int .i64] h0_1, AV.sl [.int .i64, .int .i64] h0_2]]⟩)]⟩) (sumE (fun _ : Unit => k (.exit 0) ⟨[(1, AV.ptr [0, 1] 0 0)], [([0, 1], ⟨true, [], [AV.agg [AV.sl [.int .i64] h0_0, AV.sl [.int .i64] h0_1, AV.sl [.int .i64, .int .i64] h0_2]]⟩)]⟩) (fun _ : Unit => k .ret ⟨[(2, AV.bool false)], [([0, 1], ⟨true, [], [AV.agg [AV.sl [.int .i64] h0_0, AV.sl [.int .i64] h0_1, AV.sl [.int .i64, .int .i64] h0_2]]⟩)]⟩)) (st67_0 h0_0 h0_1 h0_2 ce k) _ t3
  · cases h
def q67 (a0_0 : List AV) (a0_1 : List AV) (a0_2 : List AV) : Bool := (q103 a0_0 && (bif !(v103_0 a0_0) then true else (bif !decide ((a0_1.length : Int) = (a0_0.length : Int)) then true else (ro (runW (R67_0 a0_0 a0_1 a0_2) (((a0_1.length : Int) - 0).toNat + 1) 0) false (sumE (fun _ => q122 a0_0 a0_2) (fun _ => true))))))
def v67_0 (a0_0 : List AV) (a0_1 : List AV) (a0_2 : List AV) : Bool := (bif !(v103_0 a0_0) then false else (bif !decide ((a0_1.length : Int) = (a0_0.length : Int)) then false else (ro (runW (R67_0 a0_0 a0_1 a0_2) (((a0_1.length : Int) - 0).toNat + 1) 0) false (sumE (fun _ => (v122_0 a0_0 a0_2)) (fun _ => false)))))
theorem e67 (a0_0 : List AV) (a0_1 : List AV) (a0_2 : List AV) : funA c67 0 67 [AV.agg [AV.sl [.int .i64] a0_0, AV.sl [.int .i64] a0_1, AV.sl [.int .i64, .int .i64] a0_2]] = (bif q103 a0_0 then (bif !(v103_0 a0_0) then some (AV.bool false)
   else (bif !decide ((a0_1.length : Int) = (a0_0.length : Int)) then some (AV.bool false)
    else (ro (runW (R67_0 a0_0 a0_1 a0_2) (((a0_1.length : Int) - 0).toNat + 1) 0) none (sumE (fun _ => (bif q122 a0_0 a0_2 then some (AV.bool (v122_0 a0_0 a0_2))
      else none)) (fun _ => some (AV.bool false))))))
  else none) := by kernel_rfl
theorem r67 (a0_0 : List AV) (a0_1 : List AV) (a0_2 : List AV) (h : q67 a0_0 a0_1 a0_2 = true) : funA c67 0 67 [AV.agg [AV.sl [.int .i64] a0_0, AV.sl [.int .i64] a0_1, AV.sl [.int .i64, .int .i64] a0_2]] = some (AV.bool (v67_0 a0_0 a0_1 a0_2)) := (e67 a0_0 a0_1 a0_2).trans ((brL (br (fun b => some (AV.bool (bif b then false else (bif !decide ((a0_1.length : Int) = (a0_0.length : Int)) then false else (ro (runW (R67_0 a0_0 a0_1 a0_2) (((a0_1.length : Int) - 0).toNat + 1) 0) false (sumE (fun _ => (v122_0 a0_0 a0_2)) (fun _ => false))))))) (fun _ => rfl) (br (fun b => some (AV.bool (bif b then false else (ro (runW (R67_0 a0_0 a0_1 a0_2) (((a0_1.length : Int) - 0).toNat + 1) 0) false (sumE (fun _ => (v122_0 a0_0 a0_2)) (fun _ => false)))))) (fun _ => rfl) (brO (fun o : Option (Unit ⊕ Unit) => some (AV.bool (ro o false (sumE (fun _ => (v122_0 a0_0 a0_2)) (fun _ => false))))) (brS (fun o : Unit ⊕ Unit => some (AV.bool ((sumE (fun _ => (v122_0 a0_0 a0_2)) (fun _ => false)) o))) (fun _ => (brL1 (fun _ => rfl))) (fun _ => (fun _ => rfl))))))) h)
def m67 : TModel
  | [.agg [.sl g0 a0_0, .sl g1 a0_1, .sl g2 a0_2]] => bif ctsEq g0 ([.int .i64]) && ctsEq g1 ([.int .i64]) && ctsEq g2 ([.int .i64, .int .i64]) then some (q67 a0_0 a0_1 a0_2, AV.bool (v67_0 a0_0 a0_1 a0_2)) else none
  | _ => none
theorem k67 : Known Try.prog 67 := ⟨Try.f67, Try.func67, by kernel_rfl, by kernel_rfl⟩
theorem meets67 : Meets Try.prog 67 m67 := by
  refine meet (f := Try.f67) (l := [(0, sub [1, 1, 0, 1, 0, 0] (body Try.f67))]) (hs := [(67, 0, [1, 3]), (67, 999, [2]), (67, 1000, [1]), (67, 1001, [1, 3])]) (ts := [(68, m68), (103, m103), (116, m116), (122, m122)]) (ws := []) (is := []) (ls := [(67, 0, l67_0)]) (lvl := 0) mixed k67 Try.func67 (by kernel_rfl) (loops_cons ok67_0 noLoop) (allT_cons meets68 (allT_cons meets103 (allT_cons meets116 (allT_cons meets122 allT_nil)))) allM_nil noI fun w xs us r hl hv h => ?_
  unfold m67 at h
  split at h
  · rename_i g0 a0_0 g1 a0_1 g2 a0_2
    obtain ⟨hg, h⟩ := bif_pair h
    simp only [Bool.and_eq_true] at hg
    obtain ⟨⟨q0, q1⟩, q2⟩ := hg
    obtain rfl := ctsEq_eq _ _ q0
    obtain rfl := ctsEq_eq _ _ q1
    obtain rfl := ctsEq_eq _ _ q2
    obtain ⟨h1, rfl⟩ := pair_inj h
    exact r67 a0_0 a0_1 a0_2 h1
  · cases h

/-! ### 69 loop.example/g01984/spec.FindRow -/
def F69_0 (t1 : Int) (h0_0 : List AV) (h0_1 : List AV) (h0_2 : List AV) (t5 : Int) : Out (Int) (Unit ⊕ Int) := (bif decide (t5 < (h0_1.length : Int)) then (bif (decide (0 ≤ t5) && decide (t5 < (h0_1.length : Int))) then (bif decide (fI (h0_1.getD t5.toNat AV.undef) 0 = t1) then .stop (.inr t5)
    else .next (IntKind.i64.wrap (t5 + 1)))
   else .fail)
  else .stop (.inl ()))
def R69_0 (t1 : Int) (h0_0 : List AV) (h0_1 : List AV) (h0_2 : List AV) : (Int) → Out (Int) (Unit ⊕ Int) := fun s : Int => F69_0 t1 h0_0 h0_1 h0_2 s
def l69_0 : LModel := fun _ _ st k => match st with
  | ⟨[(1, .int .i64 t1), (2, .ptr g0 g1 g2), (5, .int .i64 t5)], [(g3, ⟨true, [], [.agg [.sl g4 h0_0, .sl g5 h0_1, .sl g6 h0_2]]⟩)]⟩ => bif nmEq g0 ([0, 2]) && Nat.beq g1 0 && Nat.beq g2 0 && nmEq g3 ([0, 2]) && ctsEq g4 ([.int .i64]) && ctsEq g5 ([.int .i64]) && ctsEq g6 ([.int .i64, .int .i64]) then ro (runW (R69_0 t1 h0_0 h0_1 h0_2) (((h0_1.length : Int) - t5).toNat + 1) t5) none (sumE (fun _ : Unit => k (.exit 0) ⟨[], [([0, 2], ⟨true, [], [AV.agg [AV.sl [.int .i64] h0_0, AV.sl [.int .i64] h0_1, AV.sl [.int .i64, .int .i64] h0_2]]⟩)]⟩) (fun p : Int => k .ret ⟨[(4, AV.int .i64 p)], [([0, 2], ⟨true, [], [AV.agg [AV.sl [.int .i64] h0_0, AV.sl [.int .i64] h0_1, AV.sl [.int .i64, .int .i64] h0_2]]⟩)]⟩)) else none
  | _ => none
noncomputable def c69 : Cfg := cfg Try.prog [(69, 0, [1, 2, 5]), (69, 999, [4]), (69, 1000, []), (69, 1001, [1, 2, 5])] [] [] [] [(69, 0, l69_0)]
theorem s69_0 (ce : CallE) (t1 : Int) (t5 : Int) (h0_0 : List AV) (h0_1 : List AV) (h0_2 : List AV) (next : St → Option AV) (k : Kont) : stepA (codeA c69 ce [] 69 0 (sub [1, 0, 1, 0, 0] (body Try.f69))) (normA [] [1, 2, 5]) next ⟨[(1, AV.int .i64 t1), (2, AV.ptr [0, 2] 0 0), (5, AV.int .i64 t5)], [([0, 2], ⟨true, [], [AV.agg [AV.sl [.int .i64] h0_0, AV.sl [.int .i64] h0_1, AV.sl [.int .i64, .int .i64] h0_2]]⟩)]⟩ k = (bif decide (t5 < (h0_1.length : Int)) then (bif (decide (0 ≤ t5) && decide (t5 < (h0_1.length : Int))) then (bif decide (fI (h0_1.getD t5.toNat AV.undef) 0 = t1) then k .ret ⟨[(4, AV.int .i64 t5)], [([0, 2], ⟨true, [], [AV.agg [AV.sl [.int .i64] h0_0, AV.sl [.int .i64] h0_1, AV.sl [.int .i64, .int .i64] h0_2]]⟩)]⟩
    else next ⟨[(1, AV.int .i64 t1), (2, AV.ptr [0, 2] 0 0), (5, AV.int .i64 (IntKind.i64.wrap (t5 + 1)))], [([0, 2], ⟨true, [], [AV.agg [AV.sl [.int .i64] h0_0, AV.sl [.int .i64] h0_1, AV.sl [.int .i64, .int .i64] h0_2]]⟩)]⟩)
   else none)
  else k (.exit 0) ⟨[], [([0, 2], ⟨true, [], [AV.agg [AV.sl [.int .i64] h0_0, AV.sl [.int .i64] h0_1, AV.sl [.int .i64, .int .i64] h0_2]]⟩)]⟩) := by kernel_rfl
theorem st69_0 (t1 : Int) (h0_0 : List AV) (h0_1 : List AV) (h0_2 : List AV) (ce : CallE) (k : Kont) (s : Int) (next : St → Option AV) : stepA (codeA c69 ce [] 69 0 (sub [1, 0, 1, 0, 0] (body Try.f69))) (normA [] [1, 2, 5]) next ((fun s : Int => ⟨[(1, AV.int .i64 t1), (2, AV.ptr [0, 2] 0 0), (5, AV.int .i64 s)], [([0, 2], ⟨true, [], [AV.agg [AV.sl [.int .i64] h0_0, AV.sl [.int .i64] h0_1, AV.sl [.int .i64, .int .i64] h0_2]]⟩)]⟩) s) k = (R69_0 t1 h0_0 h0_1 h0_2 s).el none (fun s => next ((fun s : Int => ⟨[(1, AV.int .i64 t1), (2, AV.ptr [0, 2] 0 0), (5, AV.int .i64 s)], [([0, 2], ⟨true, [], [AV.agg [AV.sl [.int .i64] h0_0, AV.sl [.int .i64] h0_1, AV.sl [.int .i64, .int .i64] h0_2]]⟩)]⟩) s)) (sumE (fun _ : Unit => k (.exit 0) ⟨[], [([0, 2], ⟨true, [], [AV.agg [AV.sl [.int .i64] h0_0, AV.sl [.int .i64] h0_1, AV.sl [.int .i64, .int .i64] h0_2]]⟩)]⟩) (fun p : Int => k .ret ⟨[(4, AV.int .i64 p)], [([0, 2], ⟨true, [], [AV.agg [AV.sl [.int .i64] h0_0, AV.sl [.int .i64] h0_1, AV.sl [.int .i64, .int .i64] h0_2]]⟩)]⟩)) := (s69_0 ce t1 s h0_0 h0_1 h0_2 next k).trans (by unfold R69_0; unfold F69_0; simp only [el_cond, el_ro, el_sum, el_fail, el_next, el_stop] <;> rfl)
theorem ok69_0 {ce : CallE} : LoopOK c69 ce [] 69 0 (sub [1, 0, 1, 0, 0] (body Try.f69)) := by
  intro m hm st k r h
  obtain rfl : l69_0 = m := Option.some.inj hm
  unfold l69_0 at h
  split at h
  · rename_i t1 g0 g1 g2 t5 g3 g4 h0_0 g5 h0_1 g6 h0_2
    obtain ⟨hg, h⟩ := bif_some h
    simp only [Bool.and_eq_true] at hg
    obtain ⟨⟨⟨⟨⟨⟨q0, q1⟩, q2⟩, q3⟩, q4⟩, q5⟩, q6⟩ := hg
    obtain rfl := (nmEq_iff _ _).1 q0
    obtain rfl := Nat.eq_of_beq_eq_true q1
    obtain rfl := Nat.eq_of_beq_eq_true q2
    obtain rfl := (nmEq_iff _ _).1 q3
    obtain rfl := ctsEq_eq _ _ q4
    obtain rfl := ctsEq_eq _ _ q5
    obtain rfl := ctsEq_eq _ _ q6
    refine ⟨(((h0_1.length : Int) - t5).toNat + 1), ?_⟩
    rw [← h]
    exact loop_run (fun s : Int => ⟨[(1, AV.int .i64 t1), (2, AV.ptr [0, 2] 0 0), (5, AV.int .i64 s)], [([0, 2], ⟨true, [], [AV.agg [AV.sl [.int .i64] h0_0, AV.sl [.int .i64] h0_1, AV.sl [.int .i64, .int .i64] h0_2]]⟩)]⟩) (sumE (fun _ : Unit => k (.exit 0) ⟨[], [([0, 2], ⟨true, [], [AV.agg [AV.sl [.int .i64] h0_0, AV.sl [.int .i64] h0_1, AV.sl [.int .i64, .int .i64] h0_2]]⟩)]⟩) (fun p : Int => k .ret ⟨[(4, AV.int .i64 p)], [([0, 2], ⟨true, [], [AV.agg [AV.sl [.int .i64] h0_0, AV.sl [.int .i64] h0_1, AV.sl [.int .i64, .int .i64] h0_2]]⟩)]⟩)) (st69_0 t1 h0_0 h0_1 h0_2 ce k) _ t5
  · cases h
def q69 (a0_0 : List AV) (a0_1 : List AV) (a0_2 : List AV) (a1 : Int) : Bool := (ro (runW (R69_0 a1 a0_0 a0_1 a0_2) (((a0_1.length : Int) - 0).toNat + 1) 0) false (sumE (fun _ => true) (fun p18 => true)))
def v69_0 (a0_0 : List AV) (a0_1 : List AV) (a0_2 : List AV) (a1 : Int) : Int := (ro (runW (R69_0 a1 a0_0 a0_1 a0_2) (((a0_1.length : Int) - 0).toNat + 1) 0) 0 (sumE (fun _ => (-1)) (fun p18 => p18)))
theorem e69 (a0_0 : List AV) (a0_1 : List AV) (a0_2 : List AV) (a1 : Int) : funA c69 0 69 [AV.agg [AV.sl [.int .i64] a0_0, AV.sl [.int .i64] a0_1, AV.sl [.int .i64, .int .i64] a0_2], AV.int .i64 a1] = (ro (runW (R69_0 a1 a0_0 a0_1 a0_2) (((a0_1.length : Int) - 0).toNat + 1) 0) none (sumE (fun _ => some (AV.int .i64 (-1))) (fun p18 => some (AV.int .i64 p18)))) := by kernel_rfl
theorem r69 (a0_0 : List AV) (a0_1 : List AV) (a0_2 : List AV) (a1 : Int) (h : q69 a0_0 a0_1 a0_2 a1 = true) : funA c69 0 69 [AV.agg [AV.sl [.int .i64] a0_0, AV.sl [.int .i64] a0_1, AV.sl [.int .i64, .int .i64] a0_2], AV.int .i64 a1] = some (AV.int .i64 (v69_0 a0_0 a0_1 a0_2 a1)) := (e69 a0_0 a0_1 a0_2 a1).trans ((brO (fun o : Option (Unit ⊕ Int) => some (AV.int .i64 (ro o 0 (sumE (fun _ => (-1)) (fun p18 => p18))))) (brS (fun o : Unit ⊕ Int => some (AV.int .i64 ((sumE (fun _ => (-1)) (fun p18 => p18)) o))) (fun _ => (fun _ => rfl)) (fun p18 => (fun _ => rfl)))) h)
def m69 : TModel
  | [.agg [.sl g0 a0_0, .sl g1 a0_1, .sl g2 a0_2], .int .i64 a1] => bif ctsEq g0 ([.int .i64]) && ctsEq g1 ([.int .i64]) && ctsEq g2 ([.int .i64, .int .i64]) then some (q69 a0_0 a0_1 a0_2 a1, AV.int .i64 (v69_0 a0_0 a0_1 a0_2 a1)) else none
  | _ => none
theorem k69 : Known Try.prog 69 := ⟨Try.f69, Try.func69, by kernel_rfl, by kernel_rfl⟩
theorem meets69 : Meets Try.prog 69 m69 := by
  refine meet (f := Try.f69) (l := [(0, sub [1, 0, 1, 0, 0] (body Try.f69))]) (hs := [(69, 0, [1, 2, 5]), (69, 999, [4]), (69, 1000, []), (69, 1001, [1, 2, 5])]) (ts := []) (ws := []) (is := []) (ls := [(69, 0, l69_0)]) (lvl := 0) mixed k69 Try.func69 (by kernel_rfl) (loops_cons ok69_0 noLoop) allT_nil allM_nil noI fun w xs us r hl hv h => ?_
  unfold m69 at h
  split at h
  · rename_i g0 a0_0 g1 a0_1 g2 a0_2 a1
    obtain ⟨hg, h⟩ := bif_pair h
    simp only [Bool.and_eq_true] at hg
    obtain ⟨⟨q0, q1⟩, q2⟩ := hg
    obtain rfl := ctsEq_eq _ _ q0
    obtain rfl := ctsEq_eq _ _ q1
    obtain rfl := ctsEq_eq _ _ q2
    obtain ⟨h1, rfl⟩ := pair_inj h
    exact r69 a0_0 a0_1 a0_2 a1 h1
  · cases h

/-! ### 16 loop.example/g01984/spec.IsStore -/
def F16_0 (h0_0 : List AV) (h0_1 : Int) (h0_2 : List AV) (h0_3 : List AV) (h0_4 : List AV) (t3 : Int) : Out (Int) (Unit ⊕ (Int × Int × Int × Int)) := (bif decide (t3 < (h0_0.length : Int)) then (bif (decide (0 ≤ t3) && decide (t3 < (h0_0.length : Int))) then (bif q69 h0_2 h0_3 h0_4 (fI (h0_0.getD t3.toNat AV.undef) 1) then (bif decide ((v69_0 h0_2 h0_3 h0_4 (fI (h0_0.getD t3.toNat AV.undef) 1)) < 0) then .stop (.inr (fI (h0_0.getD t3.toNat AV.undef) 0, fI (h0_0.getD t3.toNat AV.undef) 1, fI (h0_0.getD t3.toNat AV.undef) 2, fI (h0_0.getD t3.toNat AV.undef) 3))
     else (bif (decide (0 ≤ (v69_0 h0_2 h0_3 h0_4 (fI (h0_0.getD t3.toNat AV.undef) 1))) && decide ((v69_0 h0_2 h0_3 h0_4 (fI (h0_0.getD t3.toNat AV.undef) 1)) < (h0_2.length : Int))) then (bif !decide (fI (h0_2.getD (v69_0 h0_2 h0_3 h0_4 (fI (h0_0.getD t3.toNat AV.undef) 1)).toNat AV.undef) 0 = fI (h0_0.getD t3.toNat AV.undef) 0) then .stop (.inr (fI (h0_0.getD t3.toNat AV.undef) 0, fI (h0_0.getD t3.toNat AV.undef) 1, fI (h0_0.getD t3.toNat AV.undef) 2, fI (h0_0.getD t3.toNat AV.undef) 3))
       else (bif decide (t3 > 0) then (bif (decide (0 ≤ IntKind.i64.wrap (t3 - 1)) && decide (IntKind.i64.wrap (t3 - 1) < (h0_0.length : Int))) then (bif decide (fI (h0_0.getD t3.toNat AV.undef) 1 ≤ fI (h0_0.getD (IntKind.i64.wrap (t3 - 1)).toNat AV.undef) 1) then .stop (.inr (fI (h0_0.getD t3.toNat AV.undef) 0, fI (h0_0.getD t3.toNat AV.undef) 1, fI (h0_0.getD t3.toNat AV.undef) 2, fI (h0_0.getD t3.toNat AV.undef) 3))
          else (bif !(v68_0 (fI (h0_0.getD t3.toNat AV.undef) 2) 0 h0_1) then .stop (.inr (fI (h0_0.getD t3.toNat AV.undef) 0, fI (h0_0.getD t3.toNat AV.undef) 1, fI (h0_0.getD t3.toNat AV.undef) 2, fI (h0_0.getD t3.toNat AV.undef) 3))
           else (bif !decide (fI (h0_0.getD t3.toNat AV.undef) 3 = (-1)) then (bif !(v68_0 (fI (h0_0.getD t3.toNat AV.undef) 3) (IntKind.i64.wrap (fI (h0_0.getD t3.toNat AV.undef) 2 + 1)) h0_1) then .stop (.inr (fI (h0_0.getD t3.toNat AV.undef) 0, fI (h0_0.getD t3.toNat AV.undef) 1, fI (h0_0.getD t3.toNat AV.undef) 2, fI (h0_0.getD t3.toNat AV.undef) 3))
             else .next (IntKind.i64.wrap (t3 + 1)))
            else .next (IntKind.i64.wrap (t3 + 1)))))
         else .fail)
        else (bif !(v68_0 (fI (h0_0.getD t3.toNat AV.undef) 2) 0 h0_1) then .stop (.inr (fI (h0_0.getD t3.toNat AV.undef) 0, fI (h0_0.getD t3.toNat AV.undef) 1, fI (h0_0.getD t3.toNat AV.undef) 2, fI (h0_0.getD t3.toNat AV.undef) 3))
         else (bif !decide (fI (h0_0.getD t3.toNat AV.undef) 3 = (-1)) then (bif !(v68_0 (fI (h0_0.getD t3.toNat AV.undef) 3) (IntKind.i64.wrap (fI (h0_0.getD t3.toNat AV.undef) 2 + 1)) h0_1) then .stop (.inr (fI (h0_0.getD t3.toNat AV.undef) 0, fI (h0_0.getD t3.toNat AV.undef) 1, fI (h0_0.getD t3.toNat AV.undef) 2, fI (h0_0.getD t3.toNat AV.undef) 3))
           else .next (IntKind.i64.wrap (t3 + 1)))
          else .next (IntKind.i64.wrap (t3 + 1))))))
      else .fail))
    else .fail)
   else .fail)
  else .stop (.inl ()))
def R16_0 (h0_0 : List AV) (h0_1 : Int) (h0_2 : List AV) (h0_3 : List AV) (h0_4 : List AV) : (Int) → Out (Int) (Unit ⊕ (Int × Int × Int × Int)) := fun s : Int => F16_0 h0_0 h0_1 h0_2 h0_3 h0_4 s
def l16_0 : LModel := fun _ _ st k => match st with
  | ⟨[(1, .ptr g0 g1 g2), (3, .int .i64 t3)], [(g3, ⟨true, [], [.agg [.sl g4 h0_0, .int .i64 h0_1, .sl g5 h0_2, .sl g6 h0_3, .sl g7 h0_4]]⟩)]⟩ => bif nmEq g0 ([0, 1]) && Nat.beq g1 0 && Nat.beq g2 0 && nmEq g3 ([0, 1]) && ctsEq g4 ([.int .i64, .int .i64, .int .i64, .int .i64]) && ctsEq g5 ([.int .i64]) && ctsEq g6 ([.int .i64]) && ctsEq g7 ([.int .i64, .int .i64]) then ro (runW (R16_0 h0_0 h0_1 h0_2 h0_3 h0_4) (((h0_0.length : Int) - t3).toNat + 1) t3) none (sumE (fun _ : Unit => k (.exit 0) ⟨[], [([0, 1], ⟨true, [], [AV.agg [AV.sl [.int .i64, .int .i64, .int .i64, .int .i64] h0_0, AV.int .i64 h0_1, AV.sl [.int .i64] h0_2, AV.sl [.int .i64] h0_3, AV.sl [.int .i64, .int .i64] h0_4]]⟩)]⟩) (fun p : Int × Int × Int × Int => k .ret ⟨[(2, AV.bool false)], [([0, 1], ⟨true, [], [AV.agg [AV.sl [.int .i64, .int .i64, .int .i64, .int .i64] h0_0, AV.int .i64 h0_1, AV.sl [.int .i64] h0_2, AV.sl [.int .i64] h0_3, AV.sl [.int .i64, .int .i64] h0_4]]⟩), ([1, 4], ⟨true, [], [AV.agg [AV.int .i64 p.1, AV.int .i64 p.2.1, AV.int .i64 p.2.2.1, AV.int .i64 p.2.2.2]]⟩)]⟩)) else none
  | _ => none
noncomputable def c16 : Cfg := cfg Try.prog [(16, 0, [1, 3]), (16, 999, [2]), (16, 1000, []), (16, 1001, [1, 3])] [(67, m67), (68, m68), (69, m69)] [] [] [(16, 0, l16_0)]
theorem s16_0 (ce : CallE) (t3 : Int) (h0_0 : List AV) (h0_1 : Int) (h0_2 : List AV) (h0_3 : List AV) (h0_4 : List AV) (next : St → Option AV) (k : Kont) : stepA (codeA c16 ce [] 16 0 (sub [1, 1, 0, 1, 0, 0] (body Try.f16))) (normA [] [1, 3]) next ⟨[(1, AV.ptr [0, 1] 0 0), (3, AV.int .i64 t3)], [([0, 1], ⟨true, [], [AV.agg [AV.sl [.int .i64, .int .i64, .int .i64, .int .i64] h0_0, AV.int .i64 h0_1, AV.sl [.int .i64] h0_2, AV.sl [.int .i64] h0_3, AV.sl [.int .i64, .int .i64] h0_4]]⟩)]⟩ k = (bif decide (t3 < (h0_0.length : Int)) then (bif (decide (0 ≤ t3) && decide (t3 < (h0_0.length : Int))) then (bif q69 h0_2 h0_3 h0_4 (fI (h0_0.getD t3.toNat AV.undef) 1) then (bif decide ((v69_0 h0_2 h0_3 h0_4 (fI (h0_0.getD t3.toNat AV.undef) 1)) < 0) then k .ret ⟨[(2, AV.bool false)], [([0, 1], ⟨true, [], [AV.agg [AV.sl [.int .i64, .int .i64, .int .i64, .int .i64] h0_0, AV.int .i64 h0_1, AV.sl [.int .i64] h0_2, AV.sl [.int .i64] h0_3, AV.sl [.int .i64, .int .i64] h0_4]]⟩), ([1, 4], ⟨true, [], [AV.agg [AV.int .i64 (fI (h0_0.getD t3.toNat AV.undef) 0), AV.int .i64 (fI (h0_0.getD t3.toNat AV.undef) 1), AV.int .i64 (fI (h0_0.getD t3.toNat AV.undef) 2), AV.int .i64 (fI (h0_0.getD t3.toNat AV.undef) 3)]]⟩)]⟩
     else (bif (decide (0 ≤ (v69_0 h0_2 h0_3 h0_4 (fI (h0_0.getD t3.toNat AV.undef) 1))) && decide ((v69_0 h0_2 h0_3 h0_4 (fI (h0_0.getD t3.toNat AV.undef) 1)) < (h0_2.length : Int))) then (bif !decide (fI (h0_2.getD (v69_0 h0_2 h0_3 h0_4 (fI (h0_0.getD t3.toNat AV.undef) 1)).toNat AV.undef) 0 = fI (h0_0.getD t3.toNat AV.undef) 0) then k .ret ⟨[(2, AV.bool false)], [([0, 1], ⟨true, [], [AV.agg [AV.sl [.int .i64, .int .i64, .int .i64, .int .i64] h0_0, AV.int .i64 h0_1, AV.sl [.int .i64] h0_2, AV.sl [.int .i64] h0_3, AV.sl [.int .i64, .int .i64] h0_4]]⟩), ([1, 4], ⟨true, [], [AV.agg [AV.int .i64 (fI (h0_0.getD t3.toNat AV.undef) 0), AV.int .i64 (fI (h0_0.getD t3.toNat AV.undef) 1), AV.int .i64 (fI (h0_0.getD t3.toNat AV.undef) 2), AV.int .i64 (fI (h0_0.getD t3.toNat AV.undef) 3)]]⟩)]⟩
       else (bif decide (t3 > 0) then (bif (decide (0 ≤ IntKind.i64.wrap (t3 - 1)) && decide (IntKind.i64.wrap (t3 - 1) < (h0_0.length : Int))) then (bif decide (fI (h0_0.getD t3.toNat AV.undef) 1 ≤ fI (h0_0.getD (IntKind.i64.wrap (t3 - 1)).toNat AV.undef) 1) then k .ret ⟨[(2, AV.bool false)], [([0, 1], ⟨true, [], [AV.agg [AV.sl [.int .i64, .int .i64, .int .i64, .int .i64] h0_0, AV.int .i64 h0_1, AV.sl [.int .i64] h0_2, AV.sl [.int .i64] h0_3, AV.sl [.int .i64, .int .i64] h0_4]]⟩), ([1, 4], ⟨true, [], [AV.agg [AV.int .i64 (fI (h0_0.getD t3.toNat AV.undef) 0), AV.int .i64 (fI (h0_0.getD t3.toNat AV.undef) 1), AV.int .i64 (fI (h0_0.getD t3.toNat AV.undef) 2), AV.int .i64 (fI (h0_0.getD t3.toNat AV.undef) 3)]]⟩)]⟩
          else (bif !(v68_0 (fI (h0_0.getD t3.toNat AV.undef) 2) 0 h0_1) then k .ret ⟨[(2, AV.bool false)], [([0, 1], ⟨true, [], [AV.agg [AV.sl [.int .i64, .int .i64, .int .i64, .int .i64] h0_0, AV.int .i64 h0_1, AV.sl [.int .i64] h0_2, AV.sl [.int .i64] h0_3, AV.sl [.int .i64, .int .i64] h0_4]]⟩), ([1, 4], ⟨true, [], [AV.agg [AV.int .i64 (fI (h0_0.getD t3.toNat AV.undef) 0), AV.int .i64 (fI (h0_0.getD t3.toNat AV.undef) 1), AV.int .i64 (fI (h0_0.getD t3.toNat AV.undef) 2), AV.int .i64 (fI (h0_0.getD t3.toNat AV.undef) 3)]]⟩)]⟩
           else (bif !decide (fI (h0_0.getD t3.toNat AV.undef) 3 = (-1)) then (bif !(v68_0 (fI (h0_0.getD t3.toNat AV.undef) 3) (IntKind.i64.wrap (fI (h0_0.getD t3.toNat AV.undef) 2 + 1)) h0_1) then k .ret ⟨[(2, AV.bool false)], [([0, 1], ⟨true, [], [AV.agg [AV.sl [.int .i64, .int .i64, .int .i64, .int .i64] h0_0, AV.int .i64 h0_1, AV.sl [.int .i64] h0_2, AV.sl [.int .i64] h0_3, AV.sl [.int .i64, .int .i64] h0_4]]⟩), ([1, 4], ⟨true, [], [AV.agg [AV.int .i64 (fI (h0_0.getD t3.toNat AV.undef) 0), AV.int .i64 (fI (h0_0.getD t3.toNat AV.undef) 1), AV.int .i64 (fI (h0_0.getD t3.toNat AV.undef) 2), AV.int .i64 (fI (h0_0.getD t3.toNat AV.undef) 3)]]⟩)]⟩
             else next ⟨[(1, AV.ptr [0, 1] 0 0), (3, AV.int .i64 (IntKind.i64.wrap (t3 + 1)))], [([0, 1], ⟨true, [], [AV.agg [AV.sl [.int .i64, .int .i64, .int .i64, .int .i64] h0_0, AV.int .i64 h0_1, AV.sl [.int .i64] h0_2, AV.sl [.int .i64] h0_3, AV.sl [.int .i64, .int .i64] h0_4]]⟩)]⟩)
            else next ⟨[(1, AV.ptr [0, 1] 0 0), (3, AV.int .i64 (IntKind.i64.wrap (t3 + 1)))], [([0, 1], ⟨true, [], [AV.agg [AV.sl [.int .i64, .int .i64, .int .i64, .int .i64] h0_0, AV.int .i64 h0_1, AV.sl [.int .i64] h0_2, AV.sl [.int .i64] h0_3, AV.sl [.int .i64, .int .i64] h0_4]]⟩)]⟩)))
         else none)
        else (bif !(v68_0 (fI (h0_0.getD t3.toNat AV.undef) 2) 0 h0_1) then k .ret ⟨[(2, AV.bool false)], [([0, 1], ⟨true, [], [AV.agg [AV.sl [.int .i64, .int .i64, .int .i64, .int .i64] h0_0, AV.int .i64 h0_1, AV.sl [.int .i64] h0_2, AV.sl [.int .i64] h0_3, AV.sl [.int .i64, .int .i64] h0_4]]⟩), ([1, 4], ⟨true, [], [AV.agg [AV.int .i64 (fI (h0_0.getD t3.toNat AV.undef) 0), AV.int .i64 (fI (h0_0.getD t3.toNat AV.undef) 1), AV.int .i64 (fI (h0_0.getD t3.toNat AV.undef) 2), AV.int .i64 (fI (h0_0.getD t3.toNat AV.undef) 3)]]⟩)]⟩
         else (bif !decide (fI (h0_0.getD t3.toNat AV.undef) 3 = (-1)) then (bif !(v68_0 (fI (h0_0.getD t3.toNat AV.undef) 3) (IntKind.i64.wrap (fI (h0_0.getD t3.toNat AV.undef) 2 + 1)) h0_1) then k .ret ⟨[(2, AV.bool false)], [([0, 1], ⟨true, [], [AV.agg [AV.sl [.int .i64, .int .i64, .int .i64, .int .i64] h0_0, AV.int .i64 h0_1, AV.sl [.int .i64] h0_2, AV.sl [.int .i64] h0_3, AV.sl [.int .i64, .int .i64] h0_4]]⟩), ([1, 4], ⟨true, [], [AV.agg [AV.int .i64 (fI (h0_0.getD t3.toNat AV.undef) 0), AV.int .i64 (fI (h0_0.getD t3.toNat AV.undef) 1), AV.int .i64 (fI (h0_0.getD t3.toNat AV.undef) 2), AV.int .i64 (fI (h0_0.getD t3.toNat AV.undef) 3)]]⟩)]⟩
           else next ⟨[(1, AV.ptr [0, 1] 0 0), (3, AV.int .i64 (IntKind.i64.wrap (t3 + 1)))], [([0, 1], ⟨true, [], [AV.agg [AV.sl [.int .i64, .int .i64, .int .i64, .int .i64] h0_0, AV.int .i64 h0_1, AV.sl [.int .i64] h0_2, AV.sl [.int .i64] h0_3, AV.sl [.int .i64, .int .i64] h0_4]]⟩)]⟩)
          else next ⟨[(1, AV.ptr [0, 1] 0 0), (3, AV.int .i64 (IntKind.i64.wrap (t3 + 1)))], [([0, 1], ⟨true, [], [AV.agg [AV.sl [.int .i64, .int .i64, .int .i64, .int .i64] h0_0, AV.int .i64 h0_1, AV.sl [.int .i64] h0_2, AV.sl [.int .i64] h0_3, AV.sl [.int .i64, .int .i64] h0_4]]⟩)]⟩))))
      else none))
    else none)
   else none)
  else k (.exit 0) ⟨[], [([0, 1], ⟨true, [], [AV.agg [AV.sl [.int .i64, .int .i64, .int .i64, .int .i64] h0_0, AV.int .i64 h0_1, AV.sl [.int .i64] h0_2, AV.sl [.int .i64] h0_3, AV.sl [.int .i64, .int .i64] h0_4]]⟩)]⟩) := by kernel_rfl
theorem st16_0 (h0_0 : List AV) (h0_1 : Int) (h0_2 : List AV) (h0_3 : List AV) (h0_4 : List AV) (ce : CallE) (k : Kont) (s : Int) (next : St → Option AV) : stepA (codeA c16 ce [] 16 0 (sub [1, 1, 0, 1, 0, 0] (body Try.f16))) (normA [] [1, 3]) next ((fun s : Int => ⟨[(1, AV.ptr [0, 1] 0 0), (3, AV.int .i64 s)], [([0, 1], ⟨true, [], [AV.agg [AV.sl [.int .i64, .int .i64, .int .i64, .int .i64] h0_0, AV.int .i64 h0_1, AV.sl [.int .i64] h0_2, AV.sl [.int .i64] h0_3, AV.sl [.int .i64, .int .i64] h0_4]]⟩)]⟩) s) k = (R16_0 h0_0 h0_1 h0_2 h0_3 h0_4 s).el none (fun s => next ((fun s : Int => ⟨[(1, AV.ptr [0, 1] 0 0), (3, AV.int .i64 s)], [([0, 1], ⟨true, [], [AV.agg [AV.sl [.int .i64, .int .i64, .int .i64, .int .i64] h0_0, AV.int .i64 h0_1, AV.sl [.int .i64] h0_2, AV.sl [.int .i64] h0_3, AV.sl [.int .i64, .int .i64] h0_4]]⟩)]⟩) s)) (sumE (fun _ : Unit => k (.exit 0) ⟨[], [([0, 1], ⟨true, [], [AV.agg [AV.sl [.int .i64, .int .i64, .int .i64, .int .i64] h0_0, AV.int .i64 h0_1, AV.sl [.int .i64] h0_2, AV.sl [.int .i64] h0_3, AV.sl [.int .i64, .int .i64] h0_4]]⟩)]⟩) (fun p : Int × Int × Int × Int => k .ret ⟨[(2, AV.bool false)], [([0, 1], ⟨true, [], [AV.agg [AV.sl [.int .i64, .int .i64, .int .i64, .int .i64] h0_0, AV.int .i64 h0_1, AV.sl [.int .i64] h0_2, AV.sl [.int .i64] h0_3, AV.sl [.int .i64, .int .i64] h0_4]]⟩), ([1, 4], ⟨true, [], [AV.agg [AV.int .i64 p.1, AV.int .i64 p.2.1, AV.int .i64 p.2.2.1, AV.int .i64 p.2.2.2]]⟩)]⟩)) := (s16_0 ce s h0_0 h0_1 h0_2 h0_3 h0_4 next k).trans (by unfold R16_0; unfold F16_0; simp only [el_cond, el_ro, el_sum, el_fail, el_next, el_stop] <;> rfl)
theorem ok16_0 {ce : CallE} : LoopOK c16 ce [] 16 0 (sub [1, 1, 0, 1, 0, 0] (body Try.f16)) := by
  intro m hm st k r h
  obtain rfl : l16_0 = m := Option.some.inj hm
  unfold l16_0 at h
  split at h
  · rename_i g0 g1 g2 t3 g3 g4 h0_0 h0_1 g5 h0_2 g6 h0_3 g7 h0_4
    obtain ⟨hg, h⟩ := bif_some h
    simp only [Bool.and_eq_true] at hg
    obtain ⟨⟨⟨⟨⟨⟨⟨q0, q1⟩, q2⟩, q3⟩, q4⟩, q5⟩, q6⟩, q7⟩ := hg
    obtain rfl := (nmEq_iff _ _).1 q0
    obtain rfl := Nat.eq_of_beq_eq_true q1
    obtain rfl := Nat.eq_of_beq_eq_true q2
    obtain rfl := (nmEq_iff _ _).1 q3
    obtain rfl := ctsEq_eq _ _ q4
    obtain rfl := ctsEq_eq _ _ q5
    obtain rfl := ctsEq_eq _ _ q6
    obtain rfl := ctsEq_eq _ _ q7
    refine ⟨(((h0_0.length : Int) - t3).toNat + 1), ?_⟩
    rw [← h]
    exact loop_run (fun s : Int => ⟨[(1, AV.ptr [0, 1] 0 0), (3, AV.int .i64 s)], [([0, 1], ⟨true, [], [AV.agg [AV.sl [.int .i64, .int .i64, .int .i64, .int .i64] h0_0, AV.int .i64 h0_1, AV.sl [.int .i64] h0_2, AV.sl [.int .i64] h0_3, AV.sl [.int .i64, .int .i64] h0_4]]⟩)]⟩) (sumE (fun _ : Unit => k (.exit 0) ⟨[], [([0, 1], ⟨true, [], [AV.agg [AV.sl [.int .i64, .int .i64, .int .i64, .int .i64] h0_0, AV.int .i64 h0_1, AV.sl [.int .i64] h0_2, AV.sl [.int .i64] h0_3, AV.sl [.int .i64, .int .i64] h0_4]]⟩)]⟩) (fun p : Int × Int × Int × Int => k .ret ⟨[(2, AV.bool false)], [([0, 1], ⟨true, [], [AV.agg [AV.sl [.int .i64, .int .i64, .int .i64, .int .i64] h0_0, AV.int .i64 h0_1, AV.sl [.int .i64] h0_2, AV.sl [.int .i64] h0_3, AV.sl [.int .i64, .int .i64] h0_4]]⟩), ([1, 4], ⟨true, [], [AV.agg [AV.int .i64 p.1, AV.int .i64 p.2.1, AV.int .i64 p.2.2.1, AV.int .i64 p.2.2.2]]⟩)]⟩)) (st16_0 h0_0 h0_1 h0_2 h0_3 h0_4 ce k) _ t3
  · cases h
def q16 (a0_0 : List AV) (a0_1 : Int) (a0_2 : List AV) (a0_3 : List AV) (a0_4 : List AV) : Bool := (q67 a0_2 a0_3 a0_4 && (bif !(v67_0 a0_2 a0_3 a0_4) then true else (bif !decide ((a0_0.length : Int) = (a0_2.length : Int)) then true else (bif !(v68_0 a0_1 0 1000) then true else (ro (runW (R16_0 a0_0 a0_1 a0_2 a0_3 a0_4) (((a0_0.length : Int) - 0).toNat + 1) 0) false (sumE (fun _ => true) (fun p20 => true)))))))
def v16_0 (a0_0 : List AV) (a0_1 : Int) (a0_2 : List AV) (a0_3 : List AV) (a0_4 : List AV) : Bool := (bif !(v67_0 a0_2 a0_3 a0_4) then false else (bif !decide ((a0_0.length : Int) = (a0_2.length : Int)) then false else (bif !(v68_0 a0_1 0 1000) then false else (ro (runW (R16_0 a0_0 a0_1 a0_2 a0_3 a0_4) (((a0_0.length : Int) - 0).toNat + 1) 0) false (sumE (fun _ => true) (fun p20 => false))))))
theorem e16 (a0_0 : List AV) (a0_1 : Int) (a0_2 : List AV) (a0_3 : List AV) (a0_4 : List AV) : funA c16 0 16 [AV.agg [AV.sl [.int .i64, .int .i64, .int .i64, .int .i64] a0_0, AV.int .i64 a0_1, AV.sl [.int .i64] a0_2, AV.sl [.int .i64] a0_3, AV.sl [.int .i64, .int .i64] a0_4]] = (bif q67 a0_2 a0_3 a0_4 then (bif !(v67_0 a0_2 a0_3 a0_4) then some (AV.bool false)
   else (bif !decide ((a0_0.length : Int) = (a0_2.length : Int)) then some (AV.bool false)
    else (bif !(v68_0 a0_1 0 1000) then some (AV.bool false)
     else (ro (runW (R16_0 a0_0 a0_1 a0_2 a0_3 a0_4) (((a0_0.length : Int) - 0).toNat + 1) 0) none (sumE (fun _ => some (AV.bool true)) (fun p20 => some (AV.bool false)))))))
  else none) := by kernel_rfl
theorem r16 (a0_0 : List AV) (a0_1 : Int) (a0_2 : List AV) (a0_3 : List AV) (a0_4 : List AV) (h : q16 a0_0 a0_1 a0_2 a0_3 a0_4 = true) : funA c16 0 16 [AV.agg [AV.sl [.int .i64, .int .i64, .int .i64, .int .i64] a0_0, AV.int .i64 a0_1, AV.sl [.int .i64] a0_2, AV.sl [.int .i64] a0_3, AV.sl [.int .i64, .int .i64] a0_4]] = some (AV.bool (v16_0 a0_0 a0_1 a0_2 a0_3 a0_4)) := (e16 a0_0 a0_1 a0_2 a0_3 a0_4).trans ((brL (br (fun b => some (AV.bool (bif b then false else (bif !decide ((a0_0.length : Int) = (a0_2.length : Int)) then false else (bif !(v68_0 a0_1 0 1000) then false else (ro (runW (R16_0 a0_0 a0_1 a0_2 a0_3 a0_4) (((a0_0.length : Int) - 0).toNat + 1) 0) false (sumE (fun _ => true) (fun p20 => false)))))))) (fun _ => rfl) (br (fun b => some (AV.bool (bif b then false else (bif !(v68_0 a0_1 0 1000) then false else (ro (runW (R16_0 a0_0 a0_1 a0_2 a0_3 a0_4) (((a0_0.length : Int) - 0).toNat + 1) 0) false (sumE (fun _ => true) (fun p20 => false))))))) (fun _ => rfl) (br (fun b => some (AV.bool (bif b then false else (ro (runW (R16_0 a0_0 a0_1 a0_2 a0_3 a0_4) (((a0_0.length : Int) - 0).toNat + 1) 0) false (sumE (fun _ => true) (fun p20 => false)))))) (fun _ => rfl) (brO (fun o : Option (Unit ⊕ (Int × Int × Int × Int)) => some (AV.bool (ro o false (sumE (fun _ => true) (fun p20 => false))))) (brS (fun o : Unit ⊕ (Int × Int × Int × Int) => some (AV.bool ((sumE (fun _ => true) (fun p20 => false)) o))) (fun _ => (fun _ => rfl)) (fun p20 => (fun _ => rfl)))))))) h)
def m16 : TModel
  | [.agg [.sl g0 a0_0, .int .i64 a0_1, .sl g1 a0_2, .sl g2 a0_3, .sl g3 a0_4]] => bif ctsEq g0 ([.int .i64, .int .i64, .int .i64, .int .i64]) && ctsEq g1 ([.int .i64]) && ctsEq g2 ([.int .i64]) && ctsEq g3 ([.int .i64, .int .i64]) then some (q16 a0_0 a0_1 a0_2 a0_3 a0_4, AV.bool (v16_0 a0_0 a0_1 a0_2 a0_3 a0_4)) else none
  | _ => none
theorem k16 : Known Try.prog 16 := ⟨Try.f16, Try.func16, by kernel_rfl, by kernel_rfl⟩
theorem meets16 : Meets Try.prog 16 m16 := by
  refine meet (f := Try.f16) (l := [(0, sub [1, 1, 0, 1, 0, 0] (body Try.f16))]) (hs := [(16, 0, [1, 3]), (16, 999, [2]), (16, 1000, []), (16, 1001, [1, 3])]) (ts := [(67, m67), (68, m68), (69, m69)]) (ws := []) (is := []) (ls := [(16, 0, l16_0)]) (lvl := 0) mixed k16 Try.func16 (by kernel_rfl) (loops_cons ok16_0 noLoop) (allT_cons meets67 (allT_cons meets68 (allT_cons meets69 allT_nil))) allM_nil noI fun w xs us r hl hv h => ?_
  unfold m16 at h
  split at h
  · rename_i g0 a0_0 a0_1 g1 a0_2 g2 a0_3 g3 a0_4
    obtain ⟨hg, h⟩ := bif_pair h
    simp only [Bool.and_eq_true] at hg
    obtain ⟨⟨⟨q0, q1⟩, q2⟩, q3⟩ := hg
    obtain rfl := ctsEq_eq _ _ q0
    obtain rfl := ctsEq_eq _ _ q1
    obtain rfl := ctsEq_eq _ _ q2
    obtain rfl := ctsEq_eq _ _ q3
    obtain ⟨h1, rfl⟩ := pair_inj h
    exact r16 a0_0 a0_1 a0_2 a0_3 a0_4 h1
  · cases h

/-! ### 163 loop.example/g01984/impl.within$1 -/
noncomputable def c163 : Cfg := cfg Try.prog [(163, 999, [4])] [] [] [] []
def q163 (a0 : Int) (a1 : AV) (a2 : AV) : Bool := true
def v163_0 (a0 : Int) (a1 : AV) (a2 : AV) : Bool := (bif decide (a0 < fI a1 0) then true else decide (a0 > fI a2 0))
theorem e163 (a0 : Int) (a1 : AV) (a2 : AV) : funA c163 0 163 [AV.int .i64 a0, AV.rptr [.int .i64] a1 0, AV.rptr [.int .i64] a2 0] = (bif decide (a0 < fI a1 0) then some (AV.bool true)
  else some (AV.bool (decide (a0 > fI a2 0)))) := by kernel_rfl
theorem r163 (a0 : Int) (a1 : AV) (a2 : AV) : funA c163 0 163 [AV.int .i64 a0, AV.rptr [.int .i64] a1 0, AV.rptr [.int .i64] a2 0] = some (AV.bool (v163_0 a0 a1 a2)) := (e163 a0 a1 a2).trans (of_tt (brT (fun b => some (AV.bool (bif b then true else decide (a0 > fI a2 0)))) (fun _ => rfl) (fun _ => rfl)))
def m163 : TModel
  | [.int .i64 a0, .rptr g0 a1 g1, .rptr g2 a2 g3] => bif ctsEq g0 ([.int .i64]) && Nat.beq g1 0 && ctsEq g2 ([.int .i64]) && Nat.beq g3 0 then some (true, AV.bool (v163_0 a0 a1 a2)) else none
  | _ => none
theorem k163 : Known Try.prog 163 := ⟨Try.f163, Try.func163, by kernel_rfl, by kernel_rfl⟩
theorem meets163 : Meets Try.prog 163 m163 := by
  refine meet (f := Try.f163) (l := []) (hs := [(163, 999, [4])]) (ts := []) (ws := []) (is := []) (ls := []) (lvl := 0) mixed k163 Try.func163 (by kernel_rfl) noLoop allT_nil allM_nil noI fun w xs us r hl hv h => ?_
  unfold m163 at h
  split at h
  · rename_i a0 g0 a1 g1 g2 a2 g3
    obtain ⟨hg, h⟩ := bif_pair h
    simp only [Bool.and_eq_true] at hg
    obtain ⟨⟨⟨q0, q1⟩, q2⟩, q3⟩ := hg
    obtain rfl := ctsEq_eq _ _ q0
    obtain rfl := Nat.eq_of_beq_eq_true q1
    obtain rfl := ctsEq_eq _ _ q2
    obtain rfl := Nat.eq_of_beq_eq_true q3
    obtain ⟨h1, rfl⟩ := pair_inj h
    exact r163 a0 a1 a2
  · cases h

/-! ### 178 slices.IndexFunc[[]int,int] -/
def F178_0 (t0 : List AV) (t1_0 : AV) (t1_1 : AV) (t7 : Int) (t8 : Int) : Out (Int) (Unit ⊕ Int) := (bif decide (t8 < t7) then (bif (decide (0 ≤ t8) && decide (t8 < (t0.length : Int))) then (bif (v163_0 (fI (t0.getD t8.toNat AV.undef) 0) t1_0 t1_1) then .stop (.inr t8)
    else .next (IntKind.i64.wrap (t8 + 1)))
   else .fail)
  else .stop (.inl ()))
def R178_0 (t0 : List AV) (t1_0 : AV) (t1_1 : AV) (t7 : Int) : (Int) → Out (Int) (Unit ⊕ Int) := fun s : Int => F178_0 t0 t1_0 t1_1 t7 s
def l178_0 : LModel := fun _ _ st k => match st with
  | ⟨[(0, .sl g0 t0), (1, .fn g1 [.rptr g2 t1_0 g3, .rptr g4 t1_1 g5]), (7, .int .i64 t7), (8, .int .i64 t8)], []⟩ => bif ctsEq g0 ([.int .i64]) && Nat.beq g1 163 && ctsEq g2 ([.int .i64]) && Nat.beq g3 0 && ctsEq g4 ([.int .i64]) && Nat.beq g5 0 then ro (runW (R178_0 t0 t1_0 t1_1 t7) ((t7 - t8).toNat + 1) t8) none (sumE (fun _ : Unit => k (.exit 0) ⟨[], []⟩) (fun p : Int => k .ret ⟨[(4, AV.int .i64 p)], []⟩)) else none
  | _ => none
noncomputable def c178 : Cfg := cfg Try.prog [(178, 0, [0, 1, 7, 8]), (178, 999, [4]), (178, 1000, []), (178, 1001, [0, 1, 7, 8])] [(163, m163)] [] [] [(178, 0, l178_0)]
theorem s178_0 (ce : CallE) (t0 : List AV) (t1_0 : AV) (t1_1 : AV) (t7 : Int) (t8 : Int) (next : St → Option AV) (k : Kont) : stepA (codeA c178 ce [] 178 0 (sub [1, 0, 1, 0, 0] (body Try.f178))) (normA [] [0, 1, 7, 8]) next ⟨[(0, AV.sl [.int .i64] t0), (1, AV.fn 163 [AV.rptr [.int .i64] t1_0 0, AV.rptr [.int .i64] t1_1 0]), (7, AV.int .i64 t7), (8, AV.int .i64 t8)], []⟩ k = (bif decide (t8 < t7) then (bif (decide (0 ≤ t8) && decide (t8 < (t0.length : Int))) then (bif (v163_0 (fI (t0.getD t8.toNat AV.undef) 0) t1_0 t1_1) then k .ret ⟨[(4, AV.int .i64 t8)], []⟩
    else next ⟨[(0, AV.sl [.int .i64] t0), (1, AV.fn 163 [AV.rptr [.int .i64] t1_0 0, AV.rptr [.int .i64] t1_1 0]), (7, AV.int .i64 t7), (8, AV.int .i64 (IntKind.i64.wrap (t8 + 1)))], []⟩)
   else none)
  else k (.exit 0) ⟨[], []⟩) := by kernel_rfl
theorem st178_0 (t0 : List AV) (t1_0 : AV) (t1_1 : AV) (t7 : Int) (ce : CallE) (k : Kont) (s : Int) (next : St → Option AV) : stepA (codeA c178 ce [] 178 0 (sub [1, 0, 1, 0, 0] (body Try.f178))) (normA [] [0, 1, 7, 8]) next ((fun s : Int => ⟨[(0, AV.sl [.int .i64] t0), (1, AV.fn 163 [AV.rptr [.int .i64] t1_0 0, AV.rptr [.int .i64] t1_1 0]), (7, AV.int .i64 t7), (8, AV.int .i64 s)], []⟩) s) k = (R178_0 t0 t1_0 t1_1 t7 s).el none (fun s => next ((fun s : Int => ⟨[(0, AV.sl [.int .i64] t0), (1, AV.fn 163 [AV.rptr [.int .i64] t1_0 0, AV.rptr [.int .i64] t1_1 0]), (7, AV.int .i64 t7), (8, AV.int .i64 s)], []⟩) s)) (sumE (fun _ : Unit => k (.exit 0) ⟨[], []⟩) (fun p : Int => k .ret ⟨[(4, AV.int .i64 p)], []⟩)) := (s178_0 ce t0 t1_0 t1_1 t7 s next k).trans (by unfold R178_0; unfold F178_0; simp only [el_cond, el_ro, el_sum, el_fail, el_next, el_stop] <;> rfl)
theorem ok178_0 {ce : CallE} : LoopOK c178 ce [] 178 0 (sub [1, 0, 1, 0, 0] (body Try.f178)) := by
  intro m hm st k r h
  obtain rfl : l178_0 = m := Option.some.inj hm
  unfold l178_0 at h
  split at h
  · rename_i g0 t0 g1 g2 t1_0 g3 g4 t1_1 g5 t7 t8
    obtain ⟨hg, h⟩ := bif_some h
    simp only [Bool.and_eq_true] at hg
    obtain ⟨⟨⟨⟨⟨q0, q1⟩, q2⟩, q3⟩, q4⟩, q5⟩ := hg
    obtain rfl := ctsEq_eq _ _ q0
    obtain rfl := Nat.eq_of_beq_eq_true q1
    obtain rfl := ctsEq_eq _ _ q2
    obtain rfl := Nat.eq_of_beq_eq_true q3
    obtain rfl := ctsEq_eq _ _ q4
    obtain rfl := Nat.eq_of_beq_eq_true q5
    refine ⟨((t7 - t8).toNat + 1), ?_⟩
    rw [← h]
    exact loop_run (fun s : Int => ⟨[(0, AV.sl [.int .i64] t0), (1, AV.fn 163 [AV.rptr [.int .i64] t1_0 0, AV.rptr [.int .i64] t1_1 0]), (7, AV.int .i64 t7), (8, AV.int .i64 s)], []⟩) (sumE (fun _ : Unit => k (.exit 0) ⟨[], []⟩) (fun p : Int => k .ret ⟨[(4, AV.int .i64 p)], []⟩)) (st178_0 t0 t1_0 t1_1 t7 ce k) _ t8
  · cases h
def q178 (a0 : List AV) (a1_0 : AV) (a1_1 : AV) : Bool := (ro (runW (R178_0 a0 a1_0 a1_1 (a0.length : Int)) (((a0.length : Int) - 0).toNat + 1) 0) false (sumE (fun _ => true) (fun p22 => true)))
def v178_0 (a0 : List AV) (a1_0 : AV) (a1_1 : AV) : Int := (ro (runW (R178_0 a0 a1_0 a1_1 (a0.length : Int)) (((a0.length : Int) - 0).toNat + 1) 0) 0 (sumE (fun _ => (-1)) (fun p22 => p22)))
theorem e178 (a0 : List AV) (a1_0 : AV) (a1_1 : AV) : funA c178 0 178 [AV.sl [.int .i64] a0, AV.fn 163 [AV.rptr [.int .i64] a1_0 0, AV.rptr [.int .i64] a1_1 0]] = (ro (runW (R178_0 a0 a1_0 a1_1 (a0.length : Int)) (((a0.length : Int) - 0).toNat + 1) 0) none (sumE (fun _ => some (AV.int .i64 (-1))) (fun p22 => some (AV.int .i64 p22)))) := by kernel_rfl
theorem r178 (a0 : List AV) (a1_0 : AV) (a1_1 : AV) (h : q178 a0 a1_0 a1_1 = true) : funA c178 0 178 [AV.sl [.int .i64] a0, AV.fn 163 [AV.rptr [.int .i64] a1_0 0, AV.rptr [.int .i64] a1_1 0]] = some (AV.int .i64 (v178_0 a0 a1_0 a1_1)) := (e178 a0 a1_0 a1_1).trans ((brO (fun o : Option (Unit ⊕ Int) => some (AV.int .i64 (ro o 0 (sumE (fun _ => (-1)) (fun p22 => p22))))) (brS (fun o : Unit ⊕ Int => some (AV.int .i64 ((sumE (fun _ => (-1)) (fun p22 => p22)) o))) (fun _ => (fun _ => rfl)) (fun p22 => (fun _ => rfl)))) h)
def m178 : TModel
  | [.sl g0 a0, .fn g1 [.rptr g2 a1_0 g3, .rptr g4 a1_1 g5]] => bif ctsEq g0 ([.int .i64]) && Nat.beq g1 163 && ctsEq g2 ([.int .i64]) && Nat.beq g3 0 && ctsEq g4 ([.int .i64]) && Nat.beq g5 0 then some (q178 a0 a1_0 a1_1, AV.int .i64 (v178_0 a0 a1_0 a1_1)) else none
  | _ => none
theorem k178 : Known Try.prog 178 := ⟨Try.f178, Try.func178, by kernel_rfl, by kernel_rfl⟩
theorem meets178 : Meets Try.prog 178 m178 := by
  refine meet (f := Try.f178) (l := [(0, sub [1, 0, 1, 0, 0] (body Try.f178))]) (hs := [(178, 0, [0, 1, 7, 8]), (178, 999, [4]), (178, 1000, []), (178, 1001, [0, 1, 7, 8])]) (ts := [(163, m163)]) (ws := []) (is := []) (ls := [(178, 0, l178_0)]) (lvl := 0) mixed k178 Try.func178 (by kernel_rfl) (loops_cons ok178_0 noLoop) (allT_cons meets163 allT_nil) allM_nil noI fun w xs us r hl hv h => ?_
  unfold m178 at h
  split at h
  · rename_i g0 a0 g1 g2 a1_0 g3 g4 a1_1 g5
    obtain ⟨hg, h⟩ := bif_pair h
    simp only [Bool.and_eq_true] at hg
    obtain ⟨⟨⟨⟨⟨q0, q1⟩, q2⟩, q3⟩, q4⟩, q5⟩ := hg
    obtain rfl := ctsEq_eq _ _ q0
    obtain rfl := Nat.eq_of_beq_eq_true q1
    obtain rfl := ctsEq_eq _ _ q2
    obtain rfl := Nat.eq_of_beq_eq_true q3
    obtain rfl := ctsEq_eq _ _ q4
    obtain rfl := Nat.eq_of_beq_eq_true q5
    obtain ⟨h1, rfl⟩ := pair_inj h
    exact r178 a0 a1_0 a1_1 h1
  · cases h

/-! ### 162 slices.ContainsFunc[[]int,int] -/
noncomputable def c162 : Cfg := cfg Try.prog [(162, 999, [4])] [(178, m178)] [] [] []
def q162 (a0 : List AV) (a1_0 : AV) (a1_1 : AV) : Bool := q178 a0 a1_0 a1_1
def v162_0 (a0 : List AV) (a1_0 : AV) (a1_1 : AV) : Bool := decide ((v178_0 a0 a1_0 a1_1) ≥ 0)
theorem e162 (a0 : List AV) (a1_0 : AV) (a1_1 : AV) : funA c162 0 162 [AV.sl [.int .i64] a0, AV.fn 163 [AV.rptr [.int .i64] a1_0 0, AV.rptr [.int .i64] a1_1 0]] = (bif q178 a0 a1_0 a1_1 then some (AV.bool (decide ((v178_0 a0 a1_0 a1_1) ≥ 0)))
  else none) := by kernel_rfl
theorem r162 (a0 : List AV) (a1_0 : AV) (a1_1 : AV) (h : q162 a0 a1_0 a1_1 = true) : funA c162 0 162 [AV.sl [.int .i64] a0, AV.fn 163 [AV.rptr [.int .i64] a1_0 0, AV.rptr [.int .i64] a1_1 0]] = some (AV.bool (v162_0 a0 a1_0 a1_1)) := (e162 a0 a1_0 a1_1).trans ((brL1 (fun _ => rfl)) h)
def m162 : TModel
  | [.sl g0 a0, .fn g1 [.rptr g2 a1_0 g3, .rptr g4 a1_1 g5]] => bif ctsEq g0 ([.int .i64]) && Nat.beq g1 163 && ctsEq g2 ([.int .i64]) && Nat.beq g3 0 && ctsEq g4 ([.int .i64]) && Nat.beq g5 0 then some (q162 a0 a1_0 a1_1, AV.bool (v162_0 a0 a1_0 a1_1)) else none
  | _ => none
theorem k162 : Known Try.prog 162 := ⟨Try.f162, Try.func162, by kernel_rfl, by kernel_rfl⟩
theorem meets162 : Meets Try.prog 162 m162 := by
  refine meet (f := Try.f162) (l := []) (hs := [(162, 999, [4])]) (ts := [(178, m178)]) (ws := []) (is := []) (ls := []) (lvl := 0) mixed k162 Try.func162 (by kernel_rfl) noLoop (allT_cons meets178 allT_nil) allM_nil noI fun w xs us r hl hv h => ?_
  unfold m162 at h
  split at h
  · rename_i g0 a0 g1 g2 a1_0 g3 g4 a1_1 g5
    obtain ⟨hg, h⟩ := bif_pair h
    simp only [Bool.and_eq_true] at hg
    obtain ⟨⟨⟨⟨⟨q0, q1⟩, q2⟩, q3⟩, q4⟩, q5⟩ := hg
    obtain rfl := ctsEq_eq _ _ q0
    obtain rfl := Nat.eq_of_beq_eq_true q1
    obtain rfl := ctsEq_eq _ _ q2
    obtain rfl := Nat.eq_of_beq_eq_true q3
    obtain rfl := ctsEq_eq _ _ q4
    obtain rfl := Nat.eq_of_beq_eq_true q5
    obtain ⟨h1, rfl⟩ := pair_inj h
    exact r162 a0 a1_0 a1_1 h1
  · cases h

/-! ### 124 loop.example/g01984/impl.within -/
noncomputable def c124 : Cfg := cfg Try.prog [(124, 999, [6])] [(162, m162)] [] [] []
def q124 (a0 : List AV) (a1 : Int) (a2 : Int) : Bool := q162 a0 (AV.int .i64 a1) (AV.int .i64 a2)
def v124_0 (a0 : List AV) (a1 : Int) (a2 : Int) : Bool := !(v162_0 a0 (AV.int .i64 a1) (AV.int .i64 a2))
theorem e124 (a0 : List AV) (a1 : Int) (a2 : Int) : funA c124 0 124 [AV.sl [.int .i64] a0, AV.int .i64 a1, AV.int .i64 a2] = (bif q162 a0 (AV.int .i64 a1) (AV.int .i64 a2) then some (AV.bool (!(v162_0 a0 (AV.int .i64 a1) (AV.int .i64 a2))))
  else none) := by kernel_rfl
theorem r124 (a0 : List AV) (a1 : Int) (a2 : Int) (h : q124 a0 a1 a2 = true) : funA c124 0 124 [AV.sl [.int .i64] a0, AV.int .i64 a1, AV.int .i64 a2] = some (AV.bool (v124_0 a0 a1 a2)) := (e124 a0 a1 a2).trans ((brL1 (fun _ => rfl)) h)
def m124 : TModel
  | [.sl g0 a0, .int .i64 a1, .int .i64 a2] => bif ctsEq g0 ([.int .i64]) then some (q124 a0 a1 a2, AV.bool (v124_0 a0 a1 a2)) else none
  | _ => none
theorem k124 : Known Try.prog 124 := ⟨Try.f124, Try.func124, by kernel_rfl, by kernel_rfl⟩
theorem meets124 : Meets Try.prog 124 m124 := by
  refine meet (f := Try.f124) (l := []) (hs := [(124, 999, [6])]) (ts := [(162, m162)]) (ws := []) (is := []) (ls := []) (lvl := 0) mixed k124 Try.func124 (by kernel_rfl) noLoop (allT_cons meets162 allT_nil) allM_nil noI fun w xs us r hl hv h => ?_
  unfold m124 at h
  split at h
  · rename_i g0 a0 a1 a2
    obtain ⟨hg, h⟩ := bif_pair h
    have q0 := hg
    obtain rfl := ctsEq_eq _ _ q0
    obtain ⟨h1, rfl⟩ := pair_inj h
    exact r124 a0 a1 a2 h1
  · cases h

/-! ### 105 loop.example/g01984/impl.AreValues -/
noncomputable def c105 : Cfg := cfg Try.prog [(105, 999, [2])] [(124, m124)] [] [] []
def q105 (a0 : List AV) : Bool := (bif decide ((a0.length : Int) ≤ 64) then q124 a0 (-999) 999 else true)
def v105_0 (a0 : List AV) : Bool := (bif decide ((a0.length : Int) ≤ 64) then (v124_0 a0 (-999) 999) else false)
theorem e105 (a0 : List AV) : funA c105 0 105 [AV.sl [.int .i64] a0] = (bif decide ((a0.length : Int) ≤ 64) then (bif q124 a0 (-999) 999 then some (AV.bool (v124_0 a0 (-999) 999))
   else none)
  else some (AV.bool false)) := by kernel_rfl
theorem r105 (a0 : List AV) (h : q105 a0 = true) : funA c105 0 105 [AV.sl [.int .i64] a0] = some (AV.bool (v105_0 a0)) := (e105 a0).trans ((br (fun b => some (AV.bool (bif b then (v124_0 a0 (-999) 999) else false))) (brL1 (fun _ => rfl)) (fun _ => rfl)) h)
def m105 : TModel
  | [.sl g0 a0] => bif ctsEq g0 ([.int .i64]) then some (q105 a0, AV.bool (v105_0 a0)) else none
  | _ => none
theorem k105 : Known Try.prog 105 := ⟨Try.f105, Try.func105, by kernel_rfl, by kernel_rfl⟩
theorem meets105 : Meets Try.prog 105 m105 := by
  refine meet (f := Try.f105) (l := []) (hs := [(105, 999, [2])]) (ts := [(124, m124)]) (ws := []) (is := []) (ls := []) (lvl := 0) mixed k105 Try.func105 (by kernel_rfl) noLoop (allT_cons meets124 allT_nil) allM_nil noI fun w xs us r hl hv h => ?_
  unfold m105 at h
  split at h
  · rename_i g0 a0
    obtain ⟨hg, h⟩ := bif_pair h
    have q0 := hg
    obtain rfl := ctsEq_eq _ _ q0
    obtain ⟨h1, rfl⟩ := pair_inj h
    exact r105 a0 h1
  · cases h

/-! ### 90 slices.Index[[]int,int] -/
def F90_0 (t0 : List AV) (t1 : Int) (t7 : Int) (t8 : Int) : Out (Int) (Unit ⊕ Int) := (bif decide (t8 < t7) then (bif (decide (0 ≤ t8) && decide (t8 < (t0.length : Int))) then (bif decide (t1 = fI (t0.getD t8.toNat AV.undef) 0) then .stop (.inr t8)
    else .next (IntKind.i64.wrap (t8 + 1)))
   else .fail)
  else .stop (.inl ()))
def R90_0 (t0 : List AV) (t1 : Int) (t7 : Int) : (Int) → Out (Int) (Unit ⊕ Int) := fun s : Int => F90_0 t0 t1 t7 s
def l90_0 : LModel := fun _ _ st k => match st with
  | ⟨[(0, .sl g0 t0), (1, .int .i64 t1), (7, .int .i64 t7), (8, .int .i64 t8)], []⟩ => bif ctsEq g0 ([.int .i64]) then ro (runW (R90_0 t0 t1 t7) ((t7 - t8).toNat + 1) t8) none (sumE (fun _ : Unit => k (.exit 0) ⟨[], []⟩) (fun p : Int => k .ret ⟨[(4, AV.int .i64 p)], []⟩)) else none
  | _ => none
noncomputable def c90 : Cfg := cfg Try.prog [(90, 0, [0, 1, 7, 8]), (90, 999, [4]), (90, 1000, []), (90, 1001, [0, 1, 7, 8])] [] [] [] [(90, 0, l90_0)]
theorem s90_0 (ce : CallE) (t0 : List AV) (t1 : Int) (t7 : Int) (t8 : Int) (next : St → Option AV) (k : Kont) : stepA (codeA c90 ce [] 90 0 (sub [1, 0, 1, 0, 0] (body Try.f90))) (normA [] [0, 1, 7, 8]) next ⟨[(0, AV.sl [.int .i64] t0), (1, AV.int .i64 t1), (7, AV.int .i64 t7), (8, AV.int .i64 t8)], []⟩ k = (bif decide (t8 < t7) then (bif (decide (0 ≤ t8) && decide (t8 < (t0.length : Int))) then (bif decide (t1 = fI (t0.getD t8.toNat AV.undef) 0) then k .ret ⟨[(4, AV.int .i64 t8)], []⟩
    else next ⟨[(0, AV.sl [.int .i64] t0), (1, AV.int .i64 t1), (7, AV.int .i64 t7), (8, AV.int .i64 (IntKind.i64.wrap (t8 + 1)))], []⟩)
   else none)
  else k (.exit 0) ⟨[], []⟩) := by kernel_rfl
theorem st90_0 (t0 : List AV) (t1 : Int) (t7 : Int) (ce : CallE) (k : Kont) (s : Int) (next : St → Option AV) : stepA (codeA c90 ce [] 90 0 (sub [1, 0, 1, 0, 0] (body Try.f90))) (normA [] [0, 1, 7, 8]) next ((fun s : Int => ⟨[(0, AV.sl [.int .i64] t0), (1, AV.int .i64 t1), (7, AV.int .i64 t7), (8, AV.int .i64 s)], []⟩) s) k = (R90_0 t0 t1 t7 s).el none (fun s => next ((fun s : Int => ⟨[(0, AV.sl [.int .i64] t0), (1, AV.int .i64 t1), (7, AV.int .i64 t7), (8, AV.int .i64 s)], []⟩) s)) (sumE (fun _ : Unit => k (.exit 0) ⟨[], []⟩) (fun p : Int => k .ret ⟨[(4, AV.int .i64 p)], []⟩)) := (s90_0 ce t0 t1 t7 s next k).trans (by unfold R90_0; unfold F90_0; simp only [el_cond, el_ro, el_sum, el_fail, el_next, el_stop] <;> rfl)
theorem ok90_0 {ce : CallE} : LoopOK c90 ce [] 90 0 (sub [1, 0, 1, 0, 0] (body Try.f90)) := by
  intro m hm st k r h
  obtain rfl : l90_0 = m := Option.some.inj hm
  unfold l90_0 at h
  split at h
  · rename_i g0 t0 t1 t7 t8
    obtain ⟨hg, h⟩ := bif_some h
    have q0 := hg
    obtain rfl := ctsEq_eq _ _ q0
    refine ⟨((t7 - t8).toNat + 1), ?_⟩
    rw [← h]
    exact loop_run (fun s : Int => ⟨[(0, AV.sl [.int .i64] t0), (1, AV.int .i64 t1), (7, AV.int .i64 t7), (8, AV.int .i64 s)], []⟩) (sumE (fun _ : Unit => k (.exit 0) ⟨[], []⟩) (fun p : Int => k .ret ⟨[(4, AV.int .i64 p)], []⟩)) (st90_0 t0 t1 t7 ce k) _ t8
  · cases h
def q90 (a0 : List AV) (a1 : Int) : Bool := (ro (runW (R90_0 a0 a1 (a0.length : Int)) (((a0.length : Int) - 0).toNat + 1) 0) false (sumE (fun _ => true) (fun p24 => true)))
def v90_0 (a0 : List AV) (a1 : Int) : Int := (ro (runW (R90_0 a0 a1 (a0.length : Int)) (((a0.length : Int) - 0).toNat + 1) 0) 0 (sumE (fun _ => (-1)) (fun p24 => p24)))
theorem e90 (a0 : List AV) (a1 : Int) : funA c90 0 90 [AV.sl [.int .i64] a0, AV.int .i64 a1] = (ro (runW (R90_0 a0 a1 (a0.length : Int)) (((a0.length : Int) - 0).toNat + 1) 0) none (sumE (fun _ => some (AV.int .i64 (-1))) (fun p24 => some (AV.int .i64 p24)))) := by kernel_rfl
theorem r90 (a0 : List AV) (a1 : Int) (h : q90 a0 a1 = true) : funA c90 0 90 [AV.sl [.int .i64] a0, AV.int .i64 a1] = some (AV.int .i64 (v90_0 a0 a1)) := (e90 a0 a1).trans ((brO (fun o : Option (Unit ⊕ Int) => some (AV.int .i64 (ro o 0 (sumE (fun _ => (-1)) (fun p24 => p24))))) (brS (fun o : Unit ⊕ Int => some (AV.int .i64 ((sumE (fun _ => (-1)) (fun p24 => p24)) o))) (fun _ => (fun _ => rfl)) (fun p24 => (fun _ => rfl)))) h)
def m90 : TModel
  | [.sl g0 a0, .int .i64 a1] => bif ctsEq g0 ([.int .i64]) then some (q90 a0 a1, AV.int .i64 (v90_0 a0 a1)) else none
  | _ => none
theorem k90 : Known Try.prog 90 := ⟨Try.f90, Try.func90, by kernel_rfl, by kernel_rfl⟩
theorem meets90 : Meets Try.prog 90 m90 := by
  refine meet (f := Try.f90) (l := [(0, sub [1, 0, 1, 0, 0] (body Try.f90))]) (hs := [(90, 0, [0, 1, 7, 8]), (90, 999, [4]), (90, 1000, []), (90, 1001, [0, 1, 7, 8])]) (ts := []) (ws := []) (is := []) (ls := [(90, 0, l90_0)]) (lvl := 0) mixed k90 Try.func90 (by kernel_rfl) (loops_cons ok90_0 noLoop) allT_nil allM_nil noI fun w xs us r hl hv h => ?_
  unfold m90 at h
  split at h
  · rename_i g0 a0 a1
    obtain ⟨hg, h⟩ := bif_pair h
    have q0 := hg
    obtain rfl := ctsEq_eq _ _ q0
    obtain ⟨h1, rfl⟩ := pair_inj h
    exact r90 a0 a1 h1
  · cases h

/-! ### 125 slices.Contains[[]int,int] -/
noncomputable def c125 : Cfg := cfg Try.prog [(125, 999, [4])] [(90, m90)] [] [] []
def q125 (a0 : List AV) (a1 : Int) : Bool := q90 a0 a1
def v125_0 (a0 : List AV) (a1 : Int) : Bool := decide ((v90_0 a0 a1) ≥ 0)
theorem e125 (a0 : List AV) (a1 : Int) : funA c125 0 125 [AV.sl [.int .i64] a0, AV.int .i64 a1] = (bif q90 a0 a1 then some (AV.bool (decide ((v90_0 a0 a1) ≥ 0)))
  else none) := by kernel_rfl
theorem r125 (a0 : List AV) (a1 : Int) (h : q125 a0 a1 = true) : funA c125 0 125 [AV.sl [.int .i64] a0, AV.int .i64 a1] = some (AV.bool (v125_0 a0 a1)) := (e125 a0 a1).trans ((brL1 (fun _ => rfl)) h)
def m125 : TModel
  | [.sl g0 a0, .int .i64 a1] => bif ctsEq g0 ([.int .i64]) then some (q125 a0 a1, AV.bool (v125_0 a0 a1)) else none
  | _ => none
theorem k125 : Known Try.prog 125 := ⟨Try.f125, Try.func125, by kernel_rfl, by kernel_rfl⟩
theorem meets125 : Meets Try.prog 125 m125 := by
  refine meet (f := Try.f125) (l := []) (hs := [(125, 999, [4])]) (ts := [(90, m90)]) (ws := []) (is := []) (ls := []) (lvl := 0) mixed k125 Try.func125 (by kernel_rfl) noLoop (allT_cons meets90 allT_nil) allM_nil noI fun w xs us r hl hv h => ?_
  unfold m125 at h
  split at h
  · rename_i g0 a0 a1
    obtain ⟨hg, h⟩ := bif_pair h
    have q0 := hg
    obtain rfl := ctsEq_eq _ _ q0
    obtain ⟨h1, rfl⟩ := pair_inj h
    exact r125 a0 a1 h1
  · cases h

/-! ### 98 loop.example/g01984/impl.bound -/
noncomputable def c98 : Cfg := cfg Try.prog [(98, 999, [2])] [] [] [] []
def q98 (a0 : Int) : Bool := true
def v98_0 (a0 : Int) : Bool := (bif decide (a0 ≥ (-1000)) then decide (a0 ≤ 1000) else false)
theorem e98 (a0 : Int) : funA c98 0 98 [AV.int .i64 a0] = (bif decide (a0 ≥ (-1000)) then some (AV.bool (decide (a0 ≤ 1000)))
  else some (AV.bool false)) := by kernel_rfl
theorem r98 (a0 : Int) : funA c98 0 98 [AV.int .i64 a0] = some (AV.bool (v98_0 a0)) := (e98 a0).trans (of_tt (brT (fun b => some (AV.bool (bif b then decide (a0 ≤ 1000) else false))) (fun _ => rfl) (fun _ => rfl)))
def m98 : TModel
  | [.int .i64 a0] => some (true, AV.bool (v98_0 a0))
  | _ => none
theorem k98 : Known Try.prog 98 := ⟨Try.f98, Try.func98, by kernel_rfl, by kernel_rfl⟩
theorem meets98 : Meets Try.prog 98 m98 := by
  refine meet (f := Try.f98) (l := []) (hs := [(98, 999, [2])]) (ts := []) (ws := []) (is := []) (ls := []) (lvl := 0) mixed k98 Try.func98 (by kernel_rfl) noLoop allT_nil allM_nil noI fun w xs us r hl hv h => ?_
  unfold m98 at h
  split at h
  · rename_i a0
    obtain ⟨h1, rfl⟩ := pair_inj h
    exact r98 a0
  · cases h

/-! ### 71 loop.example/g01984/impl.IsCracker -/
def F71_4 (t50 : List AV) (t51 : Int) (t52 : Int) (t103 : List AV) (t104 : Int) (h0_0 : List AV) (h0_1 : List AV) (h0_2 : List AV) (h1_0 : Int) (h1_1 : Int) (t105 : Int) : Out (Int) (Unit ⊕ Unit) := (bif decide (t105 < t104) then (bif (decide (0 ≤ t105) && decide (t105 < (t103.length : Int))) then (bif !(decide (fI (t103.getD t105.toNat AV.undef) 0 < h1_0) == decide (t105 < h1_1)) then .stop (.inr ())
    else .next (IntKind.i64.wrap (t105 + 1)))
   else .fail)
  else .stop (.inl ()))
def R71_4 (t50 : List AV) (t51 : Int) (t52 : Int) (t103 : List AV) (t104 : Int) (h0_0 : List AV) (h0_1 : List AV) (h0_2 : List AV) (h1_0 : Int) (h1_1 : Int) : (Int) → Out (Int) (Unit ⊕ Unit) := fun s : Int => F71_4 t50 t51 t52 t103 t104 h0_0 h0_1 h0_2 h1_0 h1_1 s
def l71_4 : LModel := fun _ _ st k => match st with
  | ⟨[(1, .ptr g0 g1 g2), (6, .ptr g3 g4 g5), (50, .sl g6 t50), (51, .int .i64 t51), (52, .int .i64 t52), (103, .sl g7 t103), (104, .int .i64 t104), (105, .int .i64 t105)], [(g8, ⟨true, [], [.agg [.sl g9 h0_0, .sl g10 h0_1, .sl g11 h0_2]]⟩), (g12, ⟨true, [], [.agg [.int .i64 h1_0, .int .i64 h1_1]]⟩)]⟩ => bif nmEq g0 ([0, 1]) && Nat.beq g1 0 && Nat.beq g2 0 && nmEq g3 ([0, 6]) && Nat.beq g4 0 && Nat.beq g5 0 && ctsEq g6 ([.int .i64, .int .i64]) && ctsEq g7 ([.int .i64]) && nmEq g8 ([0, 1]) && ctsEq g9 ([.int .i64]) && ctsEq g10 ([.int .i64]) && ctsEq g11 ([.int .i64, .int .i64]) && nmEq g12 ([0, 6]) then ro (runW (R71_4 t50 t51 t52 t103 t104 h0_0 h0_1 h0_2 h1_0 h1_1) ((t104 - t105).toNat + 1) t105) none (sumE (fun _ : Unit => k (.exit 4) ⟨[(1, AV.ptr [0, 1] 0 0), (50, AV.sl [.int .i64, .int .i64] t50), (51, AV.int .i64 t51), (52, AV.int .i64 t52)], [([0, 1], ⟨true, [], [AV.agg [AV.sl [.int .i64] h0_0, AV.sl [.int .i64] h0_1, AV.sl [.int .i64, .int .i64] h0_2]]⟩), ([0, 6], ⟨true, [], [AV.agg [AV.int .i64 h1_0, AV.int .i64 h1_1]]⟩)]⟩) (fun _ : Unit => k .ret ⟨[(2, AV.bool false)], [([0, 1], ⟨true, [], [AV.agg [AV.sl [.int .i64] h0_0, AV.sl [.int .i64] h0_1, AV.sl [.int .i64, .int .i64] h0_2]]⟩), ([0, 6], ⟨true, [], [AV.agg [AV.int .i64 h1_0, AV.int .i64 h1_1]]⟩)]⟩)) else none
  | _ => none
def F71_2 (t50 : List AV) (t51 : Int) (h0_0 : List AV) (h0_1 : List AV) (h0_2 : List AV) (t52 : Int) : Out (Int) (Unit ⊕ (Int × Int) ⊕ (Int × Int)) := (bif decide (t52 < t51) then (bif (decide (0 ≤ t52) && decide (t52 < (t50.length : Int))) then (bif !(v98_0 (fI (t50.getD t52.toNat AV.undef) 0)) then .stop (.inr (.inl (fI (t50.getD t52.toNat AV.undef) 0, fI (t50.getD t52.toNat AV.undef) 1)))
    else (bif decide (fI (t50.getD t52.toNat AV.undef) 1 < 0) then .stop (.inr (.inl (fI (t50.getD t52.toNat AV.undef) 0, fI (t50.getD t52.toNat AV.undef) 1)))
     else (bif decide (fI (t50.getD t52.toNat AV.undef) 1 > (h0_0.length : Int)) then .stop (.inr (.inl (fI (t50.getD t52.toNat AV.undef) 0, fI (t50.getD t52.toNat AV.undef) 1)))
      else (bif decide (t52 > 0) then (bif (decide (0 ≤ IntKind.i64.wrap (t52 - 1)) && decide (IntKind.i64.wrap (t52 - 1) < (h0_2.length : Int))) then (bif decide (fI (t50.getD t52.toNat AV.undef) 0 ≤ fI (h0_2.getD (IntKind.i64.wrap (t52 - 1)).toNat AV.undef) 0) then .stop (.inr (.inl (fI (t50.getD t52.toNat AV.undef) 0, fI (t50.getD t52.toNat AV.undef) 1)))
         else (bif (decide (0 ≤ IntKind.i64.wrap (t52 - 1)) && decide (IntKind.i64.wrap (t52 - 1) < (h0_2.length : Int))) then (bif decide (fI (t50.getD t52.toNat AV.undef) 1 < fI (h0_2.getD (IntKind.i64.wrap (t52 - 1)).toNat AV.undef) 1) then .stop (.inr (.inl (fI (t50.getD t52.toNat AV.undef) 0, fI (t50.getD t52.toNat AV.undef) 1)))
           else (ro (runW (R71_4 t50 t51 t52 h0_0 (h0_0.length : Int) h0_0 h0_1 h0_2 (fI (t50.getD t52.toNat AV.undef) 0) (fI (t50.getD t52.toNat AV.undef) 1)) (((h0_0.length : Int) - 0).toNat + 1) 0) .fail (sumE (fun _ => .next (IntKind.i64.wrap (t52 + 1))) (fun _ => .stop (.inr (.inr (fI (t50.getD t52.toNat AV.undef) 0, fI (t50.getD t52.toNat AV.undef) 1)))))))
          else .fail))
        else .fail)
       else (ro (runW (R71_4 t50 t51 t52 h0_0 (h0_0.length : Int) h0_0 h0_1 h0_2 (fI (t50.getD t52.toNat AV.undef) 0) (fI (t50.getD t52.toNat AV.undef) 1)) (((h0_0.length : Int) - 0).toNat + 1) 0) .fail (sumE (fun _ => .next (IntKind.i64.wrap (t52 + 1))) (fun _ => .stop (.inr (.inr (fI (t50.getD t52.toNat AV.undef) 0, fI (t50.getD t52.toNat AV.undef) 1))))))))))
   else .fail)
  else .stop (.inl ()))
def R71_2 (t50 : List AV) (t51 : Int) (h0_0 : List AV) (h0_1 : List AV) (h0_2 : List AV) : (Int) → Out (Int) (Unit ⊕ (Int × Int) ⊕ (Int × Int)) := fun s : Int => F71_2 t50 t51 h0_0 h0_1 h0_2 s
def l71_2 : LModel := fun _ _ st k => match st with
  | ⟨[(1, .ptr g0 g1 g2), (50, .sl g3 t50), (51, .int .i64 t51), (52, .int .i64 t52)], [(g4, ⟨true, [], [.agg [.sl g5 h0_0, .sl g6 h0_1, .sl g7 h0_2]]⟩)]⟩ => bif nmEq g0 ([0, 1]) && Nat.beq g1 0 && Nat.beq g2 0 && ctsEq g3 ([.int .i64, .int .i64]) && nmEq g4 ([0, 1]) && ctsEq g5 ([.int .i64]) && ctsEq g6 ([.int .i64]) && ctsEq g7 ([.int .i64, .int .i64]) then ro (runW (R71_2 t50 t51 h0_0 h0_1 h0_2) ((t51 - t52).toNat + 1) t52) none (sumE (fun _ : Unit => k (.exit 2) ⟨[], [([0, 1], ⟨true, [], [AV.agg [AV.sl [.int .i64] h0_0, AV.sl [.int .i64] h0_1, AV.sl [.int .i64, .int .i64] h0_2]]⟩)]⟩) (sumE (fun p : Int × Int => k .ret ⟨[(2, AV.bool false)], [([0, 1], ⟨true, [], [AV.agg [AV.sl [.int .i64] h0_0, AV.sl [.int .i64] h0_1, AV.sl [.int .i64, .int .i64] h0_2]]⟩), ([1, 6], ⟨true, [], [AV.agg [AV.int .i64 p.1, AV.int .i64 p.2]]⟩)]⟩) (fun p : Int × Int => k .ret ⟨[(2, AV.bool false)], [([0, 1], ⟨true, [], [AV.agg [AV.sl [.int .i64] h0_0, AV.sl [.int .i64] h0_1, AV.sl [.int .i64, .int .i64] h0_2]]⟩), ([0, 6], ⟨true, [], [AV.agg [AV.int .i64 p.1, AV.int .i64 p.2]]⟩)]⟩))) else none
  | _ => none
def F71_0 (t35 : List AV) (t36 : Int) (h0_0 : List AV) (h0_1 : List AV) (h0_2 : List AV) (t37 : Int) : Out (Int) (Unit ⊕ Unit) := (bif decide (t37 < t36) then (bif (decide (0 ≤ t37) && decide (t37 < (t35.length : Int))) then (bif (decide (0 ≤ 0) && decide (0 ≤ t37) && decide (t37 ≤ (h0_1.length : Int))) then (bif q125 ((h0_1.take (Int.toNat t37)).drop (Int.toNat 0)) (fI (t35.getD t37.toNat AV.undef) 0) then (bif (v125_0 ((h0_1.take (Int.toNat t37)).drop (Int.toNat 0)) (fI (t35.getD t37.toNat AV.undef) 0)) then .stop (.inr ())
      else .next (IntKind.i64.wrap (t37 + 1)))
     else .fail)
    else .fail)
   else .fail)
  else .stop (.inl ()))
def R71_0 (t35 : List AV) (t36 : Int) (h0_0 : List AV) (h0_1 : List AV) (h0_2 : List AV) : (Int) → Out (Int) (Unit ⊕ Unit) := fun s : Int => F71_0 t35 t36 h0_0 h0_1 h0_2 s
def l71_0 : LModel := fun _ _ st k => match st with
  | ⟨[(1, .ptr g0 g1 g2), (35, .sl g3 t35), (36, .int .i64 t36), (37, .int .i64 t37)], [(g4, ⟨true, [], [.agg [.sl g5 h0_0, .sl g6 h0_1, .sl g7 h0_2]]⟩)]⟩ => bif nmEq g0 ([0, 1]) && Nat.beq g1 0 && Nat.beq g2 0 && ctsEq g3 ([.int .i64]) && nmEq g4 ([0, 1]) && ctsEq g5 ([.int .i64]) && ctsEq g6 ([.int .i64]) && ctsEq g7 ([.int .i64, .int .i64]) then ro (runW (R71_0 t35 t36 h0_0 h0_1 h0_2) ((t36 - t37).toNat + 1) t37) none (sumE (fun _ : Unit => k (.exit 0) ⟨[(1, AV.ptr [0, 1] 0 0)], [([0, 1], ⟨true, [], [AV.agg [AV.sl [.int .i64] h0_0, AV.sl [.int .i64] h0_1, AV.sl [.int .i64, .int .i64] h0_2]]⟩)]⟩) (fun _ : Unit => k .ret ⟨[(2, AV.bool false)], [([0, 1], ⟨true, [], [AV.agg [AV.sl [.int .i64] h0_0, AV.sl [.int .i64] h0_1, AV.sl [.int .i64, .int .i64] h0_2]]⟩)]⟩)) else none
  | _ => none
noncomputable def c71 : Cfg := cfg Try.prog [(71, 0, [1, 35, 36, 37]), (71, 2, [1, 50, 51, 52]), (71, 4, [1, 6, 50, 51, 52, 103, 104, 105]), (71, 999, [2]), (71, 1000, [1]), (71, 1001, [1, 35, 36, 37]), (71, 1002, []), (71, 1003, [1, 50, 51, 52]), (71, 1004, [1, 50, 51, 52]), (71, 1005, [1, 6, 50, 51, 52, 103, 104, 105])] [(98, m98), (105, m105), (124, m124), (125, m125)] [] [] [(71, 0, l71_0), (71, 2, l71_2), (71, 4, l71_4)]
theorem s71_4 (ce : CallE) (t50 : List AV) (t51 : Int) (t52 : Int) (t103 : List AV) (t104 : Int) (t105 : Int) (h0_0 : List AV) (h0_1 : List AV) (h0_2 : List AV) (h1_0 : Int) (h1_1 : Int) (next : St → Option AV) (k : Kont) : stepA (codeA c71 ce [] 71 4 (sub [1, 1, 1, 0, 1, 0, 0, 1, 1, 0, 0, 1, 1, 1, 0, 0] (body Try.f71))) (normA [] [1, 6, 50, 51, 52, 103, 104, 105]) next ⟨[(1, AV.ptr [0, 1] 0 0), (6, AV.ptr [0, 6] 0 0), (50, AV.sl [.int .i64, .int .i64] t50), (51, AV.int .i64 t51), (52, AV.int .i64 t52), (103, AV.sl [.int .i64] t103), (104, AV.int .i64 t104), (105, AV.int .i64 t105)], [([0, 1], ⟨true, [], [AV.agg [AV.sl [.int .i64] h0_0, AV.sl [.int .i64] h0_1, AV.sl [.int .i64, .int .i64] h0_2]]⟩), ([0, 6], ⟨true, [], [AV.agg [AV.int .i64 h1_0, AV.int .i64 h1_1]]⟩)]⟩ k = (bif decide (t105 < t104) then (bif (decide (0 ≤ t105) && decide (t105 < (t103.length : Int))) then (bif !(decide (fI (t103.getD t105.toNat AV.undef) 0 < h1_0) == decide (t105 < h1_1)) then k .ret ⟨[(2, AV.bool false)], [([0, 1], ⟨true, [], [AV.agg [AV.sl [.int .i64] h0_0, AV.sl [.int .i64] h0_1, AV.sl [.int .i64, .int .i64] h0_2]]⟩), ([0, 6], ⟨true, [], [AV.agg [AV.int .i64 h1_0, AV.int .i64 h1_1]]⟩)]⟩
    else next ⟨[(1, AV.ptr [0, 1] 0 0), (6, AV.ptr [0, 6] 0 0), (50, AV.sl [.int .i64, .int .i64] t50), (51, AV.int .i64 t51), (52, AV.int .i64 t52), (103, AV.sl [.int .i64] t103), (104, AV.int .i64 t104), (105, AV.int .i64 (IntKind.i64.wrap (t105 + 1)))], [([0, 1], ⟨true, [], [AV.agg [AV.sl [.int .i64] h0_0, AV.sl [.int .i64] h0_1, AV.sl [.int .i64, .int .i64] h0_2]]⟩), ([0, 6], ⟨true, [], [AV.agg [AV.int .i64 h1_0, AV.int .i64 h1_1]]⟩)]⟩)
   else none)
  else k (.exit 4) ⟨[(1, AV.ptr [0, 1] 0 0), (50, AV.sl [.int .i64, .int .i64] t50), (51, AV.int .i64 t51), (52, AV.int .i64 t52)], [([0, 1], ⟨true, [], [AV.agg [AV.sl [.int .i64] h0_0, AV.sl [.int .i64] h0_1, AV.sl [.int .i64, .int .i64] h0_2]]⟩), ([0, 6], ⟨true, [], [AV.agg [AV.int .i64 h1_0, AV.int .i64 h1_1]]⟩)]⟩) := by kernel_rfl
theorem st71_4 (t50 : List AV) (t51 : Int) (t52 : Int) (t103 : List AV) (t104 : Int) (h0_0 : List AV) (h0_1 : List AV) (h0_2 : List AV) (h1_0 : Int) (h1_1 : Int) (ce : CallE) (k : Kont) (s : Int) (next : St → Option AV) : stepA (codeA c71 ce [] 71 4 (sub [1, 1, 1, 0, 1, 0, 0, 1, 1, 0, 0, 1, 1, 1, 0, 0] (body Try.f71))) (normA [] [1, 6, 50, 51, 52, 103, 104, 105]) next ((fun s : Int => ⟨[(1, AV.ptr [0, 1] 0 0), (6, AV.ptr [0, 6] 0 0), (50, AV.sl [.int .i64, .int .i64] t50), (51, AV.int .i64 t51), (52, AV.int .i64 t52), (103, AV.sl [.int .i64] t103), (104, AV.int .i64 t104), (105, AV.int .i64 s)], [([0, 1], ⟨true, [], [AV.agg [AV.sl [.int .i64] h0_0, AV.sl [.int .i64] h0_1, AV.sl [.int .i64, .int .i64] h0_2]]⟩), ([0, 6], ⟨true, [], [AV.agg [AV.int .i64 h1_0, AV.int .i64 h1_1]]⟩)]⟩) s) k = (R71_4 t50 t51 t52 t103 t104 h0_0 h0_1 h0_2 h1_0 h1_1 s).el none (fun s => next ((fun s : Int => ⟨[(1, AV.ptr [0, 1] 0 0), (6, AV.ptr [0, 6] 0 0), (50, AV.sl [.int .i64, .int .i64] t50), (51, AV.int .i64 t51), (52, AV.int .i64 t52), (103, AV.sl [.int .i64] t103), (104, AV.int .i64 t104), (105, AV.int .i64 s)], [([0, 1], ⟨true, [], [AV.agg [AV.sl [.int .i64] h0_0, AV.sl [.int .i64] h0_1, AV.sl [.int .i64, .int .i64] h0_2]]⟩), ([0, 6], ⟨true, [], [AV.agg [AV.int .i64 h1_0, AV.int .i64 h1_1]]⟩)]⟩) s)) (sumE (fun _ : Unit => k (.exit 4) ⟨[(1, AV.ptr [0, 1] 0 0), (50, AV.sl [.int .i64, .int .i64] t50), (51, AV.int .i64 t51), (52, AV.int .i64 t52)], [([0, 1], ⟨true, [], [AV.agg [AV.sl [.int .i64] h0_0, AV.sl [.int .i64] h0_1, AV.sl [.int .i64, .int .i64] h0_2]]⟩), ([0, 6], ⟨true, [], [AV.agg [AV.int .i64 h1_0, AV.int .i64 h1_1]]⟩)]⟩) (fun _ : Unit => k .ret ⟨[(2, AV.bool false)], [([0, 1], ⟨true, [], [AV.agg [AV.sl [.int .i64] h0_0, AV.sl [.int .i64] h0_1, AV.sl [.int .i64, .int .i64] h0_2]]⟩), ([0, 6], ⟨true, [], [AV.agg [AV.int .i64 h1_0, AV.int .i64 h1_1]]⟩)]⟩)) := (s71_4 ce t50 t51 t52 t103 t104 s h0_0 h0_1 h0_2 h1_0 h1_1 next k).trans (by unfold R71_4; unfold F71_4; simp only [el_cond, el_ro, el_sum, el_fail, el_next, el_stop] <;> rfl)
theorem ok71_4 {ce : CallE} : LoopOK c71 ce [] 71 4 (sub [1, 1, 1, 0, 1, 0, 0, 1, 1, 0, 0, 1, 1, 1, 0, 0] (body Try.f71)) := by
  intro m hm st k r h
  obtain rfl : l71_4 = m := Option.some.inj hm
  unfold l71_4 at h
  split at h
  · rename_i g0 g1 g2 g3 g4 g5 g6 t50 t51 t52 g7 t103 t104 t105 g8 g9 h0_0 g10 h0_1 g11 h0_2 g12 h1_0 h1_1
    obtain ⟨hg, h⟩ := bif_some h
    simp only [Bool.and_eq_true] at hg
    obtain ⟨⟨⟨⟨⟨⟨⟨⟨⟨⟨⟨⟨q0, q1⟩, q2⟩, q3⟩, q4⟩, q5⟩, q6⟩, q7⟩, q8⟩, q9⟩, q10⟩, q11⟩, q12⟩ := hg
    obtain rfl := (nmEq_iff _ _).1 q0
    obtain rfl := Nat.eq_of_beq_eq_true q1
    obtain rfl := Nat.eq_of_beq_eq_true q2
    obtain rfl := (nmEq_iff _ _).1 q3
    obtain rfl := Nat.eq_of_beq_eq_true q4
    obtain rfl := Nat.eq_of_beq_eq_true q5
    obtain rfl := ctsEq_eq _ _ q6
    obtain rfl := ctsEq_eq _ _ q7
    obtain rfl := (nmEq_iff _ _).1 q8
    obtain rfl := ctsEq_eq _ _ q9
    obtain rfl := ctsEq_eq _ _ q10
    obtain rfl := ctsEq_eq _ _ q11
    obtain rfl := (nmEq_iff _ _).1 q12
    refine ⟨((t104 - t105).toNat + 1), ?_⟩
    rw [← h]
    exact loop_run (fun s : Int => ⟨[(1, AV.ptr [0, 1] 0 0), (6, AV.ptr [0, 6] 0 0), (50, AV.sl [.int .i64, .int .i64] t50), (51, AV.int .i64 t51), (52, AV.int .i64 t52), (103, AV.sl [.int .i64] t103), (104, AV.int .i64 t104), (105, AV.int .i64 s)], [([0, 1], ⟨true, [], [AV.agg [AV.sl [.int .i64] h0_0, AV.sl [.int .i64] h0_1, AV.sl [.int .i64, .int .i64] h0_2]]⟩), ([0, 6], ⟨true, [], [AV.agg [AV.int .i64 h1_0, AV.int .i64 h1_1]]⟩)]⟩) (sumE (fun _ : Unit => k (.exit 4) ⟨[(1, AV.ptr [0, 1] 0 0), (50, AV.sl [.int .i64, .int .i64] t50), (51, AV.int .i64 t51), (52, AV.int .i64 t52)], [([0, 1], ⟨true, [], [AV.agg [AV.sl [.int .i64] h0_0, AV.sl [.int .i64] h0_1, AV.sl [.int .i64, .int .i64] h0_2]]⟩), ([0, 6], ⟨true, [], [AV.agg [AV.int .i64 h1_0, AV.int .i64 h1_1]]⟩)]⟩) (fun _ : Unit => k .ret ⟨[(2, AV.bool false)], [([0, 1], ⟨true, [], [AV.agg [AV.sl [.int .i64] h0_0, AV.sl [.int .i64] h0_1, AV.sl [.int .i64, .int .i64] h0_2]]⟩), ([0, 6], ⟨true, [], [AV.agg [AV.int .i64 h1_0, AV.int .i64 h1_1]]⟩)]⟩)) (st71_4 t50 t51 t52 t103 t104 h0_0 h0_1 h0_2 h1_0 h1_1 ce k) _ t105
  · cases h
theorem s71_2 (ce : CallE) (t50 : List AV) (t51 : Int) (t52 : Int) (h0_0 : List AV) (h0_1 : List AV) (h0_2 : List AV) (next : St → Option AV) (k : Kont) : stepA (codeA c71 ce [] 71 2 (sub [1, 1, 1, 0, 1, 0, 0] (body Try.f71))) (normA [] [1, 50, 51, 52]) next ⟨[(1, AV.ptr [0, 1] 0 0), (50, AV.sl [.int .i64, .int .i64] t50), (51, AV.int .i64 t51), (52, AV.int .i64 t52)], [([0, 1], ⟨true, [], [AV.agg [AV.sl [.int .i64] h0_0, AV.sl [.int .i64] h0_1, AV.sl [.int .i64, .int .i64] h0_2]]⟩)]⟩ k = (bif decide (t52 < t51) then (bif (decide (0 ≤ t52) && decide (t52 < (t50.length : Int))) then (bif !(v98_0 (fI (t50.getD t52.toNat AV.undef) 0)) then k .ret ⟨[(2, AV.bool false)], [([0, 1], ⟨true, [], [AV.agg [AV.sl [.int .i64] h0_0, AV.sl [.int .i64] h0_1, AV.sl [.int .i64, .int .i64] h0_2]]⟩), ([1, 6], ⟨true, [], [AV.agg [AV.int .i64 (fI (t50.getD t52.toNat AV.undef) 0), AV.int .i64 (fI (t50.getD t52.toNat AV.undef) 1)]]⟩)]⟩
    else (bif decide (fI (t50.getD t52.toNat AV.undef) 1 < 0) then k .ret ⟨[(2, AV.bool false)], [([0, 1], ⟨true, [], [AV.agg [AV.sl [.int .i64] h0_0, AV.sl [.int .i64] h0_1, AV.sl [.int .i64, .int .i64] h0_2]]⟩), ([1, 6], ⟨true, [], [AV.agg [AV.int .i64 (fI (t50.getD t52.toNat AV.undef) 0), AV.int .i64 (fI (t50.getD t52.toNat AV.undef) 1)]]⟩)]⟩
     else (bif decide (fI (t50.getD t52.toNat AV.undef) 1 > (h0_0.length : Int)) then k .ret ⟨[(2, AV.bool false)], [([0, 1], ⟨true, [], [AV.agg [AV.sl [.int .i64] h0_0, AV.sl [.int .i64] h0_1, AV.sl [.int .i64, .int .i64] h0_2]]⟩), ([1, 6], ⟨true, [], [AV.agg [AV.int .i64 (fI (t50.getD t52.toNat AV.undef) 0), AV.int .i64 (fI (t50.getD t52.toNat AV.undef) 1)]]⟩)]⟩
      else (bif decide (t52 > 0) then (bif (decide (0 ≤ IntKind.i64.wrap (t52 - 1)) && decide (IntKind.i64.wrap (t52 - 1) < (h0_2.length : Int))) then (bif decide (fI (t50.getD t52.toNat AV.undef) 0 ≤ fI (h0_2.getD (IntKind.i64.wrap (t52 - 1)).toNat AV.undef) 0) then k .ret ⟨[(2, AV.bool false)], [([0, 1], ⟨true, [], [AV.agg [AV.sl [.int .i64] h0_0, AV.sl [.int .i64] h0_1, AV.sl [.int .i64, .int .i64] h0_2]]⟩), ([1, 6], ⟨true, [], [AV.agg [AV.int .i64 (fI (t50.getD t52.toNat AV.undef) 0), AV.int .i64 (fI (t50.getD t52.toNat AV.undef) 1)]]⟩)]⟩
         else (bif (decide (0 ≤ IntKind.i64.wrap (t52 - 1)) && decide (IntKind.i64.wrap (t52 - 1) < (h0_2.length : Int))) then (bif decide (fI (t50.getD t52.toNat AV.undef) 1 < fI (h0_2.getD (IntKind.i64.wrap (t52 - 1)).toNat AV.undef) 1) then k .ret ⟨[(2, AV.bool false)], [([0, 1], ⟨true, [], [AV.agg [AV.sl [.int .i64] h0_0, AV.sl [.int .i64] h0_1, AV.sl [.int .i64, .int .i64] h0_2]]⟩), ([1, 6], ⟨true, [], [AV.agg [AV.int .i64 (fI (t50.getD t52.toNat AV.undef) 0), AV.int .i64 (fI (t50.getD t52.toNat AV.undef) 1)]]⟩)]⟩
           else (ro (runW (R71_4 t50 t51 t52 h0_0 (h0_0.length : Int) h0_0 h0_1 h0_2 (fI (t50.getD t52.toNat AV.undef) 0) (fI (t50.getD t52.toNat AV.undef) 1)) (((h0_0.length : Int) - 0).toNat + 1) 0) none (sumE (fun _ => next ⟨[(1, AV.ptr [0, 1] 0 0), (50, AV.sl [.int .i64, .int .i64] t50), (51, AV.int .i64 t51), (52, AV.int .i64 (IntKind.i64.wrap (t52 + 1)))], [([0, 1], ⟨true, [], [AV.agg [AV.sl [.int .i64] h0_0, AV.sl [.int .i64] h0_1, AV.sl [.int .i64, .int .i64] h0_2]]⟩)]⟩) (fun _ => k .ret ⟨[(2, AV.bool false)], [([0, 1], ⟨true, [], [AV.agg [AV.sl [.int .i64] h0_0, AV.sl [.int .i64] h0_1, AV.sl [.int .i64, .int .i64] h0_2]]⟩), ([0, 6], ⟨true, [], [AV.agg [AV.int .i64 (fI (t50.getD t52.toNat AV.undef) 0), AV.int .i64 (fI (t50.getD t52.toNat AV.undef) 1)]]⟩)]⟩))))
          else none))
        else none)
       else (ro (runW (R71_4 t50 t51 t52 h0_0 (h0_0.length : Int) h0_0 h0_1 h0_2 (fI (t50.getD t52.toNat AV.undef) 0) (fI (t50.getD t52.toNat AV.undef) 1)) (((h0_0.length : Int) - 0).toNat + 1) 0) none (sumE (fun _ => next ⟨[(1, AV.ptr [0, 1] 0 0), (50, AV.sl [.int .i64, .int .i64] t50), (51, AV.int .i64 t51), (52, AV.int .i64 (IntKind.i64.wrap (t52 + 1)))], [([0, 1], ⟨true, [], [AV.agg [AV.sl [.int .i64] h0_0, AV.sl [.int .i64] h0_1, AV.sl [.int .i64, .int .i64] h0_2]]⟩)]⟩) (fun _ => k .ret ⟨[(2, AV.bool false)], [([0, 1], ⟨true, [], [AV.agg [AV.sl [.int .i64] h0_0, AV.sl [.int .i64] h0_1, AV.sl [.int .i64, .int .i64] h0_2]]⟩), ([0, 6], ⟨true, [], [AV.agg [AV.int .i64 (fI (t50.getD t52.toNat AV.undef) 0), AV.int .i64 (fI (t50.getD t52.toNat AV.undef) 1)]]⟩)]⟩)))))))
   else none)
  else k (.exit 2) ⟨[], [([0, 1], ⟨true, [], [AV.agg [AV.sl [.int .i64] h0_0, AV.sl [.int .i64] h0_1, AV.sl [.int .i64, .int .i64] h0_2]]⟩)]⟩) := by kernel_rfl
theorem st71_2 (t50 : List AV) (t51 : Int) (h0_0 : List AV) (h0_1 : List AV) (h0_2 : List AV) (ce : CallE) (k : Kont) (s : Int) (next : St → Option AV) : stepA (codeA c71 ce [] 71 2 (sub [1, 1, 1, 0, 1, 0, 0] (body Try.f71))) (normA [] [1, 50, 51, 52]) next ((fun s : Int => ⟨[(1, AV.ptr [0, 1] 0 0), (50, AV.sl [.int .i64, .int .i64] t50), (51, AV.int .i64 t51), (52, AV.int .i64 s)], [([0, 1], ⟨true, [], [AV.agg [AV.sl [.int .i64] h0_0, AV.sl [.int .i64] h0_1, AV.sl [.int .i64, .int .i64] h0_2]]⟩)]⟩) s) k = (R71_2 t50 t51 h0_0 h0_1 h0_2 s).el none (fun s => next ((fun s : Int => ⟨[(1, AV.ptr [0, 1] 0 0), (50, AV.sl [.int .i64, .int .i64] t50), (51, AV.int .i64 t51), (52, AV.int .i64 s)], [([0, 1], ⟨true, [], [AV.agg [AV.sl [.int .i64] h0_0, AV.sl [.int .i64] h0_1, AV.sl [.int .i64, .int .i64] h0_2]]⟩)]⟩) s)) (sumE (fun _ : Unit => k (.exit 2) ⟨[], [([0, 1], ⟨true, [], [AV.agg [AV.sl [.int .i64] h0_0, AV.sl [.int .i64] h0_1, AV.sl [.int .i64, .int .i64] h0_2]]⟩)]⟩) (sumE (fun p : Int × Int => k .ret ⟨[(2, AV.bool false)], [([0, 1], ⟨true, [], [AV.agg [AV.sl [.int .i64] h0_0, AV.sl [.int .i64] h0_1, AV.sl [.int .i64, .int .i64] h0_2]]⟩), ([1, 6], ⟨true, [], [AV.agg [AV.int .i64 p.1, AV.int .i64 p.2]]⟩)]⟩) (fun p : Int × Int => k .ret ⟨[(2, AV.bool false)], [([0, 1], ⟨true, [], [AV.agg [AV.sl [.int .i64] h0_0, AV.sl [.int .i64] h0_1, AV.sl [.int .i64, .int .i64] h0_2]]⟩), ([0, 6], ⟨true, [], [AV.agg [AV.int .i64 p.1, AV.int .i64 p.2]]⟩)]⟩))) := (s71_2 ce t50 t51 s h0_0 h0_1 h0_2 next k).trans (by unfold R71_2; unfold F71_2; simp only [el_cond, el_ro, el_sum, el_fail, el_next, el_stop] <;> rfl)
theorem ok71_2 {ce : CallE} : LoopOK c71 ce [] 71 2 (sub [1, 1, 1, 0, 1, 0, 0] (body Try.f71)) := by
  intro m hm st k r h
  obtain rfl : l71_2 = m := Option.some.inj hm
  unfold l71_2 at h
  split at h
  · rename_i g0 g1 g2 g3 t50 t51 t52 g4 g5 h0_0 g6 h0_1 g7 h0_2
    obtain ⟨hg, h⟩ := bif_some h
    simp only [Bool.and_eq_true] at hg
    obtain ⟨⟨⟨⟨⟨⟨⟨q0, q1⟩, q2⟩, q3⟩, q4⟩, q5⟩, q6⟩, q7⟩ := hg
    obtain rfl := (nmEq_iff _ _).1 q0
    obtain rfl := Nat.eq_of_beq_eq_true q1
    obtain rfl := Nat.eq_of_beq_eq_true q2
    obtain rfl := ctsEq_eq _ _ q3
    obtain rfl := (nmEq_iff _ _).1 q4
    obtain rfl := ctsEq_eq _ _ q5
    obtain rfl := ctsEq_eq _ _ q6
    obtain rfl := ctsEq_eq _ _ q7
    refine ⟨((t51 - t52).toNat + 1), ?_⟩
    rw [← h]
    exact loop_run (fun s : Int => ⟨[(1, AV.ptr [0, 1] 0 0), (50, AV.sl [.int .i64, .int .i64] t50), (51, AV.int .i64 t51), (52, AV.int .i64 s)], [([0, 1], ⟨true, [], [AV.agg [AV.sl [.int .i64] h0_0, AV.sl [.int .i64] h0_1, AV.sl [.int .i64, .int .i64] h0_2]]⟩)]⟩) (sumE (fun _ : Unit => k (.exit 2) ⟨[], [([0, 1], ⟨true, [], [AV.agg [AV.sl [.int .i64] h0_0, AV.sl [.int .i64] h0_1, AV.sl [.int .i64, .int .i64] h0_2]]⟩)]⟩) (sumE (fun p : Int × Int => k .ret ⟨[(2, AV.bool false)], [([0, 1], ⟨true, [], [AV.agg [AV.sl [.int .i64] h0_0, AV.sl [.int .i64] h0_1, AV.sl [.int .i64, .int .i64] h0_2]]⟩), ([1, 6], ⟨true, [], [AV.agg [AV.int .i64 p.1, AV.int .i64 p.2]]⟩)]⟩) (fun p : Int × Int => k .ret ⟨[(2, AV.bool false)], [([0, 1], ⟨true, [], [AV.agg [AV.sl [.int .i64] h0_0, AV.sl [.int .i64] h0_1, AV.sl [.int .i64, .int .i64] h0_2]]⟩), ([0, 6], ⟨true, [], [AV.agg [AV.int .i64 p.1, AV.int .i64 p.2]]⟩)]⟩))) (st71_2 t50 t51 h0_0 h0_1 h0_2 ce k) _ t52
  · cases h
theorem s71_0 (ce : CallE) (t35 : List AV) (t36 : Int) (t37 : Int) (h0_0 : List AV) (h0_1 : List AV) (h0_2 : List AV) (next : St → Option AV) (k : Kont) : stepA (codeA c71 ce [] 71 0 (sub [1, 1, 0, 1, 0, 0] (body Try.f71))) (normA [] [1, 35, 36, 37]) next ⟨[(1, AV.ptr [0, 1] 0 0), (35, AV.sl [.int .i64] t35), (36, AV.int .i64 t36), (37, AV.int .i64 t37)], [([0, 1], ⟨true, [], [AV.agg [AV.sl [.int .i64] h0_0, AV.sl [.int .i64] h0_1, AV.sl [.int .i64, .int .i64] h0_2]]⟩)]⟩ k = (bif decide (t37 < t36) then (bif (decide (0 ≤ t37) && decide (t37 < (t35.length : Int))) then (bif (decide (0 ≤ 0) && decide (0 ≤ t37) && decide (t37 ≤ (h0_1.length : Int))) then (bif q125 ((h0_1.take (Int.toNat t37)).drop (Int.toNat 0)) (fI (t35.getD t37.toNat AV.undef) 0) then (bif (v125_0 ((h0_1.take (Int.toNat t37)).drop (Int.toNat 0)) (fI (t35.getD t37.toNat AV.undef) 0)) then k .ret ⟨[(2, AV.bool false)], [([0, 1], ⟨true, [], [AV.agg [AV.sl [.int .i64] h0_0, AV.sl [.int .i64] h0_1, AV.sl [.int .i64, .int .i64] h0_2]]⟩)]⟩
      else next ⟨[(1, AV.ptr [0, 1] 0 0), (35, AV.sl [.int .i64] t35), (36, AV.int .i64 t36), (37, AV.int .i64 (IntKind.i64.wrap (t37 + 1)))], [([0, 1], ⟨true, [], [AV.agg [AV.sl [.int .i64] h0_0, AV.sl [.int .i64] h0_1, AV.sl [.int .i64, .int .i64] h0_2]]⟩)]⟩)
     else none)
    else none)
   else none)
  else k (.exit 0) ⟨[(1, AV.ptr [0, 1] 0 0)], [([0, 1], ⟨true, [], [AV.agg [AV.sl [.int .i64] h0_0, AV.sl [.int .i64] h0_1, AV.sl [.int .i64, .int .i64] h0_2]]⟩)]⟩) := by kernel_rfl
theorem st71_0 (t35 : List AV) (t36 : Int) (h0_0 : List AV) (h0_1 : List AV) (h0_2 : List AV) (ce : CallE) (k : Kont) (s : Int) (next : St → Option AV) : stepA (codeA c71 ce [] 71 0 (sub [1, 1, 0, 1, 0, 0] (body Try.f71))) (normA [] [1, 35, 36, 37]) next ((fun s : Int => ⟨[(1, AV.ptr [0, 1] 0 0), (35, AV.sl [.int .i64] t35), (36, AV.int .i64 t36), (37, AV.int .i64 s)], [([0, 1], ⟨true, [], [AV.agg [AV.sl [.int .i64] h0_0, AV.sl [.int .i64] h0_1, AV.sl [.int .i64, .int .i64] h0_2]]⟩)]⟩) s) k = (R71_0 t35 t36 h0_0 h0_1 h0_2 s).el none (fun s => next ((fun s : Int => ⟨[(1, AV.ptr [0, 1] 0 0), (35, AV.sl [.int .i64] t35), (36, AV.int .i64 t36), (37, AV.int .i64 s)], [([0, 1], ⟨true, [], [AV.agg [AV.sl [.int .i64] h0_0, AV.sl [.int .i64] h0_1, AV.sl [.int .i64, .int .i64] h0_2]]⟩)]⟩) s)) (sumE (fun _ : Unit => k (.exit 0) ⟨[(1, AV.ptr [0, 1] 0 0)], [([0, 1], ⟨true, [], [AV.agg [AV.sl [.int .i64] h0_0, AV.sl [.int .i64] h0_1, AV.sl [.int .i64, .int .i64] h0_2]]⟩)]⟩) (fun _ : Unit => k .ret ⟨[(2, AV.bool false)], [([0, 1], ⟨true, [], [AV.agg [AV.sl [.int .i64] h0_0, AV.sl [.int .i64] h0_1, AV.sl [.int .i64, .int .i64] h0_2]]⟩)]⟩)) := (s71_0 ce t35 t36 s h0_0 h0_1 h0_2 next k).trans (by unfold R71_0; unfold F71_0; simp only [el_cond, el_ro, el_sum, el_fail, el_next, el_stop] <;> rfl)
theorem ok71_0 {ce : CallE} : LoopOK c71 ce [] 71 0 (sub [1, 1, 0, 1, 0, 0] (body Try.f71)) := by
  intro m hm st k r h
  obtain rfl : l71_0 = m := Option.some.inj hm
  unfold l71_0 at h
  split at h
  · rename_i g0 g1 g2 g3 t35 t36 t37 g4 g5 h0_0 g6 h0_1 g7 h0_2
    obtain ⟨hg, h⟩ := bif_some h
    simp only [Bool.and_eq_true] at hg
    obtain ⟨⟨⟨⟨⟨⟨⟨q0, q1⟩, q2⟩, q3⟩, q4⟩, q5⟩, q6⟩, q7⟩ := hg
    obtain rfl := (nmEq_iff _ _).1 q0
    obtain rfl := Nat.eq_of_beq_eq_true q1
    obtain rfl := Nat.eq_of_beq_eq_true q2
    obtain rfl := ctsEq_eq _ _ q3
    obtain rfl := (nmEq_iff _ _).1 q4
    obtain rfl := ctsEq_eq _ _ q5
    obtain rfl := ctsEq_eq _ _ q6
    obtain rfl := ctsEq_eq _ _ q7
    refine ⟨((t36 - t37).toNat + 1), ?_⟩
    rw [← h]
    exact loop_run (fun s : Int => ⟨[(1, AV.ptr [0, 1] 0 0), (35, AV.sl [.int .i64] t35), (36, AV.int .i64 t36), (37, AV.int .i64 s)], [([0, 1], ⟨true, [], [AV.agg [AV.sl [.int .i64] h0_0, AV.sl [.int .i64] h0_1, AV.sl [.int .i64, .int .i64] h0_2]]⟩)]⟩) (sumE (fun _ : Unit => k (.exit 0) ⟨[(1, AV.ptr [0, 1] 0 0)], [([0, 1], ⟨true, [], [AV.agg [AV.sl [.int .i64] h0_0, AV.sl [.int .i64] h0_1, AV.sl [.int .i64, .int .i64] h0_2]]⟩)]⟩) (fun _ : Unit => k .ret ⟨[(2, AV.bool false)], [([0, 1], ⟨true, [], [AV.agg [AV.sl [.int .i64] h0_0, AV.sl [.int .i64] h0_1, AV.sl [.int .i64, .int .i64] h0_2]]⟩)]⟩)) (st71_0 t35 t36 h0_0 h0_1 h0_2 ce k) _ t37
  · cases h
def q71 (a0_0 : List AV) (a0_1 : List AV) (a0_2 : List AV) : Bool := (q105 a0_0 && (bif !(v105_0 a0_0) then true else (bif !decide ((a0_1.length : Int) = (a0_0.length : Int)) then true else (q124 a0_1 0 999 && (bif !(v124_0 a0_1 0 999) then true else (bif decide ((a0_2.length : Int) > 2001) then true else (ro (runW (R71_0 a0_1 (a0_1.length : Int) a0_0 a0_1 a0_2) (((a0_1.length : Int) - 0).toNat + 1) 0) false (sumE (fun _ => (ro (runW (R71_2 a0_2 (a0_2.length : Int) a0_0 a0_1 a0_2) (((a0_2.length : Int) - 0).toNat + 1) 0) false (sumE (fun _ => true) (sumE (fun p31 => true) (fun p32 => true))))) (fun _ => true)))))))))
def v71_0 (a0_0 : List AV) (a0_1 : List AV) (a0_2 : List AV) : Bool := (bif !(v105_0 a0_0) then false else (bif !decide ((a0_1.length : Int) = (a0_0.length : Int)) then false else (bif !(v124_0 a0_1 0 999) then false else (bif decide ((a0_2.length : Int) > 2001) then false else (ro (runW (R71_0 a0_1 (a0_1.length : Int) a0_0 a0_1 a0_2) (((a0_1.length : Int) - 0).toNat + 1) 0) false (sumE (fun _ => (ro (runW (R71_2 a0_2 (a0_2.length : Int) a0_0 a0_1 a0_2) (((a0_2.length : Int) - 0).toNat + 1) 0) false (sumE (fun _ => true) (sumE (fun p31 => false) (fun p32 => false))))) (fun _ => false)))))))
theorem e71 (a0_0 : List AV) (a0_1 : List AV) (a0_2 : List AV) : funA c71 0 71 [AV.agg [AV.sl [.int .i64] a0_0, AV.sl [.int .i64] a0_1, AV.sl [.int .i64, .int .i64] a0_2]] = (bif q105 a0_0 then (bif !(v105_0 a0_0) then some (AV.bool false)
   else (bif !decide ((a0_1.length : Int) = (a0_0.length : Int)) then some (AV.bool false)
    else (bif q124 a0_1 0 999 then (bif !(v124_0 a0_1 0 999) then some (AV.bool false)
      else (bif decide ((a0_2.length : Int) > 2001) then some (AV.bool false)
       else (ro (runW (R71_0 a0_1 (a0_1.length : Int) a0_0 a0_1 a0_2) (((a0_1.length : Int) - 0).toNat + 1) 0) none (sumE (fun _ => (ro (runW (R71_2 a0_2 (a0_2.length : Int) a0_0 a0_1 a0_2) (((a0_2.length : Int) - 0).toNat + 1) 0) none (sumE (fun _ => some (AV.bool true)) (sumE (fun p31 => some (AV.bool false)) (fun p32 => some (AV.bool false)))))) (fun _ => some (AV.bool false))))))
     else none)))
  else none) := by kernel_rfl
theorem r71 (a0_0 : List AV) (a0_1 : List AV) (a0_2 : List AV) (h : q71 a0_0 a0_1 a0_2 = true) : funA c71 0 71 [AV.agg [AV.sl [.int .i64] a0_0, AV.sl [.int .i64] a0_1, AV.sl [.int .i64, .int .i64] a0_2]] = some (AV.bool (v71_0 a0_0 a0_1 a0_2)) := (e71 a0_0 a0_1 a0_2).trans ((brL (br (fun b => some (AV.bool (bif b then false else (bif !decide ((a0_1.length : Int) = (a0_0.length : Int)) then false else (bif !(v124_0 a0_1 0 999) then false else (bif decide ((a0_2.length : Int) > 2001) then false else (ro (runW (R71_0 a0_1 (a0_1.length : Int) a0_0 a0_1 a0_2) (((a0_1.length : Int) - 0).toNat + 1) 0) false (sumE (fun _ => (ro (runW (R71_2 a0_2 (a0_2.length : Int) a0_0 a0_1 a0_2) (((a0_2.length : Int) - 0).toNat + 1) 0) false (sumE (fun _ => true) (sumE (fun p31 => false) (fun p32 => false))))) (fun _ => false))))))))) (fun _ => rfl) (br (fun b => some (AV.bool (bif b then false else (bif !(v124_0 a0_1 0 999) then false else (bif decide ((a0_2.length : Int) > 2001) then false else (ro (runW (R71_0 a0_1 (a0_1.length : Int) a0_0 a0_1 a0_2) (((a0_1.length : Int) - 0).toNat + 1) 0) false (sumE (fun _ => (ro (runW (R71_2 a0_2 (a0_2.length : Int) a0_0 a0_1 a0_2) (((a0_2.length : Int) - 0).toNat + 1) 0) false (sumE (fun _ => true) (sumE (fun p31 => false) (fun p32 => false))))) (fun _ => false)))))))) (fun _ => rfl) (brL (br (fun b => some (AV.bool (bif b then false else (bif decide ((a0_2.length : Int) > 2001) then false else (ro (runW (R71_0 a0_1 (a0_1.length : Int) a0_0 a0_1 a0_2) (((a0_1.length : Int) - 0).toNat + 1) 0) false (sumE (fun _ => (ro (runW (R71_2 a0_2 (a0_2.length : Int) a0_0 a0_1 a0_2) (((a0_2.length : Int) - 0).toNat + 1) 0) false (sumE (fun _ => true) (sumE (fun p31 => false) (fun p32 => false))))) (fun _ => false))))))) (fun _ => rfl) (br (fun b => some (AV.bool (bif b then false else (ro (runW (R71_0 a0_1 (a0_1.length : Int) a0_0 a0_1 a0_2) (((a0_1.length : Int) - 0).toNat + 1) 0) false (sumE (fun _ => (ro (runW (R71_2 a0_2 (a0_2.length : Int) a0_0 a0_1 a0_2) (((a0_2.length : Int) - 0).toNat + 1) 0) false (sumE (fun _ => true) (sumE (fun p31 => false) (fun p32 => false))))) (fun _ => false)))))) (fun _ => rfl) (brO (fun o : Option (Unit ⊕ Unit) => some (AV.bool (ro o false (sumE (fun _ => (ro (runW (R71_2 a0_2 (a0_2.length : Int) a0_0 a0_1 a0_2) (((a0_2.length : Int) - 0).toNat + 1) 0) false (sumE (fun _ => true) (sumE (fun p31 => false) (fun p32 => false))))) (fun _ => false))))) (brS (fun o : Unit ⊕ Unit => some (AV.bool ((sumE (fun _ => (ro (runW (R71_2 a0_2 (a0_2.length : Int) a0_0 a0_1 a0_2) (((a0_2.length : Int) - 0).toNat + 1) 0) false (sumE (fun _ => true) (sumE (fun p31 => false) (fun p32 => false))))) (fun _ => false)) o))) (fun _ => (brO (fun o : Option (Unit ⊕ (Int × Int) ⊕ (Int × Int)) => some (AV.bool (ro o false (sumE (fun _ => true) (sumE (fun p31 => false) (fun p32 => false)))))) (brS (fun o : Unit ⊕ (Int × Int) ⊕ (Int × Int) => some (AV.bool ((sumE (fun _ => true) (sumE (fun p31 => false) (fun p32 => false))) o))) (fun _ => (fun _ => rfl)) (brS (fun o : (Int × Int) ⊕ (Int × Int) => some (AV.bool ((sumE (fun p31 => false) (fun p32 => false)) o))) (fun p31 => (fun _ => rfl)) (fun p32 => (fun _ => rfl)))))) (fun _ => (fun _ => rfl)))))))))) h)
def m71 : TModel
  | [.agg [.sl g0 a0_0, .sl g1 a0_1, .sl g2 a0_2]] => bif ctsEq g0 ([.int .i64]) && ctsEq g1 ([.int .i64]) && ctsEq g2 ([.int .i64, .int .i64]) then some (q71 a0_0 a0_1 a0_2, AV.bool (v71_0 a0_0 a0_1 a0_2)) else none
  | _ => none
theorem k71 : Known Try.prog 71 := ⟨Try.f71, Try.func71, by kernel_rfl, by kernel_rfl⟩
theorem meets71 : Meets Try.prog 71 m71 := by
  refine meet (f := Try.f71) (l := [(0, sub [1, 1, 0, 1, 0, 0] (body Try.f71)), (2, sub [1, 1, 1, 0, 1, 0, 0] (body Try.f71)), (4, sub [1, 1, 1, 0, 1, 0, 0, 1, 1, 0, 0, 1, 1, 1, 0, 0] (body Try.f71))]) (hs := [(71, 0, [1, 35, 36, 37]), (71, 2, [1, 50, 51, 52]), (71, 4, [1, 6, 50, 51, 52, 103, 104, 105]), (71, 999, [2]), (71, 1000, [1]), (71, 1001, [1, 35, 36, 37]), (71, 1002, []), (71, 1003, [1, 50, 51, 52]), (71, 1004, [1, 50, 51, 52]), (71, 1005, [1, 6, 50, 51, 52, 103, 104, 105])]) (ts := [(98, m98), (105, m105), (124, m124), (125, m125)]) (ws := []) (is := []) (ls := [(71, 0, l71_0), (71, 2, l71_2), (71, 4, l71_4)]) (lvl := 0) mixed k71 Try.func71 (by kernel_rfl) (loops_cons ok71_0 (loops_cons ok71_2 (loops_cons ok71_4 noLoop))) (allT_cons meets98 (allT_cons meets105 (allT_cons meets124 (allT_cons meets125 allT_nil)))) allM_nil noI fun w xs us r hl hv h => ?_
  unfold m71 at h
  split at h
  · rename_i g0 a0_0 g1 a0_1 g2 a0_2
    obtain ⟨hg, h⟩ := bif_pair h
    simp only [Bool.and_eq_true] at hg
    obtain ⟨⟨q0, q1⟩, q2⟩ := hg
    obtain rfl := ctsEq_eq _ _ q0
    obtain rfl := ctsEq_eq _ _ q1
    obtain rfl := ctsEq_eq _ _ q2
    obtain ⟨h1, rfl⟩ := pair_inj h
    exact r71 a0_0 a0_1 a0_2 h1
  · cases h

/-! ### 72 loop.example/g01984/impl.FindRow -/
noncomputable def c72 : Cfg := cfg Try.prog [(72, 999, [4])] [(90, m90)] [] [] []
def q72 (a0_0 : List AV) (a0_1 : List AV) (a0_2 : List AV) (a1 : Int) : Bool := q90 a0_1 a1
def v72_0 (a0_0 : List AV) (a0_1 : List AV) (a0_2 : List AV) (a1 : Int) : Int := (v90_0 a0_1 a1)
theorem e72 (a0_0 : List AV) (a0_1 : List AV) (a0_2 : List AV) (a1 : Int) : funA c72 0 72 [AV.agg [AV.sl [.int .i64] a0_0, AV.sl [.int .i64] a0_1, AV.sl [.int .i64, .int .i64] a0_2], AV.int .i64 a1] = (bif q90 a0_1 a1 then some (AV.int .i64 (v90_0 a0_1 a1))
  else none) := by kernel_rfl
theorem r72 (a0_0 : List AV) (a0_1 : List AV) (a0_2 : List AV) (a1 : Int) (h : q72 a0_0 a0_1 a0_2 a1 = true) : funA c72 0 72 [AV.agg [AV.sl [.int .i64] a0_0, AV.sl [.int .i64] a0_1, AV.sl [.int .i64, .int .i64] a0_2], AV.int .i64 a1] = some (AV.int .i64 (v72_0 a0_0 a0_1 a0_2 a1)) := (e72 a0_0 a0_1 a0_2 a1).trans ((brL1 (fun _ => rfl)) h)
def m72 : TModel
  | [.agg [.sl g0 a0_0, .sl g1 a0_1, .sl g2 a0_2], .int .i64 a1] => bif ctsEq g0 ([.int .i64]) && ctsEq g1 ([.int .i64]) && ctsEq g2 ([.int .i64, .int .i64]) then some (q72 a0_0 a0_1 a0_2 a1, AV.int .i64 (v72_0 a0_0 a0_1 a0_2 a1)) else none
  | _ => none
theorem k72 : Known Try.prog 72 := ⟨Try.f72, Try.func72, by kernel_rfl, by kernel_rfl⟩
theorem meets72 : Meets Try.prog 72 m72 := by
  refine meet (f := Try.f72) (l := []) (hs := [(72, 999, [4])]) (ts := [(90, m90)]) (ws := []) (is := []) (ls := []) (lvl := 0) mixed k72 Try.func72 (by kernel_rfl) noLoop (allT_cons meets90 allT_nil) allM_nil noI fun w xs us r hl hv h => ?_
  unfold m72 at h
  split at h
  · rename_i g0 a0_0 g1 a0_1 g2 a0_2 a1
    obtain ⟨hg, h⟩ := bif_pair h
    simp only [Bool.and_eq_true] at hg
    obtain ⟨⟨q0, q1⟩, q2⟩ := hg
    obtain rfl := ctsEq_eq _ _ q0
    obtain rfl := ctsEq_eq _ _ q1
    obtain rfl := ctsEq_eq _ _ q2
    obtain ⟨h1, rfl⟩ := pair_inj h
    exact r72 a0_0 a0_1 a0_2 a1 h1
  · cases h

/-! ### 18 loop.example/g01984/impl.IsStore -/
def F18_0 (t31 : List AV) (t32 : Int) (h0_0 : List AV) (h0_1 : Int) (h0_2 : List AV) (h0_3 : List AV) (h0_4 : List AV) (t33 : Int) : Out (Int) (Unit ⊕ (Int × Int × Int × Int)) := (bif decide (t33 < t32) then (bif (decide (0 ≤ t33) && decide (t33 < (t31.length : Int))) then (bif q72 h0_2 h0_3 h0_4 (fI (t31.getD t33.toNat AV.undef) 1) then (bif decide ((v72_0 h0_2 h0_3 h0_4 (fI (t31.getD t33.toNat AV.undef) 1)) < 0) then .stop (.inr (fI (t31.getD t33.toNat AV.undef) 0, fI (t31.getD t33.toNat AV.undef) 1, fI (t31.getD t33.toNat AV.undef) 2, fI (t31.getD t33.toNat AV.undef) 3))
     else (bif (decide (0 ≤ (v72_0 h0_2 h0_3 h0_4 (fI (t31.getD t33.toNat AV.undef) 1))) && decide ((v72_0 h0_2 h0_3 h0_4 (fI (t31.getD t33.toNat AV.undef) 1)) < (h0_2.length : Int))) then (bif !decide (fI (h0_2.getD (v72_0 h0_2 h0_3 h0_4 (fI (t31.getD t33.toNat AV.undef) 1)).toNat AV.undef) 0 = fI (t31.getD t33.toNat AV.undef) 0) then .stop (.inr (fI (t31.getD t33.toNat AV.undef) 0, fI (t31.getD t33.toNat AV.undef) 1, fI (t31.getD t33.toNat AV.undef) 2, fI (t31.getD t33.toNat AV.undef) 3))
       else (bif decide (t33 > 0) then (bif (decide (0 ≤ IntKind.i64.wrap (t33 - 1)) && decide (IntKind.i64.wrap (t33 - 1) < (h0_0.length : Int))) then (bif decide (fI (h0_0.getD (IntKind.i64.wrap (t33 - 1)).toNat AV.undef) 1 ≥ fI (t31.getD t33.toNat AV.undef) 1) then .stop (.inr (fI (t31.getD t33.toNat AV.undef) 0, fI (t31.getD t33.toNat AV.undef) 1, fI (t31.getD t33.toNat AV.undef) 2, fI (t31.getD t33.toNat AV.undef) 3))
          else (bif decide (fI (t31.getD t33.toNat AV.undef) 2 < 0) then .stop (.inr (fI (t31.getD t33.toNat AV.undef) 0, fI (t31.getD t33.toNat AV.undef) 1, fI (t31.getD t33.toNat AV.undef) 2, fI (t31.getD t33.toNat AV.undef) 3))
           else (bif decide (fI (t31.getD t33.toNat AV.undef) 2 > h0_1) then .stop (.inr (fI (t31.getD t33.toNat AV.undef) 0, fI (t31.getD t33.toNat AV.undef) 1, fI (t31.getD t33.toNat AV.undef) 2, fI (t31.getD t33.toNat AV.undef) 3))
            else (bif !decide (fI (t31.getD t33.toNat AV.undef) 3 = (-1)) then (bif decide (fI (t31.getD t33.toNat AV.undef) 3 ≤ fI (t31.getD t33.toNat AV.undef) 2) then .stop (.inr (fI (t31.getD t33.toNat AV.undef) 0, fI (t31.getD t33.toNat AV.undef) 1, fI (t31.getD t33.toNat AV.undef) 2, fI (t31.getD t33.toNat AV.undef) 3))
              else (bif decide (fI (t31.getD t33.toNat AV.undef) 3 > h0_1) then .stop (.inr (fI (t31.getD t33.toNat AV.undef) 0, fI (t31.getD t33.toNat AV.undef) 1, fI (t31.getD t33.toNat AV.undef) 2, fI (t31.getD t33.toNat AV.undef) 3))
               else .next (IntKind.i64.wrap (t33 + 1))))
             else .next (IntKind.i64.wrap (t33 + 1))))))
         else .fail)
        else (bif decide (fI (t31.getD t33.toNat AV.undef) 2 < 0) then .stop (.inr (fI (t31.getD t33.toNat AV.undef) 0, fI (t31.getD t33.toNat AV.undef) 1, fI (t31.getD t33.toNat AV.undef) 2, fI (t31.getD t33.toNat AV.undef) 3))
         else (bif decide (fI (t31.getD t33.toNat AV.undef) 2 > h0_1) then .stop (.inr (fI (t31.getD t33.toNat AV.undef) 0, fI (t31.getD t33.toNat AV.undef) 1, fI (t31.getD t33.toNat AV.undef) 2, fI (t31.getD t33.toNat AV.undef) 3))
          else (bif !decide (fI (t31.getD t33.toNat AV.undef) 3 = (-1)) then (bif decide (fI (t31.getD t33.toNat AV.undef) 3 ≤ fI (t31.getD t33.toNat AV.undef) 2) then .stop (.inr (fI (t31.getD t33.toNat AV.undef) 0, fI (t31.getD t33.toNat AV.undef) 1, fI (t31.getD t33.toNat AV.undef) 2, fI (t31.getD t33.toNat AV.undef) 3))
            else (bif decide (fI (t31.getD t33.toNat AV.undef) 3 > h0_1) then .stop (.inr (fI (t31.getD t33.toNat AV.undef) 0, fI (t31.getD t33.toNat AV.undef) 1, fI (t31.getD t33.toNat AV.undef) 2, fI (t31.getD t33.toNat AV.undef) 3))
             else .next (IntKind.i64.wrap (t33 + 1))))
           else .next (IntKind.i64.wrap (t33 + 1)))))))
      else .fail))
    else .fail)
   else .fail)
  else .stop (.inl ()))
def R18_0 (t31 : List AV) (t32 : Int) (h0_0 : List AV) (h0_1 : Int) (h0_2 : List AV) (h0_3 : List AV) (h0_4 : List AV) : (Int) → Out (Int) (Unit ⊕ (Int × Int × Int × Int)) := fun s : Int => F18_0 t31 t32 h0_0 h0_1 h0_2 h0_3 h0_4 s
def l18_0 : LModel := fun _ _ st k => match st with
  | ⟨[(1, .ptr g0 g1 g2), (31, .sl g3 t31), (32, .int .i64 t32), (33, .int .i64 t33)], [(g4, ⟨true, [], [.agg [.sl g5 h0_0, .int .i64 h0_1, .sl g6 h0_2, .sl g7 h0_3, .sl g8 h0_4]]⟩)]⟩ => bif nmEq g0 ([0, 1]) && Nat.beq g1 0 && Nat.beq g2 0 && ctsEq g3 ([.int .i64, .int .i64, .int .i64, .int .i64]) && nmEq g4 ([0, 1]) && ctsEq g5 ([.int .i64, .int .i64, .int .i64, .int .i64]) && ctsEq g6 ([.int .i64]) && ctsEq g7 ([.int .i64]) && ctsEq g8 ([.int .i64, .int .i64]) then ro (runW (R18_0 t31 t32 h0_0 h0_1 h0_2 h0_3 h0_4) ((t32 - t33).toNat + 1) t33) none (sumE (fun _ : Unit => k (.exit 0) ⟨[], [([0, 1], ⟨true, [], [AV.agg [AV.sl [.int .i64, .int .i64, .int .i64, .int .i64] h0_0, AV.int .i64 h0_1, AV.sl [.int .i64] h0_2, AV.sl [.int .i64] h0_3, AV.sl [.int .i64, .int .i64] h0_4]]⟩)]⟩) (fun p : Int × Int × Int × Int => k .ret ⟨[(2, AV.bool false)], [([0, 1], ⟨true, [], [AV.agg [AV.sl [.int .i64, .int .i64, .int .i64, .int .i64] h0_0, AV.int .i64 h0_1, AV.sl [.int .i64] h0_2, AV.sl [.int .i64] h0_3, AV.sl [.int .i64, .int .i64] h0_4]]⟩), ([1, 4], ⟨true, [], [AV.agg [AV.int .i64 p.1, AV.int .i64 p.2.1, AV.int .i64 p.2.2.1, AV.int .i64 p.2.2.2]]⟩)]⟩)) else none
  | _ => none
noncomputable def c18 : Cfg := cfg Try.prog [(18, 0, [1, 31, 32, 33]), (18, 999, [2]), (18, 1000, []), (18, 1001, [1, 31, 32, 33])] [(71, m71), (72, m72)] [] [] [(18, 0, l18_0)]
theorem s18_0 (ce : CallE) (t31 : List AV) (t32 : Int) (t33 : Int) (h0_0 : List AV) (h0_1 : Int) (h0_2 : List AV) (h0_3 : List AV) (h0_4 : List AV) (next : St → Option AV) (k : Kont) : stepA (codeA c18 ce [] 18 0 (sub [1, 1, 0, 1, 0, 0] (body Try.f18))) (normA [] [1, 31, 32, 33]) next ⟨[(1, AV.ptr [0, 1] 0 0), (31, AV.sl [.int .i64, .int .i64, .int .i64, .int .i64] t31), (32, AV.int .i64 t32), (33, AV.int .i64 t33)], [([0, 1], ⟨true, [], [AV.agg [AV.sl [.int .i64, .int .i64, .int .i64, .int .i64] h0_0, AV.int .i64 h0_1, AV.sl [.int .i64] h0_2, AV.sl [.int .i64] h0_3, AV.sl [.int .i64, .int .i64] h0_4]]⟩)]⟩ k = (bif decide (t33 < t32) then (bif (decide (0 ≤ t33) && decide (t33 < (t31.length : Int))) then (bif q72 h0_2 h0_3 h0_4 (fI (t31.getD t33.toNat AV.undef) 1) then (bif decide ((v72_0 h0_2 h0_3 h0_4 (fI (t31.getD t33.toNat AV.undef) 1)) < 0) then k .ret ⟨[(2, AV.bool false)], [([0, 1], ⟨true, [], [AV.agg [AV.sl [.int .i64, .int .i64, .int .i64, .int .i64] h0_0, AV.int .i64 h0_1, AV.sl [.int .i64] h0_2, AV.sl [.int .i64] h0_3, AV.sl [.int .i64, .int .i64] h0_4]]⟩), ([1, 4], ⟨true, [], [AV.agg [AV.int .i64 (fI (t31.getD t33.toNat AV.undef) 0), AV.int .i64 (fI (t31.getD t33.toNat AV.undef) 1), AV.int .i64 (fI (t31.getD t33.toNat AV.undef) 2), AV.int .i64 (fI (t31.getD t33.toNat AV.undef) 3)]]⟩)]⟩
     else (bif (decide (0 ≤ (v72_0 h0_2 h0_3 h0_4 (fI (t31.getD t33.toNat AV.undef) 1))) && decide ((v72_0 h0_2 h0_3 h0_4 (fI (t31.getD t33.toNat AV.undef) 1)) < (h0_2.length : Int))) then (bif !decide (fI (h0_2.getD (v72_0 h0_2 h0_3 h0_4 (fI (t31.getD t33.toNat AV.undef) 1)).toNat AV.undef) 0 = fI (t31.getD t33.toNat AV.undef) 0) then k .ret ⟨[(2, AV.bool false)], [([0, 1], ⟨true, [], [AV.agg [AV.sl [.int .i64, .int .i64, .int .i64, .int .i64] h0_0, AV.int .i64 h0_1, AV.sl [.int .i64] h0_2, AV.sl [.int .i64] h0_3, AV.sl [.int .i64, .int .i64] h0_4]]⟩), ([1, 4], ⟨true, [], [AV.agg [AV.int .i64 (fI (t31.getD t33.toNat AV.undef) 0), AV.int .i64 (fI (t31.getD t33.toNat AV.undef) 1), AV.int .i64 (fI (t31.getD t33.toNat AV.undef) 2), AV.int .i64 (fI (t31.getD t33.toNat AV.undef) 3)]]⟩)]⟩
       else (bif decide (t33 > 0) then (bif (decide (0 ≤ IntKind.i64.wrap (t33 - 1)) && decide (IntKind.i64.wrap (t33 - 1) < (h0_0.length : Int))) then (bif decide (fI (h0_0.getD (IntKind.i64.wrap (t33 - 1)).toNat AV.undef) 1 ≥ fI (t31.getD t33.toNat AV.undef) 1) then k .ret ⟨[(2, AV.bool false)], [([0, 1], ⟨true, [], [AV.agg [AV.sl [.int .i64, .int .i64, .int .i64, .int .i64] h0_0, AV.int .i64 h0_1, AV.sl [.int .i64] h0_2, AV.sl [.int .i64] h0_3, AV.sl [.int .i64, .int .i64] h0_4]]⟩), ([1, 4], ⟨true, [], [AV.agg [AV.int .i64 (fI (t31.getD t33.toNat AV.undef) 0), AV.int .i64 (fI (t31.getD t33.toNat AV.undef) 1), AV.int .i64 (fI (t31.getD t33.toNat AV.undef) 2), AV.int .i64 (fI (t31.getD t33.toNat AV.undef) 3)]]⟩)]⟩
          else (bif decide (fI (t31.getD t33.toNat AV.undef) 2 < 0) then k .ret ⟨[(2, AV.bool false)], [([0, 1], ⟨true, [], [AV.agg [AV.sl [.int .i64, .int .i64, .int .i64, .int .i64] h0_0, AV.int .i64 h0_1, AV.sl [.int .i64] h0_2, AV.sl [.int .i64] h0_3, AV.sl [.int .i64, .int .i64] h0_4]]⟩), ([1, 4], ⟨true, [], [AV.agg [AV.int .i64 (fI (t31.getD t33.toNat AV.undef) 0), AV.int .i64 (fI (t31.getD t33.toNat AV.undef) 1), AV.int .i64 (fI (t31.getD t33.toNat AV.undef) 2), AV.int .i64 (fI (t31.getD t33.toNat AV.undef) 3)]]⟩)]⟩
           else (bif decide (fI (t31.getD t33.toNat AV.undef) 2 > h0_1) then k .ret ⟨[(2, AV.bool false)], [([0, 1], ⟨true, [], [AV.agg [AV.sl [.int .i64, .int .i64, .int .i64, .int .i64] h0_0, AV.int .i64 h0_1, AV.sl [.int .i64] h0_2, AV.sl [.int .i64] h0_3, AV.sl [.int .i64, .int .i64] h0_4]]⟩), ([1, 4], ⟨true, [], [AV.agg [AV.int .i64 (fI (t31.getD t33.toNat AV.undef) 0), AV.int .i64 (fI (t31.getD t33.toNat AV.undef) 1), AV.int .i64 (fI (t31.getD t33.toNat AV.undef) 2), AV.int .i64 (fI (t31.getD t33.toNat AV.undef) 3)]]⟩)]⟩
            else (bif !decide (fI (t31.getD t33.toNat AV.undef) 3 = (-1)) then (bif decide (fI (t31.getD t33.toNat AV.undef) 3 ≤ fI (t31.getD t33.toNat AV.undef) 2) then k .ret ⟨[(2, AV.bool false)], [([0, 1], ⟨true, [], [AV.agg [AV.sl [.int .i64, .int .i64, .int .i64, .int .i64] h0_0, AV.int .i64 h0_1, AV.sl [.int .i64] h0_2, AV.sl [.int .i64] h0_3, AV.sl [.int .i64, .int .i64] h0_4]]⟩), ([1, 4], ⟨true, [], [AV.agg [AV.int .i64 (fI (t31.getD t33.toNat AV.undef) 0), AV.int .i64 (fI (t31.getD t33.toNat AV.undef) 1), AV.int .i64 (fI (t31.getD t33.toNat AV.undef) 2), AV.int .i64 (fI (t31.getD t33.toNat AV.undef) 3)]]⟩)]⟩
              else (bif decide (fI (t31.getD t33.toNat AV.undef) 3 > h0_1) then k .ret ⟨[(2, AV.bool false)], [([0, 1], ⟨true, [], [AV.agg [AV.sl [.int .i64, .int .i64, .int .i64, .int .i64] h0_0, AV.int .i64 h0_1, AV.sl [.int .i64] h0_2, AV.sl [.int .i64] h0_3, AV.sl [.int .i64, .int .i64] h0_4]]⟩), ([1, 4], ⟨true, [], [AV.agg [AV.int .i64 (fI (t31.getD t33.toNat AV.undef) 0), AV.int .i64 (fI (t31.getD t33.toNat AV.undef) 1), AV.int .i64 (fI (t31.getD t33.toNat AV.undef) 2), AV.int .i64 (fI (t31.getD t33.toNat AV.undef) 3)]]⟩)]⟩
               else next ⟨[(1, AV.ptr [0, 1] 0 0), (31, AV.sl [.int .i64, .int .i64, .int .i64, .int .i64] t31), (32, AV.int .i64 t32), (33, AV.int .i64 (IntKind.i64.wrap (t33 + 1)))], [([0, 1], ⟨true, [], [AV.agg [AV.sl [.int .i64, .int .i64, .int .i64, .int .i64] h0_0, AV.int .i64 h0_1, AV.sl [.int .i64] h0_2, AV.sl [.int .i64] h0_3, AV.sl [.int .i64, .int .i64] h0_4]]⟩)]⟩))
             else next ⟨[(1, AV.ptr [0, 1] 0 0), (31, AV.sl [.int .i64, .int .i64, .int .i64, .int .i64] t31), (32, AV.int .i64 t32), (33, AV.int .i64 (IntKind.i64.wrap (t33 + 1)))], [([0, 1], ⟨true, [], [AV.agg [AV.sl [.int .i64, .int .i64, .int .i64, .int .i64] h0_0, AV.int .i64 h0_1, AV.sl [.int .i64] h0_2, AV.sl [.int .i64] h0_3, AV.sl [.int .i64, .int .i64] h0_4]]⟩)]⟩))))
         else none)
        else (bif decide (fI (t31.getD t33.toNat AV.undef) 2 < 0) then k .ret ⟨[(2, AV.bool false)], [([0, 1], ⟨true, [], [AV.agg [AV.sl [.int .i64, .int .i64, .int .i64, .int .i64] h0_0, AV.int .i64 h0_1, AV.sl [.int .i64] h0_2, AV.sl [.int .i64] h0_3, AV.sl [.int .i64, .int .i64] h0_4]]⟩), ([1, 4], ⟨true, [], [AV.agg [AV.int .i64 (fI (t31.getD t33.toNat AV.undef) 0), AV.int .i64 (fI (t31.getD t33.toNat AV.undef) 1), AV.int .i64 (fI (t31.getD t33.toNat AV.undef) 2), AV.int .i64 (fI (t31.getD t33.toNat AV.undef) 3)]]⟩)]⟩
         else (bif decide (fI (t31.getD t33.toNat AV.undef) 2 > h0_1) then k .ret ⟨[(2, AV.bool false)], [([0, 1], ⟨true, [], [AV.agg [AV.sl [.int .i64, .int .i64, .int .i64, .int .i64] h0_0, AV.int .i64 h0_1, AV.sl [.int .i64] h0_2, AV.sl [.int .i64] h0_3, AV.sl [.int .i64, .int .i64] h0_4]]⟩), ([1, 4], ⟨true, [], [AV.agg [AV.int .i64 (fI (t31.getD t33.toNat AV.undef) 0), AV.int .i64 (fI (t31.getD t33.toNat AV.undef) 1), AV.int .i64 (fI (t31.getD t33.toNat AV.undef) 2), AV.int .i64 (fI (t31.getD t33.toNat AV.undef) 3)]]⟩)]⟩
          else (bif !decide (fI (t31.getD t33.toNat AV.undef) 3 = (-1)) then (bif decide (fI (t31.getD t33.toNat AV.undef) 3 ≤ fI (t31.getD t33.toNat AV.undef) 2) then k .ret ⟨[(2, AV.bool false)], [([0, 1], ⟨true, [], [AV.agg [AV.sl [.int .i64, .int .i64, .int .i64, .int .i64] h0_0, AV.int .i64 h0_1, AV.sl [.int .i64] h0_2, AV.sl [.int .i64] h0_3, AV.sl [.int .i64, .int .i64] h0_4]]⟩), ([1, 4], ⟨true, [], [AV.agg [AV.int .i64 (fI (t31.getD t33.toNat AV.undef) 0), AV.int .i64 (fI (t31.getD t33.toNat AV.undef) 1), AV.int .i64 (fI (t31.getD t33.toNat AV.undef) 2), AV.int .i64 (fI (t31.getD t33.toNat AV.undef) 3)]]⟩)]⟩
            else (bif decide (fI (t31.getD t33.toNat AV.undef) 3 > h0_1) then k .ret ⟨[(2, AV.bool false)], [([0, 1], ⟨true, [], [AV.agg [AV.sl [.int .i64, .int .i64, .int .i64, .int .i64] h0_0, AV.int .i64 h0_1, AV.sl [.int .i64] h0_2, AV.sl [.int .i64] h0_3, AV.sl [.int .i64, .int .i64] h0_4]]⟩), ([1, 4], ⟨true, [], [AV.agg [AV.int .i64 (fI (t31.getD t33.toNat AV.undef) 0), AV.int .i64 (fI (t31.getD t33.toNat AV.undef) 1), AV.int .i64 (fI (t31.getD t33.toNat AV.undef) 2), AV.int .i64 (fI (t31.getD t33.toNat AV.undef) 3)]]⟩)]⟩
             else next ⟨[(1, AV.ptr [0, 1] 0 0), (31, AV.sl [.int .i64, .int .i64, .int .i64, .int .i64] t31), (32, AV.int .i64 t32), (33, AV.int .i64 (IntKind.i64.wrap (t33 + 1)))], [([0, 1], ⟨true, [], [AV.agg [AV.sl [.int .i64, .int .i64, .int .i64, .int .i64] h0_0, AV.int .i64 h0_1, AV.sl [.int .i64] h0_2, AV.sl [.int .i64] h0_3, AV.sl [.int .i64, .int .i64] h0_4]]⟩)]⟩))
           else next ⟨[(1, AV.ptr [0, 1] 0 0), (31, AV.sl [.int .i64, .int .i64, .int .i64, .int .i64] t31), (32, AV.int .i64 t32), (33, AV.int .i64 (IntKind.i64.wrap (t33 + 1)))], [([0, 1], ⟨true, [], [AV.agg [AV.sl [.int .i64, .int .i64, .int .i64, .int .i64] h0_0, AV.int .i64 h0_1, AV.sl [.int .i64] h0_2, AV.sl [.int .i64] h0_3, AV.sl [.int .i64, .int .i64] h0_4]]⟩)]⟩)))))
      else none))
    else none)
   else none)
  else k (.exit 0) ⟨[], [([0, 1], ⟨true, [], [AV.agg [AV.sl [.int .i64, .int .i64, .int .i64, .int .i64] h0_0, AV.int .i64 h0_1, AV.sl [.int .i64] h0_2, AV.sl [.int .i64] h0_3, AV.sl [.int .i64, .int .i64] h0_4]]⟩)]⟩) := by kernel_rfl
theorem st18_0 (t31 : List AV) (t32 : Int) (h0_0 : List AV) (h0_1 : Int) (h0_2 : List AV) (h0_3 : List AV) (h0_4 : List AV) (ce : CallE) (k : Kont) (s : Int) (next : St → Option AV) : stepA (codeA c18 ce [] 18 0 (sub [1, 1, 0, 1, 0, 0] (body Try.f18))) (normA [] [1, 31, 32, 33]) next ((fun s : Int => ⟨[(1, AV.ptr [0, 1] 0 0), (31, AV.sl [.int .i64, .int .i64, .int .i64, .int .i64] t31), (32, AV.int .i64 t32), (33, AV.int .i64 s)], [([0, 1], ⟨true, [], [AV.agg [AV.sl [.int .i64, .int .i64, .int .i64, .int .i64] h0_0, AV.int .i64 h0_1, AV.sl [.int .i64] h0_2, AV.sl [.int .i64] h0_3, AV.sl [.int .i64, .int .i64] h0_4]]⟩)]⟩) s) k = (R18_0 t31 t32 h0_0 h0_1 h0_2 h0_3 h0_4 s).el none (fun s => next ((fun s : Int => ⟨[(1, AV.ptr [0, 1] 0 0), (31, AV.sl [.int .i64, .int .i64, .int .i64, .int .i64] t31), (32, AV.int .i64 t32), (33, AV.int .i64 s)], [([0, 1], ⟨true, [], [AV.agg [AV.sl [.int .i64, .int .i64, .int .i64, .int .i64] h0_0, AV.int .i64 h0_1, AV.sl [.int .i64] h0_2, AV.sl [.int .i64] h0_3, AV.sl [.int .i64, .int .i64] h0_4]]⟩)]⟩) s)) (sumE (fun _ : Unit => k (.exit 0) ⟨[], [([0, 1], ⟨true, [], [AV.agg [AV.sl [.int .i64, .int .i64, .int .i64, .int .i64] h0_0, AV.int .i64 h0_1, AV.sl [.int .i64] h0_2, AV.sl [.int .i64] h0_3, AV.sl [.int .i64, .int .i64] h0_4]]⟩)]⟩) (fun p : Int × Int × Int × Int => k .ret ⟨[(2, AV.bool false)], [([0, 1], ⟨true, [], [AV.agg [AV.sl [.int .i64, .int .i64, .int .i64, .int .i64] h0_0, AV.int .i64 h0_1, AV.sl [.int .i64] h0_2, AV.sl [.int .i64] h0_3, AV.sl [.int .i64, .int .i64] h0_4]]⟩), ([1, 4], ⟨true, [], [AV.agg [AV.int .i64 p.1, AV.int .i64 p.2.1, AV.int .i64 p.2.2.1, AV.int .i64 p.2.2.2]]⟩)]⟩)) := (s18_0 ce t31 t32 s h0_0 h0_1 h0_2 h0_3 h0_4 next k).trans (by unfold R18_0; unfold F18_0; simp only [el_cond, el_ro, el_sum, el_fail, el_next, el_stop] <;> rfl)
theorem ok18_0 {ce : CallE} : LoopOK c18 ce [] 18 0 (sub [1, 1, 0, 1, 0, 0] (body Try.f18)) := by
  intro m hm st k r h
  obtain rfl : l18_0 = m := Option.some.inj hm
  unfold l18_0 at h
  split at h
  · rename_i g0 g1 g2 g3 t31 t32 t33 g4 g5 h0_0 h0_1 g6 h0_2 g7 h0_3 g8 h0_4
    obtain ⟨hg, h⟩ := bif_some h
    simp only [Bool.and_eq_true] at hg
    obtain ⟨⟨⟨⟨⟨⟨⟨⟨q0, q1⟩, q2⟩, q3⟩, q4⟩, q5⟩, q6⟩, q7⟩, q8⟩ := hg
    obtain rfl := (nmEq_iff _ _).1 q0
    obtain rfl := Nat.eq_of_beq_eq_true q1
    obtain rfl := Nat.eq_of_beq_eq_true q2
    obtain rfl := ctsEq_eq _ _ q3
    obtain rfl := (nmEq_iff _ _).1 q4
    obtain rfl := ctsEq_eq _ _ q5
    obtain rfl := ctsEq_eq _ _ q6
    obtain rfl := ctsEq_eq _ _ q7
    obtain rfl := ctsEq_eq _ _ q8
    refine ⟨((t32 - t33).toNat + 1), ?_⟩
    rw [← h]
    exact loop_run (fun s : Int => ⟨[(1, AV.ptr [0, 1] 0 0), (31, AV.sl [.int .i64, .int .i64, .int .i64, .int .i64] t31), (32, AV.int .i64 t32), (33, AV.int .i64 s)], [([0, 1], ⟨true, [], [AV.agg [AV.sl [.int .i64, .int .i64, .int .i64, .int .i64] h0_0, AV.int .i64 h0_1, AV.sl [.int .i64] h0_2, AV.sl [.int .i64] h0_3, AV.sl [.int .i64, .int .i64] h0_4]]⟩)]⟩) (sumE (fun _ : Unit => k (.exit 0) ⟨[], [([0, 1], ⟨true, [], [AV.agg [AV.sl [.int .i64, .int .i64, .int .i64, .int .i64] h0_0, AV.int .i64 h0_1, AV.sl [.int .i64] h0_2, AV.sl [.int .i64] h0_3, AV.sl [.int .i64, .int .i64] h0_4]]⟩)]⟩) (fun p : Int × Int × Int × Int => k .ret ⟨[(2, AV.bool false)], [([0, 1], ⟨true, [], [AV.agg [AV.sl [.int .i64, .int .i64, .int .i64, .int .i64] h0_0, AV.int .i64 h0_1, AV.sl [.int .i64] h0_2, AV.sl [.int .i64] h0_3, AV.sl [.int .i64, .int .i64] h0_4]]⟩), ([1, 4], ⟨true, [], [AV.agg [AV.int .i64 p.1, AV.int .i64 p.2.1, AV.int .i64 p.2.2.1, AV.int .i64 p.2.2.2]]⟩)]⟩)) (st18_0 t31 t32 h0_0 h0_1 h0_2 h0_3 h0_4 ce k) _ t33
  · cases h
def q18 (a0_0 : List AV) (a0_1 : Int) (a0_2 : List AV) (a0_3 : List AV) (a0_4 : List AV) : Bool := (q71 a0_2 a0_3 a0_4 && (bif !(v71_0 a0_2 a0_3 a0_4) then true else (bif !decide ((a0_0.length : Int) = (a0_2.length : Int)) then true else (bif decide (a0_1 < 0) then true else (bif decide (a0_1 > 1000) then true else (ro (runW (R18_0 a0_0 (a0_0.length : Int) a0_0 a0_1 a0_2 a0_3 a0_4) (((a0_0.length : Int) - 0).toNat + 1) 0) false (sumE (fun _ => true) (fun p35 => true))))))))
def v18_0 (a0_0 : List AV) (a0_1 : Int) (a0_2 : List AV) (a0_3 : List AV) (a0_4 : List AV) : Bool := (bif !(v71_0 a0_2 a0_3 a0_4) then false else (bif !decide ((a0_0.length : Int) = (a0_2.length : Int)) then false else (bif decide (a0_1 < 0) then false else (bif decide (a0_1 > 1000) then false else (ro (runW (R18_0 a0_0 (a0_0.length : Int) a0_0 a0_1 a0_2 a0_3 a0_4) (((a0_0.length : Int) - 0).toNat + 1) 0) false (sumE (fun _ => true) (fun p35 => false)))))))
theorem e18 (a0_0 : List AV) (a0_1 : Int) (a0_2 : List AV) (a0_3 : List AV) (a0_4 : List AV) : funA c18 0 18 [AV.agg [AV.sl [.int .i64, .int .i64, .int .i64, .int .i64] a0_0, AV.int .i64 a0_1, AV.sl [.int .i64] a0_2, AV.sl [.int .i64] a0_3, AV.sl [.int .i64, .int .i64] a0_4]] = (bif q71 a0_2 a0_3 a0_4 then (bif !(v71_0 a0_2 a0_3 a0_4) then some (AV.bool false)
   else (bif !decide ((a0_0.length : Int) = (a0_2.length : Int)) then some (AV.bool false)
    else (bif decide (a0_1 < 0) then some (AV.bool false)
     else (bif decide (a0_1 > 1000) then some (AV.bool false)
      else (ro (runW (R18_0 a0_0 (a0_0.length : Int) a0_0 a0_1 a0_2 a0_3 a0_4) (((a0_0.length : Int) - 0).toNat + 1) 0) none (sumE (fun _ => some (AV.bool true)) (fun p35 => some (AV.bool false))))))))
  else none) := by kernel_rfl
theorem r18 (a0_0 : List AV) (a0_1 : Int) (a0_2 : List AV) (a0_3 : List AV) (a0_4 : List AV) (h : q18 a0_0 a0_1 a0_2 a0_3 a0_4 = true) : funA c18 0 18 [AV.agg [AV.sl [.int .i64, .int .i64, .int .i64, .int .i64] a0_0, AV.int .i64 a0_1, AV.sl [.int .i64] a0_2, AV.sl [.int .i64] a0_3, AV.sl [.int .i64, .int .i64] a0_4]] = some (AV.bool (v18_0 a0_0 a0_1 a0_2 a0_3 a0_4)) := (e18 a0_0 a0_1 a0_2 a0_3 a0_4).trans ((brL (br (fun b => some (AV.bool (bif b then false else (bif !decide ((a0_0.length : Int) = (a0_2.length : Int)) then false else (bif decide (a0_1 < 0) then false else (bif decide (a0_1 > 1000) then false else (ro (runW (R18_0 a0_0 (a0_0.length : Int) a0_0 a0_1 a0_2 a0_3 a0_4) (((a0_0.length : Int) - 0).toNat + 1) 0) false (sumE (fun _ => true) (fun p35 => false))))))))) (fun _ => rfl) (br (fun b => some (AV.bool (bif b then false else (bif decide (a0_1 < 0) then false else (bif decide (a0_1 > 1000) then false else (ro (runW (R18_0 a0_0 (a0_0.length : Int) a0_0 a0_1 a0_2 a0_3 a0_4) (((a0_0.length : Int) - 0).toNat + 1) 0) false (sumE (fun _ => true) (fun p35 => false)))))))) (fun _ => rfl) (br (fun b => some (AV.bool (bif b then false else (bif decide (a0_1 > 1000) then false else (ro (runW (R18_0 a0_0 (a0_0.length : Int) a0_0 a0_1 a0_2 a0_3 a0_4) (((a0_0.length : Int) - 0).toNat + 1) 0) false (sumE (fun _ => true) (fun p35 => false))))))) (fun _ => rfl) (br (fun b => some (AV.bool (bif b then false else (ro (runW (R18_0 a0_0 (a0_0.length : Int) a0_0 a0_1 a0_2 a0_3 a0_4) (((a0_0.length : Int) - 0).toNat + 1) 0) false (sumE (fun _ => true) (fun p35 => false)))))) (fun _ => rfl) (brO (fun o : Option (Unit ⊕ (Int × Int × Int × Int)) => some (AV.bool (ro o false (sumE (fun _ => true) (fun p35 => false))))) (brS (fun o : Unit ⊕ (Int × Int × Int × Int) => some (AV.bool ((sumE (fun _ => true) (fun p35 => false)) o))) (fun _ => (fun _ => rfl)) (fun p35 => (fun _ => rfl))))))))) h)
def m18 : TModel
  | [.agg [.sl g0 a0_0, .int .i64 a0_1, .sl g1 a0_2, .sl g2 a0_3, .sl g3 a0_4]] => bif ctsEq g0 ([.int .i64, .int .i64, .int .i64, .int .i64]) && ctsEq g1 ([.int .i64]) && ctsEq g2 ([.int .i64]) && ctsEq g3 ([.int .i64, .int .i64]) then some (q18 a0_0 a0_1 a0_2 a0_3 a0_4, AV.bool (v18_0 a0_0 a0_1 a0_2 a0_3 a0_4)) else none
  | _ => none
theorem k18 : Known Try.prog 18 := ⟨Try.f18, Try.func18, by kernel_rfl, by kernel_rfl⟩
theorem meets18 : Meets Try.prog 18 m18 := by
  refine meet (f := Try.f18) (l := [(0, sub [1, 1, 0, 1, 0, 0] (body Try.f18))]) (hs := [(18, 0, [1, 31, 32, 33]), (18, 999, [2]), (18, 1000, []), (18, 1001, [1, 31, 32, 33])]) (ts := [(71, m71), (72, m72)]) (ws := []) (is := []) (ls := [(18, 0, l18_0)]) (lvl := 0) mixed k18 Try.func18 (by kernel_rfl) (loops_cons ok18_0 noLoop) (allT_cons meets71 (allT_cons meets72 allT_nil)) allM_nil noI fun w xs us r hl hv h => ?_
  unfold m18 at h
  split at h
  · rename_i g0 a0_0 a0_1 g1 a0_2 g2 a0_3 g3 a0_4
    obtain ⟨hg, h⟩ := bif_pair h
    simp only [Bool.and_eq_true] at hg
    obtain ⟨⟨⟨q0, q1⟩, q2⟩, q3⟩ := hg
    obtain rfl := ctsEq_eq _ _ q0
    obtain rfl := ctsEq_eq _ _ q1
    obtain rfl := ctsEq_eq _ _ q2
    obtain rfl := ctsEq_eq _ _ q3
    obtain ⟨h1, rfl⟩ := pair_inj h
    exact r18 a0_0 a0_1 a0_2 a0_3 a0_4 h1
  · cases h

/-! ### 126 loop.example/g01984/laws.eqStamp -/
noncomputable def c126 : Cfg := cfg Try.prog [(126, 999, [4])] [] [] [] []
def q126 (a0_0 : Int) (a0_1 : Int) (a0_2 : Int) (a0_3 : Int) (a1_0 : Int) (a1_1 : Int) (a1_2 : Int) (a1_3 : Int) : Bool := true
def v126_0 (a0_0 : Int) (a0_1 : Int) (a0_2 : Int) (a0_3 : Int) (a1_0 : Int) (a1_1 : Int) (a1_2 : Int) (a1_3 : Int) : Bool := (bif !decide (a0_0 = a1_0) then false else (bif !decide (a0_1 = a1_1) then false else (bif !decide (a0_2 = a1_2) then false else (bif !decide (a0_3 = a1_3) then false else true))))
theorem e126 (a0_0 : Int) (a0_1 : Int) (a0_2 : Int) (a0_3 : Int) (a1_0 : Int) (a1_1 : Int) (a1_2 : Int) (a1_3 : Int) : funA c126 0 126 [AV.agg [AV.int .i64 a0_0, AV.int .i64 a0_1, AV.int .i64 a0_2, AV.int .i64 a0_3], AV.agg [AV.int .i64 a1_0, AV.int .i64 a1_1, AV.int .i64 a1_2, AV.int .i64 a1_3]] = (bif !decide (a0_0 = a1_0) then some (AV.bool false)
  else (bif !decide (a0_1 = a1_1) then some (AV.bool false)
   else (bif !decide (a0_2 = a1_2) then some (AV.bool false)
    else (bif !decide (a0_3 = a1_3) then some (AV.bool false)
     else some (AV.bool true))))) := by kernel_rfl
theorem r126 (a0_0 : Int) (a0_1 : Int) (a0_2 : Int) (a0_3 : Int) (a1_0 : Int) (a1_1 : Int) (a1_2 : Int) (a1_3 : Int) : funA c126 0 126 [AV.agg [AV.int .i64 a0_0, AV.int .i64 a0_1, AV.int .i64 a0_2, AV.int .i64 a0_3], AV.agg [AV.int .i64 a1_0, AV.int .i64 a1_1, AV.int .i64 a1_2, AV.int .i64 a1_3]] = some (AV.bool (v126_0 a0_0 a0_1 a0_2 a0_3 a1_0 a1_1 a1_2 a1_3)) := (e126 a0_0 a0_1 a0_2 a0_3 a1_0 a1_1 a1_2 a1_3).trans (of_tt (brT (fun b => some (AV.bool (bif b then false else (bif !decide (a0_1 = a1_1) then false else (bif !decide (a0_2 = a1_2) then false else (bif !decide (a0_3 = a1_3) then false else true)))))) (fun _ => rfl) (brT (fun b => some (AV.bool (bif b then false else (bif !decide (a0_2 = a1_2) then false else (bif !decide (a0_3 = a1_3) then false else true))))) (fun _ => rfl) (brT (fun b => some (AV.bool (bif b then false else (bif !decide (a0_3 = a1_3) then false else true)))) (fun _ => rfl) (brT (fun b => some (AV.bool (bif b then false else true))) (fun _ => rfl) (fun _ => rfl))))))
def m126 : TModel
  | [.agg [.int .i64 a0_0, .int .i64 a0_1, .int .i64 a0_2, .int .i64 a0_3], .agg [.int .i64 a1_0, .int .i64 a1_1, .int .i64 a1_2, .int .i64 a1_3]] => some (true, AV.bool (v126_0 a0_0 a0_1 a0_2 a0_3 a1_0 a1_1 a1_2 a1_3))
  | _ => none
theorem k126 : Known Try.prog 126 := ⟨Try.f126, Try.func126, by kernel_rfl, by kernel_rfl⟩
theorem meets126 : Meets Try.prog 126 m126 := by
  refine meet (f := Try.f126) (l := []) (hs := [(126, 999, [4])]) (ts := []) (ws := []) (is := []) (ls := []) (lvl := 0) mixed k126 Try.func126 (by kernel_rfl) noLoop allT_nil allM_nil noI fun w xs us r hl hv h => ?_
  unfold m126 at h
  split at h
  · rename_i a0_0 a0_1 a0_2 a0_3 a1_0 a1_1 a1_2 a1_3
    obtain ⟨h1, rfl⟩ := pair_inj h
    exact r126 a0_0 a0_1 a0_2 a0_3 a1_0 a1_1 a1_2 a1_3
  · cases h

/-! ### 73 loop.example/g01984/laws.eqStampS -/
def F73_0 (t0 : List AV) (t1 : List AV) (t5 : Int) : Out (Int) (Unit ⊕ Unit) := (bif decide (t5 < (t0.length : Int)) then (bif (decide (0 ≤ t5) && decide (t5 < (t0.length : Int))) then (bif (decide (0 ≤ t5) && decide (t5 < (t1.length : Int))) then (bif !(v126_0 (fI (t0.getD t5.toNat AV.undef) 0) (fI (t0.getD t5.toNat AV.undef) 1) (fI (t0.getD t5.toNat AV.undef) 2) (fI (t0.getD t5.toNat AV.undef) 3) (fI (t1.getD t5.toNat AV.undef) 0) (fI (t1.getD t5.toNat AV.undef) 1) (fI (t1.getD t5.toNat AV.undef) 2) (fI (t1.getD t5.toNat AV.undef) 3)) then .stop (.inr ())
     else .next (IntKind.i64.wrap (t5 + 1)))
    else .fail)
   else .fail)
  else .stop (.inl ()))
def R73_0 (t0 : List AV) (t1 : List AV) : (Int) → Out (Int) (Unit ⊕ Unit) := fun s : Int => F73_0 t0 t1 s
def l73_0 : LModel := fun _ _ st k => match st with
  | ⟨[(0, .sl g0 t0), (1, .sl g1 t1), (5, .int .i64 t5)], []⟩ => bif ctsEq g0 ([.int .i64, .int .i64, .int .i64, .int .i64]) && ctsEq g1 ([.int .i64, .int .i64, .int .i64, .int .i64]) then ro (runW (R73_0 t0 t1) (((t0.length : Int) - t5).toNat + 1) t5) none (sumE (fun _ : Unit => k (.exit 0) ⟨[], []⟩) (fun _ : Unit => k .ret ⟨[(4, AV.bool false)], []⟩)) else none
  | _ => none
noncomputable def c73 : Cfg := cfg Try.prog [(73, 0, [0, 1, 5]), (73, 999, [4]), (73, 1000, []), (73, 1001, [0, 1, 5])] [(126, m126)] [] [] [(73, 0, l73_0)]
theorem s73_0 (ce : CallE) (t0 : List AV) (t1 : List AV) (t5 : Int) (next : St → Option AV) (k : Kont) : stepA (codeA c73 ce [] 73 0 (sub [1, 1, 0, 1, 0, 0] (body Try.f73))) (normA [] [0, 1, 5]) next ⟨[(0, AV.sl [.int .i64, .int .i64, .int .i64, .int .i64] t0), (1, AV.sl [.int .i64, .int .i64, .int .i64, .int .i64] t1), (5, AV.int .i64 t5)], []⟩ k = (bif decide (t5 < (t0.length : Int)) then (bif (decide (0 ≤ t5) && decide (t5 < (t0.length : Int))) then (bif (decide (0 ≤ t5) && decide (t5 < (t1.length : Int))) then (bif !(v126_0 (fI (t0.getD t5.toNat AV.undef) 0) (fI (t0.getD t5.toNat AV.undef) 1) (fI (t0.getD t5.toNat AV.undef) 2) (fI (t0.getD t5.toNat AV.undef) 3) (fI (t1.getD t5.toNat AV.undef) 0) (fI (t1.getD t5.toNat AV.undef) 1) (fI (t1.getD t5.toNat AV.undef) 2) (fI (t1.getD t5.toNat AV.undef) 3)) then k .ret ⟨[(4, AV.bool false)], []⟩
     else next ⟨[(0, AV.sl [.int .i64, .int .i64, .int .i64, .int .i64] t0), (1, AV.sl [.int .i64, .int .i64, .int .i64, .int .i64] t1), (5, AV.int .i64 (IntKind.i64.wrap (t5 + 1)))], []⟩)
    else none)
   else none)
  else k (.exit 0) ⟨[], []⟩) := by kernel_rfl
theorem st73_0 (t0 : List AV) (t1 : List AV) (ce : CallE) (k : Kont) (s : Int) (next : St → Option AV) : stepA (codeA c73 ce [] 73 0 (sub [1, 1, 0, 1, 0, 0] (body Try.f73))) (normA [] [0, 1, 5]) next ((fun s : Int => ⟨[(0, AV.sl [.int .i64, .int .i64, .int .i64, .int .i64] t0), (1, AV.sl [.int .i64, .int .i64, .int .i64, .int .i64] t1), (5, AV.int .i64 s)], []⟩) s) k = (R73_0 t0 t1 s).el none (fun s => next ((fun s : Int => ⟨[(0, AV.sl [.int .i64, .int .i64, .int .i64, .int .i64] t0), (1, AV.sl [.int .i64, .int .i64, .int .i64, .int .i64] t1), (5, AV.int .i64 s)], []⟩) s)) (sumE (fun _ : Unit => k (.exit 0) ⟨[], []⟩) (fun _ : Unit => k .ret ⟨[(4, AV.bool false)], []⟩)) := (s73_0 ce t0 t1 s next k).trans (by unfold R73_0; unfold F73_0; simp only [el_cond, el_ro, el_sum, el_fail, el_next, el_stop] <;> rfl)
theorem ok73_0 {ce : CallE} : LoopOK c73 ce [] 73 0 (sub [1, 1, 0, 1, 0, 0] (body Try.f73)) := by
  intro m hm st k r h
  obtain rfl : l73_0 = m := Option.some.inj hm
  unfold l73_0 at h
  split at h
  · rename_i g0 t0 g1 t1 t5
    obtain ⟨hg, h⟩ := bif_some h
    simp only [Bool.and_eq_true] at hg
    obtain ⟨q0, q1⟩ := hg
    obtain rfl := ctsEq_eq _ _ q0
    obtain rfl := ctsEq_eq _ _ q1
    refine ⟨(((t0.length : Int) - t5).toNat + 1), ?_⟩
    rw [← h]
    exact loop_run (fun s : Int => ⟨[(0, AV.sl [.int .i64, .int .i64, .int .i64, .int .i64] t0), (1, AV.sl [.int .i64, .int .i64, .int .i64, .int .i64] t1), (5, AV.int .i64 s)], []⟩) (sumE (fun _ : Unit => k (.exit 0) ⟨[], []⟩) (fun _ : Unit => k .ret ⟨[(4, AV.bool false)], []⟩)) (st73_0 t0 t1 ce k) _ t5
  · cases h
def q73 (a0 : List AV) (a1 : List AV) : Bool := (bif !decide ((a0.length : Int) = (a1.length : Int)) then true else (ro (runW (R73_0 a0 a1) (((a0.length : Int) - 0).toNat + 1) 0) false (sumE (fun _ => true) (fun _ => true))))
def v73_0 (a0 : List AV) (a1 : List AV) : Bool := (bif !decide ((a0.length : Int) = (a1.length : Int)) then false else (ro (runW (R73_0 a0 a1) (((a0.length : Int) - 0).toNat + 1) 0) false (sumE (fun _ => true) (fun _ => false))))
theorem e73 (a0 : List AV) (a1 : List AV) : funA c73 0 73 [AV.sl [.int .i64, .int .i64, .int .i64, .int .i64] a0, AV.sl [.int .i64, .int .i64, .int .i64, .int .i64] a1] = (bif !decide ((a0.length : Int) = (a1.length : Int)) then some (AV.bool false)
  else (ro (runW (R73_0 a0 a1) (((a0.length : Int) - 0).toNat + 1) 0) none (sumE (fun _ => some (AV.bool true)) (fun _ => some (AV.bool false))))) := by kernel_rfl
theorem r73 (a0 : List AV) (a1 : List AV) (h : q73 a0 a1 = true) : funA c73 0 73 [AV.sl [.int .i64, .int .i64, .int .i64, .int .i64] a0, AV.sl [.int .i64, .int .i64, .int .i64, .int .i64] a1] = some (AV.bool (v73_0 a0 a1)) := (e73 a0 a1).trans ((br (fun b => some (AV.bool (bif b then false else (ro (runW (R73_0 a0 a1) (((a0.length : Int) - 0).toNat + 1) 0) false (sumE (fun _ => true) (fun _ => false)))))) (fun _ => rfl) (brO (fun o : Option (Unit ⊕ Unit) => some (AV.bool (ro o false (sumE (fun _ => true) (fun _ => false))))) (brS (fun o : Unit ⊕ Unit => some (AV.bool ((sumE (fun _ => true) (fun _ => false)) o))) (fun _ => (fun _ => rfl)) (fun _ => (fun _ => rfl))))) h)
def m73 : TModel
  | [.sl g0 a0, .sl g1 a1] => bif ctsEq g0 ([.int .i64, .int .i64, .int .i64, .int .i64]) && ctsEq g1 ([.int .i64, .int .i64, .int .i64, .int .i64]) then some (q73 a0 a1, AV.bool (v73_0 a0 a1)) else none
  | _ => none
theorem k73 : Known Try.prog 73 := ⟨Try.f73, Try.func73, by kernel_rfl, by kernel_rfl⟩
theorem meets73 : Meets Try.prog 73 m73 := by
  refine meet (f := Try.f73) (l := [(0, sub [1, 1, 0, 1, 0, 0] (body Try.f73))]) (hs := [(73, 0, [0, 1, 5]), (73, 999, [4]), (73, 1000, []), (73, 1001, [0, 1, 5])]) (ts := [(126, m126)]) (ws := []) (is := []) (ls := [(73, 0, l73_0)]) (lvl := 0) mixed k73 Try.func73 (by kernel_rfl) (loops_cons ok73_0 noLoop) (allT_cons meets126 allT_nil) allM_nil noI fun w xs us r hl hv h => ?_
  unfold m73 at h
  split at h
  · rename_i g0 a0 g1 a1
    obtain ⟨hg, h⟩ := bif_pair h
    simp only [Bool.and_eq_true] at hg
    obtain ⟨q0, q1⟩ := hg
    obtain rfl := ctsEq_eq _ _ q0
    obtain rfl := ctsEq_eq _ _ q1
    obtain ⟨h1, rfl⟩ := pair_inj h
    exact r73 a0 a1 h1
  · cases h

/-! ### 34 loop.example/g01984/laws.eqIntS -/
def F34_0 (t0 : List AV) (t1 : List AV) (t5 : Int) : Out (Int) (Unit ⊕ Unit) := (bif decide (t5 < (t0.length : Int)) then (bif (decide (0 ≤ t5) && decide (t5 < (t0.length : Int))) then (bif (decide (0 ≤ t5) && decide (t5 < (t1.length : Int))) then (bif !decide (fI (t0.getD t5.toNat AV.undef) 0 = fI (t1.getD t5.toNat AV.undef) 0) then .stop (.inr ())
     else .next (IntKind.i64.wrap (t5 + 1)))
    else .fail)
   else .fail)
  else .stop (.inl ()))
def R34_0 (t0 : List AV) (t1 : List AV) : (Int) → Out (Int) (Unit ⊕ Unit) := fun s : Int => F34_0 t0 t1 s
def l34_0 : LModel := fun _ _ st k => match st with
  | ⟨[(0, .sl g0 t0), (1, .sl g1 t1), (5, .int .i64 t5)], []⟩ => bif ctsEq g0 ([.int .i64]) && ctsEq g1 ([.int .i64]) then ro (runW (R34_0 t0 t1) (((t0.length : Int) - t5).toNat + 1) t5) none (sumE (fun _ : Unit => k (.exit 0) ⟨[], []⟩) (fun _ : Unit => k .ret ⟨[(4, AV.bool false)], []⟩)) else none
  | _ => none
noncomputable def c34 : Cfg := cfg Try.prog [(34, 0, [0, 1, 5]), (34, 999, [4]), (34, 1000, []), (34, 1001, [0, 1, 5])] [] [] [] [(34, 0, l34_0)]
theorem s34_0 (ce : CallE) (t0 : List AV) (t1 : List AV) (t5 : Int) (next : St → Option AV) (k : Kont) : stepA (codeA c34 ce [] 34 0 (sub [1, 1, 0, 1, 0, 0] (body Try.f34))) (normA [] [0, 1, 5]) next ⟨[(0, AV.sl [.int .i64] t0), (1, AV.sl [.int .i64] t1), (5, AV.int .i64 t5)], []⟩ k = (bif decide (t5 < (t0.length : Int)) then (bif (decide (0 ≤ t5) && decide (t5 < (t0.length : Int))) then (bif (decide (0 ≤ t5) && decide (t5 < (t1.length : Int))) then (bif !decide (fI (t0.getD t5.toNat AV.undef) 0 = fI (t1.getD t5.toNat AV.undef) 0) then k .ret ⟨[(4, AV.bool false)], []⟩
     else next ⟨[(0, AV.sl [.int .i64] t0), (1, AV.sl [.int .i64] t1), (5, AV.int .i64 (IntKind.i64.wrap (t5 + 1)))], []⟩)
    else none)
   else none)
  else k (.exit 0) ⟨[], []⟩) := by kernel_rfl
theorem st34_0 (t0 : List AV) (t1 : List AV) (ce : CallE) (k : Kont) (s : Int) (next : St → Option AV) : stepA (codeA c34 ce [] 34 0 (sub [1, 1, 0, 1, 0, 0] (body Try.f34))) (normA [] [0, 1, 5]) next ((fun s : Int => ⟨[(0, AV.sl [.int .i64] t0), (1, AV.sl [.int .i64] t1), (5, AV.int .i64 s)], []⟩) s) k = (R34_0 t0 t1 s).el none (fun s => next ((fun s : Int => ⟨[(0, AV.sl [.int .i64] t0), (1, AV.sl [.int .i64] t1), (5, AV.int .i64 s)], []⟩) s)) (sumE (fun _ : Unit => k (.exit 0) ⟨[], []⟩) (fun _ : Unit => k .ret ⟨[(4, AV.bool false)], []⟩)) := (s34_0 ce t0 t1 s next k).trans (by unfold R34_0; unfold F34_0; simp only [el_cond, el_ro, el_sum, el_fail, el_next, el_stop] <;> rfl)
theorem ok34_0 {ce : CallE} : LoopOK c34 ce [] 34 0 (sub [1, 1, 0, 1, 0, 0] (body Try.f34)) := by
  intro m hm st k r h
  obtain rfl : l34_0 = m := Option.some.inj hm
  unfold l34_0 at h
  split at h
  · rename_i g0 t0 g1 t1 t5
    obtain ⟨hg, h⟩ := bif_some h
    simp only [Bool.and_eq_true] at hg
    obtain ⟨q0, q1⟩ := hg
    obtain rfl := ctsEq_eq _ _ q0
    obtain rfl := ctsEq_eq _ _ q1
    refine ⟨(((t0.length : Int) - t5).toNat + 1), ?_⟩
    rw [← h]
    exact loop_run (fun s : Int => ⟨[(0, AV.sl [.int .i64] t0), (1, AV.sl [.int .i64] t1), (5, AV.int .i64 s)], []⟩) (sumE (fun _ : Unit => k (.exit 0) ⟨[], []⟩) (fun _ : Unit => k .ret ⟨[(4, AV.bool false)], []⟩)) (st34_0 t0 t1 ce k) _ t5
  · cases h
def q34 (a0 : List AV) (a1 : List AV) : Bool := (bif !decide ((a0.length : Int) = (a1.length : Int)) then true else (ro (runW (R34_0 a0 a1) (((a0.length : Int) - 0).toNat + 1) 0) false (sumE (fun _ => true) (fun _ => true))))
def v34_0 (a0 : List AV) (a1 : List AV) : Bool := (bif !decide ((a0.length : Int) = (a1.length : Int)) then false else (ro (runW (R34_0 a0 a1) (((a0.length : Int) - 0).toNat + 1) 0) false (sumE (fun _ => true) (fun _ => false))))
theorem e34 (a0 : List AV) (a1 : List AV) : funA c34 0 34 [AV.sl [.int .i64] a0, AV.sl [.int .i64] a1] = (bif !decide ((a0.length : Int) = (a1.length : Int)) then some (AV.bool false)
  else (ro (runW (R34_0 a0 a1) (((a0.length : Int) - 0).toNat + 1) 0) none (sumE (fun _ => some (AV.bool true)) (fun _ => some (AV.bool false))))) := by kernel_rfl
theorem r34 (a0 : List AV) (a1 : List AV) (h : q34 a0 a1 = true) : funA c34 0 34 [AV.sl [.int .i64] a0, AV.sl [.int .i64] a1] = some (AV.bool (v34_0 a0 a1)) := (e34 a0 a1).trans ((br (fun b => some (AV.bool (bif b then false else (ro (runW (R34_0 a0 a1) (((a0.length : Int) - 0).toNat + 1) 0) false (sumE (fun _ => true) (fun _ => false)))))) (fun _ => rfl) (brO (fun o : Option (Unit ⊕ Unit) => some (AV.bool (ro o false (sumE (fun _ => true) (fun _ => false))))) (brS (fun o : Unit ⊕ Unit => some (AV.bool ((sumE (fun _ => true) (fun _ => false)) o))) (fun _ => (fun _ => rfl)) (fun _ => (fun _ => rfl))))) h)
def m34 : TModel
  | [.sl g0 a0, .sl g1 a1] => bif ctsEq g0 ([.int .i64]) && ctsEq g1 ([.int .i64]) then some (q34 a0 a1, AV.bool (v34_0 a0 a1)) else none
  | _ => none
theorem k34 : Known Try.prog 34 := ⟨Try.f34, Try.func34, by kernel_rfl, by kernel_rfl⟩
theorem meets34 : Meets Try.prog 34 m34 := by
  refine meet (f := Try.f34) (l := [(0, sub [1, 1, 0, 1, 0, 0] (body Try.f34))]) (hs := [(34, 0, [0, 1, 5]), (34, 999, [4]), (34, 1000, []), (34, 1001, [0, 1, 5])]) (ts := []) (ws := []) (is := []) (ls := [(34, 0, l34_0)]) (lvl := 0) mixed k34 Try.func34 (by kernel_rfl) (loops_cons ok34_0 noLoop) allT_nil allM_nil noI fun w xs us r hl hv h => ?_
  unfold m34 at h
  split at h
  · rename_i g0 a0 g1 a1
    obtain ⟨hg, h⟩ := bif_pair h
    simp only [Bool.and_eq_true] at hg
    obtain ⟨q0, q1⟩ := hg
    obtain rfl := ctsEq_eq _ _ q0
    obtain rfl := ctsEq_eq _ _ q1
    obtain ⟨h1, rfl⟩ := pair_inj h
    exact r34 a0 a1 h1
  · cases h

/-! ### 142 loop.example/g01984/laws.eqPivot -/
noncomputable def c142 : Cfg := cfg Try.prog [(142, 999, [4])] [] [] [] []
def q142 (a0_0 : Int) (a0_1 : Int) (a1_0 : Int) (a1_1 : Int) : Bool := true
def v142_0 (a0_0 : Int) (a0_1 : Int) (a1_0 : Int) (a1_1 : Int) : Bool := (bif !decide (a0_0 = a1_0) then false else (bif !decide (a0_1 = a1_1) then false else true))
theorem e142 (a0_0 : Int) (a0_1 : Int) (a1_0 : Int) (a1_1 : Int) : funA c142 0 142 [AV.agg [AV.int .i64 a0_0, AV.int .i64 a0_1], AV.agg [AV.int .i64 a1_0, AV.int .i64 a1_1]] = (bif !decide (a0_0 = a1_0) then some (AV.bool false)
  else (bif !decide (a0_1 = a1_1) then some (AV.bool false)
   else some (AV.bool true))) := by kernel_rfl
theorem r142 (a0_0 : Int) (a0_1 : Int) (a1_0 : Int) (a1_1 : Int) : funA c142 0 142 [AV.agg [AV.int .i64 a0_0, AV.int .i64 a0_1], AV.agg [AV.int .i64 a1_0, AV.int .i64 a1_1]] = some (AV.bool (v142_0 a0_0 a0_1 a1_0 a1_1)) := (e142 a0_0 a0_1 a1_0 a1_1).trans (of_tt (brT (fun b => some (AV.bool (bif b then false else (bif !decide (a0_1 = a1_1) then false else true)))) (fun _ => rfl) (brT (fun b => some (AV.bool (bif b then false else true))) (fun _ => rfl) (fun _ => rfl))))
def m142 : TModel
  | [.agg [.int .i64 a0_0, .int .i64 a0_1], .agg [.int .i64 a1_0, .int .i64 a1_1]] => some (true, AV.bool (v142_0 a0_0 a0_1 a1_0 a1_1))
  | _ => none
theorem k142 : Known Try.prog 142 := ⟨Try.f142, Try.func142, by kernel_rfl, by kernel_rfl⟩
theorem meets142 : Meets Try.prog 142 m142 := by
  refine meet (f := Try.f142) (l := []) (hs := [(142, 999, [4])]) (ts := []) (ws := []) (is := []) (ls := []) (lvl := 0) mixed k142 Try.func142 (by kernel_rfl) noLoop allT_nil allM_nil noI fun w xs us r hl hv h => ?_
  unfold m142 at h
  split at h
  · rename_i a0_0 a0_1 a1_0 a1_1
    obtain ⟨h1, rfl⟩ := pair_inj h
    exact r142 a0_0 a0_1 a1_0 a1_1
  · cases h

/-! ### 94 loop.example/g01984/laws.eqPivotS -/
def F94_0 (t0 : List AV) (t1 : List AV) (t5 : Int) : Out (Int) (Unit ⊕ Unit) := (bif decide (t5 < (t0.length : Int)) then (bif (decide (0 ≤ t5) && decide (t5 < (t0.length : Int))) then (bif (decide (0 ≤ t5) && decide (t5 < (t1.length : Int))) then (bif !(v142_0 (fI (t0.getD t5.toNat AV.undef) 0) (fI (t0.getD t5.toNat AV.undef) 1) (fI (t1.getD t5.toNat AV.undef) 0) (fI (t1.getD t5.toNat AV.undef) 1)) then .stop (.inr ())
     else .next (IntKind.i64.wrap (t5 + 1)))
    else .fail)
   else .fail)
  else .stop (.inl ()))
def R94_0 (t0 : List AV) (t1 : List AV) : (Int) → Out (Int) (Unit ⊕ Unit) := fun s : Int => F94_0 t0 t1 s
def l94_0 : LModel := fun _ _ st k => match st with
  | ⟨[(0, .sl g0 t0), (1, .sl g1 t1), (5, .int .i64 t5)], []⟩ => bif ctsEq g0 ([.int .i64, .int .i64]) && ctsEq g1 ([.int .i64, .int .i64]) then ro (runW (R94_0 t0 t1) (((t0.length : Int) - t5).toNat + 1) t5) none (sumE (fun _ : Unit => k (.exit 0) ⟨[], []⟩) (fun _ : Unit => k .ret ⟨[(4, AV.bool false)], []⟩)) else none
  | _ => none
noncomputable def c94 : Cfg := cfg Try.prog [(94, 0, [0, 1, 5]), (94, 999, [4]), (94, 1000, []), (94, 1001, [0, 1, 5])] [(142, m142)] [] [] [(94, 0, l94_0)]
theorem s94_0 (ce : CallE) (t0 : List AV) (t1 : List AV) (t5 : Int) (next : St → Option AV) (k : Kont) : stepA (codeA c94 ce [] 94 0 (sub [1, 1, 0, 1, 0, 0] (body Try.f94))) (normA [] [0, 1, 5]) next ⟨[(0, AV.sl [.int .i64, .int .i64] t0), (1, AV.sl [.int .i64, .int .i64] t1), (5, AV.int .i64 t5)], []⟩ k = (bif decide (t5 < (t0.length : Int)) then (bif (decide (0 ≤ t5) && decide (t5 < (t0.length : Int))) then (bif (decide (0 ≤ t5) && decide (t5 < (t1.length : Int))) then (bif !(v142_0 (fI (t0.getD t5.toNat AV.undef) 0) (fI (t0.getD t5.toNat AV.undef) 1) (fI (t1.getD t5.toNat AV.undef) 0) (fI (t1.getD t5.toNat AV.undef) 1)) then k .ret ⟨[(4, AV.bool false)], []⟩
     else next ⟨[(0, AV.sl [.int .i64, .int .i64] t0), (1, AV.sl [.int .i64, .int .i64] t1), (5, AV.int .i64 (IntKind.i64.wrap (t5 + 1)))], []⟩)
    else none)
   else none)
  else k (.exit 0) ⟨[], []⟩) := by kernel_rfl
theorem st94_0 (t0 : List AV) (t1 : List AV) (ce : CallE) (k : Kont) (s : Int) (next : St → Option AV) : stepA (codeA c94 ce [] 94 0 (sub [1, 1, 0, 1, 0, 0] (body Try.f94))) (normA [] [0, 1, 5]) next ((fun s : Int => ⟨[(0, AV.sl [.int .i64, .int .i64] t0), (1, AV.sl [.int .i64, .int .i64] t1), (5, AV.int .i64 s)], []⟩) s) k = (R94_0 t0 t1 s).el none (fun s => next ((fun s : Int => ⟨[(0, AV.sl [.int .i64, .int .i64] t0), (1, AV.sl [.int .i64, .int .i64] t1), (5, AV.int .i64 s)], []⟩) s)) (sumE (fun _ : Unit => k (.exit 0) ⟨[], []⟩) (fun _ : Unit => k .ret ⟨[(4, AV.bool false)], []⟩)) := (s94_0 ce t0 t1 s next k).trans (by unfold R94_0; unfold F94_0; simp only [el_cond, el_ro, el_sum, el_fail, el_next, el_stop] <;> rfl)
theorem ok94_0 {ce : CallE} : LoopOK c94 ce [] 94 0 (sub [1, 1, 0, 1, 0, 0] (body Try.f94)) := by
  intro m hm st k r h
  obtain rfl : l94_0 = m := Option.some.inj hm
  unfold l94_0 at h
  split at h
  · rename_i g0 t0 g1 t1 t5
    obtain ⟨hg, h⟩ := bif_some h
    simp only [Bool.and_eq_true] at hg
    obtain ⟨q0, q1⟩ := hg
    obtain rfl := ctsEq_eq _ _ q0
    obtain rfl := ctsEq_eq _ _ q1
    refine ⟨(((t0.length : Int) - t5).toNat + 1), ?_⟩
    rw [← h]
    exact loop_run (fun s : Int => ⟨[(0, AV.sl [.int .i64, .int .i64] t0), (1, AV.sl [.int .i64, .int .i64] t1), (5, AV.int .i64 s)], []⟩) (sumE (fun _ : Unit => k (.exit 0) ⟨[], []⟩) (fun _ : Unit => k .ret ⟨[(4, AV.bool false)], []⟩)) (st94_0 t0 t1 ce k) _ t5
  · cases h
def q94 (a0 : List AV) (a1 : List AV) : Bool := (bif !decide ((a0.length : Int) = (a1.length : Int)) then true else (ro (runW (R94_0 a0 a1) (((a0.length : Int) - 0).toNat + 1) 0) false (sumE (fun _ => true) (fun _ => true))))
def v94_0 (a0 : List AV) (a1 : List AV) : Bool := (bif !decide ((a0.length : Int) = (a1.length : Int)) then false else (ro (runW (R94_0 a0 a1) (((a0.length : Int) - 0).toNat + 1) 0) false (sumE (fun _ => true) (fun _ => false))))
theorem e94 (a0 : List AV) (a1 : List AV) : funA c94 0 94 [AV.sl [.int .i64, .int .i64] a0, AV.sl [.int .i64, .int .i64] a1] = (bif !decide ((a0.length : Int) = (a1.length : Int)) then some (AV.bool false)
  else (ro (runW (R94_0 a0 a1) (((a0.length : Int) - 0).toNat + 1) 0) none (sumE (fun _ => some (AV.bool true)) (fun _ => some (AV.bool false))))) := by kernel_rfl
theorem r94 (a0 : List AV) (a1 : List AV) (h : q94 a0 a1 = true) : funA c94 0 94 [AV.sl [.int .i64, .int .i64] a0, AV.sl [.int .i64, .int .i64] a1] = some (AV.bool (v94_0 a0 a1)) := (e94 a0 a1).trans ((br (fun b => some (AV.bool (bif b then false else (ro (runW (R94_0 a0 a1) (((a0.length : Int) - 0).toNat + 1) 0) false (sumE (fun _ => true) (fun _ => false)))))) (fun _ => rfl) (brO (fun o : Option (Unit ⊕ Unit) => some (AV.bool (ro o false (sumE (fun _ => true) (fun _ => false))))) (brS (fun o : Unit ⊕ Unit => some (AV.bool ((sumE (fun _ => true) (fun _ => false)) o))) (fun _ => (fun _ => rfl)) (fun _ => (fun _ => rfl))))) h)
def m94 : TModel
  | [.sl g0 a0, .sl g1 a1] => bif ctsEq g0 ([.int .i64, .int .i64]) && ctsEq g1 ([.int .i64, .int .i64]) then some (q94 a0 a1, AV.bool (v94_0 a0 a1)) else none
  | _ => none
theorem k94 : Known Try.prog 94 := ⟨Try.f94, Try.func94, by kernel_rfl, by kernel_rfl⟩
theorem meets94 : Meets Try.prog 94 m94 := by
  refine meet (f := Try.f94) (l := [(0, sub [1, 1, 0, 1, 0, 0] (body Try.f94))]) (hs := [(94, 0, [0, 1, 5]), (94, 999, [4]), (94, 1000, []), (94, 1001, [0, 1, 5])]) (ts := [(142, m142)]) (ws := []) (is := []) (ls := [(94, 0, l94_0)]) (lvl := 0) mixed k94 Try.func94 (by kernel_rfl) (loops_cons ok94_0 noLoop) (allT_cons meets142 allT_nil) allM_nil noI fun w xs us r hl hv h => ?_
  unfold m94 at h
  split at h
  · rename_i g0 a0 g1 a1
    obtain ⟨hg, h⟩ := bif_pair h
    simp only [Bool.and_eq_true] at hg
    obtain ⟨q0, q1⟩ := hg
    obtain rfl := ctsEq_eq _ _ q0
    obtain rfl := ctsEq_eq _ _ q1
    obtain ⟨h1, rfl⟩ := pair_inj h
    exact r94 a0 a1 h1
  · cases h

/-! ### 40 loop.example/g01984/laws.eqCracker -/
noncomputable def c40 : Cfg := cfg Try.prog [(40, 999, [4])] [(34, m34), (94, m94)] [] [] []
def q40 (a0_0 : List AV) (a0_1 : List AV) (a0_2 : List AV) (a1_0 : List AV) (a1_1 : List AV) (a1_2 : List AV) : Bool := (q34 a0_0 a1_0 && (bif !(v34_0 a0_0 a1_0) then true else (q34 a0_1 a1_1 && (bif !(v34_0 a0_1 a1_1) then true else q94 a0_2 a1_2))))
def v40_0 (a0_0 : List AV) (a0_1 : List AV) (a0_2 : List AV) (a1_0 : List AV) (a1_1 : List AV) (a1_2 : List AV) : Bool := (bif !(v34_0 a0_0 a1_0) then false else (bif !(v34_0 a0_1 a1_1) then false else (bif !(v94_0 a0_2 a1_2) then false else true)))
theorem e40 (a0_0 : List AV) (a0_1 : List AV) (a0_2 : List AV) (a1_0 : List AV) (a1_1 : List AV) (a1_2 : List AV) : funA c40 0 40 [AV.agg [AV.sl [.int .i64] a0_0, AV.sl [.int .i64] a0_1, AV.sl [.int .i64, .int .i64] a0_2], AV.agg [AV.sl [.int .i64] a1_0, AV.sl [.int .i64] a1_1, AV.sl [.int .i64, .int .i64] a1_2]] = (bif q34 a0_0 a1_0 then (bif !(v34_0 a0_0 a1_0) then some (AV.bool false)
   else (bif q34 a0_1 a1_1 then (bif !(v34_0 a0_1 a1_1) then some (AV.bool false)
     else (bif q94 a0_2 a1_2 then (bif !(v94_0 a0_2 a1_2) then some (AV.bool false)
       else some (AV.bool true))
      else none))
    else none))
  else none) := by kernel_rfl
theorem r40 (a0_0 : List AV) (a0_1 : List AV) (a0_2 : List AV) (a1_0 : List AV) (a1_1 : List AV) (a1_2 : List AV) (h : q40 a0_0 a0_1 a0_2 a1_0 a1_1 a1_2 = true) : funA c40 0 40 [AV.agg [AV.sl [.int .i64] a0_0, AV.sl [.int .i64] a0_1, AV.sl [.int .i64, .int .i64] a0_2], AV.agg [AV.sl [.int .i64] a1_0, AV.sl [.int .i64] a1_1, AV.sl [.int .i64, .int .i64] a1_2]] = some (AV.bool (v40_0 a0_0 a0_1 a0_2 a1_0 a1_1 a1_2)) := (e40 a0_0 a0_1 a0_2 a1_0 a1_1 a1_2).trans ((brL (br (fun b => some (AV.bool (bif b then false else (bif !(v34_0 a0_1 a1_1) then false else (bif !(v94_0 a0_2 a1_2) then false else true))))) (fun _ => rfl) (brL (br (fun b => some (AV.bool (bif b then false else (bif !(v94_0 a0_2 a1_2) then false else true)))) (fun _ => rfl) (brL1 (brT (fun b => some (AV.bool (bif b then false else true))) (fun _ => rfl) (fun _ => rfl))))))) h)
def m40 : TModel
  | [.agg [.sl g0 a0_0, .sl g1 a0_1, .sl g2 a0_2], .agg [.sl g3 a1_0, .sl g4 a1_1, .sl g5 a1_2]] => bif ctsEq g0 ([.int .i64]) && ctsEq g1 ([.int .i64]) && ctsEq g2 ([.int .i64, .int .i64]) && ctsEq g3 ([.int .i64]) && ctsEq g4 ([.int .i64]) && ctsEq g5 ([.int .i64, .int .i64]) then some (q40 a0_0 a0_1 a0_2 a1_0 a1_1 a1_2, AV.bool (v40_0 a0_0 a0_1 a0_2 a1_0 a1_1 a1_2)) else none
  | _ => none
theorem k40 : Known Try.prog 40 := ⟨Try.f40, Try.func40, by kernel_rfl, by kernel_rfl⟩
theorem meets40 : Meets Try.prog 40 m40 := by
  refine meet (f := Try.f40) (l := []) (hs := [(40, 999, [4])]) (ts := [(34, m34), (94, m94)]) (ws := []) (is := []) (ls := []) (lvl := 0) mixed k40 Try.func40 (by kernel_rfl) noLoop (allT_cons meets34 (allT_cons meets94 allT_nil)) allM_nil noI fun w xs us r hl hv h => ?_
  unfold m40 at h
  split at h
  · rename_i g0 a0_0 g1 a0_1 g2 a0_2 g3 a1_0 g4 a1_1 g5 a1_2
    obtain ⟨hg, h⟩ := bif_pair h
    simp only [Bool.and_eq_true] at hg
    obtain ⟨⟨⟨⟨⟨q0, q1⟩, q2⟩, q3⟩, q4⟩, q5⟩ := hg
    obtain rfl := ctsEq_eq _ _ q0
    obtain rfl := ctsEq_eq _ _ q1
    obtain rfl := ctsEq_eq _ _ q2
    obtain rfl := ctsEq_eq _ _ q3
    obtain rfl := ctsEq_eq _ _ q4
    obtain rfl := ctsEq_eq _ _ q5
    obtain ⟨h1, rfl⟩ := pair_inj h
    exact r40 a0_0 a0_1 a0_2 a1_0 a1_1 a1_2 h1
  · cases h

/-! ### 19 loop.example/g01984/laws.eqStore -/
noncomputable def c19 : Cfg := cfg Try.prog [(19, 999, [4])] [(40, m40), (73, m73)] [] [] []
def q19 (a0_0 : List AV) (a0_1 : Int) (a0_2 : List AV) (a0_3 : List AV) (a0_4 : List AV) (a1_0 : List AV) (a1_1 : Int) (a1_2 : List AV) (a1_3 : List AV) (a1_4 : List AV) : Bool := (q73 a0_0 a1_0 && (bif !(v73_0 a0_0 a1_0) then true else (bif !decide (a0_1 = a1_1) then true else q40 a0_2 a0_3 a0_4 a1_2 a1_3 a1_4)))
def v19_0 (a0_0 : List AV) (a0_1 : Int) (a0_2 : List AV) (a0_3 : List AV) (a0_4 : List AV) (a1_0 : List AV) (a1_1 : Int) (a1_2 : List AV) (a1_3 : List AV) (a1_4 : List AV) : Bool := (bif !(v73_0 a0_0 a1_0) then false else (bif !decide (a0_1 = a1_1) then false else (bif !(v40_0 a0_2 a0_3 a0_4 a1_2 a1_3 a1_4) then false else true)))
theorem e19 (a0_0 : List AV) (a0_1 : Int) (a0_2 : List AV) (a0_3 : List AV) (a0_4 : List AV) (a1_0 : List AV) (a1_1 : Int) (a1_2 : List AV) (a1_3 : List AV) (a1_4 : List AV) : funA c19 0 19 [AV.agg [AV.sl [.int .i64, .int .i64, .int .i64, .int .i64] a0_0, AV.int .i64 a0_1, AV.sl [.int .i64] a0_2, AV.sl [.int .i64] a0_3, AV.sl [.int .i64, .int .i64] a0_4], AV.agg [AV.sl [.int .i64, .int .i64, .int .i64, .int .i64] a1_0, AV.int .i64 a1_1, AV.sl [.int .i64] a1_2, AV.sl [.int .i64] a1_3, AV.sl [.int .i64, .int .i64] a1_4]] = (bif q73 a0_0 a1_0 then (bif !(v73_0 a0_0 a1_0) then some (AV.bool false)
   else (bif !decide (a0_1 = a1_1) then some (AV.bool false)
    else (bif q40 a0_2 a0_3 a0_4 a1_2 a1_3 a1_4 then (bif !(v40_0 a0_2 a0_3 a0_4 a1_2 a1_3 a1_4) then some (AV.bool false)
      else some (AV.bool true))
     else none)))
  else none) := by kernel_rfl
theorem r19 (a0_0 : List AV) (a0_1 : Int) (a0_2 : List AV) (a0_3 : List AV) (a0_4 : List AV) (a1_0 : List AV) (a1_1 : Int) (a1_2 : List AV) (a1_3 : List AV) (a1_4 : List AV) (h : q19 a0_0 a0_1 a0_2 a0_3 a0_4 a1_0 a1_1 a1_2 a1_3 a1_4 = true) : funA c19 0 19 [AV.agg [AV.sl [.int .i64, .int .i64, .int .i64, .int .i64] a0_0, AV.int .i64 a0_1, AV.sl [.int .i64] a0_2, AV.sl [.int .i64] a0_3, AV.sl [.int .i64, .int .i64] a0_4], AV.agg [AV.sl [.int .i64, .int .i64, .int .i64, .int .i64] a1_0, AV.int .i64 a1_1, AV.sl [.int .i64] a1_2, AV.sl [.int .i64] a1_3, AV.sl [.int .i64, .int .i64] a1_4]] = some (AV.bool (v19_0 a0_0 a0_1 a0_2 a0_3 a0_4 a1_0 a1_1 a1_2 a1_3 a1_4)) := (e19 a0_0 a0_1 a0_2 a0_3 a0_4 a1_0 a1_1 a1_2 a1_3 a1_4).trans ((brL (br (fun b => some (AV.bool (bif b then false else (bif !decide (a0_1 = a1_1) then false else (bif !(v40_0 a0_2 a0_3 a0_4 a1_2 a1_3 a1_4) then false else true))))) (fun _ => rfl) (br (fun b => some (AV.bool (bif b then false else (bif !(v40_0 a0_2 a0_3 a0_4 a1_2 a1_3 a1_4) then false else true)))) (fun _ => rfl) (brL1 (brT (fun b => some (AV.bool (bif b then false else true))) (fun _ => rfl) (fun _ => rfl)))))) h)
def m19 : TModel
  | [.agg [.sl g0 a0_0, .int .i64 a0_1, .sl g1 a0_2, .sl g2 a0_3, .sl g3 a0_4], .agg [.sl g4 a1_0, .int .i64 a1_1, .sl g5 a1_2, .sl g6 a1_3, .sl g7 a1_4]] => bif ctsEq g0 ([.int .i64, .int .i64, .int .i64, .int .i64]) && ctsEq g1 ([.int .i64]) && ctsEq g2 ([.int .i64]) && ctsEq g3 ([.int .i64, .int .i64]) && ctsEq g4 ([.int .i64, .int .i64, .int .i64, .int .i64]) && ctsEq g5 ([.int .i64]) && ctsEq g6 ([.int .i64]) && ctsEq g7 ([.int .i64, .int .i64]) then some (q19 a0_0 a0_1 a0_2 a0_3 a0_4 a1_0 a1_1 a1_2 a1_3 a1_4, AV.bool (v19_0 a0_0 a0_1 a0_2 a0_3 a0_4 a1_0 a1_1 a1_2 a1_3 a1_4)) else none
  | _ => none
theorem k19 : Known Try.prog 19 := ⟨Try.f19, Try.func19, by kernel_rfl, by kernel_rfl⟩
theorem meets19 : Meets Try.prog 19 m19 := by
  refine meet (f := Try.f19) (l := []) (hs := [(19, 999, [4])]) (ts := [(40, m40), (73, m73)]) (ws := []) (is := []) (ls := []) (lvl := 0) mixed k19 Try.func19 (by kernel_rfl) noLoop (allT_cons meets40 (allT_cons meets73 allT_nil)) allM_nil noI fun w xs us r hl hv h => ?_
  unfold m19 at h
  split at h
  · rename_i g0 a0_0 a0_1 g1 a0_2 g2 a0_3 g3 a0_4 g4 a1_0 a1_1 g5 a1_2 g6 a1_3 g7 a1_4
    obtain ⟨hg, h⟩ := bif_pair h
    simp only [Bool.and_eq_true] at hg
    obtain ⟨⟨⟨⟨⟨⟨⟨q0, q1⟩, q2⟩, q3⟩, q4⟩, q5⟩, q6⟩, q7⟩ := hg
    obtain rfl := ctsEq_eq _ _ q0
    obtain rfl := ctsEq_eq _ _ q1
    obtain rfl := ctsEq_eq _ _ q2
    obtain rfl := ctsEq_eq _ _ q3
    obtain rfl := ctsEq_eq _ _ q4
    obtain rfl := ctsEq_eq _ _ q5
    obtain rfl := ctsEq_eq _ _ q6
    obtain rfl := ctsEq_eq _ _ q7
    obtain ⟨h1, rfl⟩ := pair_inj h
    exact r19 a0_0 a0_1 a0_2 a0_3 a0_4 a1_0 a1_1 a1_2 a1_3 a1_4 h1
  · cases h

/-! ### 3 loop.example/g01984/laws.FnExactIsStore -/
noncomputable def c3 : Cfg := cfg Try.prog [(3, 999, [2])] [(15, m15), (16, m16), (17, m17), (18, m18), (19, m19)] [] [] []
def raw3 (a0_0 : List AV) (a0_1 : Int) (a0_2 : List AV) (a0_3 : List AV) (a0_4 : List AV) : Option AV := (bif decide ((v15_0 a0_0 a0_1 a0_2 a0_3 a0_4 1048576) < 0) then some (AV.bool true)
  else (bif q17 a0_0 a0_1 a0_2 a0_3 a0_4 then (bif q16 (v17_0 a0_0 a0_1 a0_2 a0_3 a0_4) (v17_1 a0_0 a0_1 a0_2 a0_3 a0_4) (v17_2 a0_0 a0_1 a0_2 a0_3 a0_4) (v17_3 a0_0 a0_1 a0_2 a0_3 a0_4) (v17_4 a0_0 a0_1 a0_2 a0_3 a0_4) then (bif q17 a0_0 a0_1 a0_2 a0_3 a0_4 then (bif q18 (v17_0 a0_0 a0_1 a0_2 a0_3 a0_4) (v17_1 a0_0 a0_1 a0_2 a0_3 a0_4) (v17_2 a0_0 a0_1 a0_2 a0_3 a0_4) (v17_3 a0_0 a0_1 a0_2 a0_3 a0_4) (v17_4 a0_0 a0_1 a0_2 a0_3 a0_4) then (bif !((v18_0 (v17_0 a0_0 a0_1 a0_2 a0_3 a0_4) (v17_1 a0_0 a0_1 a0_2 a0_3 a0_4) (v17_2 a0_0 a0_1 a0_2 a0_3 a0_4) (v17_3 a0_0 a0_1 a0_2 a0_3 a0_4) (v17_4 a0_0 a0_1 a0_2 a0_3 a0_4)) == (v16_0 (v17_0 a0_0 a0_1 a0_2 a0_3 a0_4) (v17_1 a0_0 a0_1 a0_2 a0_3 a0_4) (v17_2 a0_0 a0_1 a0_2 a0_3 a0_4) (v17_3 a0_0 a0_1 a0_2 a0_3 a0_4) (v17_4 a0_0 a0_1 a0_2 a0_3 a0_4))) then some (AV.bool false)
       else (bif q17 a0_0 a0_1 a0_2 a0_3 a0_4 then (bif q19 (v17_0 a0_0 a0_1 a0_2 a0_3 a0_4) (v17_1 a0_0 a0_1 a0_2 a0_3 a0_4) (v17_2 a0_0 a0_1 a0_2 a0_3 a0_4) (v17_3 a0_0 a0_1 a0_2 a0_3 a0_4) (v17_4 a0_0 a0_1 a0_2 a0_3 a0_4) (v17_0 a0_0 a0_1 a0_2 a0_3 a0_4) (v17_1 a0_0 a0_1 a0_2 a0_3 a0_4) (v17_2 a0_0 a0_1 a0_2 a0_3 a0_4) (v17_3 a0_0 a0_1 a0_2 a0_3 a0_4) (v17_4 a0_0 a0_1 a0_2 a0_3 a0_4) then (bif !(v19_0 (v17_0 a0_0 a0_1 a0_2 a0_3 a0_4) (v17_1 a0_0 a0_1 a0_2 a0_3 a0_4) (v17_2 a0_0 a0_1 a0_2 a0_3 a0_4) (v17_3 a0_0 a0_1 a0_2 a0_3 a0_4) (v17_4 a0_0 a0_1 a0_2 a0_3 a0_4) (v17_0 a0_0 a0_1 a0_2 a0_3 a0_4) (v17_1 a0_0 a0_1 a0_2 a0_3 a0_4) (v17_2 a0_0 a0_1 a0_2 a0_3 a0_4) (v17_3 a0_0 a0_1 a0_2 a0_3 a0_4) (v17_4 a0_0 a0_1 a0_2 a0_3 a0_4)) then some (AV.bool false)
          else some (AV.bool true))
         else none)
        else none))
      else none)
     else none)
    else none)
   else none))
theorem e3 (a0_0 : List AV) (a0_1 : Int) (a0_2 : List AV) (a0_3 : List AV) (a0_4 : List AV) : funA c3 0 3 [AV.agg [AV.sl [.int .i64, .int .i64, .int .i64, .int .i64] a0_0, AV.int .i64 a0_1, AV.sl [.int .i64] a0_2, AV.sl [.int .i64] a0_3, AV.sl [.int .i64, .int .i64] a0_4]] = raw3 a0_0 a0_1 a0_2 a0_3 a0_4 := by kernel_rfl
def m3 : TModel
  | [.agg [.sl g0 a0_0, .int .i64 a0_1, .sl g1 a0_2, .sl g2 a0_3, .sl g3 a0_4]] => bif ctsEq g0 ([.int .i64, .int .i64, .int .i64, .int .i64]) && ctsEq g1 ([.int .i64]) && ctsEq g2 ([.int .i64]) && ctsEq g3 ([.int .i64, .int .i64]) then (raw3 a0_0 a0_1 a0_2 a0_3 a0_4).map fun r => (true, r) else none
  | _ => none
theorem k3 : Known Try.prog 3 := ⟨Try.f3, Try.func3, by kernel_rfl, by kernel_rfl⟩
theorem meets3 : Meets Try.prog 3 m3 := by
  refine meet (f := Try.f3) (l := []) (hs := [(3, 999, [2])]) (ts := [(15, m15), (16, m16), (17, m17), (18, m18), (19, m19)]) (ws := []) (is := []) (ls := []) (lvl := 0) mixed k3 Try.func3 (by kernel_rfl) noLoop (allT_cons meets15 (allT_cons meets16 (allT_cons meets17 (allT_cons meets18 (allT_cons meets19 allT_nil))))) allM_nil noI fun w xs us r hl hv h => ?_
  unfold m3 at h
  split at h
  · rename_i g0 a0_0 a0_1 g1 a0_2 g2 a0_3 g3 a0_4
    obtain ⟨hg, h⟩ := bif_pair h
    simp only [Bool.and_eq_true] at hg
    obtain ⟨⟨⟨q0, q1⟩, q2⟩, q3⟩ := hg
    obtain rfl := ctsEq_eq _ _ q0
    obtain rfl := ctsEq_eq _ _ q1
    obtain rfl := ctsEq_eq _ _ q2
    obtain rfl := ctsEq_eq _ _ q3
    obtain ⟨r', h1, h2⟩ := Option.map_eq_some_iff.1 h
    obtain ⟨_, rfl⟩ := Prod.mk.inj h2
    exact (e3 a0_0 a0_1 a0_2 a0_3 a0_4).trans h1
  · cases h
end Go.Proofs.Ytepfklcdpkpepaa
