/- The walk of what this claim reaches: printed by a program, each equation checked by the kernel. -/
import Derived.Test.YtmlhhemflhiinaaGreatINS3z
import Derived.Test.YtmlhhemflhiinaaGreatVEzb
import Derived.Test.YtmlhhemflhiinaaGreatLAY3z
import Derived.Test.YtmlhhemflhiinaaGreatGL3z
import Derived.Test.YtmlhhemflhiinaaGreatProg
import Derived.KernelRfl
namespace Go.Proofs.YtmlhhemflhiinaaGreat
open Go Go.Proofs.VE
set_option linter.unusedVariables false
set_option linter.unusedSimpArgs false
set_option maxRecDepth 100000
set_option maxHeartbeats 4000000
theorem mixed : Tryz.prog.follows .mixedOrders = true := by kernel_rfl
/-! ### 30 loop.example/g01984/laws.szStampS -/
noncomputable def c30 : Cfg := cfg Tryz.prog [(30, 999, [4])] [] [] [] []
def q30 (a0 : List AV) (a1 : Int) : Bool := true
def v30_0 (a0 : List AV) (a1 : Int) : Int := (bif decide (IntKind.i64.wrap (a1 - (a0.length : Int)) < 0) then (-1) else IntKind.i64.wrap (a1 - (a0.length : Int)))
theorem e30 (a0 : List AV) (a1 : Int) : funA c30 0 30 [AV.sl [.int .i64, .int .i64, .int .i64, .int .i64] a0, AV.int .i64 a1] = (bif decide (IntKind.i64.wrap (a1 - (a0.length : Int)) < 0) then some (AV.int .i64 (-1))
  else some (AV.int .i64 (IntKind.i64.wrap (a1 - (a0.length : Int))))) := by kernel_rfl
theorem r30 (a0 : List AV) (a1 : Int) : funA c30 0 30 [AV.sl [.int .i64, .int .i64, .int .i64, .int .i64] a0, AV.int .i64 a1] = some (AV.int .i64 (v30_0 a0 a1)) := (e30 a0 a1).trans (of_tt (brT (fun b => some (AV.int .i64 (bif b then (-1) else IntKind.i64.wrap (a1 - (a0.length : Int))))) (fun _ => rfl) (fun _ => rfl)))
def m30 : TModel
  | [.sl g0 a0, .int .i64 a1] => bif ctsEq g0 ([.int .i64, .int .i64, .int .i64, .int .i64]) then some (true, AV.int .i64 (v30_0 a0 a1)) else none
  | _ => none
theorem k30 : Known Tryz.prog 30 := ⟨Tryz.f30, Tryz.func30, by kernel_rfl, by kernel_rfl⟩
theorem meets30 : Meets Tryz.prog 30 m30 := by
  refine meet (f := Tryz.f30) (l := []) (hs := [(30, 999, [4])]) (ts := []) (ws := []) (is := []) (ls := []) (lvl := 0) mixed k30 Tryz.func30 (by kernel_rfl) noLoop allT_nil allM_nil noI fun w xs us r hl hv h => ?_
  unfold m30 at h
  split at h
  · rename_i g0 a0 a1
    obtain ⟨hg, h⟩ := bif_pair h
    have q0 := hg
    obtain rfl := ctsEq_eq _ _ q0
    obtain ⟨h1, rfl⟩ := pair_inj h
    exact r30 a0 a1
  · cases h

/-! ### 62 loop.example/g01984/laws.szIntS -/
noncomputable def c62 : Cfg := cfg Tryz.prog [(62, 999, [4])] [] [] [] []
def q62 (a0 : List AV) (a1 : Int) : Bool := true
def v62_0 (a0 : List AV) (a1 : Int) : Int := (bif decide (IntKind.i64.wrap (a1 - (a0.length : Int)) < 0) then (-1) else IntKind.i64.wrap (a1 - (a0.length : Int)))
theorem e62 (a0 : List AV) (a1 : Int) : funA c62 0 62 [AV.sl [.int .i64] a0, AV.int .i64 a1] = (bif decide (IntKind.i64.wrap (a1 - (a0.length : Int)) < 0) then some (AV.int .i64 (-1))
  else some (AV.int .i64 (IntKind.i64.wrap (a1 - (a0.length : Int))))) := by kernel_rfl
theorem r62 (a0 : List AV) (a1 : Int) : funA c62 0 62 [AV.sl [.int .i64] a0, AV.int .i64 a1] = some (AV.int .i64 (v62_0 a0 a1)) := (e62 a0 a1).trans (of_tt (brT (fun b => some (AV.int .i64 (bif b then (-1) else IntKind.i64.wrap (a1 - (a0.length : Int))))) (fun _ => rfl) (fun _ => rfl)))
def m62 : TModel
  | [.sl g0 a0, .int .i64 a1] => bif ctsEq g0 ([.int .i64]) then some (true, AV.int .i64 (v62_0 a0 a1)) else none
  | _ => none
theorem k62 : Known Tryz.prog 62 := ⟨Tryz.f62, Tryz.func62, by kernel_rfl, by kernel_rfl⟩
theorem meets62 : Meets Tryz.prog 62 m62 := by
  refine meet (f := Tryz.f62) (l := []) (hs := [(62, 999, [4])]) (ts := []) (ws := []) (is := []) (ls := []) (lvl := 0) mixed k62 Tryz.func62 (by kernel_rfl) noLoop allT_nil allM_nil noI fun w xs us r hl hv h => ?_
  unfold m62 at h
  split at h
  · rename_i g0 a0 a1
    obtain ⟨hg, h⟩ := bif_pair h
    have q0 := hg
    obtain rfl := ctsEq_eq _ _ q0
    obtain ⟨h1, rfl⟩ := pair_inj h
    exact r62 a0 a1
  · cases h

/-! ### 63 loop.example/g01984/laws.szPivotS -/
noncomputable def c63 : Cfg := cfg Tryz.prog [(63, 999, [4])] [] [] [] []
def q63 (a0 : List AV) (a1 : Int) : Bool := true
def v63_0 (a0 : List AV) (a1 : Int) : Int := (bif decide (IntKind.i64.wrap (a1 - (a0.length : Int)) < 0) then (-1) else IntKind.i64.wrap (a1 - (a0.length : Int)))
theorem e63 (a0 : List AV) (a1 : Int) : funA c63 0 63 [AV.sl [.int .i64, .int .i64] a0, AV.int .i64 a1] = (bif decide (IntKind.i64.wrap (a1 - (a0.length : Int)) < 0) then some (AV.int .i64 (-1))
  else some (AV.int .i64 (IntKind.i64.wrap (a1 - (a0.length : Int))))) := by kernel_rfl
theorem r63 (a0 : List AV) (a1 : Int) : funA c63 0 63 [AV.sl [.int .i64, .int .i64] a0, AV.int .i64 a1] = some (AV.int .i64 (v63_0 a0 a1)) := (e63 a0 a1).trans (of_tt (brT (fun b => some (AV.int .i64 (bif b then (-1) else IntKind.i64.wrap (a1 - (a0.length : Int))))) (fun _ => rfl) (fun _ => rfl)))
def m63 : TModel
  | [.sl g0 a0, .int .i64 a1] => bif ctsEq g0 ([.int .i64, .int .i64]) then some (true, AV.int .i64 (v63_0 a0 a1)) else none
  | _ => none
theorem k63 : Known Tryz.prog 63 := ⟨Tryz.f63, Tryz.func63, by kernel_rfl, by kernel_rfl⟩
theorem meets63 : Meets Tryz.prog 63 m63 := by
  refine meet (f := Tryz.f63) (l := []) (hs := [(63, 999, [4])]) (ts := []) (ws := []) (is := []) (ls := []) (lvl := 0) mixed k63 Tryz.func63 (by kernel_rfl) noLoop allT_nil allM_nil noI fun w xs us r hl hv h => ?_
  unfold m63 at h
  split at h
  · rename_i g0 a0 a1
    obtain ⟨hg, h⟩ := bif_pair h
    have q0 := hg
    obtain rfl := ctsEq_eq _ _ q0
    obtain ⟨h1, rfl⟩ := pair_inj h
    exact r63 a0 a1
  · cases h

/-! ### 31 loop.example/g01984/laws.szCracker -/
noncomputable def c31 : Cfg := cfg Tryz.prog [(31, 999, [4])] [(62, m62), (63, m63)] [] [] []
def q31 (a0_0 : List AV) (a0_1 : List AV) (a0_2 : List AV) (a1 : Int) : Bool := true
def v31_0 (a0_0 : List AV) (a0_1 : List AV) (a0_2 : List AV) (a1 : Int) : Int := (bif decide ((v62_0 a0_0 a1) < 0) then (-1) else (bif decide ((v62_0 a0_1 (v62_0 a0_0 a1)) < 0) then (-1) else (bif decide ((v63_0 a0_2 (v62_0 a0_1 (v62_0 a0_0 a1))) < 0) then (-1) else (v63_0 a0_2 (v62_0 a0_1 (v62_0 a0_0 a1))))))
theorem e31 (a0_0 : List AV) (a0_1 : List AV) (a0_2 : List AV) (a1 : Int) : funA c31 0 31 [AV.agg [AV.sl [.int .i64] a0_0, AV.sl [.int .i64] a0_1, AV.sl [.int .i64, .int .i64] a0_2], AV.int .i64 a1] = (bif decide ((v62_0 a0_0 a1) < 0) then some (AV.int .i64 (-1))
  else (bif decide ((v62_0 a0_1 (v62_0 a0_0 a1)) < 0) then some (AV.int .i64 (-1))
  else (bif decide ((v63_0 a0_2 (v62_0 a0_1 (v62_0 a0_0 a1))) < 0) then some (AV.int .i64 (-1))
  else some (AV.int .i64 (v63_0 a0_2 (v62_0 a0_1 (v62_0 a0_0 a1))))))) := by kernel_rfl
theorem r31 (a0_0 : List AV) (a0_1 : List AV) (a0_2 : List AV) (a1 : Int) : funA c31 0 31 [AV.agg [AV.sl [.int .i64] a0_0, AV.sl [.int .i64] a0_1, AV.sl [.int .i64, .int .i64] a0_2], AV.int .i64 a1] = some (AV.int .i64 (v31_0 a0_0 a0_1 a0_2 a1)) := (e31 a0_0 a0_1 a0_2 a1).trans (of_tt (brT (fun b => some (AV.int .i64 (bif b then (-1) else (bif decide ((v62_0 a0_1 (v62_0 a0_0 a1)) < 0) then (-1) else (bif decide ((v63_0 a0_2 (v62_0 a0_1 (v62_0 a0_0 a1))) < 0) then (-1) else (v63_0 a0_2 (v62_0 a0_1 (v62_0 a0_0 a1)))))))) (fun _ => rfl) (brT (fun b => some (AV.int .i64 (bif b then (-1) else (bif decide ((v63_0 a0_2 (v62_0 a0_1 (v62_0 a0_0 a1))) < 0) then (-1) else (v63_0 a0_2 (v62_0 a0_1 (v62_0 a0_0 a1))))))) (fun _ => rfl) (brT (fun b => some (AV.int .i64 (bif b then (-1) else (v63_0 a0_2 (v62_0 a0_1 (v62_0 a0_0 a1)))))) (fun _ => rfl) (fun _ => rfl)))))
def m31 : TModel
  | [.agg [.sl g0 a0_0, .sl g1 a0_1, .sl g2 a0_2], .int .i64 a1] => bif ctsEq g0 ([.int .i64]) && ctsEq g1 ([.int .i64]) && ctsEq g2 ([.int .i64, .int .i64]) then some (true, AV.int .i64 (v31_0 a0_0 a0_1 a0_2 a1)) else none
  | _ => none
theorem k31 : Known Tryz.prog 31 := ⟨Tryz.f31, Tryz.func31, by kernel_rfl, by kernel_rfl⟩
theorem meets31 : Meets Tryz.prog 31 m31 := by
  refine meet (f := Tryz.f31) (l := []) (hs := [(31, 999, [4])]) (ts := [(62, m62), (63, m63)]) (ws := []) (is := []) (ls := []) (lvl := 0) mixed k31 Tryz.func31 (by kernel_rfl) noLoop (allT_cons meets62 (allT_cons meets63 allT_nil)) allM_nil noI fun w xs us r hl hv h => ?_
  unfold m31 at h
  split at h
  · rename_i g0 a0_0 g1 a0_1 g2 a0_2 a1
    obtain ⟨hg, h⟩ := bif_pair h
    simp only [Bool.and_eq_true] at hg
    obtain ⟨⟨q0, q1⟩, q2⟩ := hg
    obtain rfl := ctsEq_eq _ _ q0
    obtain rfl := ctsEq_eq _ _ q1
    obtain rfl := ctsEq_eq _ _ q2
    obtain ⟨h1, rfl⟩ := pair_inj h
    exact r31 a0_0 a0_1 a0_2 a1
  · cases h

/-! ### 12 loop.example/g01984/laws.szStore -/
noncomputable def c12 : Cfg := cfg Tryz.prog [(12, 999, [4])] [(30, m30), (31, m31)] [] [] []
def q12 (a0_0 : List AV) (a0_1 : Int) (a0_2 : List AV) (a0_3 : List AV) (a0_4 : List AV) (a1 : Int) : Bool := true
def v12_0 (a0_0 : List AV) (a0_1 : Int) (a0_2 : List AV) (a0_3 : List AV) (a0_4 : List AV) (a1 : Int) : Int := (bif decide ((v30_0 a0_0 a1) < 0) then (-1) else (bif decide ((v31_0 a0_2 a0_3 a0_4 (v30_0 a0_0 a1)) < 0) then (-1) else (v31_0 a0_2 a0_3 a0_4 (v30_0 a0_0 a1))))
theorem e12 (a0_0 : List AV) (a0_1 : Int) (a0_2 : List AV) (a0_3 : List AV) (a0_4 : List AV) (a1 : Int) : funA c12 0 12 [AV.agg [AV.sl [.int .i64, .int .i64, .int .i64, .int .i64] a0_0, AV.int .i64 a0_1, AV.sl [.int .i64] a0_2, AV.sl [.int .i64] a0_3, AV.sl [.int .i64, .int .i64] a0_4], AV.int .i64 a1] = (bif decide ((v30_0 a0_0 a1) < 0) then some (AV.int .i64 (-1))
  else (bif decide ((v31_0 a0_2 a0_3 a0_4 (v30_0 a0_0 a1)) < 0) then some (AV.int .i64 (-1))
  else some (AV.int .i64 (v31_0 a0_2 a0_3 a0_4 (v30_0 a0_0 a1))))) := by kernel_rfl
theorem r12 (a0_0 : List AV) (a0_1 : Int) (a0_2 : List AV) (a0_3 : List AV) (a0_4 : List AV) (a1 : Int) : funA c12 0 12 [AV.agg [AV.sl [.int .i64, .int .i64, .int .i64, .int .i64] a0_0, AV.int .i64 a0_1, AV.sl [.int .i64] a0_2, AV.sl [.int .i64] a0_3, AV.sl [.int .i64, .int .i64] a0_4], AV.int .i64 a1] = some (AV.int .i64 (v12_0 a0_0 a0_1 a0_2 a0_3 a0_4 a1)) := (e12 a0_0 a0_1 a0_2 a0_3 a0_4 a1).trans (of_tt (brT (fun b => some (AV.int .i64 (bif b then (-1) else (bif decide ((v31_0 a0_2 a0_3 a0_4 (v30_0 a0_0 a1)) < 0) then (-1) else (v31_0 a0_2 a0_3 a0_4 (v30_0 a0_0 a1)))))) (fun _ => rfl) (brT (fun b => some (AV.int .i64 (bif b then (-1) else (v31_0 a0_2 a0_3 a0_4 (v30_0 a0_0 a1))))) (fun _ => rfl) (fun _ => rfl))))
def m12 : TModel
  | [.agg [.sl g0 a0_0, .int .i64 a0_1, .sl g1 a0_2, .sl g2 a0_3, .sl g3 a0_4], .int .i64 a1] => bif ctsEq g0 ([.int .i64, .int .i64, .int .i64, .int .i64]) && ctsEq g1 ([.int .i64]) && ctsEq g2 ([.int .i64]) && ctsEq g3 ([.int .i64, .int .i64]) then some (true, AV.int .i64 (v12_0 a0_0 a0_1 a0_2 a0_3 a0_4 a1)) else none
  | _ => none
theorem k12 : Known Tryz.prog 12 := ⟨Tryz.f12, Tryz.func12, by kernel_rfl, by kernel_rfl⟩
theorem meets12 : Meets Tryz.prog 12 m12 := by
  refine meet (f := Tryz.f12) (l := []) (hs := [(12, 999, [4])]) (ts := [(30, m30), (31, m31)]) (ws := []) (is := []) (ls := []) (lvl := 0) mixed k12 Tryz.func12 (by kernel_rfl) noLoop (allT_cons meets30 (allT_cons meets31 allT_nil)) allM_nil noI fun w xs us r hl hv h => ?_
  unfold m12 at h
  split at h
  · rename_i g0 a0_0 a0_1 g1 a0_2 g2 a0_3 g3 a0_4 a1
    obtain ⟨hg, h⟩ := bif_pair h
    simp only [Bool.and_eq_true] at hg
    obtain ⟨⟨⟨q0, q1⟩, q2⟩, q3⟩ := hg
    obtain rfl := ctsEq_eq _ _ q0
    obtain rfl := ctsEq_eq _ _ q1
    obtain rfl := ctsEq_eq _ _ q2
    obtain rfl := ctsEq_eq _ _ q3
    obtain ⟨h1, rfl⟩ := pair_inj h
    exact r12 a0_0 a0_1 a0_2 a0_3 a0_4 a1
  · cases h

/-! ### 69 loop.example/g01984/laws.toStamp -/
noncomputable def c69 : Cfg := cfg Tryz.prog [(69, 999, [2])] [] [] [] []
def q69 (a0_0 : Int) (a0_1 : Int) (a0_2 : Int) (a0_3 : Int) : Bool := true
def v69_0 (a0_0 : Int) (a0_1 : Int) (a0_2 : Int) (a0_3 : Int) : Int := a0_0
def v69_1 (a0_0 : Int) (a0_1 : Int) (a0_2 : Int) (a0_3 : Int) : Int := a0_1
def v69_2 (a0_0 : Int) (a0_1 : Int) (a0_2 : Int) (a0_3 : Int) : Int := a0_2
def v69_3 (a0_0 : Int) (a0_1 : Int) (a0_2 : Int) (a0_3 : Int) : Int := a0_3
theorem e69 (a0_0 : Int) (a0_1 : Int) (a0_2 : Int) (a0_3 : Int) : funA c69 0 69 [AV.agg [AV.int .i64 a0_0, AV.int .i64 a0_1, AV.int .i64 a0_2, AV.int .i64 a0_3]] = some (AV.agg [AV.int .i64 a0_0, AV.int .i64 a0_1, AV.int .i64 a0_2, AV.int .i64 a0_3]) := by kernel_rfl
theorem r69 (a0_0 : Int) (a0_1 : Int) (a0_2 : Int) (a0_3 : Int) : funA c69 0 69 [AV.agg [AV.int .i64 a0_0, AV.int .i64 a0_1, AV.int .i64 a0_2, AV.int .i64 a0_3]] = some (AV.agg [AV.int .i64 (v69_0 a0_0 a0_1 a0_2 a0_3), AV.int .i64 (v69_1 a0_0 a0_1 a0_2 a0_3), AV.int .i64 (v69_2 a0_0 a0_1 a0_2 a0_3), AV.int .i64 (v69_3 a0_0 a0_1 a0_2 a0_3)]) := (e69 a0_0 a0_1 a0_2 a0_3).trans (of_tt (fun _ => rfl))
def m69 : TModel
  | [.agg [.int .i64 a0_0, .int .i64 a0_1, .int .i64 a0_2, .int .i64 a0_3]] => some (true, AV.agg [AV.int .i64 (v69_0 a0_0 a0_1 a0_2 a0_3), AV.int .i64 (v69_1 a0_0 a0_1 a0_2 a0_3), AV.int .i64 (v69_2 a0_0 a0_1 a0_2 a0_3), AV.int .i64 (v69_3 a0_0 a0_1 a0_2 a0_3)])
  | _ => none
theorem k69 : Known Tryz.prog 69 := ⟨Tryz.f69, Tryz.func69, by kernel_rfl, by kernel_rfl⟩
theorem meets69 : Meets Tryz.prog 69 m69 := by
  refine meet (f := Tryz.f69) (l := []) (hs := [(69, 999, [2])]) (ts := []) (ws := []) (is := []) (ls := []) (lvl := 0) mixed k69 Tryz.func69 (by kernel_rfl) noLoop allT_nil allM_nil noI fun w xs us r hl hv h => ?_
  unfold m69 at h
  split at h
  · rename_i a0_0 a0_1 a0_2 a0_3
    obtain ⟨h1, rfl⟩ := pair_inj h
    exact r69 a0_0 a0_1 a0_2 a0_3
  · cases h

/-! ### 38 loop.example/g01984/laws.toStampS -/
def F38_0 (t0 : List AV) (t4 : Int) (h0 : List AV) : Out ((Int × (List AV))) (((List AV))) := (bif decide (t4 < (t0.length : Int)) then (bif (decide (0 ≤ t4) && decide (t4 < (t0.length : Int))) then (bif (decide (0 ≤ t4) && decide (t4 < (h0.length : Int))) then .next (IntKind.i64.wrap (t4 + 1), h0.set t4.toNat (AV.agg [AV.int .i64 (v69_0 (fI (t0.getD t4.toNat AV.undef) 0) (fI (t0.getD t4.toNat AV.undef) 1) (fI (t0.getD t4.toNat AV.undef) 2) (fI (t0.getD t4.toNat AV.undef) 3)), AV.int .i64 (v69_1 (fI (t0.getD t4.toNat AV.undef) 0) (fI (t0.getD t4.toNat AV.undef) 1) (fI (t0.getD t4.toNat AV.undef) 2) (fI (t0.getD t4.toNat AV.undef) 3)), AV.int .i64 (v69_2 (fI (t0.getD t4.toNat AV.undef) 0) (fI (t0.getD t4.toNat AV.undef) 1) (fI (t0.getD t4.toNat AV.undef) 2) (fI (t0.getD t4.toNat AV.undef) 3)), AV.int .i64 (v69_3 (fI (t0.getD t4.toNat AV.undef) 0) (fI (t0.getD t4.toNat AV.undef) 1) (fI (t0.getD t4.toNat AV.undef) 2) (fI (t0.getD t4.toNat AV.undef) 3))]))
  else .fail)
  else .fail)
  else .stop h0)
def R38_0 (t0 : List AV) : ((Int × (List AV))) → Out ((Int × (List AV))) (((List AV))) := fun s : Int × (List AV) => F38_0 t0 s.1 s.2
def l38_0 : LModel := fun _ _ st k => match st with
  | ⟨[(0, .sl g0 t0), (3, .own g1), (4, .int .i64 t4)], [(g2, ⟨false, g3, h0⟩)]⟩ => bif ctsEq g0 ([.int .i64, .int .i64, .int .i64, .int .i64]) && nmEq g1 ([0, 3]) && nmEq g2 ([0, 3]) && ctsEq g3 ([.int .i64, .int .i64, .int .i64, .int .i64]) then ro (runW (R38_0 t0) (((t0.length : Int) - t4).toNat + 1) (t4, h0)) none (fun p : (List AV) => k (.exit 0) ⟨[(3, AV.own [0, 3])], [([0, 3], ⟨false, [.int .i64, .int .i64, .int .i64, .int .i64], p⟩)]⟩) else none
  | _ => none
noncomputable def c38 : Cfg := cfg Tryz.prog [(38, 0, [0, 3, 4]), (38, 999, [2]), (38, 1000, [3]), (38, 1001, [0, 3, 4])] [(69, m69)] [] [] [(38, 0, l38_0)]
theorem s38_0 (ce : CallE) (t0 : List AV) (t4 : Int) (h0 : List AV) (next : St → Option AV) (k : Kont) : stepA (codeA c38 ce [] 38 0 (sub [1, 1, 0, 1, 0, 0] (body Tryz.f38))) (normA [] [0, 3, 4]) next ⟨[(0, AV.sl [.int .i64, .int .i64, .int .i64, .int .i64] t0), (3, AV.own [0, 3]), (4, AV.int .i64 t4)], [([0, 3], ⟨false, [.int .i64, .int .i64, .int .i64, .int .i64], h0⟩)]⟩ k = (bif decide (t4 < (t0.length : Int)) then (bif (decide (0 ≤ t4) && decide (t4 < (t0.length : Int))) then (bif (decide (0 ≤ t4) && decide (t4 < (h0.length : Int))) then next ⟨[(0, AV.sl [.int .i64, .int .i64, .int .i64, .int .i64] t0), (3, AV.own [0, 3]), (4, AV.int .i64 (IntKind.i64.wrap (t4 + 1)))], [([0, 3], ⟨false, [.int .i64, .int .i64, .int .i64, .int .i64], h0.set t4.toNat (AV.agg [AV.int .i64 (v69_0 (fI (t0.getD t4.toNat AV.undef) 0) (fI (t0.getD t4.toNat AV.undef) 1) (fI (t0.getD t4.toNat AV.undef) 2) (fI (t0.getD t4.toNat AV.undef) 3)), AV.int .i64 (v69_1 (fI (t0.getD t4.toNat AV.undef) 0) (fI (t0.getD t4.toNat AV.undef) 1) (fI (t0.getD t4.toNat AV.undef) 2) (fI (t0.getD t4.toNat AV.undef) 3)), AV.int .i64 (v69_2 (fI (t0.getD t4.toNat AV.undef) 0) (fI (t0.getD t4.toNat AV.undef) 1) (fI (t0.getD t4.toNat AV.undef) 2) (fI (t0.getD t4.toNat AV.undef) 3)), AV.int .i64 (v69_3 (fI (t0.getD t4.toNat AV.undef) 0) (fI (t0.getD t4.toNat AV.undef) 1) (fI (t0.getD t4.toNat AV.undef) 2) (fI (t0.getD t4.toNat AV.undef) 3))])⟩)]⟩
  else none)
  else none)
  else k (.exit 0) ⟨[(3, AV.own [0, 3])], [([0, 3], ⟨false, [.int .i64, .int .i64, .int .i64, .int .i64], h0⟩)]⟩) := by kernel_rfl
theorem st38_0 (t0 : List AV) (ce : CallE) (k : Kont) (s : (Int × (List AV))) (next : St → Option AV) : stepA (codeA c38 ce [] 38 0 (sub [1, 1, 0, 1, 0, 0] (body Tryz.f38))) (normA [] [0, 3, 4]) next ((fun s : Int × (List AV) => ⟨[(0, AV.sl [.int .i64, .int .i64, .int .i64, .int .i64] t0), (3, AV.own [0, 3]), (4, AV.int .i64 s.1)], [([0, 3], ⟨false, [.int .i64, .int .i64, .int .i64, .int .i64], s.2⟩)]⟩) s) k = (R38_0 t0 s).el none (fun s => next ((fun s : Int × (List AV) => ⟨[(0, AV.sl [.int .i64, .int .i64, .int .i64, .int .i64] t0), (3, AV.own [0, 3]), (4, AV.int .i64 s.1)], [([0, 3], ⟨false, [.int .i64, .int .i64, .int .i64, .int .i64], s.2⟩)]⟩) s)) (fun p : (List AV) => k (.exit 0) ⟨[(3, AV.own [0, 3])], [([0, 3], ⟨false, [.int .i64, .int .i64, .int .i64, .int .i64], p⟩)]⟩) := (s38_0 ce t0 s.1 s.2 next k).trans (by unfold R38_0; unfold F38_0; simp only [el_cond, el_ro, el_sum, el_fail, el_next, el_stop] <;> rfl)
theorem ok38_0 {ce : CallE} : LoopOK c38 ce [] 38 0 (sub [1, 1, 0, 1, 0, 0] (body Tryz.f38)) := by
  intro m hm st k r h
  obtain rfl : l38_0 = m := Option.some.inj hm
  unfold l38_0 at h
  split at h
  · rename_i g0 t0 g1 t4 g2 g3 h0
    obtain ⟨hg, h⟩ := bif_some h
    simp only [Bool.and_eq_true] at hg
    obtain ⟨⟨⟨q0, q1⟩, q2⟩, q3⟩ := hg
    obtain rfl := ctsEq_eq _ _ q0
    obtain rfl := (nmEq_iff _ _).1 q1
    obtain rfl := (nmEq_iff _ _).1 q2
    obtain rfl := ctsEq_eq _ _ q3
    refine ⟨(((t0.length : Int) - t4).toNat + 1), ?_⟩
    rw [← h]
    exact loop_run (fun s : Int × (List AV) => ⟨[(0, AV.sl [.int .i64, .int .i64, .int .i64, .int .i64] t0), (3, AV.own [0, 3]), (4, AV.int .i64 s.1)], [([0, 3], ⟨false, [.int .i64, .int .i64, .int .i64, .int .i64], s.2⟩)]⟩) (fun p : (List AV) => k (.exit 0) ⟨[(3, AV.own [0, 3])], [([0, 3], ⟨false, [.int .i64, .int .i64, .int .i64, .int .i64], p⟩)]⟩) (st38_0 t0 ce k) _ (t4, h0)
  · cases h
def q38 (a0 : List AV) : Bool := ((decide (0 ≤ (a0.length : Int)) && decide ((a0.length : Int) ≤ (a0.length : Int)) && decide ((a0.length : Int) * 32 ≤ 140737488355328) && decide ((a0.length : Int) ≤ 140737488355328)) && (ro (runW (R38_0 a0) (((a0.length : Int) - 0).toNat + 1) (0, List.replicate (Int.toNat (a0.length : Int)) (AV.agg [AV.int .i64 0, AV.int .i64 0, AV.int .i64 0, AV.int .i64 0]))) false (fun p1 => true)))
def v38_0 (a0 : List AV) : List AV := (ro (runW (R38_0 a0) (((a0.length : Int) - 0).toNat + 1) (0, List.replicate (Int.toNat (a0.length : Int)) (AV.agg [AV.int .i64 0, AV.int .i64 0, AV.int .i64 0, AV.int .i64 0]))) [] (fun p1 => p1))
theorem e38 (a0 : List AV) : funA c38 0 38 [AV.sl [.int .i64, .int .i64, .int .i64, .int .i64] a0] = (bif (decide (0 ≤ (a0.length : Int)) && decide ((a0.length : Int) ≤ (a0.length : Int)) && decide ((a0.length : Int) * 32 ≤ 140737488355328) && decide ((a0.length : Int) ≤ 140737488355328)) then (ro (runW (R38_0 a0) (((a0.length : Int) - 0).toNat + 1) (0, List.replicate (Int.toNat (a0.length : Int)) (AV.agg [AV.int .i64 0, AV.int .i64 0, AV.int .i64 0, AV.int .i64 0]))) none (fun p1 => some (AV.fl [.int .i64, .int .i64, .int .i64, .int .i64] p1)))
  else none) := by kernel_rfl
theorem r38 (a0 : List AV) (h : q38 a0 = true) : funA c38 0 38 [AV.sl [.int .i64, .int .i64, .int .i64, .int .i64] a0] = some (AV.fl [.int .i64, .int .i64, .int .i64, .int .i64] (v38_0 a0)) := (e38 a0).trans ((brL (brO (fun o : Option (((List AV))) => some (AV.fl [.int .i64, .int .i64, .int .i64, .int .i64] (ro o [] (fun p1 => p1)))) (fun p1 => (fun _ => rfl)))) h)
def m38 : TModel
  | [.sl g0 a0] => bif ctsEq g0 ([.int .i64, .int .i64, .int .i64, .int .i64]) then some (q38 a0, AV.fl [.int .i64, .int .i64, .int .i64, .int .i64] (v38_0 a0)) else none
  | _ => none
theorem k38 : Known Tryz.prog 38 := ⟨Tryz.f38, Tryz.func38, by kernel_rfl, by kernel_rfl⟩
theorem meets38 : Meets Tryz.prog 38 m38 := by
  refine meet (f := Tryz.f38) (l := [(0, sub [1, 1, 0, 1, 0, 0] (body Tryz.f38))]) (hs := [(38, 0, [0, 3, 4]), (38, 999, [2]), (38, 1000, [3]), (38, 1001, [0, 3, 4])]) (ts := [(69, m69)]) (ws := []) (is := []) (ls := [(38, 0, l38_0)]) (lvl := 0) mixed k38 Tryz.func38 (by kernel_rfl) (loops_cons ok38_0 noLoop) (allT_cons meets69 allT_nil) allM_nil noI fun w xs us r hl hv h => ?_
  unfold m38 at h
  split at h
  · rename_i g0 a0
    obtain ⟨hg, h⟩ := bif_pair h
    have q0 := hg
    obtain rfl := ctsEq_eq _ _ q0
    obtain ⟨h1, rfl⟩ := pair_inj h
    exact r38 a0 h1
  · cases h

/-! ### 7 loop.example/g01984/laws.toIntS -/
def F7_0 (t0 : List AV) (t4 : Int) (h0 : List AV) : Out ((Int × (List AV))) (((List AV))) := (bif decide (t4 < (t0.length : Int)) then (bif (decide (0 ≤ t4) && decide (t4 < (t0.length : Int))) then (bif (decide (0 ≤ t4) && decide (t4 < (h0.length : Int))) then .next (IntKind.i64.wrap (t4 + 1), h0.set t4.toNat (AV.agg [AV.int .i64 (fI (t0.getD t4.toNat AV.undef) 0)]))
  else .fail)
  else .fail)
  else .stop h0)
def R7_0 (t0 : List AV) : ((Int × (List AV))) → Out ((Int × (List AV))) (((List AV))) := fun s : Int × (List AV) => F7_0 t0 s.1 s.2
def l7_0 : LModel := fun _ _ st k => match st with
  | ⟨[(0, .sl g0 t0), (3, .own g1), (4, .int .i64 t4)], [(g2, ⟨false, g3, h0⟩)]⟩ => bif ctsEq g0 ([.int .i64]) && nmEq g1 ([0, 3]) && nmEq g2 ([0, 3]) && ctsEq g3 ([.int .i64]) then ro (runW (R7_0 t0) (((t0.length : Int) - t4).toNat + 1) (t4, h0)) none (fun p : (List AV) => k (.exit 0) ⟨[(3, AV.own [0, 3])], [([0, 3], ⟨false, [.int .i64], p⟩)]⟩) else none
  | _ => none
noncomputable def c7 : Cfg := cfg Tryz.prog [(7, 0, [0, 3, 4]), (7, 999, [2]), (7, 1000, [3]), (7, 1001, [0, 3, 4])] [] [] [] [(7, 0, l7_0)]
theorem s7_0 (ce : CallE) (t0 : List AV) (t4 : Int) (h0 : List AV) (next : St → Option AV) (k : Kont) : stepA (codeA c7 ce [] 7 0 (sub [1, 1, 0, 1, 0, 0] (body Tryz.f7))) (normA [] [0, 3, 4]) next ⟨[(0, AV.sl [.int .i64] t0), (3, AV.own [0, 3]), (4, AV.int .i64 t4)], [([0, 3], ⟨false, [.int .i64], h0⟩)]⟩ k = (bif decide (t4 < (t0.length : Int)) then (bif (decide (0 ≤ t4) && decide (t4 < (t0.length : Int))) then (bif (decide (0 ≤ t4) && decide (t4 < (h0.length : Int))) then next ⟨[(0, AV.sl [.int .i64] t0), (3, AV.own [0, 3]), (4, AV.int .i64 (IntKind.i64.wrap (t4 + 1)))], [([0, 3], ⟨false, [.int .i64], h0.set t4.toNat (AV.agg [AV.int .i64 (fI (t0.getD t4.toNat AV.undef) 0)])⟩)]⟩
  else none)
  else none)
  else k (.exit 0) ⟨[(3, AV.own [0, 3])], [([0, 3], ⟨false, [.int .i64], h0⟩)]⟩) := by kernel_rfl
theorem st7_0 (t0 : List AV) (ce : CallE) (k : Kont) (s : (Int × (List AV))) (next : St → Option AV) : stepA (codeA c7 ce [] 7 0 (sub [1, 1, 0, 1, 0, 0] (body Tryz.f7))) (normA [] [0, 3, 4]) next ((fun s : Int × (List AV) => ⟨[(0, AV.sl [.int .i64] t0), (3, AV.own [0, 3]), (4, AV.int .i64 s.1)], [([0, 3], ⟨false, [.int .i64], s.2⟩)]⟩) s) k = (R7_0 t0 s).el none (fun s => next ((fun s : Int × (List AV) => ⟨[(0, AV.sl [.int .i64] t0), (3, AV.own [0, 3]), (4, AV.int .i64 s.1)], [([0, 3], ⟨false, [.int .i64], s.2⟩)]⟩) s)) (fun p : (List AV) => k (.exit 0) ⟨[(3, AV.own [0, 3])], [([0, 3], ⟨false, [.int .i64], p⟩)]⟩) := (s7_0 ce t0 s.1 s.2 next k).trans (by unfold R7_0; unfold F7_0; simp only [el_cond, el_ro, el_sum, el_fail, el_next, el_stop] <;> rfl)
theorem ok7_0 {ce : CallE} : LoopOK c7 ce [] 7 0 (sub [1, 1, 0, 1, 0, 0] (body Tryz.f7)) := by
  intro m hm st k r h
  obtain rfl : l7_0 = m := Option.some.inj hm
  unfold l7_0 at h
  split at h
  · rename_i g0 t0 g1 t4 g2 g3 h0
    obtain ⟨hg, h⟩ := bif_some h
    simp only [Bool.and_eq_true] at hg
    obtain ⟨⟨⟨q0, q1⟩, q2⟩, q3⟩ := hg
    obtain rfl := ctsEq_eq _ _ q0
    obtain rfl := (nmEq_iff _ _).1 q1
    obtain rfl := (nmEq_iff _ _).1 q2
    obtain rfl := ctsEq_eq _ _ q3
    refine ⟨(((t0.length : Int) - t4).toNat + 1), ?_⟩
    rw [← h]
    exact loop_run (fun s : Int × (List AV) => ⟨[(0, AV.sl [.int .i64] t0), (3, AV.own [0, 3]), (4, AV.int .i64 s.1)], [([0, 3], ⟨false, [.int .i64], s.2⟩)]⟩) (fun p : (List AV) => k (.exit 0) ⟨[(3, AV.own [0, 3])], [([0, 3], ⟨false, [.int .i64], p⟩)]⟩) (st7_0 t0 ce k) _ (t4, h0)
  · cases h
def q7 (a0 : List AV) : Bool := ((decide (0 ≤ (a0.length : Int)) && decide ((a0.length : Int) ≤ (a0.length : Int)) && decide ((a0.length : Int) * 8 ≤ 140737488355328) && decide ((a0.length : Int) ≤ 140737488355328)) && (ro (runW (R7_0 a0) (((a0.length : Int) - 0).toNat + 1) (0, List.replicate (Int.toNat (a0.length : Int)) (AV.int .i64 0))) false (fun p2 => true)))
def v7_0 (a0 : List AV) : List AV := (ro (runW (R7_0 a0) (((a0.length : Int) - 0).toNat + 1) (0, List.replicate (Int.toNat (a0.length : Int)) (AV.int .i64 0))) [] (fun p2 => p2))
theorem e7 (a0 : List AV) : funA c7 0 7 [AV.sl [.int .i64] a0] = (bif (decide (0 ≤ (a0.length : Int)) && decide ((a0.length : Int) ≤ (a0.length : Int)) && decide ((a0.length : Int) * 8 ≤ 140737488355328) && decide ((a0.length : Int) ≤ 140737488355328)) then (ro (runW (R7_0 a0) (((a0.length : Int) - 0).toNat + 1) (0, List.replicate (Int.toNat (a0.length : Int)) (AV.int .i64 0))) none (fun p2 => some (AV.fl [.int .i64] p2)))
  else none) := by kernel_rfl
theorem r7 (a0 : List AV) (h : q7 a0 = true) : funA c7 0 7 [AV.sl [.int .i64] a0] = some (AV.fl [.int .i64] (v7_0 a0)) := (e7 a0).trans ((brL (brO (fun o : Option (((List AV))) => some (AV.fl [.int .i64] (ro o [] (fun p2 => p2)))) (fun p2 => (fun _ => rfl)))) h)
def m7 : TModel
  | [.sl g0 a0] => bif ctsEq g0 ([.int .i64]) then some (q7 a0, AV.fl [.int .i64] (v7_0 a0)) else none
  | _ => none
theorem k7 : Known Tryz.prog 7 := ⟨Tryz.f7, Tryz.func7, by kernel_rfl, by kernel_rfl⟩
theorem meets7 : Meets Tryz.prog 7 m7 := by
  refine meet (f := Tryz.f7) (l := [(0, sub [1, 1, 0, 1, 0, 0] (body Tryz.f7))]) (hs := [(7, 0, [0, 3, 4]), (7, 999, [2]), (7, 1000, [3]), (7, 1001, [0, 3, 4])]) (ts := []) (ws := []) (is := []) (ls := [(7, 0, l7_0)]) (lvl := 0) mixed k7 Tryz.func7 (by kernel_rfl) (loops_cons ok7_0 noLoop) allT_nil allM_nil noI fun w xs us r hl hv h => ?_
  unfold m7 at h
  split at h
  · rename_i g0 a0
    obtain ⟨hg, h⟩ := bif_pair h
    have q0 := hg
    obtain rfl := ctsEq_eq _ _ q0
    obtain ⟨h1, rfl⟩ := pair_inj h
    exact r7 a0 h1
  · cases h

/-! ### 93 loop.example/g01984/laws.toPivot -/
noncomputable def c93 : Cfg := cfg Tryz.prog [(93, 999, [2])] [] [] [] []
def q93 (a0_0 : Int) (a0_1 : Int) : Bool := true
def v93_0 (a0_0 : Int) (a0_1 : Int) : Int := a0_0
def v93_1 (a0_0 : Int) (a0_1 : Int) : Int := a0_1
theorem e93 (a0_0 : Int) (a0_1 : Int) : funA c93 0 93 [AV.agg [AV.int .i64 a0_0, AV.int .i64 a0_1]] = some (AV.agg [AV.int .i64 a0_0, AV.int .i64 a0_1]) := by kernel_rfl
theorem r93 (a0_0 : Int) (a0_1 : Int) : funA c93 0 93 [AV.agg [AV.int .i64 a0_0, AV.int .i64 a0_1]] = some (AV.agg [AV.int .i64 (v93_0 a0_0 a0_1), AV.int .i64 (v93_1 a0_0 a0_1)]) := (e93 a0_0 a0_1).trans (of_tt (fun _ => rfl))
def m93 : TModel
  | [.agg [.int .i64 a0_0, .int .i64 a0_1]] => some (true, AV.agg [AV.int .i64 (v93_0 a0_0 a0_1), AV.int .i64 (v93_1 a0_0 a0_1)])
  | _ => none
theorem k93 : Known Tryz.prog 93 := ⟨Tryz.f93, Tryz.func93, by kernel_rfl, by kernel_rfl⟩
theorem meets93 : Meets Tryz.prog 93 m93 := by
  refine meet (f := Tryz.f93) (l := []) (hs := [(93, 999, [2])]) (ts := []) (ws := []) (is := []) (ls := []) (lvl := 0) mixed k93 Tryz.func93 (by kernel_rfl) noLoop allT_nil allM_nil noI fun w xs us r hl hv h => ?_
  unfold m93 at h
  split at h
  · rename_i a0_0 a0_1
    obtain ⟨h1, rfl⟩ := pair_inj h
    exact r93 a0_0 a0_1
  · cases h

/-! ### 70 loop.example/g01984/laws.toPivotS -/
def F70_0 (t0 : List AV) (t4 : Int) (h0 : List AV) : Out ((Int × (List AV))) (((List AV))) := (bif decide (t4 < (t0.length : Int)) then (bif (decide (0 ≤ t4) && decide (t4 < (t0.length : Int))) then (bif (decide (0 ≤ t4) && decide (t4 < (h0.length : Int))) then .next (IntKind.i64.wrap (t4 + 1), h0.set t4.toNat (AV.agg [AV.int .i64 (v93_0 (fI (t0.getD t4.toNat AV.undef) 0) (fI (t0.getD t4.toNat AV.undef) 1)), AV.int .i64 (v93_1 (fI (t0.getD t4.toNat AV.undef) 0) (fI (t0.getD t4.toNat AV.undef) 1))]))
  else .fail)
  else .fail)
  else .stop h0)
def R70_0 (t0 : List AV) : ((Int × (List AV))) → Out ((Int × (List AV))) (((List AV))) := fun s : Int × (List AV) => F70_0 t0 s.1 s.2
def l70_0 : LModel := fun _ _ st k => match st with
  | ⟨[(0, .sl g0 t0), (3, .own g1), (4, .int .i64 t4)], [(g2, ⟨false, g3, h0⟩)]⟩ => bif ctsEq g0 ([.int .i64, .int .i64]) && nmEq g1 ([0, 3]) && nmEq g2 ([0, 3]) && ctsEq g3 ([.int .i64, .int .i64]) then ro (runW (R70_0 t0) (((t0.length : Int) - t4).toNat + 1) (t4, h0)) none (fun p : (List AV) => k (.exit 0) ⟨[(3, AV.own [0, 3])], [([0, 3], ⟨false, [.int .i64, .int .i64], p⟩)]⟩) else none
  | _ => none
noncomputable def c70 : Cfg := cfg Tryz.prog [(70, 0, [0, 3, 4]), (70, 999, [2]), (70, 1000, [3]), (70, 1001, [0, 3, 4])] [(93, m93)] [] [] [(70, 0, l70_0)]
theorem s70_0 (ce : CallE) (t0 : List AV) (t4 : Int) (h0 : List AV) (next : St → Option AV) (k : Kont) : stepA (codeA c70 ce [] 70 0 (sub [1, 1, 0, 1, 0, 0] (body Tryz.f70))) (normA [] [0, 3, 4]) next ⟨[(0, AV.sl [.int .i64, .int .i64] t0), (3, AV.own [0, 3]), (4, AV.int .i64 t4)], [([0, 3], ⟨false, [.int .i64, .int .i64], h0⟩)]⟩ k = (bif decide (t4 < (t0.length : Int)) then (bif (decide (0 ≤ t4) && decide (t4 < (t0.length : Int))) then (bif (decide (0 ≤ t4) && decide (t4 < (h0.length : Int))) then next ⟨[(0, AV.sl [.int .i64, .int .i64] t0), (3, AV.own [0, 3]), (4, AV.int .i64 (IntKind.i64.wrap (t4 + 1)))], [([0, 3], ⟨false, [.int .i64, .int .i64], h0.set t4.toNat (AV.agg [AV.int .i64 (v93_0 (fI (t0.getD t4.toNat AV.undef) 0) (fI (t0.getD t4.toNat AV.undef) 1)), AV.int .i64 (v93_1 (fI (t0.getD t4.toNat AV.undef) 0) (fI (t0.getD t4.toNat AV.undef) 1))])⟩)]⟩
  else none)
  else none)
  else k (.exit 0) ⟨[(3, AV.own [0, 3])], [([0, 3], ⟨false, [.int .i64, .int .i64], h0⟩)]⟩) := by kernel_rfl
theorem st70_0 (t0 : List AV) (ce : CallE) (k : Kont) (s : (Int × (List AV))) (next : St → Option AV) : stepA (codeA c70 ce [] 70 0 (sub [1, 1, 0, 1, 0, 0] (body Tryz.f70))) (normA [] [0, 3, 4]) next ((fun s : Int × (List AV) => ⟨[(0, AV.sl [.int .i64, .int .i64] t0), (3, AV.own [0, 3]), (4, AV.int .i64 s.1)], [([0, 3], ⟨false, [.int .i64, .int .i64], s.2⟩)]⟩) s) k = (R70_0 t0 s).el none (fun s => next ((fun s : Int × (List AV) => ⟨[(0, AV.sl [.int .i64, .int .i64] t0), (3, AV.own [0, 3]), (4, AV.int .i64 s.1)], [([0, 3], ⟨false, [.int .i64, .int .i64], s.2⟩)]⟩) s)) (fun p : (List AV) => k (.exit 0) ⟨[(3, AV.own [0, 3])], [([0, 3], ⟨false, [.int .i64, .int .i64], p⟩)]⟩) := (s70_0 ce t0 s.1 s.2 next k).trans (by unfold R70_0; unfold F70_0; simp only [el_cond, el_ro, el_sum, el_fail, el_next, el_stop] <;> rfl)
theorem ok70_0 {ce : CallE} : LoopOK c70 ce [] 70 0 (sub [1, 1, 0, 1, 0, 0] (body Tryz.f70)) := by
  intro m hm st k r h
  obtain rfl : l70_0 = m := Option.some.inj hm
  unfold l70_0 at h
  split at h
  · rename_i g0 t0 g1 t4 g2 g3 h0
    obtain ⟨hg, h⟩ := bif_some h
    simp only [Bool.and_eq_true] at hg
    obtain ⟨⟨⟨q0, q1⟩, q2⟩, q3⟩ := hg
    obtain rfl := ctsEq_eq _ _ q0
    obtain rfl := (nmEq_iff _ _).1 q1
    obtain rfl := (nmEq_iff _ _).1 q2
    obtain rfl := ctsEq_eq _ _ q3
    refine ⟨(((t0.length : Int) - t4).toNat + 1), ?_⟩
    rw [← h]
    exact loop_run (fun s : Int × (List AV) => ⟨[(0, AV.sl [.int .i64, .int .i64] t0), (3, AV.own [0, 3]), (4, AV.int .i64 s.1)], [([0, 3], ⟨false, [.int .i64, .int .i64], s.2⟩)]⟩) (fun p : (List AV) => k (.exit 0) ⟨[(3, AV.own [0, 3])], [([0, 3], ⟨false, [.int .i64, .int .i64], p⟩)]⟩) (st70_0 t0 ce k) _ (t4, h0)
  · cases h
def q70 (a0 : List AV) : Bool := ((decide (0 ≤ (a0.length : Int)) && decide ((a0.length : Int) ≤ (a0.length : Int)) && decide ((a0.length : Int) * 16 ≤ 140737488355328) && decide ((a0.length : Int) ≤ 140737488355328)) && (ro (runW (R70_0 a0) (((a0.length : Int) - 0).toNat + 1) (0, List.replicate (Int.toNat (a0.length : Int)) (AV.agg [AV.int .i64 0, AV.int .i64 0]))) false (fun p3 => true)))
def v70_0 (a0 : List AV) : List AV := (ro (runW (R70_0 a0) (((a0.length : Int) - 0).toNat + 1) (0, List.replicate (Int.toNat (a0.length : Int)) (AV.agg [AV.int .i64 0, AV.int .i64 0]))) [] (fun p3 => p3))
theorem e70 (a0 : List AV) : funA c70 0 70 [AV.sl [.int .i64, .int .i64] a0] = (bif (decide (0 ≤ (a0.length : Int)) && decide ((a0.length : Int) ≤ (a0.length : Int)) && decide ((a0.length : Int) * 16 ≤ 140737488355328) && decide ((a0.length : Int) ≤ 140737488355328)) then (ro (runW (R70_0 a0) (((a0.length : Int) - 0).toNat + 1) (0, List.replicate (Int.toNat (a0.length : Int)) (AV.agg [AV.int .i64 0, AV.int .i64 0]))) none (fun p3 => some (AV.fl [.int .i64, .int .i64] p3)))
  else none) := by kernel_rfl
theorem r70 (a0 : List AV) (h : q70 a0 = true) : funA c70 0 70 [AV.sl [.int .i64, .int .i64] a0] = some (AV.fl [.int .i64, .int .i64] (v70_0 a0)) := (e70 a0).trans ((brL (brO (fun o : Option (((List AV))) => some (AV.fl [.int .i64, .int .i64] (ro o [] (fun p3 => p3)))) (fun p3 => (fun _ => rfl)))) h)
def m70 : TModel
  | [.sl g0 a0] => bif ctsEq g0 ([.int .i64, .int .i64]) then some (q70 a0, AV.fl [.int .i64, .int .i64] (v70_0 a0)) else none
  | _ => none
theorem k70 : Known Tryz.prog 70 := ⟨Tryz.f70, Tryz.func70, by kernel_rfl, by kernel_rfl⟩
theorem meets70 : Meets Tryz.prog 70 m70 := by
  refine meet (f := Tryz.f70) (l := [(0, sub [1, 1, 0, 1, 0, 0] (body Tryz.f70))]) (hs := [(70, 0, [0, 3, 4]), (70, 999, [2]), (70, 1000, [3]), (70, 1001, [0, 3, 4])]) (ts := [(93, m93)]) (ws := []) (is := []) (ls := [(70, 0, l70_0)]) (lvl := 0) mixed k70 Tryz.func70 (by kernel_rfl) (loops_cons ok70_0 noLoop) (allT_cons meets93 allT_nil) allM_nil noI fun w xs us r hl hv h => ?_
  unfold m70 at h
  split at h
  · rename_i g0 a0
    obtain ⟨hg, h⟩ := bif_pair h
    have q0 := hg
    obtain rfl := ctsEq_eq _ _ q0
    obtain ⟨h1, rfl⟩ := pair_inj h
    exact r70 a0 h1
  · cases h

/-! ### 39 loop.example/g01984/laws.toCracker -/
noncomputable def c39 : Cfg := cfg Tryz.prog [(39, 999, [2])] [(7, m7), (70, m70)] [] [] []
def q39 (a0_0 : List AV) (a0_1 : List AV) (a0_2 : List AV) : Bool := (q7 a0_0 && (q7 a0_1 && q70 a0_2))
def v39_0 (a0_0 : List AV) (a0_1 : List AV) (a0_2 : List AV) : List AV := (v7_0 a0_0)
def v39_1 (a0_0 : List AV) (a0_1 : List AV) (a0_2 : List AV) : List AV := (v7_0 a0_1)
def v39_2 (a0_0 : List AV) (a0_1 : List AV) (a0_2 : List AV) : List AV := (v70_0 a0_2)
theorem e39 (a0_0 : List AV) (a0_1 : List AV) (a0_2 : List AV) : funA c39 0 39 [AV.agg [AV.sl [.int .i64] a0_0, AV.sl [.int .i64] a0_1, AV.sl [.int .i64, .int .i64] a0_2]] = (bif q7 a0_0 then (bif q7 a0_1 then (bif q70 a0_2 then some (AV.agg [AV.fl [.int .i64] (v7_0 a0_0), AV.fl [.int .i64] (v7_0 a0_1), AV.fl [.int .i64, .int .i64] (v70_0 a0_2)])
  else none)
  else none)
  else none) := by kernel_rfl
theorem r39 (a0_0 : List AV) (a0_1 : List AV) (a0_2 : List AV) (h : q39 a0_0 a0_1 a0_2 = true) : funA c39 0 39 [AV.agg [AV.sl [.int .i64] a0_0, AV.sl [.int .i64] a0_1, AV.sl [.int .i64, .int .i64] a0_2]] = some (AV.agg [AV.fl [.int .i64] (v39_0 a0_0 a0_1 a0_2), AV.fl [.int .i64] (v39_1 a0_0 a0_1 a0_2), AV.fl [.int .i64, .int .i64] (v39_2 a0_0 a0_1 a0_2)]) := (e39 a0_0 a0_1 a0_2).trans ((brL (brL (brL1 (fun _ => rfl)))) h)
def m39 : TModel
  | [.agg [.sl g0 a0_0, .sl g1 a0_1, .sl g2 a0_2]] => bif ctsEq g0 ([.int .i64]) && ctsEq g1 ([.int .i64]) && ctsEq g2 ([.int .i64, .int .i64]) then some (q39 a0_0 a0_1 a0_2, AV.agg [AV.fl [.int .i64] (v39_0 a0_0 a0_1 a0_2), AV.fl [.int .i64] (v39_1 a0_0 a0_1 a0_2), AV.fl [.int .i64, .int .i64] (v39_2 a0_0 a0_1 a0_2)]) else none
  | _ => none
theorem k39 : Known Tryz.prog 39 := ⟨Tryz.f39, Tryz.func39, by kernel_rfl, by kernel_rfl⟩
theorem meets39 : Meets Tryz.prog 39 m39 := by
  refine meet (f := Tryz.f39) (l := []) (hs := [(39, 999, [2])]) (ts := [(7, m7), (70, m70)]) (ws := []) (is := []) (ls := []) (lvl := 0) mixed k39 Tryz.func39 (by kernel_rfl) noLoop (allT_cons meets7 (allT_cons meets70 allT_nil)) allM_nil noI fun w xs us r hl hv h => ?_
  unfold m39 at h
  split at h
  · rename_i g0 a0_0 g1 a0_1 g2 a0_2
    obtain ⟨hg, h⟩ := bif_pair h
    simp only [Bool.and_eq_true] at hg
    obtain ⟨⟨q0, q1⟩, q2⟩ := hg
    obtain rfl := ctsEq_eq _ _ q0
    obtain rfl := ctsEq_eq _ _ q1
    obtain rfl := ctsEq_eq _ _ q2
    obtain ⟨h1, rfl⟩ := pair_inj h
    exact r39 a0_0 a0_1 a0_2 h1
  · cases h

/-! ### 14 loop.example/g01984/laws.toStore -/
noncomputable def c14 : Cfg := cfg Tryz.prog [(14, 999, [2])] [(38, m38), (39, m39)] [] [] []
def q14 (a0_0 : List AV) (a0_1 : Int) (a0_2 : List AV) (a0_3 : List AV) (a0_4 : List AV) : Bool := (q38 a0_0 && q39 a0_2 a0_3 a0_4)
def v14_0 (a0_0 : List AV) (a0_1 : Int) (a0_2 : List AV) (a0_3 : List AV) (a0_4 : List AV) : List AV := (v38_0 a0_0)
def v14_1 (a0_0 : List AV) (a0_1 : Int) (a0_2 : List AV) (a0_3 : List AV) (a0_4 : List AV) : Int := a0_1
def v14_2 (a0_0 : List AV) (a0_1 : Int) (a0_2 : List AV) (a0_3 : List AV) (a0_4 : List AV) : List AV := (v39_0 a0_2 a0_3 a0_4)
def v14_3 (a0_0 : List AV) (a0_1 : Int) (a0_2 : List AV) (a0_3 : List AV) (a0_4 : List AV) : List AV := (v39_1 a0_2 a0_3 a0_4)
def v14_4 (a0_0 : List AV) (a0_1 : Int) (a0_2 : List AV) (a0_3 : List AV) (a0_4 : List AV) : List AV := (v39_2 a0_2 a0_3 a0_4)
theorem e14 (a0_0 : List AV) (a0_1 : Int) (a0_2 : List AV) (a0_3 : List AV) (a0_4 : List AV) : funA c14 0 14 [AV.agg [AV.sl [.int .i64, .int .i64, .int .i64, .int .i64] a0_0, AV.int .i64 a0_1, AV.sl [.int .i64] a0_2, AV.sl [.int .i64] a0_3, AV.sl [.int .i64, .int .i64] a0_4]] = (bif q38 a0_0 then (bif q39 a0_2 a0_3 a0_4 then some (AV.agg [AV.fl [.int .i64, .int .i64, .int .i64, .int .i64] (v38_0 a0_0), AV.int .i64 a0_1, AV.fl [.int .i64] (v39_0 a0_2 a0_3 a0_4), AV.fl [.int .i64] (v39_1 a0_2 a0_3 a0_4), AV.fl [.int .i64, .int .i64] (v39_2 a0_2 a0_3 a0_4)])
  else none)
  else none) := by kernel_rfl
theorem r14 (a0_0 : List AV) (a0_1 : Int) (a0_2 : List AV) (a0_3 : List AV) (a0_4 : List AV) (h : q14 a0_0 a0_1 a0_2 a0_3 a0_4 = true) : funA c14 0 14 [AV.agg [AV.sl [.int .i64, .int .i64, .int .i64, .int .i64] a0_0, AV.int .i64 a0_1, AV.sl [.int .i64] a0_2, AV.sl [.int .i64] a0_3, AV.sl [.int .i64, .int .i64] a0_4]] = some (AV.agg [AV.fl [.int .i64, .int .i64, .int .i64, .int .i64] (v14_0 a0_0 a0_1 a0_2 a0_3 a0_4), AV.int .i64 (v14_1 a0_0 a0_1 a0_2 a0_3 a0_4), AV.fl [.int .i64] (v14_2 a0_0 a0_1 a0_2 a0_3 a0_4), AV.fl [.int .i64] (v14_3 a0_0 a0_1 a0_2 a0_3 a0_4), AV.fl [.int .i64, .int .i64] (v14_4 a0_0 a0_1 a0_2 a0_3 a0_4)]) := (e14 a0_0 a0_1 a0_2 a0_3 a0_4).trans ((brL (brL1 (fun _ => rfl))) h)
def m14 : TModel
  | [.agg [.sl g0 a0_0, .int .i64 a0_1, .sl g1 a0_2, .sl g2 a0_3, .sl g3 a0_4]] => bif ctsEq g0 ([.int .i64, .int .i64, .int .i64, .int .i64]) && ctsEq g1 ([.int .i64]) && ctsEq g2 ([.int .i64]) && ctsEq g3 ([.int .i64, .int .i64]) then some (q14 a0_0 a0_1 a0_2 a0_3 a0_4, AV.agg [AV.fl [.int .i64, .int .i64, .int .i64, .int .i64] (v14_0 a0_0 a0_1 a0_2 a0_3 a0_4), AV.int .i64 (v14_1 a0_0 a0_1 a0_2 a0_3 a0_4), AV.fl [.int .i64] (v14_2 a0_0 a0_1 a0_2 a0_3 a0_4), AV.fl [.int .i64] (v14_3 a0_0 a0_1 a0_2 a0_3 a0_4), AV.fl [.int .i64, .int .i64] (v14_4 a0_0 a0_1 a0_2 a0_3 a0_4)]) else none
  | _ => none
theorem k14 : Known Tryz.prog 14 := ⟨Tryz.f14, Tryz.func14, by kernel_rfl, by kernel_rfl⟩
theorem meets14 : Meets Tryz.prog 14 m14 := by
  refine meet (f := Tryz.f14) (l := []) (hs := [(14, 999, [2])]) (ts := [(38, m38), (39, m39)]) (ws := []) (is := []) (ls := []) (lvl := 0) mixed k14 Tryz.func14 (by kernel_rfl) noLoop (allT_cons meets38 (allT_cons meets39 allT_nil)) allM_nil noI fun w xs us r hl hv h => ?_
  unfold m14 at h
  split at h
  · rename_i g0 a0_0 a0_1 g1 a0_2 g2 a0_3 g3 a0_4
    obtain ⟨hg, h⟩ := bif_pair h
    simp only [Bool.and_eq_true] at hg
    obtain ⟨⟨⟨q0, q1⟩, q2⟩, q3⟩ := hg
    obtain rfl := ctsEq_eq _ _ q0
    obtain rfl := ctsEq_eq _ _ q1
    obtain rfl := ctsEq_eq _ _ q2
    obtain rfl := ctsEq_eq _ _ q3
    obtain ⟨h1, rfl⟩ := pair_inj h
    exact r14 a0_0 a0_1 a0_2 a0_3 a0_4 h1
  · cases h

/-! ### 15 loop.example/g01984/laws.toRange -/
noncomputable def c15 : Cfg := cfg Tryz.prog [(15, 999, [2])] [] [] [] []
def q15 (a0_0 : Int) (a0_1 : Int) : Bool := true
def v15_0 (a0_0 : Int) (a0_1 : Int) : Int := a0_0
def v15_1 (a0_0 : Int) (a0_1 : Int) : Int := a0_1
theorem e15 (a0_0 : Int) (a0_1 : Int) : funA c15 0 15 [AV.agg [AV.int .i64 a0_0, AV.int .i64 a0_1]] = some (AV.agg [AV.int .i64 a0_0, AV.int .i64 a0_1]) := by kernel_rfl
theorem r15 (a0_0 : Int) (a0_1 : Int) : funA c15 0 15 [AV.agg [AV.int .i64 a0_0, AV.int .i64 a0_1]] = some (AV.agg [AV.int .i64 (v15_0 a0_0 a0_1), AV.int .i64 (v15_1 a0_0 a0_1)]) := (e15 a0_0 a0_1).trans (of_tt (fun _ => rfl))
def m15 : TModel
  | [.agg [.int .i64 a0_0, .int .i64 a0_1]] => some (true, AV.agg [AV.int .i64 (v15_0 a0_0 a0_1), AV.int .i64 (v15_1 a0_0 a0_1)])
  | _ => none
theorem k15 : Known Tryz.prog 15 := ⟨Tryz.f15, Tryz.func15, by kernel_rfl, by kernel_rfl⟩
theorem meets15 : Meets Tryz.prog 15 m15 := by
  refine meet (f := Tryz.f15) (l := []) (hs := [(15, 999, [2])]) (ts := []) (ws := []) (is := []) (ls := []) (lvl := 0) mixed k15 Tryz.func15 (by kernel_rfl) noLoop allT_nil allM_nil noI fun w xs us r hl hv h => ?_
  unfold m15 at h
  split at h
  · rename_i a0_0 a0_1
    obtain ⟨h1, rfl⟩ := pair_inj h
    exact r15 a0_0 a0_1
  · cases h

/-! ### 64 loop.example/g01984/spec.l4Copy -/
noncomputable def c64 : Cfg := cfg Tryz.prog [(64, 999, [2])] [] [] [] []
def q64 (a0_0 : List AV) (a0_1 : List AV) (a0_2 : List AV) : Bool := ((decide ((([] : List AV).length + a0_0.length) * 8 ≤ 140737488355328) && decide ((([] : List AV).length + a0_0.length) ≤ 140737488355328)) && ((decide ((([] : List AV).length + a0_1.length) * 8 ≤ 140737488355328) && decide ((([] : List AV).length + a0_1.length) ≤ 140737488355328)) && (decide ((([] : List AV).length + a0_2.length) * 16 ≤ 140737488355328) && decide ((([] : List AV).length + a0_2.length) ≤ 140737488355328))))
def v64_0 (a0_0 : List AV) (a0_1 : List AV) (a0_2 : List AV) : List AV := ([] : List AV) ++ a0_0
def v64_1 (a0_0 : List AV) (a0_1 : List AV) (a0_2 : List AV) : List AV := ([] : List AV) ++ a0_1
def v64_2 (a0_0 : List AV) (a0_1 : List AV) (a0_2 : List AV) : List AV := ([] : List AV) ++ a0_2
theorem e64 (a0_0 : List AV) (a0_1 : List AV) (a0_2 : List AV) : funA c64 0 64 [AV.agg [AV.sl [.int .i64] a0_0, AV.sl [.int .i64] a0_1, AV.sl [.int .i64, .int .i64] a0_2]] = (bif (decide ((([] : List AV).length + a0_0.length) * 8 ≤ 140737488355328) && decide ((([] : List AV).length + a0_0.length) ≤ 140737488355328)) then (bif (decide ((([] : List AV).length + a0_1.length) * 8 ≤ 140737488355328) && decide ((([] : List AV).length + a0_1.length) ≤ 140737488355328)) then (bif (decide ((([] : List AV).length + a0_2.length) * 16 ≤ 140737488355328) && decide ((([] : List AV).length + a0_2.length) ≤ 140737488355328)) then some (AV.agg [AV.fl [.int .i64] (([] : List AV) ++ a0_0), AV.fl [.int .i64] (([] : List AV) ++ a0_1), AV.fl [.int .i64, .int .i64] (([] : List AV) ++ a0_2)])
  else none)
  else none)
  else none) := by kernel_rfl
theorem r64 (a0_0 : List AV) (a0_1 : List AV) (a0_2 : List AV) (h : q64 a0_0 a0_1 a0_2 = true) : funA c64 0 64 [AV.agg [AV.sl [.int .i64] a0_0, AV.sl [.int .i64] a0_1, AV.sl [.int .i64, .int .i64] a0_2]] = some (AV.agg [AV.fl [.int .i64] (v64_0 a0_0 a0_1 a0_2), AV.fl [.int .i64] (v64_1 a0_0 a0_1 a0_2), AV.fl [.int .i64, .int .i64] (v64_2 a0_0 a0_1 a0_2)]) := (e64 a0_0 a0_1 a0_2).trans ((brL (brL (brL1 (fun _ => rfl)))) h)
def m64 : TModel
  | [.agg [.sl g0 a0_0, .sl g1 a0_1, .sl g2 a0_2]] => bif ctsEq g0 ([.int .i64]) && ctsEq g1 ([.int .i64]) && ctsEq g2 ([.int .i64, .int .i64]) then some (q64 a0_0 a0_1 a0_2, AV.agg [AV.fl [.int .i64] (v64_0 a0_0 a0_1 a0_2), AV.fl [.int .i64] (v64_1 a0_0 a0_1 a0_2), AV.fl [.int .i64, .int .i64] (v64_2 a0_0 a0_1 a0_2)]) else none
  | _ => none
theorem k64 : Known Tryz.prog 64 := ⟨Tryz.f64, Tryz.func64, by kernel_rfl, by kernel_rfl⟩
theorem meets64 : Meets Tryz.prog 64 m64 := by
  refine meet (f := Tryz.f64) (l := []) (hs := [(64, 999, [2])]) (ts := []) (ws := []) (is := []) (ls := []) (lvl := 0) mixed k64 Tryz.func64 (by kernel_rfl) noLoop allT_nil allM_nil noI fun w xs us r hl hv h => ?_
  unfold m64 at h
  split at h
  · rename_i g0 a0_0 g1 a0_1 g2 a0_2
    obtain ⟨hg, h⟩ := bif_pair h
    simp only [Bool.and_eq_true] at hg
    obtain ⟨⟨q0, q1⟩, q2⟩ := hg
    obtain rfl := ctsEq_eq _ _ q0
    obtain rfl := ctsEq_eq _ _ q1
    obtain rfl := ctsEq_eq _ _ q2
    obtain ⟨h1, rfl⟩ := pair_inj h
    exact r64 a0_0 a0_1 a0_2 h1
  · cases h

/-! ### 32 loop.example/g01984/spec.l19Copy -/
noncomputable def c32 : Cfg := cfg Tryz.prog [(32, 999, [2])] [(64, m64)] [] [] []
def q32 (a0_0 : List AV) (a0_1 : Int) (a0_2 : List AV) (a0_3 : List AV) (a0_4 : List AV) : Bool := ((decide ((([] : List AV).length + a0_0.length) * 32 ≤ 140737488355328) && decide ((([] : List AV).length + a0_0.length) ≤ 140737488355328)) && q64 a0_2 a0_3 a0_4)
def v32_0 (a0_0 : List AV) (a0_1 : Int) (a0_2 : List AV) (a0_3 : List AV) (a0_4 : List AV) : List AV := ([] : List AV) ++ a0_0
def v32_1 (a0_0 : List AV) (a0_1 : Int) (a0_2 : List AV) (a0_3 : List AV) (a0_4 : List AV) : Int := a0_1
def v32_2 (a0_0 : List AV) (a0_1 : Int) (a0_2 : List AV) (a0_3 : List AV) (a0_4 : List AV) : List AV := (v64_0 a0_2 a0_3 a0_4)
def v32_3 (a0_0 : List AV) (a0_1 : Int) (a0_2 : List AV) (a0_3 : List AV) (a0_4 : List AV) : List AV := (v64_1 a0_2 a0_3 a0_4)
def v32_4 (a0_0 : List AV) (a0_1 : Int) (a0_2 : List AV) (a0_3 : List AV) (a0_4 : List AV) : List AV := (v64_2 a0_2 a0_3 a0_4)
theorem e32 (a0_0 : List AV) (a0_1 : Int) (a0_2 : List AV) (a0_3 : List AV) (a0_4 : List AV) : funA c32 0 32 [AV.agg [AV.sl [.int .i64, .int .i64, .int .i64, .int .i64] a0_0, AV.int .i64 a0_1, AV.sl [.int .i64] a0_2, AV.sl [.int .i64] a0_3, AV.sl [.int .i64, .int .i64] a0_4]] = (bif (decide ((([] : List AV).length + a0_0.length) * 32 ≤ 140737488355328) && decide ((([] : List AV).length + a0_0.length) ≤ 140737488355328)) then (bif q64 a0_2 a0_3 a0_4 then some (AV.agg [AV.fl [.int .i64, .int .i64, .int .i64, .int .i64] (([] : List AV) ++ a0_0), AV.int .i64 a0_1, AV.fl [.int .i64] (v64_0 a0_2 a0_3 a0_4), AV.fl [.int .i64] (v64_1 a0_2 a0_3 a0_4), AV.fl [.int .i64, .int .i64] (v64_2 a0_2 a0_3 a0_4)])
  else none)
  else none) := by kernel_rfl
theorem r32 (a0_0 : List AV) (a0_1 : Int) (a0_2 : List AV) (a0_3 : List AV) (a0_4 : List AV) (h : q32 a0_0 a0_1 a0_2 a0_3 a0_4 = true) : funA c32 0 32 [AV.agg [AV.sl [.int .i64, .int .i64, .int .i64, .int .i64] a0_0, AV.int .i64 a0_1, AV.sl [.int .i64] a0_2, AV.sl [.int .i64] a0_3, AV.sl [.int .i64, .int .i64] a0_4]] = some (AV.agg [AV.fl [.int .i64, .int .i64, .int .i64, .int .i64] (v32_0 a0_0 a0_1 a0_2 a0_3 a0_4), AV.int .i64 (v32_1 a0_0 a0_1 a0_2 a0_3 a0_4), AV.fl [.int .i64] (v32_2 a0_0 a0_1 a0_2 a0_3 a0_4), AV.fl [.int .i64] (v32_3 a0_0 a0_1 a0_2 a0_3 a0_4), AV.fl [.int .i64, .int .i64] (v32_4 a0_0 a0_1 a0_2 a0_3 a0_4)]) := (e32 a0_0 a0_1 a0_2 a0_3 a0_4).trans ((brL (brL1 (fun _ => rfl))) h)
def m32 : TModel
  | [.agg [.sl g0 a0_0, .int .i64 a0_1, .sl g1 a0_2, .sl g2 a0_3, .sl g3 a0_4]] => bif ctsEq g0 ([.int .i64, .int .i64, .int .i64, .int .i64]) && ctsEq g1 ([.int .i64]) && ctsEq g2 ([.int .i64]) && ctsEq g3 ([.int .i64, .int .i64]) then some (q32 a0_0 a0_1 a0_2 a0_3 a0_4, AV.agg [AV.fl [.int .i64, .int .i64, .int .i64, .int .i64] (v32_0 a0_0 a0_1 a0_2 a0_3 a0_4), AV.int .i64 (v32_1 a0_0 a0_1 a0_2 a0_3 a0_4), AV.fl [.int .i64] (v32_2 a0_0 a0_1 a0_2 a0_3 a0_4), AV.fl [.int .i64] (v32_3 a0_0 a0_1 a0_2 a0_3 a0_4), AV.fl [.int .i64, .int .i64] (v32_4 a0_0 a0_1 a0_2 a0_3 a0_4)]) else none
  | _ => none
theorem k32 : Known Tryz.prog 32 := ⟨Tryz.f32, Tryz.func32, by kernel_rfl, by kernel_rfl⟩
theorem meets32 : Meets Tryz.prog 32 m32 := by
  refine meet (f := Tryz.f32) (l := []) (hs := [(32, 999, [2])]) (ts := [(64, m64)]) (ws := []) (is := []) (ls := []) (lvl := 0) mixed k32 Tryz.func32 (by kernel_rfl) noLoop (allT_cons meets64 allT_nil) allM_nil noI fun w xs us r hl hv h => ?_
  unfold m32 at h
  split at h
  · rename_i g0 a0_0 a0_1 g1 a0_2 g2 a0_3 g3 a0_4
    obtain ⟨hg, h⟩ := bif_pair h
    simp only [Bool.and_eq_true] at hg
    obtain ⟨⟨⟨q0, q1⟩, q2⟩, q3⟩ := hg
    obtain rfl := ctsEq_eq _ _ q0
    obtain rfl := ctsEq_eq _ _ q1
    obtain rfl := ctsEq_eq _ _ q2
    obtain rfl := ctsEq_eq _ _ q3
    obtain ⟨h1, rfl⟩ := pair_inj h
    exact r32 a0_0 a0_1 a0_2 a0_3 a0_4 h1
  · cases h

/-! ### 23 loop.example/g01984/spec.l1In -/
noncomputable def c23 : Cfg := cfg Tryz.prog [(23, 999, [6])] [] [] [] []
def q23 (a0 : Int) (a1 : Int) (a2 : Int) : Bool := true
def v23_0 (a0 : Int) (a1 : Int) (a2 : Int) : Bool := (bif decide (a0 ≥ a1) then decide (a0 ≤ a2) else false)
theorem e23 (a0 : Int) (a1 : Int) (a2 : Int) : funA c23 0 23 [AV.int .i64 a0, AV.int .i64 a1, AV.int .i64 a2] = (bif decide (a0 ≥ a1) then some (AV.bool (decide (a0 ≤ a2)))
  else some (AV.bool false)) := by kernel_rfl
theorem r23 (a0 : Int) (a1 : Int) (a2 : Int) : funA c23 0 23 [AV.int .i64 a0, AV.int .i64 a1, AV.int .i64 a2] = some (AV.bool (v23_0 a0 a1 a2)) := (e23 a0 a1 a2).trans (of_tt (brT (fun b => some (AV.bool (bif b then decide (a0 ≤ a2) else false))) (fun _ => rfl) (fun _ => rfl)))
def m23 : TModel
  | [.int .i64 a0, .int .i64 a1, .int .i64 a2] => some (true, AV.bool (v23_0 a0 a1 a2))
  | _ => none
theorem k23 : Known Tryz.prog 23 := ⟨Tryz.f23, Tryz.func23, by kernel_rfl, by kernel_rfl⟩
theorem meets23 : Meets Tryz.prog 23 m23 := by
  refine meet (f := Tryz.f23) (l := []) (hs := [(23, 999, [6])]) (ts := []) (ws := []) (is := []) (ls := []) (lvl := 0) mixed k23 Tryz.func23 (by kernel_rfl) noLoop allT_nil allM_nil noI fun w xs us r hl hv h => ?_
  unfold m23 at h
  split at h
  · rename_i a0 a1 a2
    obtain ⟨h1, rfl⟩ := pair_inj h
    exact r23 a0 a1 a2
  · cases h

/-! ### 52 loop.example/g01984/spec.AreValues -/
def F52_0 (t0 : List AV) (t3 : Int) : Out (Int) (Unit ⊕ Unit) := (bif decide (t3 < (t0.length : Int)) then (bif (decide (0 ≤ t3) && decide (t3 < (t0.length : Int))) then (bif !(v23_0 (fI (t0.getD t3.toNat AV.undef) 0) (-999) 999) then .stop (.inr ())
  else .next (IntKind.i64.wrap (t3 + 1)))
  else .fail)
  else .stop (.inl ()))
def R52_0 (t0 : List AV) : (Int) → Out (Int) (Unit ⊕ Unit) := fun s : Int => F52_0 t0 s
def l52_0 : LModel := fun _ _ st k => match st with
  | ⟨[(0, .sl g0 t0), (3, .int .i64 t3)], []⟩ => bif ctsEq g0 ([.int .i64]) then ro (runW (R52_0 t0) (((t0.length : Int) - t3).toNat + 1) t3) none (sumE (fun _ : Unit => k (.exit 0) ⟨[(0, AV.sl [.int .i64] t0)], []⟩) (fun _ : Unit => k .ret ⟨[(2, AV.bool false)], []⟩)) else none
  | _ => none
noncomputable def c52 : Cfg := cfg Tryz.prog [(52, 0, [0, 3]), (52, 999, [2]), (52, 1000, [0]), (52, 1001, [0, 3])] [(23, m23)] [] [] [(52, 0, l52_0)]
theorem s52_0 (ce : CallE) (t0 : List AV) (t3 : Int) (next : St → Option AV) (k : Kont) : stepA (codeA c52 ce [] 52 0 (sub [1, 0, 1, 0, 0] (body Tryz.f52))) (normA [] [0, 3]) next ⟨[(0, AV.sl [.int .i64] t0), (3, AV.int .i64 t3)], []⟩ k = (bif decide (t3 < (t0.length : Int)) then (bif (decide (0 ≤ t3) && decide (t3 < (t0.length : Int))) then (bif !(v23_0 (fI (t0.getD t3.toNat AV.undef) 0) (-999) 999) then k .ret ⟨[(2, AV.bool false)], []⟩
  else next ⟨[(0, AV.sl [.int .i64] t0), (3, AV.int .i64 (IntKind.i64.wrap (t3 + 1)))], []⟩)
  else none)
  else k (.exit 0) ⟨[(0, AV.sl [.int .i64] t0)], []⟩) := by kernel_rfl
theorem st52_0 (t0 : List AV) (ce : CallE) (k : Kont) (s : Int) (next : St → Option AV) : stepA (codeA c52 ce [] 52 0 (sub [1, 0, 1, 0, 0] (body Tryz.f52))) (normA [] [0, 3]) next ((fun s : Int => ⟨[(0, AV.sl [.int .i64] t0), (3, AV.int .i64 s)], []⟩) s) k = (R52_0 t0 s).el none (fun s => next ((fun s : Int => ⟨[(0, AV.sl [.int .i64] t0), (3, AV.int .i64 s)], []⟩) s)) (sumE (fun _ : Unit => k (.exit 0) ⟨[(0, AV.sl [.int .i64] t0)], []⟩) (fun _ : Unit => k .ret ⟨[(2, AV.bool false)], []⟩)) := (s52_0 ce t0 s next k).trans (by unfold R52_0; unfold F52_0; simp only [el_cond, el_ro, el_sum, el_fail, el_next, el_stop] <;> rfl)
theorem ok52_0 {ce : CallE} : LoopOK c52 ce [] 52 0 (sub [1, 0, 1, 0, 0] (body Tryz.f52)) := by
  intro m hm st k r h
  obtain rfl : l52_0 = m := Option.some.inj hm
  unfold l52_0 at h
  split at h
  · rename_i g0 t0 t3
    obtain ⟨hg, h⟩ := bif_some h
    have q0 := hg
    obtain rfl := ctsEq_eq _ _ q0
    refine ⟨(((t0.length : Int) - t3).toNat + 1), ?_⟩
    rw [← h]
    exact loop_run (fun s : Int => ⟨[(0, AV.sl [.int .i64] t0), (3, AV.int .i64 s)], []⟩) (sumE (fun _ : Unit => k (.exit 0) ⟨[(0, AV.sl [.int .i64] t0)], []⟩) (fun _ : Unit => k .ret ⟨[(2, AV.bool false)], []⟩)) (st52_0 t0 ce k) _ t3
  · cases h
def q52 (a0 : List AV) : Bool := (ro (runW (R52_0 a0) (((a0.length : Int) - 0).toNat + 1) 0) false (sumE (fun _ => true) (fun _ => true)))
def v52_0 (a0 : List AV) : Bool := (ro (runW (R52_0 a0) (((a0.length : Int) - 0).toNat + 1) 0) false (sumE (fun _ => decide ((a0.length : Int) ≤ 64)) (fun _ => false)))
theorem e52 (a0 : List AV) : funA c52 0 52 [AV.sl [.int .i64] a0] = (ro (runW (R52_0 a0) (((a0.length : Int) - 0).toNat + 1) 0) none (sumE (fun _ => some (AV.bool (decide ((a0.length : Int) ≤ 64)))) (fun _ => some (AV.bool false)))) := by kernel_rfl
theorem r52 (a0 : List AV) (h : q52 a0 = true) : funA c52 0 52 [AV.sl [.int .i64] a0] = some (AV.bool (v52_0 a0)) := (e52 a0).trans ((brO (fun o : Option (Unit ⊕ Unit) => some (AV.bool (ro o false (sumE (fun _ => decide ((a0.length : Int) ≤ 64)) (fun _ => false))))) (brS (fun o : Unit ⊕ Unit => some (AV.bool ((sumE (fun _ => decide ((a0.length : Int) ≤ 64)) (fun _ => false)) o))) (fun _ => (fun _ => rfl)) (fun _ => (fun _ => rfl)))) h)
def m52 : TModel
  | [.sl g0 a0] => bif ctsEq g0 ([.int .i64]) then some (q52 a0, AV.bool (v52_0 a0)) else none
  | _ => none
theorem k52 : Known Tryz.prog 52 := ⟨Tryz.f52, Tryz.func52, by kernel_rfl, by kernel_rfl⟩
theorem meets52 : Meets Tryz.prog 52 m52 := by
  refine meet (f := Tryz.f52) (l := [(0, sub [1, 0, 1, 0, 0] (body Tryz.f52))]) (hs := [(52, 0, [0, 3]), (52, 999, [2]), (52, 1000, [0]), (52, 1001, [0, 3])]) (ts := [(23, m23)]) (ws := []) (is := []) (ls := [(52, 0, l52_0)]) (lvl := 0) mixed k52 Tryz.func52 (by kernel_rfl) (loops_cons ok52_0 noLoop) (allT_cons meets23 allT_nil) allM_nil noI fun w xs us r hl hv h => ?_
  unfold m52 at h
  split at h
  · rename_i g0 a0
    obtain ⟨hg, h⟩ := bif_pair h
    have q0 := hg
    obtain rfl := ctsEq_eq _ _ q0
    obtain ⟨h1, rfl⟩ := pair_inj h
    exact r52 a0 h1
  · cases h

/-! ### 36 loop.example/g01984/spec.l4Has -/
def F36_0 (t0 : List AV) (t1 : Int) (t5 : Int) : Out (Int) (Unit ⊕ Unit) := (bif decide (t5 < (t0.length : Int)) then (bif (decide (0 ≤ t5) && decide (t5 < (t0.length : Int))) then (bif decide (fI (t0.getD t5.toNat AV.undef) 0 = t1) then .stop (.inr ())
  else .next (IntKind.i64.wrap (t5 + 1)))
  else .fail)
  else .stop (.inl ()))
def R36_0 (t0 : List AV) (t1 : Int) : (Int) → Out (Int) (Unit ⊕ Unit) := fun s : Int => F36_0 t0 t1 s
def l36_0 : LModel := fun _ _ st k => match st with
  | ⟨[(0, .sl g0 t0), (1, .int .i64 t1), (5, .int .i64 t5)], []⟩ => bif ctsEq g0 ([.int .i64]) then ro (runW (R36_0 t0 t1) (((t0.length : Int) - t5).toNat + 1) t5) none (sumE (fun _ : Unit => k (.exit 0) ⟨[], []⟩) (fun _ : Unit => k .ret ⟨[(4, AV.bool true)], []⟩)) else none
  | _ => none
noncomputable def c36 : Cfg := cfg Tryz.prog [(36, 0, [0, 1, 5]), (36, 999, [4]), (36, 1000, []), (36, 1001, [0, 1, 5])] [] [] [] [(36, 0, l36_0)]
theorem s36_0 (ce : CallE) (t0 : List AV) (t1 : Int) (t5 : Int) (next : St → Option AV) (k : Kont) : stepA (codeA c36 ce [] 36 0 (sub [1, 0, 1, 0, 0] (body Tryz.f36))) (normA [] [0, 1, 5]) next ⟨[(0, AV.sl [.int .i64] t0), (1, AV.int .i64 t1), (5, AV.int .i64 t5)], []⟩ k = (bif decide (t5 < (t0.length : Int)) then (bif (decide (0 ≤ t5) && decide (t5 < (t0.length : Int))) then (bif decide (fI (t0.getD t5.toNat AV.undef) 0 = t1) then k .ret ⟨[(4, AV.bool true)], []⟩
  else next ⟨[(0, AV.sl [.int .i64] t0), (1, AV.int .i64 t1), (5, AV.int .i64 (IntKind.i64.wrap (t5 + 1)))], []⟩)
  else none)
  else k (.exit 0) ⟨[], []⟩) := by kernel_rfl
theorem st36_0 (t0 : List AV) (t1 : Int) (ce : CallE) (k : Kont) (s : Int) (next : St → Option AV) : stepA (codeA c36 ce [] 36 0 (sub [1, 0, 1, 0, 0] (body Tryz.f36))) (normA [] [0, 1, 5]) next ((fun s : Int => ⟨[(0, AV.sl [.int .i64] t0), (1, AV.int .i64 t1), (5, AV.int .i64 s)], []⟩) s) k = (R36_0 t0 t1 s).el none (fun s => next ((fun s : Int => ⟨[(0, AV.sl [.int .i64] t0), (1, AV.int .i64 t1), (5, AV.int .i64 s)], []⟩) s)) (sumE (fun _ : Unit => k (.exit 0) ⟨[], []⟩) (fun _ : Unit => k .ret ⟨[(4, AV.bool true)], []⟩)) := (s36_0 ce t0 t1 s next k).trans (by unfold R36_0; unfold F36_0; simp only [el_cond, el_ro, el_sum, el_fail, el_next, el_stop] <;> rfl)
theorem ok36_0 {ce : CallE} : LoopOK c36 ce [] 36 0 (sub [1, 0, 1, 0, 0] (body Tryz.f36)) := by
  intro m hm st k r h
  obtain rfl : l36_0 = m := Option.some.inj hm
  unfold l36_0 at h
  split at h
  · rename_i g0 t0 t1 t5
    obtain ⟨hg, h⟩ := bif_some h
    have q0 := hg
    obtain rfl := ctsEq_eq _ _ q0
    refine ⟨(((t0.length : Int) - t5).toNat + 1), ?_⟩
    rw [← h]
    exact loop_run (fun s : Int => ⟨[(0, AV.sl [.int .i64] t0), (1, AV.int .i64 t1), (5, AV.int .i64 s)], []⟩) (sumE (fun _ : Unit => k (.exit 0) ⟨[], []⟩) (fun _ : Unit => k .ret ⟨[(4, AV.bool true)], []⟩)) (st36_0 t0 t1 ce k) _ t5
  · cases h
def q36 (a0 : List AV) (a1 : Int) : Bool := (ro (runW (R36_0 a0 a1) (((a0.length : Int) - 0).toNat + 1) 0) false (sumE (fun _ => true) (fun _ => true)))
def v36_0 (a0 : List AV) (a1 : Int) : Bool := (ro (runW (R36_0 a0 a1) (((a0.length : Int) - 0).toNat + 1) 0) false (sumE (fun _ => false) (fun _ => true)))
theorem e36 (a0 : List AV) (a1 : Int) : funA c36 0 36 [AV.sl [.int .i64] a0, AV.int .i64 a1] = (ro (runW (R36_0 a0 a1) (((a0.length : Int) - 0).toNat + 1) 0) none (sumE (fun _ => some (AV.bool false)) (fun _ => some (AV.bool true)))) := by kernel_rfl
theorem r36 (a0 : List AV) (a1 : Int) (h : q36 a0 a1 = true) : funA c36 0 36 [AV.sl [.int .i64] a0, AV.int .i64 a1] = some (AV.bool (v36_0 a0 a1)) := (e36 a0 a1).trans ((brO (fun o : Option (Unit ⊕ Unit) => some (AV.bool (ro o false (sumE (fun _ => false) (fun _ => true))))) (brS (fun o : Unit ⊕ Unit => some (AV.bool ((sumE (fun _ => false) (fun _ => true)) o))) (fun _ => (fun _ => rfl)) (fun _ => (fun _ => rfl)))) h)
def m36 : TModel
  | [.sl g0 a0, .int .i64 a1] => bif ctsEq g0 ([.int .i64]) then some (q36 a0 a1, AV.bool (v36_0 a0 a1)) else none
  | _ => none
theorem k36 : Known Tryz.prog 36 := ⟨Tryz.f36, Tryz.func36, by kernel_rfl, by kernel_rfl⟩
theorem meets36 : Meets Tryz.prog 36 m36 := by
  refine meet (f := Tryz.f36) (l := [(0, sub [1, 0, 1, 0, 0] (body Tryz.f36))]) (hs := [(36, 0, [0, 1, 5]), (36, 999, [4]), (36, 1000, []), (36, 1001, [0, 1, 5])]) (ts := []) (ws := []) (is := []) (ls := [(36, 0, l36_0)]) (lvl := 0) mixed k36 Tryz.func36 (by kernel_rfl) (loops_cons ok36_0 noLoop) allT_nil allM_nil noI fun w xs us r hl hv h => ?_
  unfold m36 at h
  split at h
  · rename_i g0 a0 a1
    obtain ⟨hg, h⟩ := bif_pair h
    have q0 := hg
    obtain rfl := ctsEq_eq _ _ q0
    obtain ⟨h1, rfl⟩ := pair_inj h
    exact r36 a0 a1 h1
  · cases h

/-! ### 90 loop.example/g01984/spec.l4Pivots -/
def F90_2 (t0 : List AV) (t1 : List AV) (t5 : Int) (h0_0 : Int) (h0_1 : Int) (t7 : Int) : Out (Int) (Unit ⊕ Unit) := (bif decide (t7 < (t0.length : Int)) then (bif (decide (0 ≤ t7) && decide (t7 < (t0.length : Int))) then (bif !(decide (fI (t0.getD t7.toNat AV.undef) 0 < h0_0) == decide (t7 < h0_1)) then .stop (.inr ())
  else .next (IntKind.i64.wrap (t7 + 1)))
  else .fail)
  else .stop (.inl ()))
def R90_2 (t0 : List AV) (t1 : List AV) (t5 : Int) (h0_0 : Int) (h0_1 : Int) : (Int) → Out (Int) (Unit ⊕ Unit) := fun s : Int => F90_2 t0 t1 t5 h0_0 h0_1 s
def l90_2 : LModel := fun _ _ st k => match st with
  | ⟨[(0, .sl g0 t0), (1, .sl g1 t1), (5, .int .i64 t5), (6, .ptr g2 g3 g4), (7, .int .i64 t7)], [(g5, ⟨true, [], [.agg [.int .i64 h0_0, .int .i64 h0_1]]⟩)]⟩ => bif ctsEq g0 ([.int .i64]) && ctsEq g1 ([.int .i64, .int .i64]) && nmEq g2 ([0, 6]) && Nat.beq g3 0 && Nat.beq g4 0 && nmEq g5 ([0, 6]) then ro (runW (R90_2 t0 t1 t5 h0_0 h0_1) (((t0.length : Int) - t7).toNat + 1) t7) none (sumE (fun _ : Unit => k (.exit 2) ⟨[(0, AV.sl [.int .i64] t0), (1, AV.sl [.int .i64, .int .i64] t1), (5, AV.int .i64 t5)], [([0, 6], ⟨true, [], [AV.agg [AV.int .i64 h0_0, AV.int .i64 h0_1]]⟩)]⟩) (fun _ : Unit => k .ret ⟨[(4, AV.bool false)], [([0, 6], ⟨true, [], [AV.agg [AV.int .i64 h0_0, AV.int .i64 h0_1]]⟩)]⟩)) else none
  | _ => none
def F90_0 (t0 : List AV) (t1 : List AV) (t5 : Int) : Out (Int) (Unit ⊕ (Int × Int) ⊕ (Int × Int)) := (bif decide (t5 < (t1.length : Int)) then (bif (decide (0 ≤ t5) && decide (t5 < (t1.length : Int))) then (bif !(v23_0 (fI (t1.getD t5.toNat AV.undef) 0) (-1000) 1000) then .stop (.inr (.inl (fI (t1.getD t5.toNat AV.undef) 0, fI (t1.getD t5.toNat AV.undef) 1)))
  else (bif !(v23_0 (fI (t1.getD t5.toNat AV.undef) 1) 0 (t0.length : Int)) then .stop (.inr (.inl (fI (t1.getD t5.toNat AV.undef) 0, fI (t1.getD t5.toNat AV.undef) 1)))
  else (bif decide (t5 > 0) then (bif (decide (0 ≤ IntKind.i64.wrap (t5 - 1)) && decide (IntKind.i64.wrap (t5 - 1) < (t1.length : Int))) then (bif decide (fI (t1.getD t5.toNat AV.undef) 0 ≤ fI (t1.getD (IntKind.i64.wrap (t5 - 1)).toNat AV.undef) 0) then .stop (.inr (.inl (fI (t1.getD t5.toNat AV.undef) 0, fI (t1.getD t5.toNat AV.undef) 1)))
  else (bif (decide (0 ≤ IntKind.i64.wrap (t5 - 1)) && decide (IntKind.i64.wrap (t5 - 1) < (t1.length : Int))) then (bif decide (fI (t1.getD t5.toNat AV.undef) 1 < fI (t1.getD (IntKind.i64.wrap (t5 - 1)).toNat AV.undef) 1) then .stop (.inr (.inl (fI (t1.getD t5.toNat AV.undef) 0, fI (t1.getD t5.toNat AV.undef) 1)))
  else (ro (runW (R90_2 t0 t1 t5 (fI (t1.getD t5.toNat AV.undef) 0) (fI (t1.getD t5.toNat AV.undef) 1)) (((t0.length : Int) - 0).toNat + 1) 0) .fail (sumE (fun _ => .next (IntKind.i64.wrap (t5 + 1))) (fun _ => .stop (.inr (.inr (fI (t1.getD t5.toNat AV.undef) 0, fI (t1.getD t5.toNat AV.undef) 1)))))))
  else .fail))
  else .fail)
  else (ro (runW (R90_2 t0 t1 t5 (fI (t1.getD t5.toNat AV.undef) 0) (fI (t1.getD t5.toNat AV.undef) 1)) (((t0.length : Int) - 0).toNat + 1) 0) .fail (sumE (fun _ => .next (IntKind.i64.wrap (t5 + 1))) (fun _ => .stop (.inr (.inr (fI (t1.getD t5.toNat AV.undef) 0, fI (t1.getD t5.toNat AV.undef) 1)))))))))
  else .fail)
  else .stop (.inl ()))
def R90_0 (t0 : List AV) (t1 : List AV) : (Int) → Out (Int) (Unit ⊕ (Int × Int) ⊕ (Int × Int)) := fun s : Int => F90_0 t0 t1 s
def l90_0 : LModel := fun _ _ st k => match st with
  | ⟨[(0, .sl g0 t0), (1, .sl g1 t1), (5, .int .i64 t5)], []⟩ => bif ctsEq g0 ([.int .i64]) && ctsEq g1 ([.int .i64, .int .i64]) then ro (runW (R90_0 t0 t1) (((t1.length : Int) - t5).toNat + 1) t5) none (sumE (fun _ : Unit => k (.exit 0) ⟨[], []⟩) (sumE (fun p : Int × Int => k .ret ⟨[(4, AV.bool false)], [([1, 6], ⟨true, [], [AV.agg [AV.int .i64 p.1, AV.int .i64 p.2]]⟩)]⟩) (fun p : Int × Int => k .ret ⟨[(4, AV.bool false)], [([0, 6], ⟨true, [], [AV.agg [AV.int .i64 p.1, AV.int .i64 p.2]]⟩)]⟩))) else none
  | _ => none
noncomputable def c90 : Cfg := cfg Tryz.prog [(90, 0, [0, 1, 5]), (90, 2, [0, 1, 5, 6, 7]), (90, 999, [4]), (90, 1000, []), (90, 1001, [0, 1, 5]), (90, 1002, [0, 1, 5]), (90, 1003, [0, 1, 5, 6, 7])] [(23, m23)] [] [] [(90, 0, l90_0), (90, 2, l90_2)]
theorem s90_2 (ce : CallE) (t0 : List AV) (t1 : List AV) (t5 : Int) (t7 : Int) (h0_0 : Int) (h0_1 : Int) (next : St → Option AV) (k : Kont) : stepA (codeA c90 ce [] 90 2 (sub [1, 0, 1, 0, 0, 1, 0, 0, 1, 1, 1, 0, 0] (body Tryz.f90))) (normA [] [0, 1, 5, 6, 7]) next ⟨[(0, AV.sl [.int .i64] t0), (1, AV.sl [.int .i64, .int .i64] t1), (5, AV.int .i64 t5), (6, AV.ptr [0, 6] 0 0), (7, AV.int .i64 t7)], [([0, 6], ⟨true, [], [AV.agg [AV.int .i64 h0_0, AV.int .i64 h0_1]]⟩)]⟩ k = (bif decide (t7 < (t0.length : Int)) then (bif (decide (0 ≤ t7) && decide (t7 < (t0.length : Int))) then (bif !(decide (fI (t0.getD t7.toNat AV.undef) 0 < h0_0) == decide (t7 < h0_1)) then k .ret ⟨[(4, AV.bool false)], [([0, 6], ⟨true, [], [AV.agg [AV.int .i64 h0_0, AV.int .i64 h0_1]]⟩)]⟩
  else next ⟨[(0, AV.sl [.int .i64] t0), (1, AV.sl [.int .i64, .int .i64] t1), (5, AV.int .i64 t5), (6, AV.ptr [0, 6] 0 0), (7, AV.int .i64 (IntKind.i64.wrap (t7 + 1)))], [([0, 6], ⟨true, [], [AV.agg [AV.int .i64 h0_0, AV.int .i64 h0_1]]⟩)]⟩)
  else none)
  else k (.exit 2) ⟨[(0, AV.sl [.int .i64] t0), (1, AV.sl [.int .i64, .int .i64] t1), (5, AV.int .i64 t5)], [([0, 6], ⟨true, [], [AV.agg [AV.int .i64 h0_0, AV.int .i64 h0_1]]⟩)]⟩) := by kernel_rfl
theorem st90_2 (t0 : List AV) (t1 : List AV) (t5 : Int) (h0_0 : Int) (h0_1 : Int) (ce : CallE) (k : Kont) (s : Int) (next : St → Option AV) : stepA (codeA c90 ce [] 90 2 (sub [1, 0, 1, 0, 0, 1, 0, 0, 1, 1, 1, 0, 0] (body Tryz.f90))) (normA [] [0, 1, 5, 6, 7]) next ((fun s : Int => ⟨[(0, AV.sl [.int .i64] t0), (1, AV.sl [.int .i64, .int .i64] t1), (5, AV.int .i64 t5), (6, AV.ptr [0, 6] 0 0), (7, AV.int .i64 s)], [([0, 6], ⟨true, [], [AV.agg [AV.int .i64 h0_0, AV.int .i64 h0_1]]⟩)]⟩) s) k = (R90_2 t0 t1 t5 h0_0 h0_1 s).el none (fun s => next ((fun s : Int => ⟨[(0, AV.sl [.int .i64] t0), (1, AV.sl [.int .i64, .int .i64] t1), (5, AV.int .i64 t5), (6, AV.ptr [0, 6] 0 0), (7, AV.int .i64 s)], [([0, 6], ⟨true, [], [AV.agg [AV.int .i64 h0_0, AV.int .i64 h0_1]]⟩)]⟩) s)) (sumE (fun _ : Unit => k (.exit 2) ⟨[(0, AV.sl [.int .i64] t0), (1, AV.sl [.int .i64, .int .i64] t1), (5, AV.int .i64 t5)], [([0, 6], ⟨true, [], [AV.agg [AV.int .i64 h0_0, AV.int .i64 h0_1]]⟩)]⟩) (fun _ : Unit => k .ret ⟨[(4, AV.bool false)], [([0, 6], ⟨true, [], [AV.agg [AV.int .i64 h0_0, AV.int .i64 h0_1]]⟩)]⟩)) := (s90_2 ce t0 t1 t5 s h0_0 h0_1 next k).trans (by unfold R90_2; unfold F90_2; simp only [el_cond, el_ro, el_sum, el_fail, el_next, el_stop] <;> rfl)
theorem ok90_2 {ce : CallE} : LoopOK c90 ce [] 90 2 (sub [1, 0, 1, 0, 0, 1, 0, 0, 1, 1, 1, 0, 0] (body Tryz.f90)) := by
  intro m hm st k r h
  obtain rfl : l90_2 = m := Option.some.inj hm
  unfold l90_2 at h
  split at h
  · rename_i g0 t0 g1 t1 t5 g2 g3 g4 t7 g5 h0_0 h0_1
    obtain ⟨hg, h⟩ := bif_some h
    simp only [Bool.and_eq_true] at hg
    obtain ⟨⟨⟨⟨⟨q0, q1⟩, q2⟩, q3⟩, q4⟩, q5⟩ := hg
    obtain rfl := ctsEq_eq _ _ q0
    obtain rfl := ctsEq_eq _ _ q1
    obtain rfl := (nmEq_iff _ _).1 q2
    obtain rfl := Nat.eq_of_beq_eq_true q3
    obtain rfl := Nat.eq_of_beq_eq_true q4
    obtain rfl := (nmEq_iff _ _).1 q5
    refine ⟨(((t0.length : Int) - t7).toNat + 1), ?_⟩
    rw [← h]
    exact loop_run (fun s : Int => ⟨[(0, AV.sl [.int .i64] t0), (1, AV.sl [.int .i64, .int .i64] t1), (5, AV.int .i64 t5), (6, AV.ptr [0, 6] 0 0), (7, AV.int .i64 s)], [([0, 6], ⟨true, [], [AV.agg [AV.int .i64 h0_0, AV.int .i64 h0_1]]⟩)]⟩) (sumE (fun _ : Unit => k (.exit 2) ⟨[(0, AV.sl [.int .i64] t0), (1, AV.sl [.int .i64, .int .i64] t1), (5, AV.int .i64 t5)], [([0, 6], ⟨true, [], [AV.agg [AV.int .i64 h0_0, AV.int .i64 h0_1]]⟩)]⟩) (fun _ : Unit => k .ret ⟨[(4, AV.bool false)], [([0, 6], ⟨true, [], [AV.agg [AV.int .i64 h0_0, AV.int .i64 h0_1]]⟩)]⟩)) (st90_2 t0 t1 t5 h0_0 h0_1 ce k) _ t7
  · cases h
theorem s90_0 (ce : CallE) (t0 : List AV) (t1 : List AV) (t5 : Int) (next : St → Option AV) (k : Kont) : stepA (codeA c90 ce [] 90 0 (sub [1, 0, 1, 0, 0] (body Tryz.f90))) (normA [] [0, 1, 5]) next ⟨[(0, AV.sl [.int .i64] t0), (1, AV.sl [.int .i64, .int .i64] t1), (5, AV.int .i64 t5)], []⟩ k = (bif decide (t5 < (t1.length : Int)) then (bif (decide (0 ≤ t5) && decide (t5 < (t1.length : Int))) then (bif !(v23_0 (fI (t1.getD t5.toNat AV.undef) 0) (-1000) 1000) then k .ret ⟨[(4, AV.bool false)], [([1, 6], ⟨true, [], [AV.agg [AV.int .i64 (fI (t1.getD t5.toNat AV.undef) 0), AV.int .i64 (fI (t1.getD t5.toNat AV.undef) 1)]]⟩)]⟩
  else (bif !(v23_0 (fI (t1.getD t5.toNat AV.undef) 1) 0 (t0.length : Int)) then k .ret ⟨[(4, AV.bool false)], [([1, 6], ⟨true, [], [AV.agg [AV.int .i64 (fI (t1.getD t5.toNat AV.undef) 0), AV.int .i64 (fI (t1.getD t5.toNat AV.undef) 1)]]⟩)]⟩
  else (bif decide (t5 > 0) then (bif (decide (0 ≤ IntKind.i64.wrap (t5 - 1)) && decide (IntKind.i64.wrap (t5 - 1) < (t1.length : Int))) then (bif decide (fI (t1.getD t5.toNat AV.undef) 0 ≤ fI (t1.getD (IntKind.i64.wrap (t5 - 1)).toNat AV.undef) 0) then k .ret ⟨[(4, AV.bool false)], [([1, 6], ⟨true, [], [AV.agg [AV.int .i64 (fI (t1.getD t5.toNat AV.undef) 0), AV.int .i64 (fI (t1.getD t5.toNat AV.undef) 1)]]⟩)]⟩
  else (bif (decide (0 ≤ IntKind.i64.wrap (t5 - 1)) && decide (IntKind.i64.wrap (t5 - 1) < (t1.length : Int))) then (bif decide (fI (t1.getD t5.toNat AV.undef) 1 < fI (t1.getD (IntKind.i64.wrap (t5 - 1)).toNat AV.undef) 1) then k .ret ⟨[(4, AV.bool false)], [([1, 6], ⟨true, [], [AV.agg [AV.int .i64 (fI (t1.getD t5.toNat AV.undef) 0), AV.int .i64 (fI (t1.getD t5.toNat AV.undef) 1)]]⟩)]⟩
  else (ro (runW (R90_2 t0 t1 t5 (fI (t1.getD t5.toNat AV.undef) 0) (fI (t1.getD t5.toNat AV.undef) 1)) (((t0.length : Int) - 0).toNat + 1) 0) none (sumE (fun _ => next ⟨[(0, AV.sl [.int .i64] t0), (1, AV.sl [.int .i64, .int .i64] t1), (5, AV.int .i64 (IntKind.i64.wrap (t5 + 1)))], []⟩) (fun _ => k .ret ⟨[(4, AV.bool false)], [([0, 6], ⟨true, [], [AV.agg [AV.int .i64 (fI (t1.getD t5.toNat AV.undef) 0), AV.int .i64 (fI (t1.getD t5.toNat AV.undef) 1)]]⟩)]⟩))))
  else none))
  else none)
  else (ro (runW (R90_2 t0 t1 t5 (fI (t1.getD t5.toNat AV.undef) 0) (fI (t1.getD t5.toNat AV.undef) 1)) (((t0.length : Int) - 0).toNat + 1) 0) none (sumE (fun _ => next ⟨[(0, AV.sl [.int .i64] t0), (1, AV.sl [.int .i64, .int .i64] t1), (5, AV.int .i64 (IntKind.i64.wrap (t5 + 1)))], []⟩) (fun _ => k .ret ⟨[(4, AV.bool false)], [([0, 6], ⟨true, [], [AV.agg [AV.int .i64 (fI (t1.getD t5.toNat AV.undef) 0), AV.int .i64 (fI (t1.getD t5.toNat AV.undef) 1)]]⟩)]⟩))))))
  else none)
  else k (.exit 0) ⟨[], []⟩) := by kernel_rfl
theorem st90_0 (t0 : List AV) (t1 : List AV) (ce : CallE) (k : Kont) (s : Int) (next : St → Option AV) : stepA (codeA c90 ce [] 90 0 (sub [1, 0, 1, 0, 0] (body Tryz.f90))) (normA [] [0, 1, 5]) next ((fun s : Int => ⟨[(0, AV.sl [.int .i64] t0), (1, AV.sl [.int .i64, .int .i64] t1), (5, AV.int .i64 s)], []⟩) s) k = (R90_0 t0 t1 s).el none (fun s => next ((fun s : Int => ⟨[(0, AV.sl [.int .i64] t0), (1, AV.sl [.int .i64, .int .i64] t1), (5, AV.int .i64 s)], []⟩) s)) (sumE (fun _ : Unit => k (.exit 0) ⟨[], []⟩) (sumE (fun p : Int × Int => k .ret ⟨[(4, AV.bool false)], [([1, 6], ⟨true, [], [AV.agg [AV.int .i64 p.1, AV.int .i64 p.2]]⟩)]⟩) (fun p : Int × Int => k .ret ⟨[(4, AV.bool false)], [([0, 6], ⟨true, [], [AV.agg [AV.int .i64 p.1, AV.int .i64 p.2]]⟩)]⟩))) := (s90_0 ce t0 t1 s next k).trans (by unfold R90_0; unfold F90_0; simp only [el_cond, el_ro, el_sum, el_fail, el_next, el_stop] <;> rfl)
theorem ok90_0 {ce : CallE} : LoopOK c90 ce [] 90 0 (sub [1, 0, 1, 0, 0] (body Tryz.f90)) := by
  intro m hm st k r h
  obtain rfl : l90_0 = m := Option.some.inj hm
  unfold l90_0 at h
  split at h
  · rename_i g0 t0 g1 t1 t5
    obtain ⟨hg, h⟩ := bif_some h
    simp only [Bool.and_eq_true] at hg
    obtain ⟨q0, q1⟩ := hg
    obtain rfl := ctsEq_eq _ _ q0
    obtain rfl := ctsEq_eq _ _ q1
    refine ⟨(((t1.length : Int) - t5).toNat + 1), ?_⟩
    rw [← h]
    exact loop_run (fun s : Int => ⟨[(0, AV.sl [.int .i64] t0), (1, AV.sl [.int .i64, .int .i64] t1), (5, AV.int .i64 s)], []⟩) (sumE (fun _ : Unit => k (.exit 0) ⟨[], []⟩) (sumE (fun p : Int × Int => k .ret ⟨[(4, AV.bool false)], [([1, 6], ⟨true, [], [AV.agg [AV.int .i64 p.1, AV.int .i64 p.2]]⟩)]⟩) (fun p : Int × Int => k .ret ⟨[(4, AV.bool false)], [([0, 6], ⟨true, [], [AV.agg [AV.int .i64 p.1, AV.int .i64 p.2]]⟩)]⟩))) (st90_0 t0 t1 ce k) _ t5
  · cases h
def q90 (a0 : List AV) (a1 : List AV) : Bool := (ro (runW (R90_0 a0 a1) (((a1.length : Int) - 0).toNat + 1) 0) false (sumE (fun _ => true) (sumE (fun p14 => true) (fun p15 => true))))
def v90_0 (a0 : List AV) (a1 : List AV) : Bool := (ro (runW (R90_0 a0 a1) (((a1.length : Int) - 0).toNat + 1) 0) false (sumE (fun _ => true) (sumE (fun p14 => false) (fun p15 => false))))
theorem e90 (a0 : List AV) (a1 : List AV) : funA c90 0 90 [AV.sl [.int .i64] a0, AV.sl [.int .i64, .int .i64] a1] = (ro (runW (R90_0 a0 a1) (((a1.length : Int) - 0).toNat + 1) 0) none (sumE (fun _ => some (AV.bool true)) (sumE (fun p14 => some (AV.bool false)) (fun p15 => some (AV.bool false))))) := by kernel_rfl
theorem r90 (a0 : List AV) (a1 : List AV) (h : q90 a0 a1 = true) : funA c90 0 90 [AV.sl [.int .i64] a0, AV.sl [.int .i64, .int .i64] a1] = some (AV.bool (v90_0 a0 a1)) := (e90 a0 a1).trans ((brO (fun o : Option (Unit ⊕ (Int × Int) ⊕ (Int × Int)) => some (AV.bool (ro o false (sumE (fun _ => true) (sumE (fun p14 => false) (fun p15 => false)))))) (brS (fun o : Unit ⊕ (Int × Int) ⊕ (Int × Int) => some (AV.bool ((sumE (fun _ => true) (sumE (fun p14 => false) (fun p15 => false))) o))) (fun _ => (fun _ => rfl)) (brS (fun o : (Int × Int) ⊕ (Int × Int) => some (AV.bool ((sumE (fun p14 => false) (fun p15 => false)) o))) (fun p14 => (fun _ => rfl)) (fun p15 => (fun _ => rfl))))) h)
def m90 : TModel
  | [.sl g0 a0, .sl g1 a1] => bif ctsEq g0 ([.int .i64]) && ctsEq g1 ([.int .i64, .int .i64]) then some (q90 a0 a1, AV.bool (v90_0 a0 a1)) else none
  | _ => none
theorem k90 : Known Tryz.prog 90 := ⟨Tryz.f90, Tryz.func90, by kernel_rfl, by kernel_rfl⟩
theorem meets90 : Meets Tryz.prog 90 m90 := by
  refine meet (f := Tryz.f90) (l := [(0, sub [1, 0, 1, 0, 0] (body Tryz.f90)), (2, sub [1, 0, 1, 0, 0, 1, 0, 0, 1, 1, 1, 0, 0] (body Tryz.f90))]) (hs := [(90, 0, [0, 1, 5]), (90, 2, [0, 1, 5, 6, 7]), (90, 999, [4]), (90, 1000, []), (90, 1001, [0, 1, 5]), (90, 1002, [0, 1, 5]), (90, 1003, [0, 1, 5, 6, 7])]) (ts := [(23, m23)]) (ws := []) (is := []) (ls := [(90, 0, l90_0), (90, 2, l90_2)]) (lvl := 0) mixed k90 Tryz.func90 (by kernel_rfl) (loops_cons ok90_0 (loops_cons ok90_2 noLoop)) (allT_cons meets23 allT_nil) allM_nil noI fun w xs us r hl hv h => ?_
  unfold m90 at h
  split at h
  · rename_i g0 a0 g1 a1
    obtain ⟨hg, h⟩ := bif_pair h
    simp only [Bool.and_eq_true] at hg
    obtain ⟨q0, q1⟩ := hg
    obtain rfl := ctsEq_eq _ _ q0
    obtain rfl := ctsEq_eq _ _ q1
    obtain ⟨h1, rfl⟩ := pair_inj h
    exact r90 a0 a1 h1
  · cases h

/-! ### 65 loop.example/g01984/spec.IsCracker -/
def F65_0 (h0_0 : List AV) (h0_1 : List AV) (h0_2 : List AV) (t3 : Int) : Out (Int) (Unit ⊕ Unit) := (bif decide (t3 < (h0_1.length : Int)) then (bif (decide (0 ≤ t3) && decide (t3 < (h0_1.length : Int))) then (bif !(v23_0 (fI (h0_1.getD t3.toNat AV.undef) 0) 0 999) then .stop (.inr ())
  else (bif (decide (0 ≤ 0) && decide (0 ≤ t3) && decide (t3 ≤ (h0_1.length : Int))) then (bif (decide (0 ≤ t3) && decide (t3 < (h0_1.length : Int))) then (bif q36 ((h0_1.take (Int.toNat t3)).drop (Int.toNat 0)) (fI (h0_1.getD t3.toNat AV.undef) 0) then (bif (v36_0 ((h0_1.take (Int.toNat t3)).drop (Int.toNat 0)) (fI (h0_1.getD t3.toNat AV.undef) 0)) then .stop (.inr ())
  else .next (IntKind.i64.wrap (t3 + 1)))
  else .fail)
  else .fail)
  else .fail))
  else .fail)
  else .stop (.inl ()))
def R65_0 (h0_0 : List AV) (h0_1 : List AV) (h0_2 : List AV) : (Int) → Out (Int) (Unit ⊕ Unit) := fun s : Int => F65_0 h0_0 h0_1 h0_2 s
def l65_0 : LModel := fun _ _ st k => match st with
  | ⟨[(1, .ptr g0 g1 g2), (3, .int .i64 t3)], [(g3, ⟨true, [], [.agg [.sl g4 h0_0, .sl g5 h0_1, .sl g6 h0_2]]⟩)]⟩ => bif nmEq g0 ([0, 1]) && Nat.beq g1 0 && Nat.beq g2 0 && nmEq g3 ([0, 1]) && ctsEq g4 ([.int .i64]) && ctsEq g5 ([.int .i64]) && ctsEq g6 ([.int .i64, .int .i64]) then ro (runW (R65_0 h0_0 h0_1 h0_2) (((h0_1.length : Int) - t3).toNat + 1) t3) none (sumE (fun _ : Unit => k (.exit 0) ⟨[(1, AV.ptr [0, 1] 0 0)], [([0, 1], ⟨true, [], [AV.agg [AV.sl [.int .i64] h0_0, AV.sl [.int .i64] h0_1, AV.sl [.int .i64, .int .i64] h0_2]]⟩)]⟩) (fun _ : Unit => k .ret ⟨[(2, AV.bool false)], [([0, 1], ⟨true, [], [AV.agg [AV.sl [.int .i64] h0_0, AV.sl [.int .i64] h0_1, AV.sl [.int .i64, .int .i64] h0_2]]⟩)]⟩)) else none
  | _ => none
noncomputable def c65 : Cfg := cfg Tryz.prog [(65, 0, [1, 3]), (65, 999, [2]), (65, 1000, [1]), (65, 1001, [1, 3])] [(23, m23), (36, m36), (52, m52), (90, m90)] [] [] [(65, 0, l65_0)]
theorem s65_0 (ce : CallE) (t3 : Int) (h0_0 : List AV) (h0_1 : List AV) (h0_2 : List AV) (next : St → Option AV) (k : Kont) : stepA (codeA c65 ce [] 65 0 (sub [1, 1, 0, 1, 0, 0] (body Tryz.f65))) (normA [] [1, 3]) next ⟨[(1, AV.ptr [0, 1] 0 0), (3, AV.int .i64 t3)], [([0, 1], ⟨true, [], [AV.agg [AV.sl [.int .i64] h0_0, AV.sl [.int .i64] h0_1, AV.sl [.int .i64, .int .i64] h0_2]]⟩)]⟩ k = (bif decide (t3 < (h0_1.length : Int)) then (bif (decide (0 ≤ t3) && decide (t3 < (h0_1.length : Int))) then (bif !(v23_0 (fI (h0_1.getD t3.toNat AV.undef) 0) 0 999) then k .ret ⟨[(2, AV.bool false)], [([0, 1], ⟨true, [], [AV.agg [AV.sl [.int .i64] h0_0, AV.sl [.int .i64] h0_1, AV.sl [.int .i64, .int .i64] h0_2]]⟩)]⟩
  else (bif (decide (0 ≤ 0) && decide (0 ≤ t3) && decide (t3 ≤ (h0_1.length : Int))) then (bif (decide (0 ≤ t3) && decide (t3 < (h0_1.length : Int))) then (bif q36 ((h0_1.take (Int.toNat t3)).drop (Int.toNat 0)) (fI (h0_1.getD t3.toNat AV.undef) 0) then (bif (v36_0 ((h0_1.take (Int.toNat t3)).drop (Int.toNat 0)) (fI (h0_1.getD t3.toNat AV.undef) 0)) then k .ret ⟨[(2, AV.bool false)], [([0, 1], ⟨true, [], [AV.agg [AV.sl [.int .i64] h0_0, AV.sl [.int .i64] h0_1, AV.sl [.int .i64, .int .i64] h0_2]]⟩)]⟩
  else next ⟨[(1, AV.ptr [0, 1] 0 0), (3, AV.int .i64 (IntKind.i64.wrap (t3 + 1)))], [([0, 1], ⟨true, [], [AV.agg [AV.sl [.int .i64] h0_0, AV.sl [.int .i64] h0_1, AV.sl [.int .i64, .int .i64] h0_2]]⟩)]⟩)
  else none)
  else none)
  else none))
  else none)
  else k (.exit 0) ⟨[(1, AV.ptr [0, 1] 0 0)], [([0, 1], ⟨true, [], [AV.agg [AV.sl [.int .i64] h0_0, AV.sl [.int .i64] h0_1, AV.sl [.int .i64, .int .i64] h0_2]]⟩)]⟩) := by kernel_rfl
theorem st65_0 (h0_0 : List AV) (h0_1 : List AV) (h0_2 : List AV) (ce : CallE) (k : Kont) (s : Int) (next : St → Option AV) : stepA (codeA c65 ce [] 65 0 (sub [1, 1, 0, 1, 0, 0] (body Tryz.f65))) (normA [] [1, 3]) next ((fun s : Int => ⟨[(1, AV.ptr [0, 1] 0 0), (3, AV.int .i64 s)], [([0, 1], ⟨true, [], [AV.agg [AV.sl [.int .i64] h0_0, AV.sl [.int .i64] h0_1, AV.sl [.int .i64, .int .i64] h0_2]]⟩)]⟩) s) k = (R65_0 h0_0 h0_1 h0_2 s).el none (fun s => next ((fun s : Int => ⟨[(1, AV.ptr [0, 1] 0 0), (3, AV.int .i64 s)], [([0, 1], ⟨true, [], [AV.agg [AV.sl [.int .i64] h0_0, AV.sl [.int .i64] h0_1, AV.sl [.int .i64, .int .i64] h0_2]]⟩)]⟩) s)) (sumE (fun _ : Unit => k (.exit 0) ⟨[(1, AV.ptr [0, 1] 0 0)], [([0, 1], ⟨true, [], [AV.agg [AV.sl [.int .i64] h0_0, AV.sl [.int .i64] h0_1, AV.sl [.int .i64, .int .i64] h0_2]]⟩)]⟩) (fun _ : Unit => k .ret ⟨[(2, AV.bool false)], [([0, 1], ⟨true, [], [AV.agg [AV.sl [.int .i64] h0_0, AV.sl [.int .i64] h0_1, AV.sl [.int .i64, .int .i64] h0_2]]⟩)]⟩)) := (s65_0 ce s h0_0 h0_1 h0_2 next k).trans (by unfold R65_0; unfold F65_0; simp only [el_cond, el_ro, el_sum, el_fail, el_next, el_stop] <;> rfl)
theorem ok65_0 {ce : CallE} : LoopOK c65 ce [] 65 0 (sub [1, 1, 0, 1, 0, 0] (body Tryz.f65)) := by
  intro m hm st k r h
  obtain rfl : l65_0 = m := Option.some.inj hm
  unfold l65_0 at h
  split at h
  · rename_i g0 g1 g2 t3 g3 g4 h0_0 g5 h0_1 g6 h0_2
    obtain ⟨hg, h⟩ := bif_some h
    simp only [Bool.and_eq_true] at hg
    obtain ⟨⟨⟨⟨⟨⟨q0, q1⟩, q2⟩, q3⟩, q4⟩, q5⟩, q6⟩ := hg
    obtain rfl := (nmEq_iff _ _).1 q0
    obtain rfl := Nat.eq_of_beq_eq_true q1
    obtain rfl := Nat.eq_of_beq_eq_true q2
    obtain rfl := (nmEq_iff _ _).1 q3
    obtain rfl := ctsEq_eq _ _ q4
    obtain rfl := ctsEq_eq _ _ q5
    obtain rfl := ctsEq_eq _ _ q6
    refine ⟨(((h0_1.length : Int) - t3).toNat + 1), ?_⟩
    rw [← h]
    exact loop_run (fun s : Int => ⟨[(1, AV.ptr [0, 1] 0 0), (3, AV.int .i64 s)], [([0, 1], ⟨true, [], [AV.agg [AV.sl [.int .i64] h0_0, AV.sl [.int .i64] h0_1, AV.sl [.int .i64, .int .i64] h0_2]]⟩)]⟩) (sumE (fun _ : Unit => k (.exit 0) ⟨[(1, AV.ptr [0, 1] 0 0)], [([0, 1], ⟨true, [], [AV.agg [AV.sl [.int .i64] h0_0, AV.sl [.int .i64] h0_1, AV.sl [.int .i64, .int .i64] h0_2]]⟩)]⟩) (fun _ : Unit => k .ret ⟨[(2, AV.bool false)], [([0, 1], ⟨true, [], [AV.agg [AV.sl [.int .i64] h0_0, AV.sl [.int .i64] h0_1, AV.sl [.int .i64, .int .i64] h0_2]]⟩)]⟩)) (st65_0 h0_0 h0_1 h0_2 ce k) _ t3
  · cases h
def q65 (a0_0 : List AV) (a0_1 : List AV) (a0_2 : List AV) : Bool := (q52 a0_0 && (bif !(v52_0 a0_0) then true else (bif !decide ((a0_1.length : Int) = (a0_0.length : Int)) then true else (ro (runW (R65_0 a0_0 a0_1 a0_2) (((a0_1.length : Int) - 0).toNat + 1) 0) false (sumE (fun _ => q90 a0_0 a0_2) (fun _ => true))))))
def v65_0 (a0_0 : List AV) (a0_1 : List AV) (a0_2 : List AV) : Bool := (bif !(v52_0 a0_0) then false else (bif !decide ((a0_1.length : Int) = (a0_0.length : Int)) then false else (ro (runW (R65_0 a0_0 a0_1 a0_2) (((a0_1.length : Int) - 0).toNat + 1) 0) false (sumE (fun _ => (v90_0 a0_0 a0_2)) (fun _ => false)))))
theorem e65 (a0_0 : List AV) (a0_1 : List AV) (a0_2 : List AV) : funA c65 0 65 [AV.agg [AV.sl [.int .i64] a0_0, AV.sl [.int .i64] a0_1, AV.sl [.int .i64, .int .i64] a0_2]] = (bif q52 a0_0 then (bif !(v52_0 a0_0) then some (AV.bool false)
  else (bif !decide ((a0_1.length : Int) = (a0_0.length : Int)) then some (AV.bool false)
  else (ro (runW (R65_0 a0_0 a0_1 a0_2) (((a0_1.length : Int) - 0).toNat + 1) 0) none (sumE (fun _ => (bif q90 a0_0 a0_2 then some (AV.bool (v90_0 a0_0 a0_2))
  else none)) (fun _ => some (AV.bool false))))))
  else none) := by kernel_rfl
theorem r65 (a0_0 : List AV) (a0_1 : List AV) (a0_2 : List AV) (h : q65 a0_0 a0_1 a0_2 = true) : funA c65 0 65 [AV.agg [AV.sl [.int .i64] a0_0, AV.sl [.int .i64] a0_1, AV.sl [.int .i64, .int .i64] a0_2]] = some (AV.bool (v65_0 a0_0 a0_1 a0_2)) := (e65 a0_0 a0_1 a0_2).trans ((brL (br (fun b => some (AV.bool (bif b then false else (bif !decide ((a0_1.length : Int) = (a0_0.length : Int)) then false else (ro (runW (R65_0 a0_0 a0_1 a0_2) (((a0_1.length : Int) - 0).toNat + 1) 0) false (sumE (fun _ => (v90_0 a0_0 a0_2)) (fun _ => false))))))) (fun _ => rfl) (br (fun b => some (AV.bool (bif b then false else (ro (runW (R65_0 a0_0 a0_1 a0_2) (((a0_1.length : Int) - 0).toNat + 1) 0) false (sumE (fun _ => (v90_0 a0_0 a0_2)) (fun _ => false)))))) (fun _ => rfl) (brO (fun o : Option (Unit ⊕ Unit) => some (AV.bool (ro o false (sumE (fun _ => (v90_0 a0_0 a0_2)) (fun _ => false))))) (brS (fun o : Unit ⊕ Unit => some (AV.bool ((sumE (fun _ => (v90_0 a0_0 a0_2)) (fun _ => false)) o))) (fun _ => (brL1 (fun _ => rfl))) (fun _ => (fun _ => rfl))))))) h)
def m65 : TModel
  | [.agg [.sl g0 a0_0, .sl g1 a0_1, .sl g2 a0_2]] => bif ctsEq g0 ([.int .i64]) && ctsEq g1 ([.int .i64]) && ctsEq g2 ([.int .i64, .int .i64]) then some (q65 a0_0 a0_1 a0_2, AV.bool (v65_0 a0_0 a0_1 a0_2)) else none
  | _ => none
theorem k65 : Known Tryz.prog 65 := ⟨Tryz.f65, Tryz.func65, by kernel_rfl, by kernel_rfl⟩
theorem meets65 : Meets Tryz.prog 65 m65 := by
  refine meet (f := Tryz.f65) (l := [(0, sub [1, 1, 0, 1, 0, 0] (body Tryz.f65))]) (hs := [(65, 0, [1, 3]), (65, 999, [2]), (65, 1000, [1]), (65, 1001, [1, 3])]) (ts := [(23, m23), (36, m36), (52, m52), (90, m90)]) (ws := []) (is := []) (ls := [(65, 0, l65_0)]) (lvl := 0) mixed k65 Tryz.func65 (by kernel_rfl) (loops_cons ok65_0 noLoop) (allT_cons meets23 (allT_cons meets36 (allT_cons meets52 (allT_cons meets90 allT_nil)))) allM_nil noI fun w xs us r hl hv h => ?_
  unfold m65 at h
  split at h
  · rename_i g0 a0_0 g1 a0_1 g2 a0_2
    obtain ⟨hg, h⟩ := bif_pair h
    simp only [Bool.and_eq_true] at hg
    obtain ⟨⟨q0, q1⟩, q2⟩ := hg
    obtain rfl := ctsEq_eq _ _ q0
    obtain rfl := ctsEq_eq _ _ q1
    obtain rfl := ctsEq_eq _ _ q2
    obtain ⟨h1, rfl⟩ := pair_inj h
    exact r65 a0_0 a0_1 a0_2 h1
  · cases h

/-! ### 66 loop.example/g01984/spec.FindRow -/
def F66_0 (t1 : Int) (h0_0 : List AV) (h0_1 : List AV) (h0_2 : List AV) (t5 : Int) : Out (Int) (Unit ⊕ Int) := (bif decide (t5 < (h0_1.length : Int)) then (bif (decide (0 ≤ t5) && decide (t5 < (h0_1.length : Int))) then (bif decide (fI (h0_1.getD t5.toNat AV.undef) 0 = t1) then .stop (.inr t5)
  else .next (IntKind.i64.wrap (t5 + 1)))
  else .fail)
  else .stop (.inl ()))
def R66_0 (t1 : Int) (h0_0 : List AV) (h0_1 : List AV) (h0_2 : List AV) : (Int) → Out (Int) (Unit ⊕ Int) := fun s : Int => F66_0 t1 h0_0 h0_1 h0_2 s
def l66_0 : LModel := fun _ _ st k => match st with
  | ⟨[(1, .int .i64 t1), (2, .ptr g0 g1 g2), (5, .int .i64 t5)], [(g3, ⟨true, [], [.agg [.sl g4 h0_0, .sl g5 h0_1, .sl g6 h0_2]]⟩)]⟩ => bif nmEq g0 ([0, 2]) && Nat.beq g1 0 && Nat.beq g2 0 && nmEq g3 ([0, 2]) && ctsEq g4 ([.int .i64]) && ctsEq g5 ([.int .i64]) && ctsEq g6 ([.int .i64, .int .i64]) then ro (runW (R66_0 t1 h0_0 h0_1 h0_2) (((h0_1.length : Int) - t5).toNat + 1) t5) none (sumE (fun _ : Unit => k (.exit 0) ⟨[], [([0, 2], ⟨true, [], [AV.agg [AV.sl [.int .i64] h0_0, AV.sl [.int .i64] h0_1, AV.sl [.int .i64, .int .i64] h0_2]]⟩)]⟩) (fun p : Int => k .ret ⟨[(4, AV.int .i64 p)], [([0, 2], ⟨true, [], [AV.agg [AV.sl [.int .i64] h0_0, AV.sl [.int .i64] h0_1, AV.sl [.int .i64, .int .i64] h0_2]]⟩)]⟩)) else none
  | _ => none
noncomputable def c66 : Cfg := cfg Tryz.prog [(66, 0, [1, 2, 5]), (66, 999, [4]), (66, 1000, []), (66, 1001, [1, 2, 5])] [] [] [] [(66, 0, l66_0)]
theorem s66_0 (ce : CallE) (t1 : Int) (t5 : Int) (h0_0 : List AV) (h0_1 : List AV) (h0_2 : List AV) (next : St → Option AV) (k : Kont) : stepA (codeA c66 ce [] 66 0 (sub [1, 0, 1, 0, 0] (body Tryz.f66))) (normA [] [1, 2, 5]) next ⟨[(1, AV.int .i64 t1), (2, AV.ptr [0, 2] 0 0), (5, AV.int .i64 t5)], [([0, 2], ⟨true, [], [AV.agg [AV.sl [.int .i64] h0_0, AV.sl [.int .i64] h0_1, AV.sl [.int .i64, .int .i64] h0_2]]⟩)]⟩ k = (bif decide (t5 < (h0_1.length : Int)) then (bif (decide (0 ≤ t5) && decide (t5 < (h0_1.length : Int))) then (bif decide (fI (h0_1.getD t5.toNat AV.undef) 0 = t1) then k .ret ⟨[(4, AV.int .i64 t5)], [([0, 2], ⟨true, [], [AV.agg [AV.sl [.int .i64] h0_0, AV.sl [.int .i64] h0_1, AV.sl [.int .i64, .int .i64] h0_2]]⟩)]⟩
  else next ⟨[(1, AV.int .i64 t1), (2, AV.ptr [0, 2] 0 0), (5, AV.int .i64 (IntKind.i64.wrap (t5 + 1)))], [([0, 2], ⟨true, [], [AV.agg [AV.sl [.int .i64] h0_0, AV.sl [.int .i64] h0_1, AV.sl [.int .i64, .int .i64] h0_2]]⟩)]⟩)
  else none)
  else k (.exit 0) ⟨[], [([0, 2], ⟨true, [], [AV.agg [AV.sl [.int .i64] h0_0, AV.sl [.int .i64] h0_1, AV.sl [.int .i64, .int .i64] h0_2]]⟩)]⟩) := by kernel_rfl
theorem st66_0 (t1 : Int) (h0_0 : List AV) (h0_1 : List AV) (h0_2 : List AV) (ce : CallE) (k : Kont) (s : Int) (next : St → Option AV) : stepA (codeA c66 ce [] 66 0 (sub [1, 0, 1, 0, 0] (body Tryz.f66))) (normA [] [1, 2, 5]) next ((fun s : Int => ⟨[(1, AV.int .i64 t1), (2, AV.ptr [0, 2] 0 0), (5, AV.int .i64 s)], [([0, 2], ⟨true, [], [AV.agg [AV.sl [.int .i64] h0_0, AV.sl [.int .i64] h0_1, AV.sl [.int .i64, .int .i64] h0_2]]⟩)]⟩) s) k = (R66_0 t1 h0_0 h0_1 h0_2 s).el none (fun s => next ((fun s : Int => ⟨[(1, AV.int .i64 t1), (2, AV.ptr [0, 2] 0 0), (5, AV.int .i64 s)], [([0, 2], ⟨true, [], [AV.agg [AV.sl [.int .i64] h0_0, AV.sl [.int .i64] h0_1, AV.sl [.int .i64, .int .i64] h0_2]]⟩)]⟩) s)) (sumE (fun _ : Unit => k (.exit 0) ⟨[], [([0, 2], ⟨true, [], [AV.agg [AV.sl [.int .i64] h0_0, AV.sl [.int .i64] h0_1, AV.sl [.int .i64, .int .i64] h0_2]]⟩)]⟩) (fun p : Int => k .ret ⟨[(4, AV.int .i64 p)], [([0, 2], ⟨true, [], [AV.agg [AV.sl [.int .i64] h0_0, AV.sl [.int .i64] h0_1, AV.sl [.int .i64, .int .i64] h0_2]]⟩)]⟩)) := (s66_0 ce t1 s h0_0 h0_1 h0_2 next k).trans (by unfold R66_0; unfold F66_0; simp only [el_cond, el_ro, el_sum, el_fail, el_next, el_stop] <;> rfl)
theorem ok66_0 {ce : CallE} : LoopOK c66 ce [] 66 0 (sub [1, 0, 1, 0, 0] (body Tryz.f66)) := by
  intro m hm st k r h
  obtain rfl : l66_0 = m := Option.some.inj hm
  unfold l66_0 at h
  split at h
  · rename_i t1 g0 g1 g2 t5 g3 g4 h0_0 g5 h0_1 g6 h0_2
    obtain ⟨hg, h⟩ := bif_some h
    simp only [Bool.and_eq_true] at hg
    obtain ⟨⟨⟨⟨⟨⟨q0, q1⟩, q2⟩, q3⟩, q4⟩, q5⟩, q6⟩ := hg
    obtain rfl := (nmEq_iff _ _).1 q0
    obtain rfl := Nat.eq_of_beq_eq_true q1
    obtain rfl := Nat.eq_of_beq_eq_true q2
    obtain rfl := (nmEq_iff _ _).1 q3
    obtain rfl := ctsEq_eq _ _ q4
    obtain rfl := ctsEq_eq _ _ q5
    obtain rfl := ctsEq_eq _ _ q6
    refine ⟨(((h0_1.length : Int) - t5).toNat + 1), ?_⟩
    rw [← h]
    exact loop_run (fun s : Int => ⟨[(1, AV.int .i64 t1), (2, AV.ptr [0, 2] 0 0), (5, AV.int .i64 s)], [([0, 2], ⟨true, [], [AV.agg [AV.sl [.int .i64] h0_0, AV.sl [.int .i64] h0_1, AV.sl [.int .i64, .int .i64] h0_2]]⟩)]⟩) (sumE (fun _ : Unit => k (.exit 0) ⟨[], [([0, 2], ⟨true, [], [AV.agg [AV.sl [.int .i64] h0_0, AV.sl [.int .i64] h0_1, AV.sl [.int .i64, .int .i64] h0_2]]⟩)]⟩) (fun p : Int => k .ret ⟨[(4, AV.int .i64 p)], [([0, 2], ⟨true, [], [AV.agg [AV.sl [.int .i64] h0_0, AV.sl [.int .i64] h0_1, AV.sl [.int .i64, .int .i64] h0_2]]⟩)]⟩)) (st66_0 t1 h0_0 h0_1 h0_2 ce k) _ t5
  · cases h
def q66 (a0_0 : List AV) (a0_1 : List AV) (a0_2 : List AV) (a1 : Int) : Bool := (ro (runW (R66_0 a1 a0_0 a0_1 a0_2) (((a0_1.length : Int) - 0).toNat + 1) 0) false (sumE (fun _ => true) (fun p18 => true)))
def v66_0 (a0_0 : List AV) (a0_1 : List AV) (a0_2 : List AV) (a1 : Int) : Int := (ro (runW (R66_0 a1 a0_0 a0_1 a0_2) (((a0_1.length : Int) - 0).toNat + 1) 0) 0 (sumE (fun _ => (-1)) (fun p18 => p18)))
theorem e66 (a0_0 : List AV) (a0_1 : List AV) (a0_2 : List AV) (a1 : Int) : funA c66 0 66 [AV.agg [AV.sl [.int .i64] a0_0, AV.sl [.int .i64] a0_1, AV.sl [.int .i64, .int .i64] a0_2], AV.int .i64 a1] = (ro (runW (R66_0 a1 a0_0 a0_1 a0_2) (((a0_1.length : Int) - 0).toNat + 1) 0) none (sumE (fun _ => some (AV.int .i64 (-1))) (fun p18 => some (AV.int .i64 p18)))) := by kernel_rfl
theorem r66 (a0_0 : List AV) (a0_1 : List AV) (a0_2 : List AV) (a1 : Int) (h : q66 a0_0 a0_1 a0_2 a1 = true) : funA c66 0 66 [AV.agg [AV.sl [.int .i64] a0_0, AV.sl [.int .i64] a0_1, AV.sl [.int .i64, .int .i64] a0_2], AV.int .i64 a1] = some (AV.int .i64 (v66_0 a0_0 a0_1 a0_2 a1)) := (e66 a0_0 a0_1 a0_2 a1).trans ((brO (fun o : Option (Unit ⊕ Int) => some (AV.int .i64 (ro o 0 (sumE (fun _ => (-1)) (fun p18 => p18))))) (brS (fun o : Unit ⊕ Int => some (AV.int .i64 ((sumE (fun _ => (-1)) (fun p18 => p18)) o))) (fun _ => (fun _ => rfl)) (fun p18 => (fun _ => rfl)))) h)
def m66 : TModel
  | [.agg [.sl g0 a0_0, .sl g1 a0_1, .sl g2 a0_2], .int .i64 a1] => bif ctsEq g0 ([.int .i64]) && ctsEq g1 ([.int .i64]) && ctsEq g2 ([.int .i64, .int .i64]) then some (q66 a0_0 a0_1 a0_2 a1, AV.int .i64 (v66_0 a0_0 a0_1 a0_2 a1)) else none
  | _ => none
theorem k66 : Known Tryz.prog 66 := ⟨Tryz.f66, Tryz.func66, by kernel_rfl, by kernel_rfl⟩
theorem meets66 : Meets Tryz.prog 66 m66 := by
  refine meet (f := Tryz.f66) (l := [(0, sub [1, 0, 1, 0, 0] (body Tryz.f66))]) (hs := [(66, 0, [1, 2, 5]), (66, 999, [4]), (66, 1000, []), (66, 1001, [1, 2, 5])]) (ts := []) (ws := []) (is := []) (ls := [(66, 0, l66_0)]) (lvl := 0) mixed k66 Tryz.func66 (by kernel_rfl) (loops_cons ok66_0 noLoop) allT_nil allM_nil noI fun w xs us r hl hv h => ?_
  unfold m66 at h
  split at h
  · rename_i g0 a0_0 g1 a0_1 g2 a0_2 a1
    obtain ⟨hg, h⟩ := bif_pair h
    simp only [Bool.and_eq_true] at hg
    obtain ⟨⟨q0, q1⟩, q2⟩ := hg
    obtain rfl := ctsEq_eq _ _ q0
    obtain rfl := ctsEq_eq _ _ q1
    obtain rfl := ctsEq_eq _ _ q2
    obtain ⟨h1, rfl⟩ := pair_inj h
    exact r66 a0_0 a0_1 a0_2 a1 h1
  · cases h

/-! ### 33 loop.example/g01984/spec.IsStore -/
def F33_0 (h0_0 : List AV) (h0_1 : Int) (h0_2 : List AV) (h0_3 : List AV) (h0_4 : List AV) (t3 : Int) : Out (Int) (Unit ⊕ (Int × Int × Int × Int)) := (bif decide (t3 < (h0_0.length : Int)) then (bif (decide (0 ≤ t3) && decide (t3 < (h0_0.length : Int))) then (bif q66 h0_2 h0_3 h0_4 (fI (h0_0.getD t3.toNat AV.undef) 1) then (bif decide ((v66_0 h0_2 h0_3 h0_4 (fI (h0_0.getD t3.toNat AV.undef) 1)) < 0) then .stop (.inr (fI (h0_0.getD t3.toNat AV.undef) 0, fI (h0_0.getD t3.toNat AV.undef) 1, fI (h0_0.getD t3.toNat AV.undef) 2, fI (h0_0.getD t3.toNat AV.undef) 3))
  else (bif (decide (0 ≤ (v66_0 h0_2 h0_3 h0_4 (fI (h0_0.getD t3.toNat AV.undef) 1))) && decide ((v66_0 h0_2 h0_3 h0_4 (fI (h0_0.getD t3.toNat AV.undef) 1)) < (h0_2.length : Int))) then (bif !decide (fI (h0_2.getD (v66_0 h0_2 h0_3 h0_4 (fI (h0_0.getD t3.toNat AV.undef) 1)).toNat AV.undef) 0 = fI (h0_0.getD t3.toNat AV.undef) 0) then .stop (.inr (fI (h0_0.getD t3.toNat AV.undef) 0, fI (h0_0.getD t3.toNat AV.undef) 1, fI (h0_0.getD t3.toNat AV.undef) 2, fI (h0_0.getD t3.toNat AV.undef) 3))
  else (bif decide (t3 > 0) then (bif (decide (0 ≤ IntKind.i64.wrap (t3 - 1)) && decide (IntKind.i64.wrap (t3 - 1) < (h0_0.length : Int))) then (bif decide (fI (h0_0.getD t3.toNat AV.undef) 1 ≤ fI (h0_0.getD (IntKind.i64.wrap (t3 - 1)).toNat AV.undef) 1) then .stop (.inr (fI (h0_0.getD t3.toNat AV.undef) 0, fI (h0_0.getD t3.toNat AV.undef) 1, fI (h0_0.getD t3.toNat AV.undef) 2, fI (h0_0.getD t3.toNat AV.undef) 3))
  else (bif !(v23_0 (fI (h0_0.getD t3.toNat AV.undef) 2) 0 h0_1) then .stop (.inr (fI (h0_0.getD t3.toNat AV.undef) 0, fI (h0_0.getD t3.toNat AV.undef) 1, fI (h0_0.getD t3.toNat AV.undef) 2, fI (h0_0.getD t3.toNat AV.undef) 3))
  else (bif !decide (fI (h0_0.getD t3.toNat AV.undef) 3 = (-1)) then (bif !(v23_0 (fI (h0_0.getD t3.toNat AV.undef) 3) (IntKind.i64.wrap (fI (h0_0.getD t3.toNat AV.undef) 2 + 1)) h0_1) then .stop (.inr (fI (h0_0.getD t3.toNat AV.undef) 0, fI (h0_0.getD t3.toNat AV.undef) 1, fI (h0_0.getD t3.toNat AV.undef) 2, fI (h0_0.getD t3.toNat AV.undef) 3))
  else .next (IntKind.i64.wrap (t3 + 1)))
  else .next (IntKind.i64.wrap (t3 + 1)))))
  else .fail)
  else (bif !(v23_0 (fI (h0_0.getD t3.toNat AV.undef) 2) 0 h0_1) then .stop (.inr (fI (h0_0.getD t3.toNat AV.undef) 0, fI (h0_0.getD t3.toNat AV.undef) 1, fI (h0_0.getD t3.toNat AV.undef) 2, fI (h0_0.getD t3.toNat AV.undef) 3))
  else (bif !decide (fI (h0_0.getD t3.toNat AV.undef) 3 = (-1)) then (bif !(v23_0 (fI (h0_0.getD t3.toNat AV.undef) 3) (IntKind.i64.wrap (fI (h0_0.getD t3.toNat AV.undef) 2 + 1)) h0_1) then .stop (.inr (fI (h0_0.getD t3.toNat AV.undef) 0, fI (h0_0.getD t3.toNat AV.undef) 1, fI (h0_0.getD t3.toNat AV.undef) 2, fI (h0_0.getD t3.toNat AV.undef) 3))
  else .next (IntKind.i64.wrap (t3 + 1)))
  else .next (IntKind.i64.wrap (t3 + 1))))))
  else .fail))
  else .fail)
  else .fail)
  else .stop (.inl ()))
def R33_0 (h0_0 : List AV) (h0_1 : Int) (h0_2 : List AV) (h0_3 : List AV) (h0_4 : List AV) : (Int) → Out (Int) (Unit ⊕ (Int × Int × Int × Int)) := fun s : Int => F33_0 h0_0 h0_1 h0_2 h0_3 h0_4 s
def l33_0 : LModel := fun _ _ st k => match st with
  | ⟨[(1, .ptr g0 g1 g2), (3, .int .i64 t3)], [(g3, ⟨true, [], [.agg [.sl g4 h0_0, .int .i64 h0_1, .sl g5 h0_2, .sl g6 h0_3, .sl g7 h0_4]]⟩)]⟩ => bif nmEq g0 ([0, 1]) && Nat.beq g1 0 && Nat.beq g2 0 && nmEq g3 ([0, 1]) && ctsEq g4 ([.int .i64, .int .i64, .int .i64, .int .i64]) && ctsEq g5 ([.int .i64]) && ctsEq g6 ([.int .i64]) && ctsEq g7 ([.int .i64, .int .i64]) then ro (runW (R33_0 h0_0 h0_1 h0_2 h0_3 h0_4) (((h0_0.length : Int) - t3).toNat + 1) t3) none (sumE (fun _ : Unit => k (.exit 0) ⟨[], [([0, 1], ⟨true, [], [AV.agg [AV.sl [.int .i64, .int .i64, .int .i64, .int .i64] h0_0, AV.int .i64 h0_1, AV.sl [.int .i64] h0_2, AV.sl [.int .i64] h0_3, AV.sl [.int .i64, .int .i64] h0_4]]⟩)]⟩) (fun p : Int × Int × Int × Int => k .ret ⟨[(2, AV.bool false)], [([0, 1], ⟨true, [], [AV.agg [AV.sl [.int .i64, .int .i64, .int .i64, .int .i64] h0_0, AV.int .i64 h0_1, AV.sl [.int .i64] h0_2, AV.sl [.int .i64] h0_3, AV.sl [.int .i64, .int .i64] h0_4]]⟩), ([1, 4], ⟨true, [], [AV.agg [AV.int .i64 p.1, AV.int .i64 p.2.1, AV.int .i64 p.2.2.1, AV.int .i64 p.2.2.2]]⟩)]⟩)) else none
  | _ => none
noncomputable def c33 : Cfg := cfg Tryz.prog [(33, 0, [1, 3]), (33, 999, [2]), (33, 1000, []), (33, 1001, [1, 3])] [(23, m23), (65, m65), (66, m66)] [] [] [(33, 0, l33_0)]
theorem s33_0 (ce : CallE) (t3 : Int) (h0_0 : List AV) (h0_1 : Int) (h0_2 : List AV) (h0_3 : List AV) (h0_4 : List AV) (next : St → Option AV) (k : Kont) : stepA (codeA c33 ce [] 33 0 (sub [1, 1, 0, 1, 0, 0] (body Tryz.f33))) (normA [] [1, 3]) next ⟨[(1, AV.ptr [0, 1] 0 0), (3, AV.int .i64 t3)], [([0, 1], ⟨true, [], [AV.agg [AV.sl [.int .i64, .int .i64, .int .i64, .int .i64] h0_0, AV.int .i64 h0_1, AV.sl [.int .i64] h0_2, AV.sl [.int .i64] h0_3, AV.sl [.int .i64, .int .i64] h0_4]]⟩)]⟩ k = (bif decide (t3 < (h0_0.length : Int)) then (bif (decide (0 ≤ t3) && decide (t3 < (h0_0.length : Int))) then (bif q66 h0_2 h0_3 h0_4 (fI (h0_0.getD t3.toNat AV.undef) 1) then (bif decide ((v66_0 h0_2 h0_3 h0_4 (fI (h0_0.getD t3.toNat AV.undef) 1)) < 0) then k .ret ⟨[(2, AV.bool false)], [([0, 1], ⟨true, [], [AV.agg [AV.sl [.int .i64, .int .i64, .int .i64, .int .i64] h0_0, AV.int .i64 h0_1, AV.sl [.int .i64] h0_2, AV.sl [.int .i64] h0_3, AV.sl [.int .i64, .int .i64] h0_4]]⟩), ([1, 4], ⟨true, [], [AV.agg [AV.int .i64 (fI (h0_0.getD t3.toNat AV.undef) 0), AV.int .i64 (fI (h0_0.getD t3.toNat AV.undef) 1), AV.int .i64 (fI (h0_0.getD t3.toNat AV.undef) 2), AV.int .i64 (fI (h0_0.getD t3.toNat AV.undef) 3)]]⟩)]⟩
  else (bif (decide (0 ≤ (v66_0 h0_2 h0_3 h0_4 (fI (h0_0.getD t3.toNat AV.undef) 1))) && decide ((v66_0 h0_2 h0_3 h0_4 (fI (h0_0.getD t3.toNat AV.undef) 1)) < (h0_2.length : Int))) then (bif !decide (fI (h0_2.getD (v66_0 h0_2 h0_3 h0_4 (fI (h0_0.getD t3.toNat AV.undef) 1)).toNat AV.undef) 0 = fI (h0_0.getD t3.toNat AV.undef) 0) then k .ret ⟨[(2, AV.bool false)], [([0, 1], ⟨true, [], [AV.agg [AV.sl [.int .i64, .int .i64, .int .i64, .int .i64] h0_0, AV.int .i64 h0_1, AV.sl [.int .i64] h0_2, AV.sl [.int .i64] h0_3, AV.sl [.int .i64, .int .i64] h0_4]]⟩), ([1, 4], ⟨true, [], [AV.agg [AV.int .i64 (fI (h0_0.getD t3.toNat AV.undef) 0), AV.int .i64 (fI (h0_0.getD t3.toNat AV.undef) 1), AV.int .i64 (fI (h0_0.getD t3.toNat AV.undef) 2), AV.int .i64 (fI (h0_0.getD t3.toNat AV.undef) 3)]]⟩)]⟩
  else (bif decide (t3 > 0) then (bif (decide (0 ≤ IntKind.i64.wrap (t3 - 1)) && decide (IntKind.i64.wrap (t3 - 1) < (h0_0.length : Int))) then (bif decide (fI (h0_0.getD t3.toNat AV.undef) 1 ≤ fI (h0_0.getD (IntKind.i64.wrap (t3 - 1)).toNat AV.undef) 1) then k .ret ⟨[(2, AV.bool false)], [([0, 1], ⟨true, [], [AV.agg [AV.sl [.int .i64, .int .i64, .int .i64, .int .i64] h0_0, AV.int .i64 h0_1, AV.sl [.int .i64] h0_2, AV.sl [.int .i64] h0_3, AV.sl [.int .i64, .int .i64] h0_4]]⟩), ([1, 4], ⟨true, [], [AV.agg [AV.int .i64 (fI (h0_0.getD t3.toNat AV.undef) 0), AV.int .i64 (fI (h0_0.getD t3.toNat AV.undef) 1), AV.int .i64 (fI (h0_0.getD t3.toNat AV.undef) 2), AV.int .i64 (fI (h0_0.getD t3.toNat AV.undef) 3)]]⟩)]⟩
  else (bif !(v23_0 (fI (h0_0.getD t3.toNat AV.undef) 2) 0 h0_1) then k .ret ⟨[(2, AV.bool false)], [([0, 1], ⟨true, [], [AV.agg [AV.sl [.int .i64, .int .i64, .int .i64, .int .i64] h0_0, AV.int .i64 h0_1, AV.sl [.int .i64] h0_2, AV.sl [.int .i64] h0_3, AV.sl [.int .i64, .int .i64] h0_4]]⟩), ([1, 4], ⟨true, [], [AV.agg [AV.int .i64 (fI (h0_0.getD t3.toNat AV.undef) 0), AV.int .i64 (fI (h0_0.getD t3.toNat AV.undef) 1), AV.int .i64 (fI (h0_0.getD t3.toNat AV.undef) 2), AV.int .i64 (fI (h0_0.getD t3.toNat AV.undef) 3)]]⟩)]⟩
  else (bif !decide (fI (h0_0.getD t3.toNat AV.undef) 3 = (-1)) then (bif !(v23_0 (fI (h0_0.getD t3.toNat AV.undef) 3) (IntKind.i64.wrap (fI (h0_0.getD t3.toNat AV.undef) 2 + 1)) h0_1) then k .ret ⟨[(2, AV.bool false)], [([0, 1], ⟨true, [], [AV.agg [AV.sl [.int .i64, .int .i64, .int .i64, .int .i64] h0_0, AV.int .i64 h0_1, AV.sl [.int .i64] h0_2, AV.sl [.int .i64] h0_3, AV.sl [.int .i64, .int .i64] h0_4]]⟩), ([1, 4], ⟨true, [], [AV.agg [AV.int .i64 (fI (h0_0.getD t3.toNat AV.undef) 0), AV.int .i64 (fI (h0_0.getD t3.toNat AV.undef) 1), AV.int .i64 (fI (h0_0.getD t3.toNat AV.undef) 2), AV.int .i64 (fI (h0_0.getD t3.toNat AV.undef) 3)]]⟩)]⟩
  else next ⟨[(1, AV.ptr [0, 1] 0 0), (3, AV.int .i64 (IntKind.i64.wrap (t3 + 1)))], [([0, 1], ⟨true, [], [AV.agg [AV.sl [.int .i64, .int .i64, .int .i64, .int .i64] h0_0, AV.int .i64 h0_1, AV.sl [.int .i64] h0_2, AV.sl [.int .i64] h0_3, AV.sl [.int .i64, .int .i64] h0_4]]⟩)]⟩)
  else next ⟨[(1, AV.ptr [0, 1] 0 0), (3, AV.int .i64 (IntKind.i64.wrap (t3 + 1)))], [([0, 1], ⟨true, [], [AV.agg [AV.sl [.int .i64, .int .i64, .int .i64, .int .i64] h0_0, AV.int .i64 h0_1, AV.sl [.int .i64] h0_2, AV.sl [.int .i64] h0_3, AV.sl [.int .i64, .int .i64] h0_4]]⟩)]⟩)))
  else none)
  else (bif !(v23_0 (fI (h0_0.getD t3.toNat AV.undef) 2) 0 h0_1) then k .ret ⟨[(2, AV.bool false)], [([0, 1], ⟨true, [], [AV.agg [AV.sl [.int .i64, .int .i64, .int .i64, .int .i64] h0_0, AV.int .i64 h0_1, AV.sl [.int .i64] h0_2, AV.sl [.int .i64] h0_3, AV.sl [.int .i64, .int .i64] h0_4]]⟩), ([1, 4], ⟨true, [], [AV.agg [AV.int .i64 (fI (h0_0.getD t3.toNat AV.undef) 0), AV.int .i64 (fI (h0_0.getD t3.toNat AV.undef) 1), AV.int .i64 (fI (h0_0.getD t3.toNat AV.undef) 2), AV.int .i64 (fI (h0_0.getD t3.toNat AV.undef) 3)]]⟩)]⟩
  else (bif !decide (fI (h0_0.getD t3.toNat AV.undef) 3 = (-1)) then (bif !(v23_0 (fI (h0_0.getD t3.toNat AV.undef) 3) (IntKind.i64.wrap (fI (h0_0.getD t3.toNat AV.undef) 2 + 1)) h0_1) then k .ret ⟨[(2, AV.bool false)], [([0, 1], ⟨true, [], [AV.agg [AV.sl [.int .i64, .int .i64, .int .i64, .int .i64] h0_0, AV.int .i64 h0_1, AV.sl [.int .i64] h0_2, AV.sl [.int .i64] h0_3, AV.sl [.int .i64, .int .i64] h0_4]]⟩), ([1, 4], ⟨true, [], [AV.agg [AV.int .i64 (fI (h0_0.getD t3.toNat AV.undef) 0), AV.int .i64 (fI (h0_0.getD t3.toNat AV.undef) 1), AV.int .i64 (fI (h0_0.getD t3.toNat AV.undef) 2), AV.int .i64 (fI (h0_0.getD t3.toNat AV.undef) 3)]]⟩)]⟩
  else next ⟨[(1, AV.ptr [0, 1] 0 0), (3, AV.int .i64 (IntKind.i64.wrap (t3 + 1)))], [([0, 1], ⟨true, [], [AV.agg [AV.sl [.int .i64, .int .i64, .int .i64, .int .i64] h0_0, AV.int .i64 h0_1, AV.sl [.int .i64] h0_2, AV.sl [.int .i64] h0_3, AV.sl [.int .i64, .int .i64] h0_4]]⟩)]⟩)
  else next ⟨[(1, AV.ptr [0, 1] 0 0), (3, AV.int .i64 (IntKind.i64.wrap (t3 + 1)))], [([0, 1], ⟨true, [], [AV.agg [AV.sl [.int .i64, .int .i64, .int .i64, .int .i64] h0_0, AV.int .i64 h0_1, AV.sl [.int .i64] h0_2, AV.sl [.int .i64] h0_3, AV.sl [.int .i64, .int .i64] h0_4]]⟩)]⟩))))
  else none))
  else none)
  else none)
  else k (.exit 0) ⟨[], [([0, 1], ⟨true, [], [AV.agg [AV.sl [.int .i64, .int .i64, .int .i64, .int .i64] h0_0, AV.int .i64 h0_1, AV.sl [.int .i64] h0_2, AV.sl [.int .i64] h0_3, AV.sl [.int .i64, .int .i64] h0_4]]⟩)]⟩) := by kernel_rfl
theorem st33_0 (h0_0 : List AV) (h0_1 : Int) (h0_2 : List AV) (h0_3 : List AV) (h0_4 : List AV) (ce : CallE) (k : Kont) (s : Int) (next : St → Option AV) : stepA (codeA c33 ce [] 33 0 (sub [1, 1, 0, 1, 0, 0] (body Tryz.f33))) (normA [] [1, 3]) next ((fun s : Int => ⟨[(1, AV.ptr [0, 1] 0 0), (3, AV.int .i64 s)], [([0, 1], ⟨true, [], [AV.agg [AV.sl [.int .i64, .int .i64, .int .i64, .int .i64] h0_0, AV.int .i64 h0_1, AV.sl [.int .i64] h0_2, AV.sl [.int .i64] h0_3, AV.sl [.int .i64, .int .i64] h0_4]]⟩)]⟩) s) k = (R33_0 h0_0 h0_1 h0_2 h0_3 h0_4 s).el none (fun s => next ((fun s : Int => ⟨[(1, AV.ptr [0, 1] 0 0), (3, AV.int .i64 s)], [([0, 1], ⟨true, [], [AV.agg [AV.sl [.int .i64, .int .i64, .int .i64, .int .i64] h0_0, AV.int .i64 h0_1, AV.sl [.int .i64] h0_2, AV.sl [.int .i64] h0_3, AV.sl [.int .i64, .int .i64] h0_4]]⟩)]⟩) s)) (sumE (fun _ : Unit => k (.exit 0) ⟨[], [([0, 1], ⟨true, [], [AV.agg [AV.sl [.int .i64, .int .i64, .int .i64, .int .i64] h0_0, AV.int .i64 h0_1, AV.sl [.int .i64] h0_2, AV.sl [.int .i64] h0_3, AV.sl [.int .i64, .int .i64] h0_4]]⟩)]⟩) (fun p : Int × Int × Int × Int => k .ret ⟨[(2, AV.bool false)], [([0, 1], ⟨true, [], [AV.agg [AV.sl [.int .i64, .int .i64, .int .i64, .int .i64] h0_0, AV.int .i64 h0_1, AV.sl [.int .i64] h0_2, AV.sl [.int .i64] h0_3, AV.sl [.int .i64, .int .i64] h0_4]]⟩), ([1, 4], ⟨true, [], [AV.agg [AV.int .i64 p.1, AV.int .i64 p.2.1, AV.int .i64 p.2.2.1, AV.int .i64 p.2.2.2]]⟩)]⟩)) := (s33_0 ce s h0_0 h0_1 h0_2 h0_3 h0_4 next k).trans (by unfold R33_0; unfold F33_0; simp only [el_cond, el_ro, el_sum, el_fail, el_next, el_stop] <;> rfl)
theorem ok33_0 {ce : CallE} : LoopOK c33 ce [] 33 0 (sub [1, 1, 0, 1, 0, 0] (body Tryz.f33)) := by
  intro m hm st k r h
  obtain rfl : l33_0 = m := Option.some.inj hm
  unfold l33_0 at h
  split at h
  · rename_i g0 g1 g2 t3 g3 g4 h0_0 h0_1 g5 h0_2 g6 h0_3 g7 h0_4
    obtain ⟨hg, h⟩ := bif_some h
    simp only [Bool.and_eq_true] at hg
    obtain ⟨⟨⟨⟨⟨⟨⟨q0, q1⟩, q2⟩, q3⟩, q4⟩, q5⟩, q6⟩, q7⟩ := hg
    obtain rfl := (nmEq_iff _ _).1 q0
    obtain rfl := Nat.eq_of_beq_eq_true q1
    obtain rfl := Nat.eq_of_beq_eq_true q2
    obtain rfl := (nmEq_iff _ _).1 q3
    obtain rfl := ctsEq_eq _ _ q4
    obtain rfl := ctsEq_eq _ _ q5
    obtain rfl := ctsEq_eq _ _ q6
    obtain rfl := ctsEq_eq _ _ q7
    refine ⟨(((h0_0.length : Int) - t3).toNat + 1), ?_⟩
    rw [← h]
    exact loop_run (fun s : Int => ⟨[(1, AV.ptr [0, 1] 0 0), (3, AV.int .i64 s)], [([0, 1], ⟨true, [], [AV.agg [AV.sl [.int .i64, .int .i64, .int .i64, .int .i64] h0_0, AV.int .i64 h0_1, AV.sl [.int .i64] h0_2, AV.sl [.int .i64] h0_3, AV.sl [.int .i64, .int .i64] h0_4]]⟩)]⟩) (sumE (fun _ : Unit => k (.exit 0) ⟨[], [([0, 1], ⟨true, [], [AV.agg [AV.sl [.int .i64, .int .i64, .int .i64, .int .i64] h0_0, AV.int .i64 h0_1, AV.sl [.int .i64] h0_2, AV.sl [.int .i64] h0_3, AV.sl [.int .i64, .int .i64] h0_4]]⟩)]⟩) (fun p : Int × Int × Int × Int => k .ret ⟨[(2, AV.bool false)], [([0, 1], ⟨true, [], [AV.agg [AV.sl [.int .i64, .int .i64, .int .i64, .int .i64] h0_0, AV.int .i64 h0_1, AV.sl [.int .i64] h0_2, AV.sl [.int .i64] h0_3, AV.sl [.int .i64, .int .i64] h0_4]]⟩), ([1, 4], ⟨true, [], [AV.agg [AV.int .i64 p.1, AV.int .i64 p.2.1, AV.int .i64 p.2.2.1, AV.int .i64 p.2.2.2]]⟩)]⟩)) (st33_0 h0_0 h0_1 h0_2 h0_3 h0_4 ce k) _ t3
  · cases h
def q33 (a0_0 : List AV) (a0_1 : Int) (a0_2 : List AV) (a0_3 : List AV) (a0_4 : List AV) : Bool := (q65 a0_2 a0_3 a0_4 && (bif !(v65_0 a0_2 a0_3 a0_4) then true else (bif !decide ((a0_0.length : Int) = (a0_2.length : Int)) then true else (bif !(v23_0 a0_1 0 1000) then true else (ro (runW (R33_0 a0_0 a0_1 a0_2 a0_3 a0_4) (((a0_0.length : Int) - 0).toNat + 1) 0) false (sumE (fun _ => true) (fun p20 => true)))))))
def v33_0 (a0_0 : List AV) (a0_1 : Int) (a0_2 : List AV) (a0_3 : List AV) (a0_4 : List AV) : Bool := (bif !(v65_0 a0_2 a0_3 a0_4) then false else (bif !decide ((a0_0.length : Int) = (a0_2.length : Int)) then false else (bif !(v23_0 a0_1 0 1000) then false else (ro (runW (R33_0 a0_0 a0_1 a0_2 a0_3 a0_4) (((a0_0.length : Int) - 0).toNat + 1) 0) false (sumE (fun _ => true) (fun p20 => false))))))
theorem e33 (a0_0 : List AV) (a0_1 : Int) (a0_2 : List AV) (a0_3 : List AV) (a0_4 : List AV) : funA c33 0 33 [AV.agg [AV.sl [.int .i64, .int .i64, .int .i64, .int .i64] a0_0, AV.int .i64 a0_1, AV.sl [.int .i64] a0_2, AV.sl [.int .i64] a0_3, AV.sl [.int .i64, .int .i64] a0_4]] = (bif q65 a0_2 a0_3 a0_4 then (bif !(v65_0 a0_2 a0_3 a0_4) then some (AV.bool false)
  else (bif !decide ((a0_0.length : Int) = (a0_2.length : Int)) then some (AV.bool false)
  else (bif !(v23_0 a0_1 0 1000) then some (AV.bool false)
  else (ro (runW (R33_0 a0_0 a0_1 a0_2 a0_3 a0_4) (((a0_0.length : Int) - 0).toNat + 1) 0) none (sumE (fun _ => some (AV.bool true)) (fun p20 => some (AV.bool false)))))))
  else none) := by kernel_rfl
theorem r33 (a0_0 : List AV) (a0_1 : Int) (a0_2 : List AV) (a0_3 : List AV) (a0_4 : List AV) (h : q33 a0_0 a0_1 a0_2 a0_3 a0_4 = true) : funA c33 0 33 [AV.agg [AV.sl [.int .i64, .int .i64, .int .i64, .int .i64] a0_0, AV.int .i64 a0_1, AV.sl [.int .i64] a0_2, AV.sl [.int .i64] a0_3, AV.sl [.int .i64, .int .i64] a0_4]] = some (AV.bool (v33_0 a0_0 a0_1 a0_2 a0_3 a0_4)) := (e33 a0_0 a0_1 a0_2 a0_3 a0_4).trans ((brL (br (fun b => some (AV.bool (bif b then false else (bif !decide ((a0_0.length : Int) = (a0_2.length : Int)) then false else (bif !(v23_0 a0_1 0 1000) then false else (ro (runW (R33_0 a0_0 a0_1 a0_2 a0_3 a0_4) (((a0_0.length : Int) - 0).toNat + 1) 0) false (sumE (fun _ => true) (fun p20 => false)))))))) (fun _ => rfl) (br (fun b => some (AV.bool (bif b then false else (bif !(v23_0 a0_1 0 1000) then false else (ro (runW (R33_0 a0_0 a0_1 a0_2 a0_3 a0_4) (((a0_0.length : Int) - 0).toNat + 1) 0) false (sumE (fun _ => true) (fun p20 => false))))))) (fun _ => rfl) (br (fun b => some (AV.bool (bif b then false else (ro (runW (R33_0 a0_0 a0_1 a0_2 a0_3 a0_4) (((a0_0.length : Int) - 0).toNat + 1) 0) false (sumE (fun _ => true) (fun p20 => false)))))) (fun _ => rfl) (brO (fun o : Option (Unit ⊕ (Int × Int × Int × Int)) => some (AV.bool (ro o false (sumE (fun _ => true) (fun p20 => false))))) (brS (fun o : Unit ⊕ (Int × Int × Int × Int) => some (AV.bool ((sumE (fun _ => true) (fun p20 => false)) o))) (fun _ => (fun _ => rfl)) (fun p20 => (fun _ => rfl)))))))) h)
def m33 : TModel
  | [.agg [.sl g0 a0_0, .int .i64 a0_1, .sl g1 a0_2, .sl g2 a0_3, .sl g3 a0_4]] => bif ctsEq g0 ([.int .i64, .int .i64, .int .i64, .int .i64]) && ctsEq g1 ([.int .i64]) && ctsEq g2 ([.int .i64]) && ctsEq g3 ([.int .i64, .int .i64]) then some (q33 a0_0 a0_1 a0_2 a0_3 a0_4, AV.bool (v33_0 a0_0 a0_1 a0_2 a0_3 a0_4)) else none
  | _ => none
theorem k33 : Known Tryz.prog 33 := ⟨Tryz.f33, Tryz.func33, by kernel_rfl, by kernel_rfl⟩
theorem meets33 : Meets Tryz.prog 33 m33 := by
  refine meet (f := Tryz.f33) (l := [(0, sub [1, 1, 0, 1, 0, 0] (body Tryz.f33))]) (hs := [(33, 0, [1, 3]), (33, 999, [2]), (33, 1000, []), (33, 1001, [1, 3])]) (ts := [(23, m23), (65, m65), (66, m66)]) (ws := []) (is := []) (ls := [(33, 0, l33_0)]) (lvl := 0) mixed k33 Tryz.func33 (by kernel_rfl) (loops_cons ok33_0 noLoop) (allT_cons meets23 (allT_cons meets65 (allT_cons meets66 allT_nil))) allM_nil noI fun w xs us r hl hv h => ?_
  unfold m33 at h
  split at h
  · rename_i g0 a0_0 a0_1 g1 a0_2 g2 a0_3 g3 a0_4
    obtain ⟨hg, h⟩ := bif_pair h
    simp only [Bool.and_eq_true] at hg
    obtain ⟨⟨⟨q0, q1⟩, q2⟩, q3⟩ := hg
    obtain rfl := ctsEq_eq _ _ q0
    obtain rfl := ctsEq_eq _ _ q1
    obtain rfl := ctsEq_eq _ _ q2
    obtain rfl := ctsEq_eq _ _ q3
    obtain ⟨h1, rfl⟩ := pair_inj h
    exact r33 a0_0 a0_1 a0_2 a0_3 a0_4 h1
  · cases h

/-! ### 34 loop.example/g01984/spec.IsRange -/
noncomputable def c34 : Cfg := cfg Tryz.prog [(34, 999, [2])] [(23, m23)] [] [] []
def q34 (a0_0 : Int) (a0_1 : Int) : Bool := true
def v34_0 (a0_0 : Int) (a0_1 : Int) : Bool := (bif (v23_0 a0_0 (-1000) 1000) then (v23_0 a0_1 a0_0 1000) else false)
theorem e34 (a0_0 : Int) (a0_1 : Int) : funA c34 0 34 [AV.agg [AV.int .i64 a0_0, AV.int .i64 a0_1]] = (bif (v23_0 a0_0 (-1000) 1000) then some (AV.bool (v23_0 a0_1 a0_0 1000))
  else some (AV.bool false)) := by kernel_rfl
theorem r34 (a0_0 : Int) (a0_1 : Int) : funA c34 0 34 [AV.agg [AV.int .i64 a0_0, AV.int .i64 a0_1]] = some (AV.bool (v34_0 a0_0 a0_1)) := (e34 a0_0 a0_1).trans (of_tt (brT (fun b => some (AV.bool (bif b then (v23_0 a0_1 a0_0 1000) else false))) (fun _ => rfl) (fun _ => rfl)))
def m34 : TModel
  | [.agg [.int .i64 a0_0, .int .i64 a0_1]] => some (true, AV.bool (v34_0 a0_0 a0_1))
  | _ => none
theorem k34 : Known Tryz.prog 34 := ⟨Tryz.f34, Tryz.func34, by kernel_rfl, by kernel_rfl⟩
theorem meets34 : Meets Tryz.prog 34 m34 := by
  refine meet (f := Tryz.f34) (l := []) (hs := [(34, 999, [2])]) (ts := [(23, m23)]) (ws := []) (is := []) (ls := []) (lvl := 0) mixed k34 Tryz.func34 (by kernel_rfl) noLoop (allT_cons meets23 allT_nil) allM_nil noI fun w xs us r hl hv h => ?_
  unfold m34 at h
  split at h
  · rename_i a0_0 a0_1
    obtain ⟨h1, rfl⟩ := pair_inj h
    exact r34 a0_0 a0_1
  · cases h

/-! ### 83 loop.example/g01984/spec.FindPivot -/
def F83_0 (t1 : Int) (h0_0 : List AV) (h0_1 : List AV) (h0_2 : List AV) (t6 : Int) : Out (Int) (Unit ⊕ Int) := (bif decide (t6 < (h0_2.length : Int)) then (bif (decide (0 ≤ t6) && decide (t6 < (h0_2.length : Int))) then (bif decide (fI (h0_2.getD t6.toNat AV.undef) 0 = t1) then (bif (decide (0 ≤ t6) && decide (t6 < (h0_2.length : Int))) then .stop (.inr (fI (h0_2.getD t6.toNat AV.undef) 1))
  else .fail)
  else .next (IntKind.i64.wrap (t6 + 1)))
  else .fail)
  else .stop (.inl ()))
def R83_0 (t1 : Int) (h0_0 : List AV) (h0_1 : List AV) (h0_2 : List AV) : (Int) → Out (Int) (Unit ⊕ Int) := fun s : Int => F83_0 t1 h0_0 h0_1 h0_2 s
def l83_0 : LModel := fun _ _ st k => match st with
  | ⟨[(1, .int .i64 t1), (2, .ptr g0 g1 g2), (6, .int .i64 t6)], [(g3, ⟨true, [], [.agg [.sl g4 h0_0, .sl g5 h0_1, .sl g6 h0_2]]⟩)]⟩ => bif nmEq g0 ([0, 2]) && Nat.beq g1 0 && Nat.beq g2 0 && nmEq g3 ([0, 2]) && ctsEq g4 ([.int .i64]) && ctsEq g5 ([.int .i64]) && ctsEq g6 ([.int .i64, .int .i64]) then ro (runW (R83_0 t1 h0_0 h0_1 h0_2) (((h0_2.length : Int) - t6).toNat + 1) t6) none (sumE (fun _ : Unit => k (.exit 0) ⟨[], [([0, 2], ⟨true, [], [AV.agg [AV.sl [.int .i64] h0_0, AV.sl [.int .i64] h0_1, AV.sl [.int .i64, .int .i64] h0_2]]⟩)]⟩) (fun p : Int => k .ret ⟨[(4, AV.int .i64 p), (5, AV.bool true)], [([0, 2], ⟨true, [], [AV.agg [AV.sl [.int .i64] h0_0, AV.sl [.int .i64] h0_1, AV.sl [.int .i64, .int .i64] h0_2]]⟩)]⟩)) else none
  | _ => none
noncomputable def c83 : Cfg := cfg Tryz.prog [(83, 0, [1, 2, 6]), (83, 999, [4, 5]), (83, 1000, []), (83, 1001, [1, 2, 6])] [] [] [] [(83, 0, l83_0)]
theorem s83_0 (ce : CallE) (t1 : Int) (t6 : Int) (h0_0 : List AV) (h0_1 : List AV) (h0_2 : List AV) (next : St → Option AV) (k : Kont) : stepA (codeA c83 ce [] 83 0 (sub [1, 0, 1, 0, 0] (body Tryz.f83))) (normA [] [1, 2, 6]) next ⟨[(1, AV.int .i64 t1), (2, AV.ptr [0, 2] 0 0), (6, AV.int .i64 t6)], [([0, 2], ⟨true, [], [AV.agg [AV.sl [.int .i64] h0_0, AV.sl [.int .i64] h0_1, AV.sl [.int .i64, .int .i64] h0_2]]⟩)]⟩ k = (bif decide (t6 < (h0_2.length : Int)) then (bif (decide (0 ≤ t6) && decide (t6 < (h0_2.length : Int))) then (bif decide (fI (h0_2.getD t6.toNat AV.undef) 0 = t1) then (bif (decide (0 ≤ t6) && decide (t6 < (h0_2.length : Int))) then k .ret ⟨[(4, AV.int .i64 (fI (h0_2.getD t6.toNat AV.undef) 1)), (5, AV.bool true)], [([0, 2], ⟨true, [], [AV.agg [AV.sl [.int .i64] h0_0, AV.sl [.int .i64] h0_1, AV.sl [.int .i64, .int .i64] h0_2]]⟩)]⟩
  else none)
  else next ⟨[(1, AV.int .i64 t1), (2, AV.ptr [0, 2] 0 0), (6, AV.int .i64 (IntKind.i64.wrap (t6 + 1)))], [([0, 2], ⟨true, [], [AV.agg [AV.sl [.int .i64] h0_0, AV.sl [.int .i64] h0_1, AV.sl [.int .i64, .int .i64] h0_2]]⟩)]⟩)
  else none)
  else k (.exit 0) ⟨[], [([0, 2], ⟨true, [], [AV.agg [AV.sl [.int .i64] h0_0, AV.sl [.int .i64] h0_1, AV.sl [.int .i64, .int .i64] h0_2]]⟩)]⟩) := by kernel_rfl
theorem st83_0 (t1 : Int) (h0_0 : List AV) (h0_1 : List AV) (h0_2 : List AV) (ce : CallE) (k : Kont) (s : Int) (next : St → Option AV) : stepA (codeA c83 ce [] 83 0 (sub [1, 0, 1, 0, 0] (body Tryz.f83))) (normA [] [1, 2, 6]) next ((fun s : Int => ⟨[(1, AV.int .i64 t1), (2, AV.ptr [0, 2] 0 0), (6, AV.int .i64 s)], [([0, 2], ⟨true, [], [AV.agg [AV.sl [.int .i64] h0_0, AV.sl [.int .i64] h0_1, AV.sl [.int .i64, .int .i64] h0_2]]⟩)]⟩) s) k = (R83_0 t1 h0_0 h0_1 h0_2 s).el none (fun s => next ((fun s : Int => ⟨[(1, AV.int .i64 t1), (2, AV.ptr [0, 2] 0 0), (6, AV.int .i64 s)], [([0, 2], ⟨true, [], [AV.agg [AV.sl [.int .i64] h0_0, AV.sl [.int .i64] h0_1, AV.sl [.int .i64, .int .i64] h0_2]]⟩)]⟩) s)) (sumE (fun _ : Unit => k (.exit 0) ⟨[], [([0, 2], ⟨true, [], [AV.agg [AV.sl [.int .i64] h0_0, AV.sl [.int .i64] h0_1, AV.sl [.int .i64, .int .i64] h0_2]]⟩)]⟩) (fun p : Int => k .ret ⟨[(4, AV.int .i64 p), (5, AV.bool true)], [([0, 2], ⟨true, [], [AV.agg [AV.sl [.int .i64] h0_0, AV.sl [.int .i64] h0_1, AV.sl [.int .i64, .int .i64] h0_2]]⟩)]⟩)) := (s83_0 ce t1 s h0_0 h0_1 h0_2 next k).trans (by unfold R83_0; unfold F83_0; simp only [el_cond, el_ro, el_sum, el_fail, el_next, el_stop] <;> rfl)
theorem ok83_0 {ce : CallE} : LoopOK c83 ce [] 83 0 (sub [1, 0, 1, 0, 0] (body Tryz.f83)) := by
  intro m hm st k r h
  obtain rfl : l83_0 = m := Option.some.inj hm
  unfold l83_0 at h
  split at h
  · rename_i t1 g0 g1 g2 t6 g3 g4 h0_0 g5 h0_1 g6 h0_2
    obtain ⟨hg, h⟩ := bif_some h
    simp only [Bool.and_eq_true] at hg
    obtain ⟨⟨⟨⟨⟨⟨q0, q1⟩, q2⟩, q3⟩, q4⟩, q5⟩, q6⟩ := hg
    obtain rfl := (nmEq_iff _ _).1 q0
    obtain rfl := Nat.eq_of_beq_eq_true q1
    obtain rfl := Nat.eq_of_beq_eq_true q2
    obtain rfl := (nmEq_iff _ _).1 q3
    obtain rfl := ctsEq_eq _ _ q4
    obtain rfl := ctsEq_eq _ _ q5
    obtain rfl := ctsEq_eq _ _ q6
    refine ⟨(((h0_2.length : Int) - t6).toNat + 1), ?_⟩
    rw [← h]
    exact loop_run (fun s : Int => ⟨[(1, AV.int .i64 t1), (2, AV.ptr [0, 2] 0 0), (6, AV.int .i64 s)], [([0, 2], ⟨true, [], [AV.agg [AV.sl [.int .i64] h0_0, AV.sl [.int .i64] h0_1, AV.sl [.int .i64, .int .i64] h0_2]]⟩)]⟩) (sumE (fun _ : Unit => k (.exit 0) ⟨[], [([0, 2], ⟨true, [], [AV.agg [AV.sl [.int .i64] h0_0, AV.sl [.int .i64] h0_1, AV.sl [.int .i64, .int .i64] h0_2]]⟩)]⟩) (fun p : Int => k .ret ⟨[(4, AV.int .i64 p), (5, AV.bool true)], [([0, 2], ⟨true, [], [AV.agg [AV.sl [.int .i64] h0_0, AV.sl [.int .i64] h0_1, AV.sl [.int .i64, .int .i64] h0_2]]⟩)]⟩)) (st83_0 t1 h0_0 h0_1 h0_2 ce k) _ t6
  · cases h
def q83 (a0_0 : List AV) (a0_1 : List AV) (a0_2 : List AV) (a1 : Int) : Bool := (ro (runW (R83_0 a1 a0_0 a0_1 a0_2) (((a0_2.length : Int) - 0).toNat + 1) 0) false (sumE (fun _ => true) (fun p22 => true)))
def v83_0 (a0_0 : List AV) (a0_1 : List AV) (a0_2 : List AV) (a1 : Int) : Int := (ro (runW (R83_0 a1 a0_0 a0_1 a0_2) (((a0_2.length : Int) - 0).toNat + 1) 0) 0 (sumE (fun _ => 0) (fun p22 => p22)))
def v83_1 (a0_0 : List AV) (a0_1 : List AV) (a0_2 : List AV) (a1 : Int) : Bool := (ro (runW (R83_0 a1 a0_0 a0_1 a0_2) (((a0_2.length : Int) - 0).toNat + 1) 0) false (sumE (fun _ => false) (fun p22 => true)))
theorem e83 (a0_0 : List AV) (a0_1 : List AV) (a0_2 : List AV) (a1 : Int) : funA c83 0 83 [AV.agg [AV.sl [.int .i64] a0_0, AV.sl [.int .i64] a0_1, AV.sl [.int .i64, .int .i64] a0_2], AV.int .i64 a1] = (ro (runW (R83_0 a1 a0_0 a0_1 a0_2) (((a0_2.length : Int) - 0).toNat + 1) 0) none (sumE (fun _ => some (AV.tup [AV.int .i64 0, AV.bool false])) (fun p22 => some (AV.tup [AV.int .i64 p22, AV.bool true])))) := by kernel_rfl
theorem r83 (a0_0 : List AV) (a0_1 : List AV) (a0_2 : List AV) (a1 : Int) (h : q83 a0_0 a0_1 a0_2 a1 = true) : funA c83 0 83 [AV.agg [AV.sl [.int .i64] a0_0, AV.sl [.int .i64] a0_1, AV.sl [.int .i64, .int .i64] a0_2], AV.int .i64 a1] = some (AV.tup [AV.int .i64 (v83_0 a0_0 a0_1 a0_2 a1), AV.bool (v83_1 a0_0 a0_1 a0_2 a1)]) := (e83 a0_0 a0_1 a0_2 a1).trans ((brO (fun o : Option (Unit ⊕ Int) => some (AV.tup [AV.int .i64 (ro o 0 (sumE (fun _ => 0) (fun p22 => p22))), AV.bool (ro o false (sumE (fun _ => false) (fun p22 => true)))])) (brS (fun o : Unit ⊕ Int => some (AV.tup [AV.int .i64 ((sumE (fun _ => 0) (fun p22 => p22)) o), AV.bool ((sumE (fun _ => false) (fun p22 => true)) o)])) (fun _ => (fun _ => rfl)) (fun p22 => (fun _ => rfl)))) h)
def m83 : TModel
  | [.agg [.sl g0 a0_0, .sl g1 a0_1, .sl g2 a0_2], .int .i64 a1] => bif ctsEq g0 ([.int .i64]) && ctsEq g1 ([.int .i64]) && ctsEq g2 ([.int .i64, .int .i64]) then some (q83 a0_0 a0_1 a0_2 a1, AV.tup [AV.int .i64 (v83_0 a0_0 a0_1 a0_2 a1), AV.bool (v83_1 a0_0 a0_1 a0_2 a1)]) else none
  | _ => none
theorem k83 : Known Tryz.prog 83 := ⟨Tryz.f83, Tryz.func83, by kernel_rfl, by kernel_rfl⟩
theorem meets83 : Meets Tryz.prog 83 m83 := by
  refine meet (f := Tryz.f83) (l := [(0, sub [1, 0, 1, 0, 0] (body Tryz.f83))]) (hs := [(83, 0, [1, 2, 6]), (83, 999, [4, 5]), (83, 1000, []), (83, 1001, [1, 2, 6])]) (ts := []) (ws := []) (is := []) (ls := [(83, 0, l83_0)]) (lvl := 0) mixed k83 Tryz.func83 (by kernel_rfl) (loops_cons ok83_0 noLoop) allT_nil allM_nil noI fun w xs us r hl hv h => ?_
  unfold m83 at h
  split at h
  · rename_i g0 a0_0 g1 a0_1 g2 a0_2 a1
    obtain ⟨hg, h⟩ := bif_pair h
    simp only [Bool.and_eq_true] at hg
    obtain ⟨⟨q0, q1⟩, q2⟩ := hg
    obtain rfl := ctsEq_eq _ _ q0
    obtain rfl := ctsEq_eq _ _ q1
    obtain rfl := ctsEq_eq _ _ q2
    obtain ⟨h1, rfl⟩ := pair_inj h
    exact r83 a0_0 a0_1 a0_2 a1 h1
  · cases h

/-! ### 123 loop.example/g01984/spec.l4Piece -/
def F123_2 (t1 : List AV) (t2 : Int) (t8 : Int) (t9 : Int) (t11 : Int) : Out ((Int × Int)) (Int) := (bif decide (t11 ≥ 0) then (bif (decide (0 ≤ t11) && decide (t11 < (t1.length : Int))) then (bif decide (fI (t1.getD t11.toNat AV.undef) 0 ≥ t2) then (bif (decide (0 ≤ t11) && decide (t11 < (t1.length : Int))) then .next (fI (t1.getD t11.toNat AV.undef) 1, IntKind.i64.wrap (t11 - 1))
  else .fail)
  else .next (t9, IntKind.i64.wrap (t11 - 1)))
  else .fail)
  else .stop t9)
def R123_2 (t1 : List AV) (t2 : Int) (t8 : Int) : ((Int × Int)) → Out ((Int × Int)) (Int) := fun s : Int × Int => F123_2 t1 t2 t8 s.1 s.2
def l123_2 : LModel := fun _ _ st k => match st with
  | ⟨[(1, .sl g0 t1), (2, .int .i64 t2), (8, .int .i64 t8), (9, .int .i64 t9), (11, .int .i64 t11)], []⟩ => bif ctsEq g0 ([.int .i64, .int .i64]) then ro (runW (R123_2 t1 t2 t8) ((t11 - 0 + 1).toNat + 1) (t9, t11)) none (fun p : Int => k (.exit 2) ⟨[(8, AV.int .i64 t8), (9, AV.int .i64 p)], []⟩) else none
  | _ => none
def F123_0 (t1 : List AV) (t2 : Int) (t9 : Int) (t8 : Int) (t10 : Int) : Out ((Int × Int)) (Int) := (bif decide (t10 < (t1.length : Int)) then (bif (decide (0 ≤ t10) && decide (t10 < (t1.length : Int))) then (bif decide (fI (t1.getD t10.toNat AV.undef) 0 ≤ t2) then (bif (decide (0 ≤ t10) && decide (t10 < (t1.length : Int))) then .next (fI (t1.getD t10.toNat AV.undef) 1, IntKind.i64.wrap (t10 + 1))
  else .fail)
  else .next (t8, IntKind.i64.wrap (t10 + 1)))
  else .fail)
  else .stop t8)
def R123_0 (t1 : List AV) (t2 : Int) (t9 : Int) : ((Int × Int)) → Out ((Int × Int)) (Int) := fun s : Int × Int => F123_0 t1 t2 t9 s.1 s.2
def l123_0 : LModel := fun _ _ st k => match st with
  | ⟨[(1, .sl g0 t1), (2, .int .i64 t2), (8, .int .i64 t8), (9, .int .i64 t9), (10, .int .i64 t10)], []⟩ => bif ctsEq g0 ([.int .i64, .int .i64]) then ro (runW (R123_0 t1 t2 t9) (((t1.length : Int) - t10).toNat + 1) (t8, t10)) none (fun p : Int => k (.exit 0) ⟨[(1, AV.sl [.int .i64, .int .i64] t1), (2, AV.int .i64 t2), (8, AV.int .i64 p), (9, AV.int .i64 t9)], []⟩) else none
  | _ => none
noncomputable def c123 : Cfg := cfg Tryz.prog [(123, 0, [1, 2, 8, 9, 10]), (123, 2, [1, 2, 8, 9, 11]), (123, 999, [6, 7]), (123, 1000, [1, 2, 8, 9]), (123, 1001, [1, 2, 8, 9, 10]), (123, 1002, [8, 9]), (123, 1003, [1, 2, 8, 9, 11])] [] [] [] [(123, 0, l123_0), (123, 2, l123_2)]
theorem s123_2 (ce : CallE) (t1 : List AV) (t2 : Int) (t8 : Int) (t9 : Int) (t11 : Int) (next : St → Option AV) (k : Kont) : stepA (codeA c123 ce [] 123 2 (sub [1, 1, 1, 1, 0, 1, 0, 0] (body Tryz.f123))) (normA [] [1, 2, 8, 9, 11]) next ⟨[(1, AV.sl [.int .i64, .int .i64] t1), (2, AV.int .i64 t2), (8, AV.int .i64 t8), (9, AV.int .i64 t9), (11, AV.int .i64 t11)], []⟩ k = (bif decide (t11 ≥ 0) then (bif (decide (0 ≤ t11) && decide (t11 < (t1.length : Int))) then (bif decide (fI (t1.getD t11.toNat AV.undef) 0 ≥ t2) then (bif (decide (0 ≤ t11) && decide (t11 < (t1.length : Int))) then next ⟨[(1, AV.sl [.int .i64, .int .i64] t1), (2, AV.int .i64 t2), (8, AV.int .i64 t8), (9, AV.int .i64 (fI (t1.getD t11.toNat AV.undef) 1)), (11, AV.int .i64 (IntKind.i64.wrap (t11 - 1)))], []⟩
  else none)
  else next ⟨[(1, AV.sl [.int .i64, .int .i64] t1), (2, AV.int .i64 t2), (8, AV.int .i64 t8), (9, AV.int .i64 t9), (11, AV.int .i64 (IntKind.i64.wrap (t11 - 1)))], []⟩)
  else none)
  else k (.exit 2) ⟨[(8, AV.int .i64 t8), (9, AV.int .i64 t9)], []⟩) := by kernel_rfl
theorem st123_2 (t1 : List AV) (t2 : Int) (t8 : Int) (ce : CallE) (k : Kont) (s : (Int × Int)) (next : St → Option AV) : stepA (codeA c123 ce [] 123 2 (sub [1, 1, 1, 1, 0, 1, 0, 0] (body Tryz.f123))) (normA [] [1, 2, 8, 9, 11]) next ((fun s : Int × Int => ⟨[(1, AV.sl [.int .i64, .int .i64] t1), (2, AV.int .i64 t2), (8, AV.int .i64 t8), (9, AV.int .i64 s.1), (11, AV.int .i64 s.2)], []⟩) s) k = (R123_2 t1 t2 t8 s).el none (fun s => next ((fun s : Int × Int => ⟨[(1, AV.sl [.int .i64, .int .i64] t1), (2, AV.int .i64 t2), (8, AV.int .i64 t8), (9, AV.int .i64 s.1), (11, AV.int .i64 s.2)], []⟩) s)) (fun p : Int => k (.exit 2) ⟨[(8, AV.int .i64 t8), (9, AV.int .i64 p)], []⟩) := (s123_2 ce t1 t2 t8 s.1 s.2 next k).trans (by unfold R123_2; unfold F123_2; simp only [el_cond, el_ro, el_sum, el_fail, el_next, el_stop] <;> rfl)
theorem ok123_2 {ce : CallE} : LoopOK c123 ce [] 123 2 (sub [1, 1, 1, 1, 0, 1, 0, 0] (body Tryz.f123)) := by
  intro m hm st k r h
  obtain rfl : l123_2 = m := Option.some.inj hm
  unfold l123_2 at h
  split at h
  · rename_i g0 t1 t2 t8 t9 t11
    obtain ⟨hg, h⟩ := bif_some h
    have q0 := hg
    obtain rfl := ctsEq_eq _ _ q0
    refine ⟨((t11 - 0 + 1).toNat + 1), ?_⟩
    rw [← h]
    exact loop_run (fun s : Int × Int => ⟨[(1, AV.sl [.int .i64, .int .i64] t1), (2, AV.int .i64 t2), (8, AV.int .i64 t8), (9, AV.int .i64 s.1), (11, AV.int .i64 s.2)], []⟩) (fun p : Int => k (.exit 2) ⟨[(8, AV.int .i64 t8), (9, AV.int .i64 p)], []⟩) (st123_2 t1 t2 t8 ce k) _ (t9, t11)
  · cases h
theorem s123_0 (ce : CallE) (t1 : List AV) (t2 : Int) (t8 : Int) (t9 : Int) (t10 : Int) (next : St → Option AV) (k : Kont) : stepA (codeA c123 ce [] 123 0 (sub [1, 1, 1, 0, 1, 0, 0] (body Tryz.f123))) (normA [] [1, 2, 8, 9, 10]) next ⟨[(1, AV.sl [.int .i64, .int .i64] t1), (2, AV.int .i64 t2), (8, AV.int .i64 t8), (9, AV.int .i64 t9), (10, AV.int .i64 t10)], []⟩ k = (bif decide (t10 < (t1.length : Int)) then (bif (decide (0 ≤ t10) && decide (t10 < (t1.length : Int))) then (bif decide (fI (t1.getD t10.toNat AV.undef) 0 ≤ t2) then (bif (decide (0 ≤ t10) && decide (t10 < (t1.length : Int))) then next ⟨[(1, AV.sl [.int .i64, .int .i64] t1), (2, AV.int .i64 t2), (8, AV.int .i64 (fI (t1.getD t10.toNat AV.undef) 1)), (9, AV.int .i64 t9), (10, AV.int .i64 (IntKind.i64.wrap (t10 + 1)))], []⟩
  else none)
  else next ⟨[(1, AV.sl [.int .i64, .int .i64] t1), (2, AV.int .i64 t2), (8, AV.int .i64 t8), (9, AV.int .i64 t9), (10, AV.int .i64 (IntKind.i64.wrap (t10 + 1)))], []⟩)
  else none)
  else k (.exit 0) ⟨[(1, AV.sl [.int .i64, .int .i64] t1), (2, AV.int .i64 t2), (8, AV.int .i64 t8), (9, AV.int .i64 t9)], []⟩) := by kernel_rfl
theorem st123_0 (t1 : List AV) (t2 : Int) (t9 : Int) (ce : CallE) (k : Kont) (s : (Int × Int)) (next : St → Option AV) : stepA (codeA c123 ce [] 123 0 (sub [1, 1, 1, 0, 1, 0, 0] (body Tryz.f123))) (normA [] [1, 2, 8, 9, 10]) next ((fun s : Int × Int => ⟨[(1, AV.sl [.int .i64, .int .i64] t1), (2, AV.int .i64 t2), (8, AV.int .i64 s.1), (9, AV.int .i64 t9), (10, AV.int .i64 s.2)], []⟩) s) k = (R123_0 t1 t2 t9 s).el none (fun s => next ((fun s : Int × Int => ⟨[(1, AV.sl [.int .i64, .int .i64] t1), (2, AV.int .i64 t2), (8, AV.int .i64 s.1), (9, AV.int .i64 t9), (10, AV.int .i64 s.2)], []⟩) s)) (fun p : Int => k (.exit 0) ⟨[(1, AV.sl [.int .i64, .int .i64] t1), (2, AV.int .i64 t2), (8, AV.int .i64 p), (9, AV.int .i64 t9)], []⟩) := (s123_0 ce t1 t2 s.1 t9 s.2 next k).trans (by unfold R123_0; unfold F123_0; simp only [el_cond, el_ro, el_sum, el_fail, el_next, el_stop] <;> rfl)
theorem ok123_0 {ce : CallE} : LoopOK c123 ce [] 123 0 (sub [1, 1, 1, 0, 1, 0, 0] (body Tryz.f123)) := by
  intro m hm st k r h
  obtain rfl : l123_0 = m := Option.some.inj hm
  unfold l123_0 at h
  split at h
  · rename_i g0 t1 t2 t8 t9 t10
    obtain ⟨hg, h⟩ := bif_some h
    have q0 := hg
    obtain rfl := ctsEq_eq _ _ q0
    refine ⟨(((t1.length : Int) - t10).toNat + 1), ?_⟩
    rw [← h]
    exact loop_run (fun s : Int × Int => ⟨[(1, AV.sl [.int .i64, .int .i64] t1), (2, AV.int .i64 t2), (8, AV.int .i64 s.1), (9, AV.int .i64 t9), (10, AV.int .i64 s.2)], []⟩) (fun p : Int => k (.exit 0) ⟨[(1, AV.sl [.int .i64, .int .i64] t1), (2, AV.int .i64 t2), (8, AV.int .i64 p), (9, AV.int .i64 t9)], []⟩) (st123_0 t1 t2 t9 ce k) _ (t8, t10)
  · cases h
def q123 (a0 : Int) (a1 : List AV) (a2 : Int) : Bool := (ro (runW (R123_0 a1 a2 a0) (((a1.length : Int) - 0).toNat + 1) (0, 0)) false (fun p23 => (ro (runW (R123_2 a1 a2 p23) (((IntKind.i64.wrap ((a1.length : Int) - 1)) - 0 + 1).toNat + 1) (a0, IntKind.i64.wrap ((a1.length : Int) - 1))) false (fun p24 => true))))
def v123_0 (a0 : Int) (a1 : List AV) (a2 : Int) : Int := (ro (runW (R123_0 a1 a2 a0) (((a1.length : Int) - 0).toNat + 1) (0, 0)) 0 (fun p23 => p23))
def v123_1 (a0 : Int) (a1 : List AV) (a2 : Int) : Int := (ro (runW (R123_0 a1 a2 a0) (((a1.length : Int) - 0).toNat + 1) (0, 0)) 0 (fun p23 => (ro (runW (R123_2 a1 a2 p23) (((IntKind.i64.wrap ((a1.length : Int) - 1)) - 0 + 1).toNat + 1) (a0, IntKind.i64.wrap ((a1.length : Int) - 1))) 0 (fun p24 => p24))))
theorem e123 (a0 : Int) (a1 : List AV) (a2 : Int) : funA c123 0 123 [AV.int .i64 a0, AV.sl [.int .i64, .int .i64] a1, AV.int .i64 a2] = (ro (runW (R123_0 a1 a2 a0) (((a1.length : Int) - 0).toNat + 1) (0, 0)) none (fun p23 => (ro (runW (R123_2 a1 a2 p23) (((IntKind.i64.wrap ((a1.length : Int) - 1)) - 0 + 1).toNat + 1) (a0, IntKind.i64.wrap ((a1.length : Int) - 1))) none (fun p24 => some (AV.tup [AV.int .i64 p23, AV.int .i64 p24]))))) := by kernel_rfl
theorem r123 (a0 : Int) (a1 : List AV) (a2 : Int) (h : q123 a0 a1 a2 = true) : funA c123 0 123 [AV.int .i64 a0, AV.sl [.int .i64, .int .i64] a1, AV.int .i64 a2] = some (AV.tup [AV.int .i64 (v123_0 a0 a1 a2), AV.int .i64 (v123_1 a0 a1 a2)]) := (e123 a0 a1 a2).trans ((brO (fun o : Option (Int) => some (AV.tup [AV.int .i64 (ro o 0 (fun p23 => p23)), AV.int .i64 (ro o 0 (fun p23 => (ro (runW (R123_2 a1 a2 p23) (((IntKind.i64.wrap ((a1.length : Int) - 1)) - 0 + 1).toNat + 1) (a0, IntKind.i64.wrap ((a1.length : Int) - 1))) 0 (fun p24 => p24))))])) (fun p23 => (brO (fun o : Option (Int) => some (AV.tup [AV.int .i64 p23, AV.int .i64 (ro o 0 (fun p24 => p24))])) (fun p24 => (fun _ => rfl))))) h)
def m123 : TModel
  | [.int .i64 a0, .sl g0 a1, .int .i64 a2] => bif ctsEq g0 ([.int .i64, .int .i64]) then some (q123 a0 a1 a2, AV.tup [AV.int .i64 (v123_0 a0 a1 a2), AV.int .i64 (v123_1 a0 a1 a2)]) else none
  | _ => none
theorem k123 : Known Tryz.prog 123 := ⟨Tryz.f123, Tryz.func123, by kernel_rfl, by kernel_rfl⟩
theorem meets123 : Meets Tryz.prog 123 m123 := by
  refine meet (f := Tryz.f123) (l := [(0, sub [1, 1, 1, 0, 1, 0, 0] (body Tryz.f123)), (2, sub [1, 1, 1, 1, 0, 1, 0, 0] (body Tryz.f123))]) (hs := [(123, 0, [1, 2, 8, 9, 10]), (123, 2, [1, 2, 8, 9, 11]), (123, 999, [6, 7]), (123, 1000, [1, 2, 8, 9]), (123, 1001, [1, 2, 8, 9, 10]), (123, 1002, [8, 9]), (123, 1003, [1, 2, 8, 9, 11])]) (ts := []) (ws := []) (is := []) (ls := [(123, 0, l123_0), (123, 2, l123_2)]) (lvl := 0) mixed k123 Tryz.func123 (by kernel_rfl) (loops_cons ok123_0 (loops_cons ok123_2 noLoop)) allT_nil allM_nil noI fun w xs us r hl hv h => ?_
  unfold m123 at h
  split at h
  · rename_i a0 g0 a1 a2
    obtain ⟨hg, h⟩ := bif_pair h
    have q0 := hg
    obtain rfl := ctsEq_eq _ _ q0
    obtain ⟨h1, rfl⟩ := pair_inj h
    exact r123 a0 a1 a2 h1
  · cases h

/-! ### 107 loop.example/g01984/spec.PieceOf -/
noncomputable def c107 : Cfg := cfg Tryz.prog [(107, 999, [4, 5])] [(23, m23), (65, m65), (123, m123)] [] [] []
def q107 (a0_0 : List AV) (a0_1 : List AV) (a0_2 : List AV) (a1 : Int) : Bool := (q65 a0_0 a0_1 a0_2 && (bif !(v65_0 a0_0 a0_1 a0_2) then true else (bif !(v23_0 a1 (-1000) 1000) then true else q123 (a0_0.length : Int) a0_2 a1)))
def v107_0 (a0_0 : List AV) (a0_1 : List AV) (a0_2 : List AV) (a1 : Int) : Int := (bif !(v65_0 a0_0 a0_1 a0_2) then 0 else (bif !(v23_0 a1 (-1000) 1000) then 0 else (v123_0 (a0_0.length : Int) a0_2 a1)))
def v107_1 (a0_0 : List AV) (a0_1 : List AV) (a0_2 : List AV) (a1 : Int) : Int := (bif !(v65_0 a0_0 a0_1 a0_2) then 0 else (bif !(v23_0 a1 (-1000) 1000) then 0 else (v123_1 (a0_0.length : Int) a0_2 a1)))
theorem e107 (a0_0 : List AV) (a0_1 : List AV) (a0_2 : List AV) (a1 : Int) : funA c107 0 107 [AV.agg [AV.sl [.int .i64] a0_0, AV.sl [.int .i64] a0_1, AV.sl [.int .i64, .int .i64] a0_2], AV.int .i64 a1] = (bif q65 a0_0 a0_1 a0_2 then (bif !(v65_0 a0_0 a0_1 a0_2) then some (AV.tup [AV.int .i64 0, AV.int .i64 0])
  else (bif !(v23_0 a1 (-1000) 1000) then some (AV.tup [AV.int .i64 0, AV.int .i64 0])
  else (bif q123 (a0_0.length : Int) a0_2 a1 then some (AV.tup [AV.int .i64 (v123_0 (a0_0.length : Int) a0_2 a1), AV.int .i64 (v123_1 (a0_0.length : Int) a0_2 a1)])
  else none)))
  else none) := by kernel_rfl
theorem r107 (a0_0 : List AV) (a0_1 : List AV) (a0_2 : List AV) (a1 : Int) (h : q107 a0_0 a0_1 a0_2 a1 = true) : funA c107 0 107 [AV.agg [AV.sl [.int .i64] a0_0, AV.sl [.int .i64] a0_1, AV.sl [.int .i64, .int .i64] a0_2], AV.int .i64 a1] = some (AV.tup [AV.int .i64 (v107_0 a0_0 a0_1 a0_2 a1), AV.int .i64 (v107_1 a0_0 a0_1 a0_2 a1)]) := (e107 a0_0 a0_1 a0_2 a1).trans ((brL (br (fun b => some (AV.tup [AV.int .i64 (bif b then 0 else (bif !(v23_0 a1 (-1000) 1000) then 0 else (v123_0 (a0_0.length : Int) a0_2 a1))), AV.int .i64 (bif b then 0 else (bif !(v23_0 a1 (-1000) 1000) then 0 else (v123_1 (a0_0.length : Int) a0_2 a1)))])) (fun _ => rfl) (br (fun b => some (AV.tup [AV.int .i64 (bif b then 0 else (v123_0 (a0_0.length : Int) a0_2 a1)), AV.int .i64 (bif b then 0 else (v123_1 (a0_0.length : Int) a0_2 a1))])) (fun _ => rfl) (brL1 (fun _ => rfl))))) h)
def m107 : TModel
  | [.agg [.sl g0 a0_0, .sl g1 a0_1, .sl g2 a0_2], .int .i64 a1] => bif ctsEq g0 ([.int .i64]) && ctsEq g1 ([.int .i64]) && ctsEq g2 ([.int .i64, .int .i64]) then some (q107 a0_0 a0_1 a0_2 a1, AV.tup [AV.int .i64 (v107_0 a0_0 a0_1 a0_2 a1), AV.int .i64 (v107_1 a0_0 a0_1 a0_2 a1)]) else none
  | _ => none
theorem k107 : Known Tryz.prog 107 := ⟨Tryz.f107, Tryz.func107, by kernel_rfl, by kernel_rfl⟩
theorem meets107 : Meets Tryz.prog 107 m107 := by
  refine meet (f := Tryz.f107) (l := []) (hs := [(107, 999, [4, 5])]) (ts := [(23, m23), (65, m65), (123, m123)]) (ws := []) (is := []) (ls := []) (lvl := 0) mixed k107 Tryz.func107 (by kernel_rfl) noLoop (allT_cons meets23 (allT_cons meets65 (allT_cons meets123 allT_nil))) allM_nil noI fun w xs us r hl hv h => ?_
  unfold m107 at h
  split at h
  · rename_i g0 a0_0 g1 a0_1 g2 a0_2 a1
    obtain ⟨hg, h⟩ := bif_pair h
    simp only [Bool.and_eq_true] at hg
    obtain ⟨⟨q0, q1⟩, q2⟩ := hg
    obtain rfl := ctsEq_eq _ _ q0
    obtain rfl := ctsEq_eq _ _ q1
    obtain rfl := ctsEq_eq _ _ q2
    obtain ⟨h1, rfl⟩ := pair_inj h
    exact r107 a0_0 a0_1 a0_2 a1 h1
  · cases h

/-! ### 108 loop.example/g01984/spec.Partition -/
def F108_0 (t0 : List AV) (t3 : Int) (t11 : Int) (t12 : Int) (h0 : List AV) : Out ((Int × Int × (List AV))) ((Int × (List AV))) := (bif decide (t11 ≤ t12) then (bif (decide (0 ≤ t11) && decide (t11 < (t0.length : Int))) then (bif decide (fI (t0.getD t11.toNat AV.undef) 0 < t3) then .next (IntKind.i64.wrap (t11 + 1), t12, h0)
  else (bif (decide (0 ≤ t12) && decide (t12 < (t0.length : Int))) then (bif decide (fI (t0.getD t12.toNat AV.undef) 0 ≥ t3) then .next (t11, IntKind.i64.wrap (t12 - 1), h0)
  else (bif (decide ((h0.length + ([AV.agg [AV.int .i64 t11, AV.int .i64 t12]]).length) * 16 ≤ 140737488355328) && decide ((h0.length + ([AV.agg [AV.int .i64 t11, AV.int .i64 t12]]).length) ≤ 140737488355328)) then .next (IntKind.i64.wrap (t11 + 1), IntKind.i64.wrap (t12 - 1), h0 ++ ([AV.agg [AV.int .i64 t11, AV.int .i64 t12]]))
  else .fail))
  else .fail))
  else .fail)
  else .stop (t11, h0))
def R108_0 (t0 : List AV) (t3 : Int) : ((Int × Int × (List AV))) → Out ((Int × Int × (List AV))) ((Int × (List AV))) := fun s : Int × Int × (List AV) => F108_0 t0 t3 s.1 s.2.1 s.2.2
def l108_0 : LModel := fun _ _ st k => match st with
  | ⟨[(0, .sl g0 t0), (3, .int .i64 t3), (10, .own g1), (11, .int .i64 t11), (12, .int .i64 t12)], [(g2, ⟨false, g3, h0⟩)]⟩ => bif ctsEq g0 ([.int .i64]) && nmEq g1 ([0, 10]) && nmEq g2 ([0, 10]) && ctsEq g3 ([.int .i64, .int .i64]) then ro (runW (R108_0 t0 t3) ((t12 - t11 + 1).toNat + 1) (t11, t12, h0)) none (fun p : Int × (List AV) => k (.exit 0) ⟨[(10, AV.own [0, 10]), (11, AV.int .i64 p.1)], [([0, 10], ⟨false, [.int .i64, .int .i64], p.2⟩)]⟩) else none
  | _ => none
noncomputable def c108 : Cfg := cfg Tryz.prog [(108, 0, [0, 3, 10, 11, 12]), (108, 999, [8, 9]), (108, 1000, [10, 11]), (108, 1001, [0, 3, 10, 11, 12]), (108, 1002, [0, 3, 10, 11, 12])] [(23, m23)] [] [] [(108, 0, l108_0)]
theorem s108_0 (ce : CallE) (t0 : List AV) (t3 : Int) (t11 : Int) (t12 : Int) (h0 : List AV) (next : St → Option AV) (k : Kont) : stepA (codeA c108 ce [] 108 0 (sub [1, 1, 1, 1, 1, 0, 0, 0] (body Tryz.f108))) (normA [] [0, 3, 10, 11, 12]) next ⟨[(0, AV.sl [.int .i64] t0), (3, AV.int .i64 t3), (10, AV.own [0, 10]), (11, AV.int .i64 t11), (12, AV.int .i64 t12)], [([0, 10], ⟨false, [.int .i64, .int .i64], h0⟩)]⟩ k = (bif decide (t11 ≤ t12) then (bif (decide (0 ≤ t11) && decide (t11 < (t0.length : Int))) then (bif decide (fI (t0.getD t11.toNat AV.undef) 0 < t3) then next ⟨[(0, AV.sl [.int .i64] t0), (3, AV.int .i64 t3), (10, AV.own [0, 10]), (11, AV.int .i64 (IntKind.i64.wrap (t11 + 1))), (12, AV.int .i64 t12)], [([0, 10], ⟨false, [.int .i64, .int .i64], h0⟩)]⟩
  else (bif (decide (0 ≤ t12) && decide (t12 < (t0.length : Int))) then (bif decide (fI (t0.getD t12.toNat AV.undef) 0 ≥ t3) then next ⟨[(0, AV.sl [.int .i64] t0), (3, AV.int .i64 t3), (10, AV.own [0, 10]), (11, AV.int .i64 t11), (12, AV.int .i64 (IntKind.i64.wrap (t12 - 1)))], [([0, 10], ⟨false, [.int .i64, .int .i64], h0⟩)]⟩
  else (bif (decide ((h0.length + ([AV.agg [AV.int .i64 t11, AV.int .i64 t12]]).length) * 16 ≤ 140737488355328) && decide ((h0.length + ([AV.agg [AV.int .i64 t11, AV.int .i64 t12]]).length) ≤ 140737488355328)) then next ⟨[(0, AV.sl [.int .i64] t0), (3, AV.int .i64 t3), (10, AV.own [0, 10]), (11, AV.int .i64 (IntKind.i64.wrap (t11 + 1))), (12, AV.int .i64 (IntKind.i64.wrap (t12 - 1)))], [([0, 10], ⟨false, [.int .i64, .int .i64], h0 ++ ([AV.agg [AV.int .i64 t11, AV.int .i64 t12]])⟩)]⟩
  else none))
  else none))
  else none)
  else k (.exit 0) ⟨[(10, AV.own [0, 10]), (11, AV.int .i64 t11)], [([0, 10], ⟨false, [.int .i64, .int .i64], h0⟩)]⟩) := by kernel_rfl
theorem st108_0 (t0 : List AV) (t3 : Int) (ce : CallE) (k : Kont) (s : (Int × Int × (List AV))) (next : St → Option AV) : stepA (codeA c108 ce [] 108 0 (sub [1, 1, 1, 1, 1, 0, 0, 0] (body Tryz.f108))) (normA [] [0, 3, 10, 11, 12]) next ((fun s : Int × Int × (List AV) => ⟨[(0, AV.sl [.int .i64] t0), (3, AV.int .i64 t3), (10, AV.own [0, 10]), (11, AV.int .i64 s.1), (12, AV.int .i64 s.2.1)], [([0, 10], ⟨false, [.int .i64, .int .i64], s.2.2⟩)]⟩) s) k = (R108_0 t0 t3 s).el none (fun s => next ((fun s : Int × Int × (List AV) => ⟨[(0, AV.sl [.int .i64] t0), (3, AV.int .i64 t3), (10, AV.own [0, 10]), (11, AV.int .i64 s.1), (12, AV.int .i64 s.2.1)], [([0, 10], ⟨false, [.int .i64, .int .i64], s.2.2⟩)]⟩) s)) (fun p : Int × (List AV) => k (.exit 0) ⟨[(10, AV.own [0, 10]), (11, AV.int .i64 p.1)], [([0, 10], ⟨false, [.int .i64, .int .i64], p.2⟩)]⟩) := (s108_0 ce t0 t3 s.1 s.2.1 s.2.2 next k).trans (by unfold R108_0; unfold F108_0; simp only [el_cond, el_ro, el_sum, el_fail, el_next, el_stop] <;> rfl)
theorem ok108_0 {ce : CallE} : LoopOK c108 ce [] 108 0 (sub [1, 1, 1, 1, 1, 0, 0, 0] (body Tryz.f108)) := by
  intro m hm st k r h
  obtain rfl : l108_0 = m := Option.some.inj hm
  unfold l108_0 at h
  split at h
  · rename_i g0 t0 t3 g1 t11 t12 g2 g3 h0
    obtain ⟨hg, h⟩ := bif_some h
    simp only [Bool.and_eq_true] at hg
    obtain ⟨⟨⟨q0, q1⟩, q2⟩, q3⟩ := hg
    obtain rfl := ctsEq_eq _ _ q0
    obtain rfl := (nmEq_iff _ _).1 q1
    obtain rfl := (nmEq_iff _ _).1 q2
    obtain rfl := ctsEq_eq _ _ q3
    refine ⟨((t12 - t11 + 1).toNat + 1), ?_⟩
    rw [← h]
    exact loop_run (fun s : Int × Int × (List AV) => ⟨[(0, AV.sl [.int .i64] t0), (3, AV.int .i64 t3), (10, AV.own [0, 10]), (11, AV.int .i64 s.1), (12, AV.int .i64 s.2.1)], [([0, 10], ⟨false, [.int .i64, .int .i64], s.2.2⟩)]⟩) (fun p : Int × (List AV) => k (.exit 0) ⟨[(10, AV.own [0, 10]), (11, AV.int .i64 p.1)], [([0, 10], ⟨false, [.int .i64, .int .i64], p.2⟩)]⟩) (st108_0 t0 t3 ce k) _ (t11, t12, h0)
  · cases h
def q108 (a0 : List AV) (a1 : Int) (a2 : Int) (a3 : Int) : Bool := (bif !(v23_0 a1 0 a2) then true else (bif decide (a2 > (a0.length : Int)) then true else (ro (runW (R108_0 a0 a3) (((IntKind.i64.wrap (a2 - 1)) - a1 + 1).toNat + 1) (a1, IntKind.i64.wrap (a2 - 1), ([] : List AV))) false (fun p25 => true))))
def v108_0 (a0 : List AV) (a1 : Int) (a2 : Int) (a3 : Int) : List AV := (bif !(v23_0 a1 0 a2) then ([] : List AV) else (bif decide (a2 > (a0.length : Int)) then ([] : List AV) else (ro (runW (R108_0 a0 a3) (((IntKind.i64.wrap (a2 - 1)) - a1 + 1).toNat + 1) (a1, IntKind.i64.wrap (a2 - 1), ([] : List AV))) [] (fun p25 => p25.2))))
def v108_1 (a0 : List AV) (a1 : Int) (a2 : Int) (a3 : Int) : Int := (bif !(v23_0 a1 0 a2) then 0 else (bif decide (a2 > (a0.length : Int)) then 0 else (ro (runW (R108_0 a0 a3) (((IntKind.i64.wrap (a2 - 1)) - a1 + 1).toNat + 1) (a1, IntKind.i64.wrap (a2 - 1), ([] : List AV))) 0 (fun p25 => p25.1))))
theorem e108 (a0 : List AV) (a1 : Int) (a2 : Int) (a3 : Int) : funA c108 0 108 [AV.sl [.int .i64] a0, AV.int .i64 a1, AV.int .i64 a2, AV.int .i64 a3] = (bif !(v23_0 a1 0 a2) then some (AV.tup [AV.fl [.int .i64, .int .i64] ([] : List AV), AV.int .i64 0])
  else (bif decide (a2 > (a0.length : Int)) then some (AV.tup [AV.fl [.int .i64, .int .i64] ([] : List AV), AV.int .i64 0])
  else (ro (runW (R108_0 a0 a3) (((IntKind.i64.wrap (a2 - 1)) - a1 + 1).toNat + 1) (a1, IntKind.i64.wrap (a2 - 1), ([] : List AV))) none (fun p25 => some (AV.tup [AV.fl [.int .i64, .int .i64] p25.2, AV.int .i64 p25.1]))))) := by kernel_rfl
theorem r108 (a0 : List AV) (a1 : Int) (a2 : Int) (a3 : Int) (h : q108 a0 a1 a2 a3 = true) : funA c108 0 108 [AV.sl [.int .i64] a0, AV.int .i64 a1, AV.int .i64 a2, AV.int .i64 a3] = some (AV.tup [AV.fl [.int .i64, .int .i64] (v108_0 a0 a1 a2 a3), AV.int .i64 (v108_1 a0 a1 a2 a3)]) := (e108 a0 a1 a2 a3).trans ((br (fun b => some (AV.tup [AV.fl [.int .i64, .int .i64] (bif b then ([] : List AV) else (bif decide (a2 > (a0.length : Int)) then ([] : List AV) else (ro (runW (R108_0 a0 a3) (((IntKind.i64.wrap (a2 - 1)) - a1 + 1).toNat + 1) (a1, IntKind.i64.wrap (a2 - 1), ([] : List AV))) [] (fun p25 => p25.2)))), AV.int .i64 (bif b then 0 else (bif decide (a2 > (a0.length : Int)) then 0 else (ro (runW (R108_0 a0 a3) (((IntKind.i64.wrap (a2 - 1)) - a1 + 1).toNat + 1) (a1, IntKind.i64.wrap (a2 - 1), ([] : List AV))) 0 (fun p25 => p25.1))))])) (fun _ => rfl) (br (fun b => some (AV.tup [AV.fl [.int .i64, .int .i64] (bif b then ([] : List AV) else (ro (runW (R108_0 a0 a3) (((IntKind.i64.wrap (a2 - 1)) - a1 + 1).toNat + 1) (a1, IntKind.i64.wrap (a2 - 1), ([] : List AV))) [] (fun p25 => p25.2))), AV.int .i64 (bif b then 0 else (ro (runW (R108_0 a0 a3) (((IntKind.i64.wrap (a2 - 1)) - a1 + 1).toNat + 1) (a1, IntKind.i64.wrap (a2 - 1), ([] : List AV))) 0 (fun p25 => p25.1)))])) (fun _ => rfl) (brO (fun o : Option ((Int × (List AV))) => some (AV.tup [AV.fl [.int .i64, .int .i64] (ro o [] (fun p25 => p25.2)), AV.int .i64 (ro o 0 (fun p25 => p25.1))])) (fun p25 => (fun _ => rfl))))) h)
def m108 : TModel
  | [.sl g0 a0, .int .i64 a1, .int .i64 a2, .int .i64 a3] => bif ctsEq g0 ([.int .i64]) then some (q108 a0 a1 a2 a3, AV.tup [AV.fl [.int .i64, .int .i64] (v108_0 a0 a1 a2 a3), AV.int .i64 (v108_1 a0 a1 a2 a3)]) else none
  | _ => none
theorem k108 : Known Tryz.prog 108 := ⟨Tryz.f108, Tryz.func108, by kernel_rfl, by kernel_rfl⟩
theorem meets108 : Meets Tryz.prog 108 m108 := by
  refine meet (f := Tryz.f108) (l := [(0, sub [1, 1, 1, 1, 1, 0, 0, 0] (body Tryz.f108))]) (hs := [(108, 0, [0, 3, 10, 11, 12]), (108, 999, [8, 9]), (108, 1000, [10, 11]), (108, 1001, [0, 3, 10, 11, 12]), (108, 1002, [0, 3, 10, 11, 12])]) (ts := [(23, m23)]) (ws := []) (is := []) (ls := [(108, 0, l108_0)]) (lvl := 0) mixed k108 Tryz.func108 (by kernel_rfl) (loops_cons ok108_0 noLoop) (allT_cons meets23 allT_nil) allM_nil noI fun w xs us r hl hv h => ?_
  unfold m108 at h
  split at h
  · rename_i g0 a0 a1 a2 a3
    obtain ⟨hg, h⟩ := bif_pair h
    have q0 := hg
    obtain rfl := ctsEq_eq _ _ q0
    obtain ⟨h1, rfl⟩ := pair_inj h
    exact r108 a0 a1 a2 a3 h1
  · cases h

/-! ### 111 loop.example/g01984/spec.l5Swap -/
noncomputable def c111 : Cfg := cfg Tryz.prog [(111, 999, [])] [] [] [] []
def q111 (a1 : Int) (a2 : Int) (b0 : List AV) : Bool := ((decide (0 ≤ a1) && decide (a1 < (b0.length : Int))) && ((decide (0 ≤ a2) && decide (a2 < (b0.length : Int))) && ((decide (0 ≤ a1) && decide (a1 < (b0.length : Int))) && (decide (0 ≤ a2) && decide (a2 < ((b0.set a1.toNat (AV.agg [AV.int .i64 (fI (b0.getD a2.toNat AV.undef) 0)])).length : Int))))))
def v111_0 (a1 : Int) (a2 : Int) (b0 : List AV) : List AV := (b0.set a1.toNat (AV.agg [AV.int .i64 (fI (b0.getD a2.toNat AV.undef) 0)])).set a2.toNat (AV.agg [AV.int .i64 (fI (b0.getD a1.toNat AV.undef) 0)])
theorem e111 (a1 : Int) (a2 : Int) (b0 : List AV) (K : AV → List Blk → Option AV) : inlA c111 1 111 [AV.own [1], AV.int .i64 a1, AV.int .i64 a2] [0] (canH 1 [⟨false, [.int .i64], b0⟩]) (keepB 1 K) = (bif (decide (0 ≤ a1) && decide (a1 < (b0.length : Int))) then (bif (decide (0 ≤ a2) && decide (a2 < (b0.length : Int))) then (bif (decide (0 ≤ a1) && decide (a1 < (b0.length : Int))) then (bif (decide (0 ≤ a2) && decide (a2 < ((b0.set a1.toNat (AV.agg [AV.int .i64 (fI (b0.getD a2.toNat AV.undef) 0)])).length : Int))) then K (AV.tup []) [⟨false, [.int .i64], (b0.set a1.toNat (AV.agg [AV.int .i64 (fI (b0.getD a2.toNat AV.undef) 0)])).set a2.toNat (AV.agg [AV.int .i64 (fI (b0.getD a1.toNat AV.undef) 0)])⟩]
  else none)
  else none)
  else none)
  else none) := by kernel_rfl
theorem r111 (a1 : Int) (a2 : Int) (b0 : List AV) (K : AV → List Blk → Option AV) (h : q111 a1 a2 b0 = true) : inlA c111 1 111 [AV.own [1], AV.int .i64 a1, AV.int .i64 a2] [0] (canH 1 [⟨false, [.int .i64], b0⟩]) (keepB 1 K) = K (AV.tup []) [⟨false, [.int .i64], (v111_0 a1 a2 b0)⟩] := (e111 a1 a2 b0 K).trans ((brL (brL (brL (brL1 (fun _ => rfl))))) h)
def m111 : WModel
  | [.own g0, .int .i64 a1, .int .i64 a2], [⟨false, g1, b0⟩] => bif nmEq g0 ([1]) && ctsEq g1 ([.int .i64]) then some (q111 a1 a2 b0, AV.tup [], [⟨false, [.int .i64], (v111_0 a1 a2 b0)⟩]) else none
  | _, _ => none
theorem k111 : Known Tryz.prog 111 := ⟨Tryz.f111, Tryz.func111, by kernel_rfl, by kernel_rfl⟩
theorem meets111 : MeetsM Tryz.prog 111 m111 := by
  refine meetM (f := Tryz.f111) (l := []) (hs := [(111, 999, [])]) (ts := []) (ws := []) (is := []) (ls := []) (lvl := 0) mixed k111 Tryz.func111 (by kernel_rfl) noLoop allT_nil allM_nil noI fun C w xs us bs r bs' hl hv hh h K => ?_
  unfold m111 at h
  split at h
  · rename_i g0 a1 a2 g1 b0
    obtain ⟨hg, h⟩ := bif_pair h
    simp only [Bool.and_eq_true] at hg
    obtain ⟨q0, q1⟩ := hg
    obtain rfl := (nmEq_iff _ _).1 q0
    obtain rfl := ctsEq_eq _ _ q1
    obtain ⟨h1, rfl, rfl⟩ := trip_inj h
    exact r111 a1 a2 b0 K h1
  · cases h

/-! ### 109 loop.example/g01984/spec.ApplySwaps -/
def F109_0 (t1 : List AV) (h2_0 : List AV) (h2_1 : List AV) (h2_2 : List AV) (h3 : List AV) (t7 : Int) (h0 : List AV) (h1 : List AV) : Out ((Int × (List AV) × (List AV))) (((List AV) × (List AV)) ⊕ ((List AV) × (List AV) × (List AV) × (List AV) × (List AV))) := (bif decide (t7 < (t1.length : Int)) then (bif (decide (0 ≤ t7) && decide (t7 < (t1.length : Int))) then (bif (decide (0 ≤ t7) && decide (t7 < (t1.length : Int))) then (bif !(v23_0 (fI (t1.getD t7.toNat AV.undef) 0) 0 (IntKind.i64.wrap ((h0.length : Int) - 1))) then (bif q64 h2_0 h2_1 h2_2 then .stop (.inr (h0, h1, (v64_0 h2_0 h2_1 h2_2), (v64_1 h2_0 h2_1 h2_2), (v64_2 h2_0 h2_1 h2_2)))
  else .fail)
  else (bif !(v23_0 (fI (t1.getD t7.toNat AV.undef) 1) 0 (IntKind.i64.wrap ((h0.length : Int) - 1))) then (bif q64 h2_0 h2_1 h2_2 then .stop (.inr (h0, h1, (v64_0 h2_0 h2_1 h2_2), (v64_1 h2_0 h2_1 h2_2), (v64_2 h2_0 h2_1 h2_2)))
  else .fail)
  else (bif q111 (fI (t1.getD t7.toNat AV.undef) 0) (fI (t1.getD t7.toNat AV.undef) 1) h0 then (bif q111 (fI (t1.getD t7.toNat AV.undef) 0) (fI (t1.getD t7.toNat AV.undef) 1) h1 then .next (IntKind.i64.wrap (t7 + 1), (v111_0 (fI (t1.getD t7.toNat AV.undef) 0) (fI (t1.getD t7.toNat AV.undef) 1) h0), (v111_0 (fI (t1.getD t7.toNat AV.undef) 0) (fI (t1.getD t7.toNat AV.undef) 1) h1))
  else .fail)
  else .fail)))
  else .fail)
  else .fail)
  else .stop (.inl (h0, h1)))
def R109_0 (t1 : List AV) (h2_0 : List AV) (h2_1 : List AV) (h2_2 : List AV) (h3 : List AV) : ((Int × (List AV) × (List AV))) → Out ((Int × (List AV) × (List AV))) (((List AV) × (List AV)) ⊕ ((List AV) × (List AV) × (List AV) × (List AV) × (List AV))) := fun s : Int × (List AV) × (List AV) => F109_0 t1 h2_0 h2_1 h2_2 h3 s.1 s.2.1 s.2.2
def l109_0 : LModel := fun _ _ st k => match st with
  | ⟨[(1, .sl g0 t1), (2, .ptr g1 g2 g3), (4, .ptr g4 g5 g6), (6, .ptr g7 g8 g9), (7, .int .i64 t7)], [(g10, ⟨false, g11, h0⟩), (g12, ⟨false, g13, h1⟩), (g14, ⟨true, [], [.agg [.sl g15 h2_0, .sl g16 h2_1, .sl g17 h2_2]]⟩), (g18, ⟨false, g19, h3⟩), (g20, ⟨true, [], [.agg [.snil, .snil, .snil]]⟩), (g21, ⟨true, [], [.agg [.own g22, .own g23, .own g24]]⟩)]⟩ => bif ctsEq g0 ([.int .i64, .int .i64]) && nmEq g1 ([0, 2]) && Nat.beq g2 0 && Nat.beq g3 0 && nmEq g4 ([0, 4]) && Nat.beq g5 0 && Nat.beq g6 0 && nmEq g7 ([0, 6]) && Nat.beq g8 0 && Nat.beq g9 0 && nmEq g10 ([0, 0, 6]) && ctsEq g11 ([.int .i64]) && nmEq g12 ([0, 1, 6]) && ctsEq g13 ([.int .i64]) && nmEq g14 ([0, 2]) && ctsEq g15 ([.int .i64]) && ctsEq g16 ([.int .i64]) && ctsEq g17 ([.int .i64, .int .i64]) && nmEq g18 ([0, 2, 6]) && ctsEq g19 ([.int .i64, .int .i64]) && nmEq g20 ([0, 4]) && nmEq g21 ([0, 6]) && nmEq g22 ([0, 0, 6]) && nmEq g23 ([0, 1, 6]) && nmEq g24 ([0, 2, 6]) then ro (runW (R109_0 t1 h2_0 h2_1 h2_2 h3) (((t1.length : Int) - t7).toNat + 1) (t7, h0, h1)) none (sumE (fun p : (List AV) × (List AV) => k (.exit 0) ⟨[(4, AV.ptr [0, 4] 0 0), (6, AV.ptr [0, 6] 0 0)], [([0, 0, 6], ⟨false, [.int .i64], p.1⟩), ([0, 1, 6], ⟨false, [.int .i64], p.2⟩), ([0, 2], ⟨true, [], [AV.agg [AV.sl [.int .i64] h2_0, AV.sl [.int .i64] h2_1, AV.sl [.int .i64, .int .i64] h2_2]]⟩), ([0, 2, 6], ⟨false, [.int .i64, .int .i64], h3⟩), ([0, 4], ⟨true, [], [AV.agg [AV.snil, AV.snil, AV.snil]]⟩), ([0, 6], ⟨true, [], [AV.agg [AV.own [0, 0, 6], AV.own [0, 1, 6], AV.own [0, 2, 6]]]⟩)]⟩) (fun p : (List AV) × (List AV) × (List AV) × (List AV) × (List AV) => k .ret ⟨[(4, AV.ptr [0, 4] 0 0), (5, AV.bool false)], [([0, 0, 6], ⟨false, [.int .i64], p.1⟩), ([0, 1, 6], ⟨false, [.int .i64], p.2.1⟩), ([0, 1, 53], ⟨false, [.int .i64], p.2.2.1⟩), ([0, 2], ⟨true, [], [AV.agg [AV.sl [.int .i64] h2_0, AV.sl [.int .i64] h2_1, AV.sl [.int .i64, .int .i64] h2_2]]⟩), ([0, 2, 6], ⟨false, [.int .i64, .int .i64], h3⟩), ([0, 4], ⟨true, [], [AV.agg [AV.own [0, 1, 53], AV.own [1, 1, 53], AV.own [2, 1, 53]]]⟩), ([0, 6], ⟨true, [], [AV.agg [AV.own [0, 0, 6], AV.own [0, 1, 6], AV.own [0, 2, 6]]]⟩), ([1, 1, 53], ⟨false, [.int .i64], p.2.2.2.1⟩), ([2, 1, 53], ⟨false, [.int .i64, .int .i64], p.2.2.2.2⟩)]⟩)) else none
  | _ => none
noncomputable def c109 : Cfg := cfg Tryz.prog [(109, 0, [1, 2, 4, 6, 7]), (109, 999, [4, 5]), (109, 1000, [4, 6]), (109, 1001, [1, 2, 4, 6, 7])] [(23, m23), (64, m64)] [(111, m111)] [] [(109, 0, l109_0)]
theorem s109_0 (ce : CallE) (t1 : List AV) (t7 : Int) (h0 : List AV) (h1 : List AV) (h2_0 : List AV) (h2_1 : List AV) (h2_2 : List AV) (h3 : List AV) (next : St → Option AV) (k : Kont) : stepA (codeA c109 ce [] 109 0 (sub [1, 1, 1, 0, 1, 0, 0] (body Tryz.f109))) (normA [] [1, 2, 4, 6, 7]) next ⟨[(1, AV.sl [.int .i64, .int .i64] t1), (2, AV.ptr [0, 2] 0 0), (4, AV.ptr [0, 4] 0 0), (6, AV.ptr [0, 6] 0 0), (7, AV.int .i64 t7)], [([0, 0, 6], ⟨false, [.int .i64], h0⟩), ([0, 1, 6], ⟨false, [.int .i64], h1⟩), ([0, 2], ⟨true, [], [AV.agg [AV.sl [.int .i64] h2_0, AV.sl [.int .i64] h2_1, AV.sl [.int .i64, .int .i64] h2_2]]⟩), ([0, 2, 6], ⟨false, [.int .i64, .int .i64], h3⟩), ([0, 4], ⟨true, [], [AV.agg [AV.snil, AV.snil, AV.snil]]⟩), ([0, 6], ⟨true, [], [AV.agg [AV.own [0, 0, 6], AV.own [0, 1, 6], AV.own [0, 2, 6]]]⟩)]⟩ k = (bif decide (t7 < (t1.length : Int)) then (bif (decide (0 ≤ t7) && decide (t7 < (t1.length : Int))) then (bif (decide (0 ≤ t7) && decide (t7 < (t1.length : Int))) then (bif !(v23_0 (fI (t1.getD t7.toNat AV.undef) 0) 0 (IntKind.i64.wrap ((h0.length : Int) - 1))) then (bif q64 h2_0 h2_1 h2_2 then k .ret ⟨[(4, AV.ptr [0, 4] 0 0), (5, AV.bool false)], [([0, 0, 6], ⟨false, [.int .i64], h0⟩), ([0, 1, 6], ⟨false, [.int .i64], h1⟩), ([0, 1, 53], ⟨false, [.int .i64], (v64_0 h2_0 h2_1 h2_2)⟩), ([0, 2], ⟨true, [], [AV.agg [AV.sl [.int .i64] h2_0, AV.sl [.int .i64] h2_1, AV.sl [.int .i64, .int .i64] h2_2]]⟩), ([0, 2, 6], ⟨false, [.int .i64, .int .i64], h3⟩), ([0, 4], ⟨true, [], [AV.agg [AV.own [0, 1, 53], AV.own [1, 1, 53], AV.own [2, 1, 53]]]⟩), ([0, 6], ⟨true, [], [AV.agg [AV.own [0, 0, 6], AV.own [0, 1, 6], AV.own [0, 2, 6]]]⟩), ([1, 1, 53], ⟨false, [.int .i64], (v64_1 h2_0 h2_1 h2_2)⟩), ([2, 1, 53], ⟨false, [.int .i64, .int .i64], (v64_2 h2_0 h2_1 h2_2)⟩)]⟩
  else none)
  else (bif !(v23_0 (fI (t1.getD t7.toNat AV.undef) 1) 0 (IntKind.i64.wrap ((h0.length : Int) - 1))) then (bif q64 h2_0 h2_1 h2_2 then k .ret ⟨[(4, AV.ptr [0, 4] 0 0), (5, AV.bool false)], [([0, 0, 6], ⟨false, [.int .i64], h0⟩), ([0, 1, 6], ⟨false, [.int .i64], h1⟩), ([0, 1, 53], ⟨false, [.int .i64], (v64_0 h2_0 h2_1 h2_2)⟩), ([0, 2], ⟨true, [], [AV.agg [AV.sl [.int .i64] h2_0, AV.sl [.int .i64] h2_1, AV.sl [.int .i64, .int .i64] h2_2]]⟩), ([0, 2, 6], ⟨false, [.int .i64, .int .i64], h3⟩), ([0, 4], ⟨true, [], [AV.agg [AV.own [0, 1, 53], AV.own [1, 1, 53], AV.own [2, 1, 53]]]⟩), ([0, 6], ⟨true, [], [AV.agg [AV.own [0, 0, 6], AV.own [0, 1, 6], AV.own [0, 2, 6]]]⟩), ([1, 1, 53], ⟨false, [.int .i64], (v64_1 h2_0 h2_1 h2_2)⟩), ([2, 1, 53], ⟨false, [.int .i64, .int .i64], (v64_2 h2_0 h2_1 h2_2)⟩)]⟩
  else none)
  else (bif q111 (fI (t1.getD t7.toNat AV.undef) 0) (fI (t1.getD t7.toNat AV.undef) 1) h0 then (bif q111 (fI (t1.getD t7.toNat AV.undef) 0) (fI (t1.getD t7.toNat AV.undef) 1) h1 then next ⟨[(1, AV.sl [.int .i64, .int .i64] t1), (2, AV.ptr [0, 2] 0 0), (4, AV.ptr [0, 4] 0 0), (6, AV.ptr [0, 6] 0 0), (7, AV.int .i64 (IntKind.i64.wrap (t7 + 1)))], [([0, 0, 6], ⟨false, [.int .i64], (v111_0 (fI (t1.getD t7.toNat AV.undef) 0) (fI (t1.getD t7.toNat AV.undef) 1) h0)⟩), ([0, 1, 6], ⟨false, [.int .i64], (v111_0 (fI (t1.getD t7.toNat AV.undef) 0) (fI (t1.getD t7.toNat AV.undef) 1) h1)⟩), ([0, 2], ⟨true, [], [AV.agg [AV.sl [.int .i64] h2_0, AV.sl [.int .i64] h2_1, AV.sl [.int .i64, .int .i64] h2_2]]⟩), ([0, 2, 6], ⟨false, [.int .i64, .int .i64], h3⟩), ([0, 4], ⟨true, [], [AV.agg [AV.snil, AV.snil, AV.snil]]⟩), ([0, 6], ⟨true, [], [AV.agg [AV.own [0, 0, 6], AV.own [0, 1, 6], AV.own [0, 2, 6]]]⟩)]⟩
  else none)
  else none)))
  else none)
  else none)
  else k (.exit 0) ⟨[(4, AV.ptr [0, 4] 0 0), (6, AV.ptr [0, 6] 0 0)], [([0, 0, 6], ⟨false, [.int .i64], h0⟩), ([0, 1, 6], ⟨false, [.int .i64], h1⟩), ([0, 2], ⟨true, [], [AV.agg [AV.sl [.int .i64] h2_0, AV.sl [.int .i64] h2_1, AV.sl [.int .i64, .int .i64] h2_2]]⟩), ([0, 2, 6], ⟨false, [.int .i64, .int .i64], h3⟩), ([0, 4], ⟨true, [], [AV.agg [AV.snil, AV.snil, AV.snil]]⟩), ([0, 6], ⟨true, [], [AV.agg [AV.own [0, 0, 6], AV.own [0, 1, 6], AV.own [0, 2, 6]]]⟩)]⟩) := by kernel_rfl
theorem st109_0 (t1 : List AV) (h2_0 : List AV) (h2_1 : List AV) (h2_2 : List AV) (h3 : List AV) (ce : CallE) (k : Kont) (s : (Int × (List AV) × (List AV))) (next : St → Option AV) : stepA (codeA c109 ce [] 109 0 (sub [1, 1, 1, 0, 1, 0, 0] (body Tryz.f109))) (normA [] [1, 2, 4, 6, 7]) next ((fun s : Int × (List AV) × (List AV) => ⟨[(1, AV.sl [.int .i64, .int .i64] t1), (2, AV.ptr [0, 2] 0 0), (4, AV.ptr [0, 4] 0 0), (6, AV.ptr [0, 6] 0 0), (7, AV.int .i64 s.1)], [([0, 0, 6], ⟨false, [.int .i64], s.2.1⟩), ([0, 1, 6], ⟨false, [.int .i64], s.2.2⟩), ([0, 2], ⟨true, [], [AV.agg [AV.sl [.int .i64] h2_0, AV.sl [.int .i64] h2_1, AV.sl [.int .i64, .int .i64] h2_2]]⟩), ([0, 2, 6], ⟨false, [.int .i64, .int .i64], h3⟩), ([0, 4], ⟨true, [], [AV.agg [AV.snil, AV.snil, AV.snil]]⟩), ([0, 6], ⟨true, [], [AV.agg [AV.own [0, 0, 6], AV.own [0, 1, 6], AV.own [0, 2, 6]]]⟩)]⟩) s) k = (R109_0 t1 h2_0 h2_1 h2_2 h3 s).el none (fun s => next ((fun s : Int × (List AV) × (List AV) => ⟨[(1, AV.sl [.int .i64, .int .i64] t1), (2, AV.ptr [0, 2] 0 0), (4, AV.ptr [0, 4] 0 0), (6, AV.ptr [0, 6] 0 0), (7, AV.int .i64 s.1)], [([0, 0, 6], ⟨false, [.int .i64], s.2.1⟩), ([0, 1, 6], ⟨false, [.int .i64], s.2.2⟩), ([0, 2], ⟨true, [], [AV.agg [AV.sl [.int .i64] h2_0, AV.sl [.int .i64] h2_1, AV.sl [.int .i64, .int .i64] h2_2]]⟩), ([0, 2, 6], ⟨false, [.int .i64, .int .i64], h3⟩), ([0, 4], ⟨true, [], [AV.agg [AV.snil, AV.snil, AV.snil]]⟩), ([0, 6], ⟨true, [], [AV.agg [AV.own [0, 0, 6], AV.own [0, 1, 6], AV.own [0, 2, 6]]]⟩)]⟩) s)) (sumE (fun p : (List AV) × (List AV) => k (.exit 0) ⟨[(4, AV.ptr [0, 4] 0 0), (6, AV.ptr [0, 6] 0 0)], [([0, 0, 6], ⟨false, [.int .i64], p.1⟩), ([0, 1, 6], ⟨false, [.int .i64], p.2⟩), ([0, 2], ⟨true, [], [AV.agg [AV.sl [.int .i64] h2_0, AV.sl [.int .i64] h2_1, AV.sl [.int .i64, .int .i64] h2_2]]⟩), ([0, 2, 6], ⟨false, [.int .i64, .int .i64], h3⟩), ([0, 4], ⟨true, [], [AV.agg [AV.snil, AV.snil, AV.snil]]⟩), ([0, 6], ⟨true, [], [AV.agg [AV.own [0, 0, 6], AV.own [0, 1, 6], AV.own [0, 2, 6]]]⟩)]⟩) (fun p : (List AV) × (List AV) × (List AV) × (List AV) × (List AV) => k .ret ⟨[(4, AV.ptr [0, 4] 0 0), (5, AV.bool false)], [([0, 0, 6], ⟨false, [.int .i64], p.1⟩), ([0, 1, 6], ⟨false, [.int .i64], p.2.1⟩), ([0, 1, 53], ⟨false, [.int .i64], p.2.2.1⟩), ([0, 2], ⟨true, [], [AV.agg [AV.sl [.int .i64] h2_0, AV.sl [.int .i64] h2_1, AV.sl [.int .i64, .int .i64] h2_2]]⟩), ([0, 2, 6], ⟨false, [.int .i64, .int .i64], h3⟩), ([0, 4], ⟨true, [], [AV.agg [AV.own [0, 1, 53], AV.own [1, 1, 53], AV.own [2, 1, 53]]]⟩), ([0, 6], ⟨true, [], [AV.agg [AV.own [0, 0, 6], AV.own [0, 1, 6], AV.own [0, 2, 6]]]⟩), ([1, 1, 53], ⟨false, [.int .i64], p.2.2.2.1⟩), ([2, 1, 53], ⟨false, [.int .i64, .int .i64], p.2.2.2.2⟩)]⟩)) := (s109_0 ce t1 s.1 s.2.1 s.2.2 h2_0 h2_1 h2_2 h3 next k).trans (by unfold R109_0; unfold F109_0; simp only [el_cond, el_ro, el_sum, el_fail, el_next, el_stop] <;> rfl)
theorem ok109_0 {ce : CallE} : LoopOK c109 ce [] 109 0 (sub [1, 1, 1, 0, 1, 0, 0] (body Tryz.f109)) := by
  intro m hm st k r h
  obtain rfl : l109_0 = m := Option.some.inj hm
  unfold l109_0 at h
  split at h
  · rename_i g0 t1 g1 g2 g3 g4 g5 g6 g7 g8 g9 t7 g10 g11 h0 g12 g13 h1 g14 g15 h2_0 g16 h2_1 g17 h2_2 g18 g19 h3 g20 g21 g22 g23 g24
    obtain ⟨hg, h⟩ := bif_some h
    simp only [Bool.and_eq_true] at hg
    obtain ⟨⟨⟨⟨⟨⟨⟨⟨⟨⟨⟨⟨⟨⟨⟨⟨⟨⟨⟨⟨⟨⟨⟨⟨q0, q1⟩, q2⟩, q3⟩, q4⟩, q5⟩, q6⟩, q7⟩, q8⟩, q9⟩, q10⟩, q11⟩, q12⟩, q13⟩, q14⟩, q15⟩, q16⟩, q17⟩, q18⟩, q19⟩, q20⟩, q21⟩, q22⟩, q23⟩, q24⟩ := hg
    obtain rfl := ctsEq_eq _ _ q0
    obtain rfl := (nmEq_iff _ _).1 q1
    obtain rfl := Nat.eq_of_beq_eq_true q2
    obtain rfl := Nat.eq_of_beq_eq_true q3
    obtain rfl := (nmEq_iff _ _).1 q4
    obtain rfl := Nat.eq_of_beq_eq_true q5
    obtain rfl := Nat.eq_of_beq_eq_true q6
    obtain rfl := (nmEq_iff _ _).1 q7
    obtain rfl := Nat.eq_of_beq_eq_true q8
    obtain rfl := Nat.eq_of_beq_eq_true q9
    obtain rfl := (nmEq_iff _ _).1 q10
    obtain rfl := ctsEq_eq _ _ q11
    obtain rfl := (nmEq_iff _ _).1 q12
    obtain rfl := ctsEq_eq _ _ q13
    obtain rfl := (nmEq_iff _ _).1 q14
    obtain rfl := ctsEq_eq _ _ q15
    obtain rfl := ctsEq_eq _ _ q16
    obtain rfl := ctsEq_eq _ _ q17
    obtain rfl := (nmEq_iff _ _).1 q18
    obtain rfl := ctsEq_eq _ _ q19
    obtain rfl := (nmEq_iff _ _).1 q20
    obtain rfl := (nmEq_iff _ _).1 q21
    obtain rfl := (nmEq_iff _ _).1 q22
    obtain rfl := (nmEq_iff _ _).1 q23
    obtain rfl := (nmEq_iff _ _).1 q24
    refine ⟨(((t1.length : Int) - t7).toNat + 1), ?_⟩
    rw [← h]
    exact loop_run (fun s : Int × (List AV) × (List AV) => ⟨[(1, AV.sl [.int .i64, .int .i64] t1), (2, AV.ptr [0, 2] 0 0), (4, AV.ptr [0, 4] 0 0), (6, AV.ptr [0, 6] 0 0), (7, AV.int .i64 s.1)], [([0, 0, 6], ⟨false, [.int .i64], s.2.1⟩), ([0, 1, 6], ⟨false, [.int .i64], s.2.2⟩), ([0, 2], ⟨true, [], [AV.agg [AV.sl [.int .i64] h2_0, AV.sl [.int .i64] h2_1, AV.sl [.int .i64, .int .i64] h2_2]]⟩), ([0, 2, 6], ⟨false, [.int .i64, .int .i64], h3⟩), ([0, 4], ⟨true, [], [AV.agg [AV.snil, AV.snil, AV.snil]]⟩), ([0, 6], ⟨true, [], [AV.agg [AV.own [0, 0, 6], AV.own [0, 1, 6], AV.own [0, 2, 6]]]⟩)]⟩) (sumE (fun p : (List AV) × (List AV) => k (.exit 0) ⟨[(4, AV.ptr [0, 4] 0 0), (6, AV.ptr [0, 6] 0 0)], [([0, 0, 6], ⟨false, [.int .i64], p.1⟩), ([0, 1, 6], ⟨false, [.int .i64], p.2⟩), ([0, 2], ⟨true, [], [AV.agg [AV.sl [.int .i64] h2_0, AV.sl [.int .i64] h2_1, AV.sl [.int .i64, .int .i64] h2_2]]⟩), ([0, 2, 6], ⟨false, [.int .i64, .int .i64], h3⟩), ([0, 4], ⟨true, [], [AV.agg [AV.snil, AV.snil, AV.snil]]⟩), ([0, 6], ⟨true, [], [AV.agg [AV.own [0, 0, 6], AV.own [0, 1, 6], AV.own [0, 2, 6]]]⟩)]⟩) (fun p : (List AV) × (List AV) × (List AV) × (List AV) × (List AV) => k .ret ⟨[(4, AV.ptr [0, 4] 0 0), (5, AV.bool false)], [([0, 0, 6], ⟨false, [.int .i64], p.1⟩), ([0, 1, 6], ⟨false, [.int .i64], p.2.1⟩), ([0, 1, 53], ⟨false, [.int .i64], p.2.2.1⟩), ([0, 2], ⟨true, [], [AV.agg [AV.sl [.int .i64] h2_0, AV.sl [.int .i64] h2_1, AV.sl [.int .i64, .int .i64] h2_2]]⟩), ([0, 2, 6], ⟨false, [.int .i64, .int .i64], h3⟩), ([0, 4], ⟨true, [], [AV.agg [AV.own [0, 1, 53], AV.own [1, 1, 53], AV.own [2, 1, 53]]]⟩), ([0, 6], ⟨true, [], [AV.agg [AV.own [0, 0, 6], AV.own [0, 1, 6], AV.own [0, 2, 6]]]⟩), ([1, 1, 53], ⟨false, [.int .i64], p.2.2.2.1⟩), ([2, 1, 53], ⟨false, [.int .i64, .int .i64], p.2.2.2.2⟩)]⟩)) (st109_0 t1 h2_0 h2_1 h2_2 h3 ce k) _ (t7, h0, h1)
  · cases h
def q109 (a0_0 : List AV) (a0_1 : List AV) (a0_2 : List AV) (a1 : List AV) : Bool := (q64 a0_0 a0_1 a0_2 && (bif !decide (((v64_1 a0_0 a0_1 a0_2).length : Int) = ((v64_0 a0_0 a0_1 a0_2).length : Int)) then true else (ro (runW (R109_0 a1 a0_0 a0_1 a0_2 (v64_2 a0_0 a0_1 a0_2)) (((a1.length : Int) - 0).toNat + 1) (0, (v64_0 a0_0 a0_1 a0_2), (v64_1 a0_0 a0_1 a0_2))) false (sumE (fun p26 => true) (fun p27 => true)))))
def v109_0 (a0_0 : List AV) (a0_1 : List AV) (a0_2 : List AV) (a1 : List AV) : List AV := (bif !decide (((v64_1 a0_0 a0_1 a0_2).length : Int) = ((v64_0 a0_0 a0_1 a0_2).length : Int)) then (v64_0 a0_0 a0_1 a0_2) else (ro (runW (R109_0 a1 a0_0 a0_1 a0_2 (v64_2 a0_0 a0_1 a0_2)) (((a1.length : Int) - 0).toNat + 1) (0, (v64_0 a0_0 a0_1 a0_2), (v64_1 a0_0 a0_1 a0_2))) [] (sumE (fun p26 => p26.1) (fun p27 => p27.2.2.1))))
def v109_1 (a0_0 : List AV) (a0_1 : List AV) (a0_2 : List AV) (a1 : List AV) : List AV := (bif !decide (((v64_1 a0_0 a0_1 a0_2).length : Int) = ((v64_0 a0_0 a0_1 a0_2).length : Int)) then (v64_1 a0_0 a0_1 a0_2) else (ro (runW (R109_0 a1 a0_0 a0_1 a0_2 (v64_2 a0_0 a0_1 a0_2)) (((a1.length : Int) - 0).toNat + 1) (0, (v64_0 a0_0 a0_1 a0_2), (v64_1 a0_0 a0_1 a0_2))) [] (sumE (fun p26 => p26.2) (fun p27 => p27.2.2.2.1))))
def v109_2 (a0_0 : List AV) (a0_1 : List AV) (a0_2 : List AV) (a1 : List AV) : List AV := (bif !decide (((v64_1 a0_0 a0_1 a0_2).length : Int) = ((v64_0 a0_0 a0_1 a0_2).length : Int)) then (v64_2 a0_0 a0_1 a0_2) else (ro (runW (R109_0 a1 a0_0 a0_1 a0_2 (v64_2 a0_0 a0_1 a0_2)) (((a1.length : Int) - 0).toNat + 1) (0, (v64_0 a0_0 a0_1 a0_2), (v64_1 a0_0 a0_1 a0_2))) [] (sumE (fun p26 => (v64_2 a0_0 a0_1 a0_2)) (fun p27 => p27.2.2.2.2))))
def v109_3 (a0_0 : List AV) (a0_1 : List AV) (a0_2 : List AV) (a1 : List AV) : Bool := (bif !decide (((v64_1 a0_0 a0_1 a0_2).length : Int) = ((v64_0 a0_0 a0_1 a0_2).length : Int)) then false else (ro (runW (R109_0 a1 a0_0 a0_1 a0_2 (v64_2 a0_0 a0_1 a0_2)) (((a1.length : Int) - 0).toNat + 1) (0, (v64_0 a0_0 a0_1 a0_2), (v64_1 a0_0 a0_1 a0_2))) false (sumE (fun p26 => true) (fun p27 => false))))
theorem e109 (a0_0 : List AV) (a0_1 : List AV) (a0_2 : List AV) (a1 : List AV) : funA c109 0 109 [AV.agg [AV.sl [.int .i64] a0_0, AV.sl [.int .i64] a0_1, AV.sl [.int .i64, .int .i64] a0_2], AV.sl [.int .i64, .int .i64] a1] = (bif q64 a0_0 a0_1 a0_2 then (bif !decide (((v64_1 a0_0 a0_1 a0_2).length : Int) = ((v64_0 a0_0 a0_1 a0_2).length : Int)) then some (AV.tup [AV.agg [AV.fl [.int .i64] (v64_0 a0_0 a0_1 a0_2), AV.fl [.int .i64] (v64_1 a0_0 a0_1 a0_2), AV.fl [.int .i64, .int .i64] (v64_2 a0_0 a0_1 a0_2)], AV.bool false])
  else (ro (runW (R109_0 a1 a0_0 a0_1 a0_2 (v64_2 a0_0 a0_1 a0_2)) (((a1.length : Int) - 0).toNat + 1) (0, (v64_0 a0_0 a0_1 a0_2), (v64_1 a0_0 a0_1 a0_2))) none (sumE (fun p26 => some (AV.tup [AV.agg [AV.fl [.int .i64] p26.1, AV.fl [.int .i64] p26.2, AV.fl [.int .i64, .int .i64] (v64_2 a0_0 a0_1 a0_2)], AV.bool true])) (fun p27 => some (AV.tup [AV.agg [AV.fl [.int .i64] p27.2.2.1, AV.fl [.int .i64] p27.2.2.2.1, AV.fl [.int .i64, .int .i64] p27.2.2.2.2], AV.bool false])))))
  else none) := by kernel_rfl
theorem r109 (a0_0 : List AV) (a0_1 : List AV) (a0_2 : List AV) (a1 : List AV) (h : q109 a0_0 a0_1 a0_2 a1 = true) : funA c109 0 109 [AV.agg [AV.sl [.int .i64] a0_0, AV.sl [.int .i64] a0_1, AV.sl [.int .i64, .int .i64] a0_2], AV.sl [.int .i64, .int .i64] a1] = some (AV.tup [AV.agg [AV.fl [.int .i64] (v109_0 a0_0 a0_1 a0_2 a1), AV.fl [.int .i64] (v109_1 a0_0 a0_1 a0_2 a1), AV.fl [.int .i64, .int .i64] (v109_2 a0_0 a0_1 a0_2 a1)], AV.bool (v109_3 a0_0 a0_1 a0_2 a1)]) := (e109 a0_0 a0_1 a0_2 a1).trans ((brL (br (fun b => some (AV.tup [AV.agg [AV.fl [.int .i64] (bif b then (v64_0 a0_0 a0_1 a0_2) else (ro (runW (R109_0 a1 a0_0 a0_1 a0_2 (v64_2 a0_0 a0_1 a0_2)) (((a1.length : Int) - 0).toNat + 1) (0, (v64_0 a0_0 a0_1 a0_2), (v64_1 a0_0 a0_1 a0_2))) [] (sumE (fun p26 => p26.1) (fun p27 => p27.2.2.1)))), AV.fl [.int .i64] (bif b then (v64_1 a0_0 a0_1 a0_2) else (ro (runW (R109_0 a1 a0_0 a0_1 a0_2 (v64_2 a0_0 a0_1 a0_2)) (((a1.length : Int) - 0).toNat + 1) (0, (v64_0 a0_0 a0_1 a0_2), (v64_1 a0_0 a0_1 a0_2))) [] (sumE (fun p26 => p26.2) (fun p27 => p27.2.2.2.1)))), AV.fl [.int .i64, .int .i64] (bif b then (v64_2 a0_0 a0_1 a0_2) else (ro (runW (R109_0 a1 a0_0 a0_1 a0_2 (v64_2 a0_0 a0_1 a0_2)) (((a1.length : Int) - 0).toNat + 1) (0, (v64_0 a0_0 a0_1 a0_2), (v64_1 a0_0 a0_1 a0_2))) [] (sumE (fun p26 => (v64_2 a0_0 a0_1 a0_2)) (fun p27 => p27.2.2.2.2))))], AV.bool (bif b then false else (ro (runW (R109_0 a1 a0_0 a0_1 a0_2 (v64_2 a0_0 a0_1 a0_2)) (((a1.length : Int) - 0).toNat + 1) (0, (v64_0 a0_0 a0_1 a0_2), (v64_1 a0_0 a0_1 a0_2))) false (sumE (fun p26 => true) (fun p27 => false))))])) (fun _ => rfl) (brO (fun o : Option (((List AV) × (List AV)) ⊕ ((List AV) × (List AV) × (List AV) × (List AV) × (List AV))) => some (AV.tup [AV.agg [AV.fl [.int .i64] (ro o [] (sumE (fun p26 => p26.1) (fun p27 => p27.2.2.1))), AV.fl [.int .i64] (ro o [] (sumE (fun p26 => p26.2) (fun p27 => p27.2.2.2.1))), AV.fl [.int .i64, .int .i64] (ro o [] (sumE (fun p26 => (v64_2 a0_0 a0_1 a0_2)) (fun p27 => p27.2.2.2.2)))], AV.bool (ro o false (sumE (fun p26 => true) (fun p27 => false)))])) (brS (fun o : ((List AV) × (List AV)) ⊕ ((List AV) × (List AV) × (List AV) × (List AV) × (List AV)) => some (AV.tup [AV.agg [AV.fl [.int .i64] ((sumE (fun p26 => p26.1) (fun p27 => p27.2.2.1)) o), AV.fl [.int .i64] ((sumE (fun p26 => p26.2) (fun p27 => p27.2.2.2.1)) o), AV.fl [.int .i64, .int .i64] ((sumE (fun p26 => (v64_2 a0_0 a0_1 a0_2)) (fun p27 => p27.2.2.2.2)) o)], AV.bool ((sumE (fun p26 => true) (fun p27 => false)) o)])) (fun p26 => (fun _ => rfl)) (fun p27 => (fun _ => rfl)))))) h)
def m109 : TModel
  | [.agg [.sl g0 a0_0, .sl g1 a0_1, .sl g2 a0_2], .sl g3 a1] => bif ctsEq g0 ([.int .i64]) && ctsEq g1 ([.int .i64]) && ctsEq g2 ([.int .i64, .int .i64]) && ctsEq g3 ([.int .i64, .int .i64]) then some (q109 a0_0 a0_1 a0_2 a1, AV.tup [AV.agg [AV.fl [.int .i64] (v109_0 a0_0 a0_1 a0_2 a1), AV.fl [.int .i64] (v109_1 a0_0 a0_1 a0_2 a1), AV.fl [.int .i64, .int .i64] (v109_2 a0_0 a0_1 a0_2 a1)], AV.bool (v109_3 a0_0 a0_1 a0_2 a1)]) else none
  | _ => none
theorem k109 : Known Tryz.prog 109 := ⟨Tryz.f109, Tryz.func109, by kernel_rfl, by kernel_rfl⟩
theorem meets109 : Meets Tryz.prog 109 m109 := by
  refine meet (f := Tryz.f109) (l := [(0, sub [1, 1, 1, 0, 1, 0, 0] (body Tryz.f109))]) (hs := [(109, 0, [1, 2, 4, 6, 7]), (109, 999, [4, 5]), (109, 1000, [4, 6]), (109, 1001, [1, 2, 4, 6, 7])]) (ts := [(23, m23), (64, m64)]) (ws := [(111, m111)]) (is := []) (ls := [(109, 0, l109_0)]) (lvl := 0) mixed k109 Tryz.func109 (by kernel_rfl) (loops_cons ok109_0 noLoop) (allT_cons meets23 (allT_cons meets64 allT_nil)) (allM_cons meets111 allM_nil) noI fun w xs us r hl hv h => ?_
  unfold m109 at h
  split at h
  · rename_i g0 a0_0 g1 a0_1 g2 a0_2 g3 a1
    obtain ⟨hg, h⟩ := bif_pair h
    simp only [Bool.and_eq_true] at hg
    obtain ⟨⟨⟨q0, q1⟩, q2⟩, q3⟩ := hg
    obtain rfl := ctsEq_eq _ _ q0
    obtain rfl := ctsEq_eq _ _ q1
    obtain rfl := ctsEq_eq _ _ q2
    obtain rfl := ctsEq_eq _ _ q3
    obtain ⟨h1, rfl⟩ := pair_inj h
    exact r109 a0_0 a0_1 a0_2 a1 h1
  · cases h

/-! ### 110 loop.example/g01984/spec.AddPivot -/
def F110_0 (h0 : List AV) (h1 : List AV) (h2_0 : List AV) (h2_1 : List AV) (h2_2 : List AV) (h4_0 : Int) (h4_1 : Int) (t7 : Bool) (t8 : Int) (h3 : List AV) : Out ((Bool × Int × (List AV))) ((Bool × (List AV))) := (bif decide (t8 < (h2_2.length : Int)) then (bif !t7 then (bif (decide (0 ≤ t8) && decide (t8 < (h2_2.length : Int))) then (bif decide (fI (h2_2.getD t8.toNat AV.undef) 0 > h4_0) then (bif (decide ((h3.length + ([AV.agg [AV.int .i64 h4_0, AV.int .i64 h4_1]]).length) * 16 ≤ 140737488355328) && decide ((h3.length + ([AV.agg [AV.int .i64 h4_0, AV.int .i64 h4_1]]).length) ≤ 140737488355328)) then (bif (decide (0 ≤ t8) && decide (t8 < (h2_2.length : Int))) then (bif (decide (((h3 ++ ([AV.agg [AV.int .i64 h4_0, AV.int .i64 h4_1]])).length + ([AV.agg [AV.int .i64 (fI (h2_2.getD t8.toNat AV.undef) 0), AV.int .i64 (fI (h2_2.getD t8.toNat AV.undef) 1)]]).length) * 16 ≤ 140737488355328) && decide (((h3 ++ ([AV.agg [AV.int .i64 h4_0, AV.int .i64 h4_1]])).length + ([AV.agg [AV.int .i64 (fI (h2_2.getD t8.toNat AV.undef) 0), AV.int .i64 (fI (h2_2.getD t8.toNat AV.undef) 1)]]).length) ≤ 140737488355328)) then .next (true, IntKind.i64.wrap (t8 + 1), (h3 ++ ([AV.agg [AV.int .i64 h4_0, AV.int .i64 h4_1]])) ++ ([AV.agg [AV.int .i64 (fI (h2_2.getD t8.toNat AV.undef) 0), AV.int .i64 (fI (h2_2.getD t8.toNat AV.undef) 1)]]))
  else .fail)
  else .fail)
  else .fail)
  else (bif (decide (0 ≤ t8) && decide (t8 < (h2_2.length : Int))) then (bif (decide ((h3.length + ([AV.agg [AV.int .i64 (fI (h2_2.getD t8.toNat AV.undef) 0), AV.int .i64 (fI (h2_2.getD t8.toNat AV.undef) 1)]]).length) * 16 ≤ 140737488355328) && decide ((h3.length + ([AV.agg [AV.int .i64 (fI (h2_2.getD t8.toNat AV.undef) 0), AV.int .i64 (fI (h2_2.getD t8.toNat AV.undef) 1)]]).length) ≤ 140737488355328)) then .next (t7, IntKind.i64.wrap (t8 + 1), h3 ++ ([AV.agg [AV.int .i64 (fI (h2_2.getD t8.toNat AV.undef) 0), AV.int .i64 (fI (h2_2.getD t8.toNat AV.undef) 1)]]))
  else .fail)
  else .fail))
  else .fail)
  else (bif (decide (0 ≤ t8) && decide (t8 < (h2_2.length : Int))) then (bif (decide ((h3.length + ([AV.agg [AV.int .i64 (fI (h2_2.getD t8.toNat AV.undef) 0), AV.int .i64 (fI (h2_2.getD t8.toNat AV.undef) 1)]]).length) * 16 ≤ 140737488355328) && decide ((h3.length + ([AV.agg [AV.int .i64 (fI (h2_2.getD t8.toNat AV.undef) 0), AV.int .i64 (fI (h2_2.getD t8.toNat AV.undef) 1)]]).length) ≤ 140737488355328)) then .next (t7, IntKind.i64.wrap (t8 + 1), h3 ++ ([AV.agg [AV.int .i64 (fI (h2_2.getD t8.toNat AV.undef) 0), AV.int .i64 (fI (h2_2.getD t8.toNat AV.undef) 1)]]))
  else .fail)
  else .fail))
  else .stop (t7, h3))
def R110_0 (h0 : List AV) (h1 : List AV) (h2_0 : List AV) (h2_1 : List AV) (h2_2 : List AV) (h4_0 : Int) (h4_1 : Int) : ((Bool × Int × (List AV))) → Out ((Bool × Int × (List AV))) ((Bool × (List AV))) := fun s : Bool × Int × (List AV) => F110_0 h0 h1 h2_0 h2_1 h2_2 h4_0 h4_1 s.1 s.2.1 s.2.2
def l110_0 : LModel := fun _ _ st k => match st with
  | ⟨[(2, .ptr g0 g1 g2), (3, .ptr g3 g4 g5), (4, .ptr g6 g7 g8), (6, .ptr g9 g10 g11), (7, .bool t7), (8, .int .i64 t8)], [(g12, ⟨false, g13, h0⟩), (g14, ⟨false, g15, h1⟩), (g16, ⟨true, [], [.agg [.sl g17 h2_0, .sl g18 h2_1, .sl g19 h2_2]]⟩), (g20, ⟨false, g21, h3⟩), (g22, ⟨true, [], [.agg [.int .i64 h4_0, .int .i64 h4_1]]⟩), (g23, ⟨true, [], [.agg [.snil, .snil, .snil]]⟩), (g24, ⟨true, [], [.agg [.own g25, .own g26, .own g27]]⟩)]⟩ => bif nmEq g0 ([0, 2]) && Nat.beq g1 0 && Nat.beq g2 0 && nmEq g3 ([0, 3]) && Nat.beq g4 0 && Nat.beq g5 0 && nmEq g6 ([0, 4]) && Nat.beq g7 0 && Nat.beq g8 0 && nmEq g9 ([0, 6]) && Nat.beq g10 0 && Nat.beq g11 0 && nmEq g12 ([0, 0, 6]) && ctsEq g13 ([.int .i64]) && nmEq g14 ([0, 1, 6]) && ctsEq g15 ([.int .i64]) && nmEq g16 ([0, 2]) && ctsEq g17 ([.int .i64]) && ctsEq g18 ([.int .i64]) && ctsEq g19 ([.int .i64, .int .i64]) && nmEq g20 ([0, 2, 6]) && ctsEq g21 ([.int .i64, .int .i64]) && nmEq g22 ([0, 3]) && nmEq g23 ([0, 4]) && nmEq g24 ([0, 6]) && nmEq g25 ([0, 0, 6]) && nmEq g26 ([0, 1, 6]) && nmEq g27 ([0, 2, 6]) then ro (runW (R110_0 h0 h1 h2_0 h2_1 h2_2 h4_0 h4_1) (((h2_2.length : Int) - t8).toNat + 1) (t7, t8, h3)) none (fun p : Bool × (List AV) => k (.exit 0) ⟨[(2, AV.ptr [0, 2] 0 0), (3, AV.ptr [0, 3] 0 0), (4, AV.ptr [0, 4] 0 0), (6, AV.ptr [0, 6] 0 0), (7, AV.bool p.1)], [([0, 0, 6], ⟨false, [.int .i64], h0⟩), ([0, 1, 6], ⟨false, [.int .i64], h1⟩), ([0, 2], ⟨true, [], [AV.agg [AV.sl [.int .i64] h2_0, AV.sl [.int .i64] h2_1, AV.sl [.int .i64, .int .i64] h2_2]]⟩), ([0, 2, 6], ⟨false, [.int .i64, .int .i64], p.2⟩), ([0, 3], ⟨true, [], [AV.agg [AV.int .i64 h4_0, AV.int .i64 h4_1]]⟩), ([0, 4], ⟨true, [], [AV.agg [AV.snil, AV.snil, AV.snil]]⟩), ([0, 6], ⟨true, [], [AV.agg [AV.own [0, 0, 6], AV.own [0, 1, 6], AV.own [0, 2, 6]]]⟩)]⟩) else none
  | _ => none
noncomputable def c110 : Cfg := cfg Tryz.prog [(110, 0, [2, 3, 4, 6, 7, 8]), (110, 999, [4, 5]), (110, 1000, [2, 3, 4, 6, 7]), (110, 1001, [2, 3, 4, 6, 7, 8])] [(64, m64), (65, m65)] [] [] [(110, 0, l110_0)]
theorem s110_0 (ce : CallE) (t7 : Bool) (t8 : Int) (h0 : List AV) (h1 : List AV) (h2_0 : List AV) (h2_1 : List AV) (h2_2 : List AV) (h3 : List AV) (h4_0 : Int) (h4_1 : Int) (next : St → Option AV) (k : Kont) : stepA (codeA c110 ce [] 110 0 (sub [1, 1, 1, 1, 0, 1, 0, 0] (body Tryz.f110))) (normA [] [2, 3, 4, 6, 7, 8]) next ⟨[(2, AV.ptr [0, 2] 0 0), (3, AV.ptr [0, 3] 0 0), (4, AV.ptr [0, 4] 0 0), (6, AV.ptr [0, 6] 0 0), (7, AV.bool t7), (8, AV.int .i64 t8)], [([0, 0, 6], ⟨false, [.int .i64], h0⟩), ([0, 1, 6], ⟨false, [.int .i64], h1⟩), ([0, 2], ⟨true, [], [AV.agg [AV.sl [.int .i64] h2_0, AV.sl [.int .i64] h2_1, AV.sl [.int .i64, .int .i64] h2_2]]⟩), ([0, 2, 6], ⟨false, [.int .i64, .int .i64], h3⟩), ([0, 3], ⟨true, [], [AV.agg [AV.int .i64 h4_0, AV.int .i64 h4_1]]⟩), ([0, 4], ⟨true, [], [AV.agg [AV.snil, AV.snil, AV.snil]]⟩), ([0, 6], ⟨true, [], [AV.agg [AV.own [0, 0, 6], AV.own [0, 1, 6], AV.own [0, 2, 6]]]⟩)]⟩ k = (bif decide (t8 < (h2_2.length : Int)) then (bif !t7 then (bif (decide (0 ≤ t8) && decide (t8 < (h2_2.length : Int))) then (bif decide (fI (h2_2.getD t8.toNat AV.undef) 0 > h4_0) then (bif (decide ((h3.length + ([AV.agg [AV.int .i64 h4_0, AV.int .i64 h4_1]]).length) * 16 ≤ 140737488355328) && decide ((h3.length + ([AV.agg [AV.int .i64 h4_0, AV.int .i64 h4_1]]).length) ≤ 140737488355328)) then (bif (decide (0 ≤ t8) && decide (t8 < (h2_2.length : Int))) then (bif (decide (((h3 ++ ([AV.agg [AV.int .i64 h4_0, AV.int .i64 h4_1]])).length + ([AV.agg [AV.int .i64 (fI (h2_2.getD t8.toNat AV.undef) 0), AV.int .i64 (fI (h2_2.getD t8.toNat AV.undef) 1)]]).length) * 16 ≤ 140737488355328) && decide (((h3 ++ ([AV.agg [AV.int .i64 h4_0, AV.int .i64 h4_1]])).length + ([AV.agg [AV.int .i64 (fI (h2_2.getD t8.toNat AV.undef) 0), AV.int .i64 (fI (h2_2.getD t8.toNat AV.undef) 1)]]).length) ≤ 140737488355328)) then next ⟨[(2, AV.ptr [0, 2] 0 0), (3, AV.ptr [0, 3] 0 0), (4, AV.ptr [0, 4] 0 0), (6, AV.ptr [0, 6] 0 0), (7, AV.bool true), (8, AV.int .i64 (IntKind.i64.wrap (t8 + 1)))], [([0, 0, 6], ⟨false, [.int .i64], h0⟩), ([0, 1, 6], ⟨false, [.int .i64], h1⟩), ([0, 2], ⟨true, [], [AV.agg [AV.sl [.int .i64] h2_0, AV.sl [.int .i64] h2_1, AV.sl [.int .i64, .int .i64] h2_2]]⟩), ([0, 2, 6], ⟨false, [.int .i64, .int .i64], (h3 ++ ([AV.agg [AV.int .i64 h4_0, AV.int .i64 h4_1]])) ++ ([AV.agg [AV.int .i64 (fI (h2_2.getD t8.toNat AV.undef) 0), AV.int .i64 (fI (h2_2.getD t8.toNat AV.undef) 1)]])⟩), ([0, 3], ⟨true, [], [AV.agg [AV.int .i64 h4_0, AV.int .i64 h4_1]]⟩), ([0, 4], ⟨true, [], [AV.agg [AV.snil, AV.snil, AV.snil]]⟩), ([0, 6], ⟨true, [], [AV.agg [AV.own [0, 0, 6], AV.own [0, 1, 6], AV.own [0, 2, 6]]]⟩)]⟩
  else none)
  else none)
  else none)
  else (bif (decide (0 ≤ t8) && decide (t8 < (h2_2.length : Int))) then (bif (decide ((h3.length + ([AV.agg [AV.int .i64 (fI (h2_2.getD t8.toNat AV.undef) 0), AV.int .i64 (fI (h2_2.getD t8.toNat AV.undef) 1)]]).length) * 16 ≤ 140737488355328) && decide ((h3.length + ([AV.agg [AV.int .i64 (fI (h2_2.getD t8.toNat AV.undef) 0), AV.int .i64 (fI (h2_2.getD t8.toNat AV.undef) 1)]]).length) ≤ 140737488355328)) then next ⟨[(2, AV.ptr [0, 2] 0 0), (3, AV.ptr [0, 3] 0 0), (4, AV.ptr [0, 4] 0 0), (6, AV.ptr [0, 6] 0 0), (7, AV.bool t7), (8, AV.int .i64 (IntKind.i64.wrap (t8 + 1)))], [([0, 0, 6], ⟨false, [.int .i64], h0⟩), ([0, 1, 6], ⟨false, [.int .i64], h1⟩), ([0, 2], ⟨true, [], [AV.agg [AV.sl [.int .i64] h2_0, AV.sl [.int .i64] h2_1, AV.sl [.int .i64, .int .i64] h2_2]]⟩), ([0, 2, 6], ⟨false, [.int .i64, .int .i64], h3 ++ ([AV.agg [AV.int .i64 (fI (h2_2.getD t8.toNat AV.undef) 0), AV.int .i64 (fI (h2_2.getD t8.toNat AV.undef) 1)]])⟩), ([0, 3], ⟨true, [], [AV.agg [AV.int .i64 h4_0, AV.int .i64 h4_1]]⟩), ([0, 4], ⟨true, [], [AV.agg [AV.snil, AV.snil, AV.snil]]⟩), ([0, 6], ⟨true, [], [AV.agg [AV.own [0, 0, 6], AV.own [0, 1, 6], AV.own [0, 2, 6]]]⟩)]⟩
  else none)
  else none))
  else none)
  else (bif (decide (0 ≤ t8) && decide (t8 < (h2_2.length : Int))) then (bif (decide ((h3.length + ([AV.agg [AV.int .i64 (fI (h2_2.getD t8.toNat AV.undef) 0), AV.int .i64 (fI (h2_2.getD t8.toNat AV.undef) 1)]]).length) * 16 ≤ 140737488355328) && decide ((h3.length + ([AV.agg [AV.int .i64 (fI (h2_2.getD t8.toNat AV.undef) 0), AV.int .i64 (fI (h2_2.getD t8.toNat AV.undef) 1)]]).length) ≤ 140737488355328)) then next ⟨[(2, AV.ptr [0, 2] 0 0), (3, AV.ptr [0, 3] 0 0), (4, AV.ptr [0, 4] 0 0), (6, AV.ptr [0, 6] 0 0), (7, AV.bool t7), (8, AV.int .i64 (IntKind.i64.wrap (t8 + 1)))], [([0, 0, 6], ⟨false, [.int .i64], h0⟩), ([0, 1, 6], ⟨false, [.int .i64], h1⟩), ([0, 2], ⟨true, [], [AV.agg [AV.sl [.int .i64] h2_0, AV.sl [.int .i64] h2_1, AV.sl [.int .i64, .int .i64] h2_2]]⟩), ([0, 2, 6], ⟨false, [.int .i64, .int .i64], h3 ++ ([AV.agg [AV.int .i64 (fI (h2_2.getD t8.toNat AV.undef) 0), AV.int .i64 (fI (h2_2.getD t8.toNat AV.undef) 1)]])⟩), ([0, 3], ⟨true, [], [AV.agg [AV.int .i64 h4_0, AV.int .i64 h4_1]]⟩), ([0, 4], ⟨true, [], [AV.agg [AV.snil, AV.snil, AV.snil]]⟩), ([0, 6], ⟨true, [], [AV.agg [AV.own [0, 0, 6], AV.own [0, 1, 6], AV.own [0, 2, 6]]]⟩)]⟩
  else none)
  else none))
  else k (.exit 0) ⟨[(2, AV.ptr [0, 2] 0 0), (3, AV.ptr [0, 3] 0 0), (4, AV.ptr [0, 4] 0 0), (6, AV.ptr [0, 6] 0 0), (7, AV.bool t7)], [([0, 0, 6], ⟨false, [.int .i64], h0⟩), ([0, 1, 6], ⟨false, [.int .i64], h1⟩), ([0, 2], ⟨true, [], [AV.agg [AV.sl [.int .i64] h2_0, AV.sl [.int .i64] h2_1, AV.sl [.int .i64, .int .i64] h2_2]]⟩), ([0, 2, 6], ⟨false, [.int .i64, .int .i64], h3⟩), ([0, 3], ⟨true, [], [AV.agg [AV.int .i64 h4_0, AV.int .i64 h4_1]]⟩), ([0, 4], ⟨true, [], [AV.agg [AV.snil, AV.snil, AV.snil]]⟩), ([0, 6], ⟨true, [], [AV.agg [AV.own [0, 0, 6], AV.own [0, 1, 6], AV.own [0, 2, 6]]]⟩)]⟩) := by kernel_rfl
theorem st110_0 (h0 : List AV) (h1 : List AV) (h2_0 : List AV) (h2_1 : List AV) (h2_2 : List AV) (h4_0 : Int) (h4_1 : Int) (ce : CallE) (k : Kont) (s : (Bool × Int × (List AV))) (next : St → Option AV) : stepA (codeA c110 ce [] 110 0 (sub [1, 1, 1, 1, 0, 1, 0, 0] (body Tryz.f110))) (normA [] [2, 3, 4, 6, 7, 8]) next ((fun s : Bool × Int × (List AV) => ⟨[(2, AV.ptr [0, 2] 0 0), (3, AV.ptr [0, 3] 0 0), (4, AV.ptr [0, 4] 0 0), (6, AV.ptr [0, 6] 0 0), (7, AV.bool s.1), (8, AV.int .i64 s.2.1)], [([0, 0, 6], ⟨false, [.int .i64], h0⟩), ([0, 1, 6], ⟨false, [.int .i64], h1⟩), ([0, 2], ⟨true, [], [AV.agg [AV.sl [.int .i64] h2_0, AV.sl [.int .i64] h2_1, AV.sl [.int .i64, .int .i64] h2_2]]⟩), ([0, 2, 6], ⟨false, [.int .i64, .int .i64], s.2.2⟩), ([0, 3], ⟨true, [], [AV.agg [AV.int .i64 h4_0, AV.int .i64 h4_1]]⟩), ([0, 4], ⟨true, [], [AV.agg [AV.snil, AV.snil, AV.snil]]⟩), ([0, 6], ⟨true, [], [AV.agg [AV.own [0, 0, 6], AV.own [0, 1, 6], AV.own [0, 2, 6]]]⟩)]⟩) s) k = (R110_0 h0 h1 h2_0 h2_1 h2_2 h4_0 h4_1 s).el none (fun s => next ((fun s : Bool × Int × (List AV) => ⟨[(2, AV.ptr [0, 2] 0 0), (3, AV.ptr [0, 3] 0 0), (4, AV.ptr [0, 4] 0 0), (6, AV.ptr [0, 6] 0 0), (7, AV.bool s.1), (8, AV.int .i64 s.2.1)], [([0, 0, 6], ⟨false, [.int .i64], h0⟩), ([0, 1, 6], ⟨false, [.int .i64], h1⟩), ([0, 2], ⟨true, [], [AV.agg [AV.sl [.int .i64] h2_0, AV.sl [.int .i64] h2_1, AV.sl [.int .i64, .int .i64] h2_2]]⟩), ([0, 2, 6], ⟨false, [.int .i64, .int .i64], s.2.2⟩), ([0, 3], ⟨true, [], [AV.agg [AV.int .i64 h4_0, AV.int .i64 h4_1]]⟩), ([0, 4], ⟨true, [], [AV.agg [AV.snil, AV.snil, AV.snil]]⟩), ([0, 6], ⟨true, [], [AV.agg [AV.own [0, 0, 6], AV.own [0, 1, 6], AV.own [0, 2, 6]]]⟩)]⟩) s)) (fun p : Bool × (List AV) => k (.exit 0) ⟨[(2, AV.ptr [0, 2] 0 0), (3, AV.ptr [0, 3] 0 0), (4, AV.ptr [0, 4] 0 0), (6, AV.ptr [0, 6] 0 0), (7, AV.bool p.1)], [([0, 0, 6], ⟨false, [.int .i64], h0⟩), ([0, 1, 6], ⟨false, [.int .i64], h1⟩), ([0, 2], ⟨true, [], [AV.agg [AV.sl [.int .i64] h2_0, AV.sl [.int .i64] h2_1, AV.sl [.int .i64, .int .i64] h2_2]]⟩), ([0, 2, 6], ⟨false, [.int .i64, .int .i64], p.2⟩), ([0, 3], ⟨true, [], [AV.agg [AV.int .i64 h4_0, AV.int .i64 h4_1]]⟩), ([0, 4], ⟨true, [], [AV.agg [AV.snil, AV.snil, AV.snil]]⟩), ([0, 6], ⟨true, [], [AV.agg [AV.own [0, 0, 6], AV.own [0, 1, 6], AV.own [0, 2, 6]]]⟩)]⟩) := (s110_0 ce s.1 s.2.1 h0 h1 h2_0 h2_1 h2_2 s.2.2 h4_0 h4_1 next k).trans (by unfold R110_0; unfold F110_0; simp only [el_cond, el_ro, el_sum, el_fail, el_next, el_stop] <;> rfl)
theorem ok110_0 {ce : CallE} : LoopOK c110 ce [] 110 0 (sub [1, 1, 1, 1, 0, 1, 0, 0] (body Tryz.f110)) := by
  intro m hm st k r h
  obtain rfl : l110_0 = m := Option.some.inj hm
  unfold l110_0 at h
  split at h
  · rename_i g0 g1 g2 g3 g4 g5 g6 g7 g8 g9 g10 g11 t7 t8 g12 g13 h0 g14 g15 h1 g16 g17 h2_0 g18 h2_1 g19 h2_2 g20 g21 h3 g22 h4_0 h4_1 g23 g24 g25 g26 g27
    obtain ⟨hg, h⟩ := bif_some h
    simp only [Bool.and_eq_true] at hg
    obtain ⟨⟨⟨⟨⟨⟨⟨⟨⟨⟨⟨⟨⟨⟨⟨⟨⟨⟨⟨⟨⟨⟨⟨⟨⟨⟨⟨q0, q1⟩, q2⟩, q3⟩, q4⟩, q5⟩, q6⟩, q7⟩, q8⟩, q9⟩, q10⟩, q11⟩, q12⟩, q13⟩, q14⟩, q15⟩, q16⟩, q17⟩, q18⟩, q19⟩, q20⟩, q21⟩, q22⟩, q23⟩, q24⟩, q25⟩, q26⟩, q27⟩ := hg
    obtain rfl := (nmEq_iff _ _).1 q0
    obtain rfl := Nat.eq_of_beq_eq_true q1
    obtain rfl := Nat.eq_of_beq_eq_true q2
    obtain rfl := (nmEq_iff _ _).1 q3
    obtain rfl := Nat.eq_of_beq_eq_true q4
    obtain rfl := Nat.eq_of_beq_eq_true q5
    obtain rfl := (nmEq_iff _ _).1 q6
    obtain rfl := Nat.eq_of_beq_eq_true q7
    obtain rfl := Nat.eq_of_beq_eq_true q8
    obtain rfl := (nmEq_iff _ _).1 q9
    obtain rfl := Nat.eq_of_beq_eq_true q10
    obtain rfl := Nat.eq_of_beq_eq_true q11
    obtain rfl := (nmEq_iff _ _).1 q12
    obtain rfl := ctsEq_eq _ _ q13
    obtain rfl := (nmEq_iff _ _).1 q14
    obtain rfl := ctsEq_eq _ _ q15
    obtain rfl := (nmEq_iff _ _).1 q16
    obtain rfl := ctsEq_eq _ _ q17
    obtain rfl := ctsEq_eq _ _ q18
    obtain rfl := ctsEq_eq _ _ q19
    obtain rfl := (nmEq_iff _ _).1 q20
    obtain rfl := ctsEq_eq _ _ q21
    obtain rfl := (nmEq_iff _ _).1 q22
    obtain rfl := (nmEq_iff _ _).1 q23
    obtain rfl := (nmEq_iff _ _).1 q24
    obtain rfl := (nmEq_iff _ _).1 q25
    obtain rfl := (nmEq_iff _ _).1 q26
    obtain rfl := (nmEq_iff _ _).1 q27
    refine ⟨(((h2_2.length : Int) - t8).toNat + 1), ?_⟩
    rw [← h]
    exact loop_run (fun s : Bool × Int × (List AV) => ⟨[(2, AV.ptr [0, 2] 0 0), (3, AV.ptr [0, 3] 0 0), (4, AV.ptr [0, 4] 0 0), (6, AV.ptr [0, 6] 0 0), (7, AV.bool s.1), (8, AV.int .i64 s.2.1)], [([0, 0, 6], ⟨false, [.int .i64], h0⟩), ([0, 1, 6], ⟨false, [.int .i64], h1⟩), ([0, 2], ⟨true, [], [AV.agg [AV.sl [.int .i64] h2_0, AV.sl [.int .i64] h2_1, AV.sl [.int .i64, .int .i64] h2_2]]⟩), ([0, 2, 6], ⟨false, [.int .i64, .int .i64], s.2.2⟩), ([0, 3], ⟨true, [], [AV.agg [AV.int .i64 h4_0, AV.int .i64 h4_1]]⟩), ([0, 4], ⟨true, [], [AV.agg [AV.snil, AV.snil, AV.snil]]⟩), ([0, 6], ⟨true, [], [AV.agg [AV.own [0, 0, 6], AV.own [0, 1, 6], AV.own [0, 2, 6]]]⟩)]⟩) (fun p : Bool × (List AV) => k (.exit 0) ⟨[(2, AV.ptr [0, 2] 0 0), (3, AV.ptr [0, 3] 0 0), (4, AV.ptr [0, 4] 0 0), (6, AV.ptr [0, 6] 0 0), (7, AV.bool p.1)], [([0, 0, 6], ⟨false, [.int .i64], h0⟩), ([0, 1, 6], ⟨false, [.int .i64], h1⟩), ([0, 2], ⟨true, [], [AV.agg [AV.sl [.int .i64] h2_0, AV.sl [.int .i64] h2_1, AV.sl [.int .i64, .int .i64] h2_2]]⟩), ([0, 2, 6], ⟨false, [.int .i64, .int .i64], p.2⟩), ([0, 3], ⟨true, [], [AV.agg [AV.int .i64 h4_0, AV.int .i64 h4_1]]⟩), ([0, 4], ⟨true, [], [AV.agg [AV.snil, AV.snil, AV.snil]]⟩), ([0, 6], ⟨true, [], [AV.agg [AV.own [0, 0, 6], AV.own [0, 1, 6], AV.own [0, 2, 6]]]⟩)]⟩) (st110_0 h0 h1 h2_0 h2_1 h2_2 h4_0 h4_1 ce k) _ (t7, t8, h3)
  · cases h
def q110 (a0_0 : List AV) (a0_1 : List AV) (a0_2 : List AV) (a1_0 : Int) (a1_1 : Int) : Bool := (q64 a0_0 a0_1 a0_2 && (ro (runW (R110_0 (v64_0 a0_0 a0_1 a0_2) (v64_1 a0_0 a0_1 a0_2) a0_0 a0_1 a0_2 a1_0 a1_1) (((a0_2.length : Int) - 0).toNat + 1) (false, 0, ([] : List AV))) false (fun p28 => (bif !p28.1 then ((decide ((p28.2.length + ([AV.agg [AV.int .i64 a1_0, AV.int .i64 a1_1]]).length) * 16 ≤ 140737488355328) && decide ((p28.2.length + ([AV.agg [AV.int .i64 a1_0, AV.int .i64 a1_1]]).length) ≤ 140737488355328)) && (q65 a0_0 a0_1 a0_2 && (bif !(v65_0 a0_0 a0_1 a0_2) then q64 a0_0 a0_1 a0_2 else (q65 (v64_0 a0_0 a0_1 a0_2) (v64_1 a0_0 a0_1 a0_2) (p28.2 ++ ([AV.agg [AV.int .i64 a1_0, AV.int .i64 a1_1]])) && (bif !(v65_0 (v64_0 a0_0 a0_1 a0_2) (v64_1 a0_0 a0_1 a0_2) (p28.2 ++ ([AV.agg [AV.int .i64 a1_0, AV.int .i64 a1_1]]))) then q64 a0_0 a0_1 a0_2 else true))))) else (q65 a0_0 a0_1 a0_2 && (bif !(v65_0 a0_0 a0_1 a0_2) then q64 a0_0 a0_1 a0_2 else (q65 (v64_0 a0_0 a0_1 a0_2) (v64_1 a0_0 a0_1 a0_2) p28.2 && (bif !(v65_0 (v64_0 a0_0 a0_1 a0_2) (v64_1 a0_0 a0_1 a0_2) p28.2) then q64 a0_0 a0_1 a0_2 else true))))))))
def v110_0 (a0_0 : List AV) (a0_1 : List AV) (a0_2 : List AV) (a1_0 : Int) (a1_1 : Int) : List AV := (v64_0 a0_0 a0_1 a0_2)
def v110_1 (a0_0 : List AV) (a0_1 : List AV) (a0_2 : List AV) (a1_0 : Int) (a1_1 : Int) : List AV := (v64_1 a0_0 a0_1 a0_2)
def v110_2 (a0_0 : List AV) (a0_1 : List AV) (a0_2 : List AV) (a1_0 : Int) (a1_1 : Int) : List AV := (ro (runW (R110_0 (v64_0 a0_0 a0_1 a0_2) (v64_1 a0_0 a0_1 a0_2) a0_0 a0_1 a0_2 a1_0 a1_1) (((a0_2.length : Int) - 0).toNat + 1) (false, 0, ([] : List AV))) [] (fun p28 => (bif !p28.1 then (bif !(v65_0 a0_0 a0_1 a0_2) then (v64_2 a0_0 a0_1 a0_2) else (bif !(v65_0 (v64_0 a0_0 a0_1 a0_2) (v64_1 a0_0 a0_1 a0_2) (p28.2 ++ ([AV.agg [AV.int .i64 a1_0, AV.int .i64 a1_1]]))) then (v64_2 a0_0 a0_1 a0_2) else p28.2 ++ ([AV.agg [AV.int .i64 a1_0, AV.int .i64 a1_1]]))) else (bif !(v65_0 a0_0 a0_1 a0_2) then (v64_2 a0_0 a0_1 a0_2) else (bif !(v65_0 (v64_0 a0_0 a0_1 a0_2) (v64_1 a0_0 a0_1 a0_2) p28.2) then (v64_2 a0_0 a0_1 a0_2) else p28.2)))))
def v110_3 (a0_0 : List AV) (a0_1 : List AV) (a0_2 : List AV) (a1_0 : Int) (a1_1 : Int) : Bool := (ro (runW (R110_0 (v64_0 a0_0 a0_1 a0_2) (v64_1 a0_0 a0_1 a0_2) a0_0 a0_1 a0_2 a1_0 a1_1) (((a0_2.length : Int) - 0).toNat + 1) (false, 0, ([] : List AV))) false (fun p28 => (bif !p28.1 then (bif !(v65_0 a0_0 a0_1 a0_2) then false else (bif !(v65_0 (v64_0 a0_0 a0_1 a0_2) (v64_1 a0_0 a0_1 a0_2) (p28.2 ++ ([AV.agg [AV.int .i64 a1_0, AV.int .i64 a1_1]]))) then false else true)) else (bif !(v65_0 a0_0 a0_1 a0_2) then false else (bif !(v65_0 (v64_0 a0_0 a0_1 a0_2) (v64_1 a0_0 a0_1 a0_2) p28.2) then false else true)))))
theorem e110 (a0_0 : List AV) (a0_1 : List AV) (a0_2 : List AV) (a1_0 : Int) (a1_1 : Int) : funA c110 0 110 [AV.agg [AV.sl [.int .i64] a0_0, AV.sl [.int .i64] a0_1, AV.sl [.int .i64, .int .i64] a0_2], AV.agg [AV.int .i64 a1_0, AV.int .i64 a1_1]] = (bif q64 a0_0 a0_1 a0_2 then (ro (runW (R110_0 (v64_0 a0_0 a0_1 a0_2) (v64_1 a0_0 a0_1 a0_2) a0_0 a0_1 a0_2 a1_0 a1_1) (((a0_2.length : Int) - 0).toNat + 1) (false, 0, ([] : List AV))) none (fun p28 => (bif !p28.1 then (bif (decide ((p28.2.length + ([AV.agg [AV.int .i64 a1_0, AV.int .i64 a1_1]]).length) * 16 ≤ 140737488355328) && decide ((p28.2.length + ([AV.agg [AV.int .i64 a1_0, AV.int .i64 a1_1]]).length) ≤ 140737488355328)) then (bif q65 a0_0 a0_1 a0_2 then (bif !(v65_0 a0_0 a0_1 a0_2) then (bif q64 a0_0 a0_1 a0_2 then some (AV.tup [AV.agg [AV.fl [.int .i64] (v64_0 a0_0 a0_1 a0_2), AV.fl [.int .i64] (v64_1 a0_0 a0_1 a0_2), AV.fl [.int .i64, .int .i64] (v64_2 a0_0 a0_1 a0_2)], AV.bool false])
  else none)
  else (bif q65 (v64_0 a0_0 a0_1 a0_2) (v64_1 a0_0 a0_1 a0_2) (p28.2 ++ ([AV.agg [AV.int .i64 a1_0, AV.int .i64 a1_1]])) then (bif !(v65_0 (v64_0 a0_0 a0_1 a0_2) (v64_1 a0_0 a0_1 a0_2) (p28.2 ++ ([AV.agg [AV.int .i64 a1_0, AV.int .i64 a1_1]]))) then (bif q64 a0_0 a0_1 a0_2 then some (AV.tup [AV.agg [AV.fl [.int .i64] (v64_0 a0_0 a0_1 a0_2), AV.fl [.int .i64] (v64_1 a0_0 a0_1 a0_2), AV.fl [.int .i64, .int .i64] (v64_2 a0_0 a0_1 a0_2)], AV.bool false])
  else none)
  else some (AV.tup [AV.agg [AV.fl [.int .i64] (v64_0 a0_0 a0_1 a0_2), AV.fl [.int .i64] (v64_1 a0_0 a0_1 a0_2), AV.fl [.int .i64, .int .i64] (p28.2 ++ ([AV.agg [AV.int .i64 a1_0, AV.int .i64 a1_1]]))], AV.bool true]))
  else none))
  else none)
  else none)
  else (bif q65 a0_0 a0_1 a0_2 then (bif !(v65_0 a0_0 a0_1 a0_2) then (bif q64 a0_0 a0_1 a0_2 then some (AV.tup [AV.agg [AV.fl [.int .i64] (v64_0 a0_0 a0_1 a0_2), AV.fl [.int .i64] (v64_1 a0_0 a0_1 a0_2), AV.fl [.int .i64, .int .i64] (v64_2 a0_0 a0_1 a0_2)], AV.bool false])
  else none)
  else (bif q65 (v64_0 a0_0 a0_1 a0_2) (v64_1 a0_0 a0_1 a0_2) p28.2 then (bif !(v65_0 (v64_0 a0_0 a0_1 a0_2) (v64_1 a0_0 a0_1 a0_2) p28.2) then (bif q64 a0_0 a0_1 a0_2 then some (AV.tup [AV.agg [AV.fl [.int .i64] (v64_0 a0_0 a0_1 a0_2), AV.fl [.int .i64] (v64_1 a0_0 a0_1 a0_2), AV.fl [.int .i64, .int .i64] (v64_2 a0_0 a0_1 a0_2)], AV.bool false])
  else none)
  else some (AV.tup [AV.agg [AV.fl [.int .i64] (v64_0 a0_0 a0_1 a0_2), AV.fl [.int .i64] (v64_1 a0_0 a0_1 a0_2), AV.fl [.int .i64, .int .i64] p28.2], AV.bool true]))
  else none))
  else none))))
  else none) := by kernel_rfl
theorem r110 (a0_0 : List AV) (a0_1 : List AV) (a0_2 : List AV) (a1_0 : Int) (a1_1 : Int) (h : q110 a0_0 a0_1 a0_2 a1_0 a1_1 = true) : funA c110 0 110 [AV.agg [AV.sl [.int .i64] a0_0, AV.sl [.int .i64] a0_1, AV.sl [.int .i64, .int .i64] a0_2], AV.agg [AV.int .i64 a1_0, AV.int .i64 a1_1]] = some (AV.tup [AV.agg [AV.fl [.int .i64] (v110_0 a0_0 a0_1 a0_2 a1_0 a1_1), AV.fl [.int .i64] (v110_1 a0_0 a0_1 a0_2 a1_0 a1_1), AV.fl [.int .i64, .int .i64] (v110_2 a0_0 a0_1 a0_2 a1_0 a1_1)], AV.bool (v110_3 a0_0 a0_1 a0_2 a1_0 a1_1)]) := (e110 a0_0 a0_1 a0_2 a1_0 a1_1).trans ((brL (brO (fun o : Option ((Bool × (List AV))) => some (AV.tup [AV.agg [AV.fl [.int .i64] (v64_0 a0_0 a0_1 a0_2), AV.fl [.int .i64] (v64_1 a0_0 a0_1 a0_2), AV.fl [.int .i64, .int .i64] (ro o [] (fun p28 => (bif !p28.1 then (bif !(v65_0 a0_0 a0_1 a0_2) then (v64_2 a0_0 a0_1 a0_2) else (bif !(v65_0 (v64_0 a0_0 a0_1 a0_2) (v64_1 a0_0 a0_1 a0_2) (p28.2 ++ ([AV.agg [AV.int .i64 a1_0, AV.int .i64 a1_1]]))) then (v64_2 a0_0 a0_1 a0_2) else p28.2 ++ ([AV.agg [AV.int .i64 a1_0, AV.int .i64 a1_1]]))) else (bif !(v65_0 a0_0 a0_1 a0_2) then (v64_2 a0_0 a0_1 a0_2) else (bif !(v65_0 (v64_0 a0_0 a0_1 a0_2) (v64_1 a0_0 a0_1 a0_2) p28.2) then (v64_2 a0_0 a0_1 a0_2) else p28.2)))))], AV.bool (ro o false (fun p28 => (bif !p28.1 then (bif !(v65_0 a0_0 a0_1 a0_2) then false else (bif !(v65_0 (v64_0 a0_0 a0_1 a0_2) (v64_1 a0_0 a0_1 a0_2) (p28.2 ++ ([AV.agg [AV.int .i64 a1_0, AV.int .i64 a1_1]]))) then false else true)) else (bif !(v65_0 a0_0 a0_1 a0_2) then false else (bif !(v65_0 (v64_0 a0_0 a0_1 a0_2) (v64_1 a0_0 a0_1 a0_2) p28.2) then false else true)))))])) (fun p28 => (br (fun b => some (AV.tup [AV.agg [AV.fl [.int .i64] (v64_0 a0_0 a0_1 a0_2), AV.fl [.int .i64] (v64_1 a0_0 a0_1 a0_2), AV.fl [.int .i64, .int .i64] (bif b then (bif !(v65_0 a0_0 a0_1 a0_2) then (v64_2 a0_0 a0_1 a0_2) else (bif !(v65_0 (v64_0 a0_0 a0_1 a0_2) (v64_1 a0_0 a0_1 a0_2) (p28.2 ++ ([AV.agg [AV.int .i64 a1_0, AV.int .i64 a1_1]]))) then (v64_2 a0_0 a0_1 a0_2) else p28.2 ++ ([AV.agg [AV.int .i64 a1_0, AV.int .i64 a1_1]]))) else (bif !(v65_0 a0_0 a0_1 a0_2) then (v64_2 a0_0 a0_1 a0_2) else (bif !(v65_0 (v64_0 a0_0 a0_1 a0_2) (v64_1 a0_0 a0_1 a0_2) p28.2) then (v64_2 a0_0 a0_1 a0_2) else p28.2)))], AV.bool (bif b then (bif !(v65_0 a0_0 a0_1 a0_2) then false else (bif !(v65_0 (v64_0 a0_0 a0_1 a0_2) (v64_1 a0_0 a0_1 a0_2) (p28.2 ++ ([AV.agg [AV.int .i64 a1_0, AV.int .i64 a1_1]]))) then false else true)) else (bif !(v65_0 a0_0 a0_1 a0_2) then false else (bif !(v65_0 (v64_0 a0_0 a0_1 a0_2) (v64_1 a0_0 a0_1 a0_2) p28.2) then false else true)))])) (brL (brL (br (fun b => some (AV.tup [AV.agg [AV.fl [.int .i64] (v64_0 a0_0 a0_1 a0_2), AV.fl [.int .i64] (v64_1 a0_0 a0_1 a0_2), AV.fl [.int .i64, .int .i64] (bif b then (v64_2 a0_0 a0_1 a0_2) else (bif !(v65_0 (v64_0 a0_0 a0_1 a0_2) (v64_1 a0_0 a0_1 a0_2) (p28.2 ++ ([AV.agg [AV.int .i64 a1_0, AV.int .i64 a1_1]]))) then (v64_2 a0_0 a0_1 a0_2) else p28.2 ++ ([AV.agg [AV.int .i64 a1_0, AV.int .i64 a1_1]])))], AV.bool (bif b then false else (bif !(v65_0 (v64_0 a0_0 a0_1 a0_2) (v64_1 a0_0 a0_1 a0_2) (p28.2 ++ ([AV.agg [AV.int .i64 a1_0, AV.int .i64 a1_1]]))) then false else true))])) (brL1 (fun _ => rfl)) (brL (br (fun b => some (AV.tup [AV.agg [AV.fl [.int .i64] (v64_0 a0_0 a0_1 a0_2), AV.fl [.int .i64] (v64_1 a0_0 a0_1 a0_2), AV.fl [.int .i64, .int .i64] (bif b then (v64_2 a0_0 a0_1 a0_2) else p28.2 ++ ([AV.agg [AV.int .i64 a1_0, AV.int .i64 a1_1]]))], AV.bool (bif b then false else true)])) (brL1 (fun _ => rfl)) (fun _ => rfl)))))) (brL (br (fun b => some (AV.tup [AV.agg [AV.fl [.int .i64] (v64_0 a0_0 a0_1 a0_2), AV.fl [.int .i64] (v64_1 a0_0 a0_1 a0_2), AV.fl [.int .i64, .int .i64] (bif b then (v64_2 a0_0 a0_1 a0_2) else (bif !(v65_0 (v64_0 a0_0 a0_1 a0_2) (v64_1 a0_0 a0_1 a0_2) p28.2) then (v64_2 a0_0 a0_1 a0_2) else p28.2))], AV.bool (bif b then false else (bif !(v65_0 (v64_0 a0_0 a0_1 a0_2) (v64_1 a0_0 a0_1 a0_2) p28.2) then false else true))])) (brL1 (fun _ => rfl)) (brL (br (fun b => some (AV.tup [AV.agg [AV.fl [.int .i64] (v64_0 a0_0 a0_1 a0_2), AV.fl [.int .i64] (v64_1 a0_0 a0_1 a0_2), AV.fl [.int .i64, .int .i64] (bif b then (v64_2 a0_0 a0_1 a0_2) else p28.2)], AV.bool (bif b then false else true)])) (brL1 (fun _ => rfl)) (fun _ => rfl))))))))) h)
def m110 : TModel
  | [.agg [.sl g0 a0_0, .sl g1 a0_1, .sl g2 a0_2], .agg [.int .i64 a1_0, .int .i64 a1_1]] => bif ctsEq g0 ([.int .i64]) && ctsEq g1 ([.int .i64]) && ctsEq g2 ([.int .i64, .int .i64]) then some (q110 a0_0 a0_1 a0_2 a1_0 a1_1, AV.tup [AV.agg [AV.fl [.int .i64] (v110_0 a0_0 a0_1 a0_2 a1_0 a1_1), AV.fl [.int .i64] (v110_1 a0_0 a0_1 a0_2 a1_0 a1_1), AV.fl [.int .i64, .int .i64] (v110_2 a0_0 a0_1 a0_2 a1_0 a1_1)], AV.bool (v110_3 a0_0 a0_1 a0_2 a1_0 a1_1)]) else none
  | _ => none
theorem k110 : Known Tryz.prog 110 := ⟨Tryz.f110, Tryz.func110, by kernel_rfl, by kernel_rfl⟩
theorem meets110 : Meets Tryz.prog 110 m110 := by
  refine meet (f := Tryz.f110) (l := [(0, sub [1, 1, 1, 1, 0, 1, 0, 0] (body Tryz.f110))]) (hs := [(110, 0, [2, 3, 4, 6, 7, 8]), (110, 999, [4, 5]), (110, 1000, [2, 3, 4, 6, 7]), (110, 1001, [2, 3, 4, 6, 7, 8])]) (ts := [(64, m64), (65, m65)]) (ws := []) (is := []) (ls := [(110, 0, l110_0)]) (lvl := 0) mixed k110 Tryz.func110 (by kernel_rfl) (loops_cons ok110_0 noLoop) (allT_cons meets64 (allT_cons meets65 allT_nil)) allM_nil noI fun w xs us r hl hv h => ?_
  unfold m110 at h
  split at h
  · rename_i g0 a0_0 g1 a0_1 g2 a0_2 a1_0 a1_1
    obtain ⟨hg, h⟩ := bif_pair h
    simp only [Bool.and_eq_true] at hg
    obtain ⟨⟨q0, q1⟩, q2⟩ := hg
    obtain rfl := ctsEq_eq _ _ q0
    obtain rfl := ctsEq_eq _ _ q1
    obtain rfl := ctsEq_eq _ _ q2
    obtain ⟨h1, rfl⟩ := pair_inj h
    exact r110 a0_0 a0_1 a0_2 a1_0 a1_1 h1
  · cases h

/-! ### 91 loop.example/g01984/spec.CrackAt -/
noncomputable def c91 : Cfg := cfg Tryz.prog [(91, 999, [4, 5, 6])] [(23, m23), (64, m64), (65, m65), (83, m83), (107, m107), (108, m108), (109, m109), (110, m110)] [] [] []
def q91 (a0_0 : List AV) (a0_1 : List AV) (a0_2 : List AV) (a1 : Int) : Bool := (q65 a0_0 a0_1 a0_2 && (bif !(v65_0 a0_0 a0_1 a0_2) then q64 a0_0 a0_1 a0_2 else (bif !(v23_0 a1 (-1000) 1000) then q64 a0_0 a0_1 a0_2 else (q83 a0_0 a0_1 a0_2 a1 && (bif (v83_1 a0_0 a0_1 a0_2 a1) then q64 a0_0 a0_1 a0_2 else (q107 a0_0 a0_1 a0_2 a1 && (q108 a0_0 (v107_0 a0_0 a0_1 a0_2 a1) (v107_1 a0_0 a0_1 a0_2 a1) a1 && (q109 a0_0 a0_1 a0_2 (v108_0 a0_0 (v107_0 a0_0 a0_1 a0_2 a1) (v107_1 a0_0 a0_1 a0_2 a1) a1) && q110 (v109_0 a0_0 a0_1 a0_2 (v108_0 a0_0 (v107_0 a0_0 a0_1 a0_2 a1) (v107_1 a0_0 a0_1 a0_2 a1) a1)) (v109_1 a0_0 a0_1 a0_2 (v108_0 a0_0 (v107_0 a0_0 a0_1 a0_2 a1) (v107_1 a0_0 a0_1 a0_2 a1) a1)) (v109_2 a0_0 a0_1 a0_2 (v108_0 a0_0 (v107_0 a0_0 a0_1 a0_2 a1) (v107_1 a0_0 a0_1 a0_2 a1) a1)) a1 (v108_1 a0_0 (v107_0 a0_0 a0_1 a0_2 a1) (v107_1 a0_0 a0_1 a0_2 a1) a1)))))))))
def v91_0 (a0_0 : List AV) (a0_1 : List AV) (a0_2 : List AV) (a1 : Int) : List AV := (bif !(v65_0 a0_0 a0_1 a0_2) then (v64_0 a0_0 a0_1 a0_2) else (bif !(v23_0 a1 (-1000) 1000) then (v64_0 a0_0 a0_1 a0_2) else (bif (v83_1 a0_0 a0_1 a0_2 a1) then (v64_0 a0_0 a0_1 a0_2) else (v110_0 (v109_0 a0_0 a0_1 a0_2 (v108_0 a0_0 (v107_0 a0_0 a0_1 a0_2 a1) (v107_1 a0_0 a0_1 a0_2 a1) a1)) (v109_1 a0_0 a0_1 a0_2 (v108_0 a0_0 (v107_0 a0_0 a0_1 a0_2 a1) (v107_1 a0_0 a0_1 a0_2 a1) a1)) (v109_2 a0_0 a0_1 a0_2 (v108_0 a0_0 (v107_0 a0_0 a0_1 a0_2 a1) (v107_1 a0_0 a0_1 a0_2 a1) a1)) a1 (v108_1 a0_0 (v107_0 a0_0 a0_1 a0_2 a1) (v107_1 a0_0 a0_1 a0_2 a1) a1)))))
def v91_1 (a0_0 : List AV) (a0_1 : List AV) (a0_2 : List AV) (a1 : Int) : List AV := (bif !(v65_0 a0_0 a0_1 a0_2) then (v64_1 a0_0 a0_1 a0_2) else (bif !(v23_0 a1 (-1000) 1000) then (v64_1 a0_0 a0_1 a0_2) else (bif (v83_1 a0_0 a0_1 a0_2 a1) then (v64_1 a0_0 a0_1 a0_2) else (v110_1 (v109_0 a0_0 a0_1 a0_2 (v108_0 a0_0 (v107_0 a0_0 a0_1 a0_2 a1) (v107_1 a0_0 a0_1 a0_2 a1) a1)) (v109_1 a0_0 a0_1 a0_2 (v108_0 a0_0 (v107_0 a0_0 a0_1 a0_2 a1) (v107_1 a0_0 a0_1 a0_2 a1) a1)) (v109_2 a0_0 a0_1 a0_2 (v108_0 a0_0 (v107_0 a0_0 a0_1 a0_2 a1) (v107_1 a0_0 a0_1 a0_2 a1) a1)) a1 (v108_1 a0_0 (v107_0 a0_0 a0_1 a0_2 a1) (v107_1 a0_0 a0_1 a0_2 a1) a1)))))
def v91_2 (a0_0 : List AV) (a0_1 : List AV) (a0_2 : List AV) (a1 : Int) : List AV := (bif !(v65_0 a0_0 a0_1 a0_2) then (v64_2 a0_0 a0_1 a0_2) else (bif !(v23_0 a1 (-1000) 1000) then (v64_2 a0_0 a0_1 a0_2) else (bif (v83_1 a0_0 a0_1 a0_2 a1) then (v64_2 a0_0 a0_1 a0_2) else (v110_2 (v109_0 a0_0 a0_1 a0_2 (v108_0 a0_0 (v107_0 a0_0 a0_1 a0_2 a1) (v107_1 a0_0 a0_1 a0_2 a1) a1)) (v109_1 a0_0 a0_1 a0_2 (v108_0 a0_0 (v107_0 a0_0 a0_1 a0_2 a1) (v107_1 a0_0 a0_1 a0_2 a1) a1)) (v109_2 a0_0 a0_1 a0_2 (v108_0 a0_0 (v107_0 a0_0 a0_1 a0_2 a1) (v107_1 a0_0 a0_1 a0_2 a1) a1)) a1 (v108_1 a0_0 (v107_0 a0_0 a0_1 a0_2 a1) (v107_1 a0_0 a0_1 a0_2 a1) a1)))))
def v91_3 (a0_0 : List AV) (a0_1 : List AV) (a0_2 : List AV) (a1 : Int) : List AV := (bif !(v65_0 a0_0 a0_1 a0_2) then ([] : List AV) else (bif !(v23_0 a1 (-1000) 1000) then ([] : List AV) else (bif (v83_1 a0_0 a0_1 a0_2 a1) then ([] : List AV) else (v108_0 a0_0 (v107_0 a0_0 a0_1 a0_2 a1) (v107_1 a0_0 a0_1 a0_2 a1) a1))))
def v91_4 (a0_0 : List AV) (a0_1 : List AV) (a0_2 : List AV) (a1 : Int) : Bool := (bif !(v65_0 a0_0 a0_1 a0_2) then false else (bif !(v23_0 a1 (-1000) 1000) then false else true))
theorem e91 (a0_0 : List AV) (a0_1 : List AV) (a0_2 : List AV) (a1 : Int) : funA c91 0 91 [AV.agg [AV.sl [.int .i64] a0_0, AV.sl [.int .i64] a0_1, AV.sl [.int .i64, .int .i64] a0_2], AV.int .i64 a1] = (bif q65 a0_0 a0_1 a0_2 then (bif !(v65_0 a0_0 a0_1 a0_2) then (bif q64 a0_0 a0_1 a0_2 then some (AV.tup [AV.agg [AV.fl [.int .i64] (v64_0 a0_0 a0_1 a0_2), AV.fl [.int .i64] (v64_1 a0_0 a0_1 a0_2), AV.fl [.int .i64, .int .i64] (v64_2 a0_0 a0_1 a0_2)], AV.fl [.int .i64, .int .i64] ([] : List AV), AV.bool false])
  else none)
  else (bif !(v23_0 a1 (-1000) 1000) then (bif q64 a0_0 a0_1 a0_2 then some (AV.tup [AV.agg [AV.fl [.int .i64] (v64_0 a0_0 a0_1 a0_2), AV.fl [.int .i64] (v64_1 a0_0 a0_1 a0_2), AV.fl [.int .i64, .int .i64] (v64_2 a0_0 a0_1 a0_2)], AV.fl [.int .i64, .int .i64] ([] : List AV), AV.bool false])
  else none)
  else (bif q83 a0_0 a0_1 a0_2 a1 then (bif (v83_1 a0_0 a0_1 a0_2 a1) then (bif q64 a0_0 a0_1 a0_2 then some (AV.tup [AV.agg [AV.fl [.int .i64] (v64_0 a0_0 a0_1 a0_2), AV.fl [.int .i64] (v64_1 a0_0 a0_1 a0_2), AV.fl [.int .i64, .int .i64] (v64_2 a0_0 a0_1 a0_2)], AV.fl [.int .i64, .int .i64] ([] : List AV), AV.bool true])
  else none)
  else (bif q107 a0_0 a0_1 a0_2 a1 then (bif q108 a0_0 (v107_0 a0_0 a0_1 a0_2 a1) (v107_1 a0_0 a0_1 a0_2 a1) a1 then (bif q109 a0_0 a0_1 a0_2 (v108_0 a0_0 (v107_0 a0_0 a0_1 a0_2 a1) (v107_1 a0_0 a0_1 a0_2 a1) a1) then (bif q110 (v109_0 a0_0 a0_1 a0_2 (v108_0 a0_0 (v107_0 a0_0 a0_1 a0_2 a1) (v107_1 a0_0 a0_1 a0_2 a1) a1)) (v109_1 a0_0 a0_1 a0_2 (v108_0 a0_0 (v107_0 a0_0 a0_1 a0_2 a1) (v107_1 a0_0 a0_1 a0_2 a1) a1)) (v109_2 a0_0 a0_1 a0_2 (v108_0 a0_0 (v107_0 a0_0 a0_1 a0_2 a1) (v107_1 a0_0 a0_1 a0_2 a1) a1)) a1 (v108_1 a0_0 (v107_0 a0_0 a0_1 a0_2 a1) (v107_1 a0_0 a0_1 a0_2 a1) a1) then some (AV.tup [AV.agg [AV.fl [.int .i64] (v110_0 (v109_0 a0_0 a0_1 a0_2 (v108_0 a0_0 (v107_0 a0_0 a0_1 a0_2 a1) (v107_1 a0_0 a0_1 a0_2 a1) a1)) (v109_1 a0_0 a0_1 a0_2 (v108_0 a0_0 (v107_0 a0_0 a0_1 a0_2 a1) (v107_1 a0_0 a0_1 a0_2 a1) a1)) (v109_2 a0_0 a0_1 a0_2 (v108_0 a0_0 (v107_0 a0_0 a0_1 a0_2 a1) (v107_1 a0_0 a0_1 a0_2 a1) a1)) a1 (v108_1 a0_0 (v107_0 a0_0 a0_1 a0_2 a1) (v107_1 a0_0 a0_1 a0_2 a1) a1)), AV.fl [.int .i64] (v110_1 (v109_0 a0_0 a0_1 a0_2 (v108_0 a0_0 (v107_0 a0_0 a0_1 a0_2 a1) (v107_1 a0_0 a0_1 a0_2 a1) a1)) (v109_1 a0_0 a0_1 a0_2 (v108_0 a0_0 (v107_0 a0_0 a0_1 a0_2 a1) (v107_1 a0_0 a0_1 a0_2 a1) a1)) (v109_2 a0_0 a0_1 a0_2 (v108_0 a0_0 (v107_0 a0_0 a0_1 a0_2 a1) (v107_1 a0_0 a0_1 a0_2 a1) a1)) a1 (v108_1 a0_0 (v107_0 a0_0 a0_1 a0_2 a1) (v107_1 a0_0 a0_1 a0_2 a1) a1)), AV.fl [.int .i64, .int .i64] (v110_2 (v109_0 a0_0 a0_1 a0_2 (v108_0 a0_0 (v107_0 a0_0 a0_1 a0_2 a1) (v107_1 a0_0 a0_1 a0_2 a1) a1)) (v109_1 a0_0 a0_1 a0_2 (v108_0 a0_0 (v107_0 a0_0 a0_1 a0_2 a1) (v107_1 a0_0 a0_1 a0_2 a1) a1)) (v109_2 a0_0 a0_1 a0_2 (v108_0 a0_0 (v107_0 a0_0 a0_1 a0_2 a1) (v107_1 a0_0 a0_1 a0_2 a1) a1)) a1 (v108_1 a0_0 (v107_0 a0_0 a0_1 a0_2 a1) (v107_1 a0_0 a0_1 a0_2 a1) a1))], AV.fl [.int .i64, .int .i64] (v108_0 a0_0 (v107_0 a0_0 a0_1 a0_2 a1) (v107_1 a0_0 a0_1 a0_2 a1) a1), AV.bool true])
  else none)
  else none)
  else none)
  else none))
  else none)))
  else none) := by kernel_rfl
theorem r91 (a0_0 : List AV) (a0_1 : List AV) (a0_2 : List AV) (a1 : Int) (h : q91 a0_0 a0_1 a0_2 a1 = true) : funA c91 0 91 [AV.agg [AV.sl [.int .i64] a0_0, AV.sl [.int .i64] a0_1, AV.sl [.int .i64, .int .i64] a0_2], AV.int .i64 a1] = some (AV.tup [AV.agg [AV.fl [.int .i64] (v91_0 a0_0 a0_1 a0_2 a1), AV.fl [.int .i64] (v91_1 a0_0 a0_1 a0_2 a1), AV.fl [.int .i64, .int .i64] (v91_2 a0_0 a0_1 a0_2 a1)], AV.fl [.int .i64, .int .i64] (v91_3 a0_0 a0_1 a0_2 a1), AV.bool (v91_4 a0_0 a0_1 a0_2 a1)]) := (e91 a0_0 a0_1 a0_2 a1).trans ((brL (br (fun b => some (AV.tup [AV.agg [AV.fl [.int .i64] (bif b then (v64_0 a0_0 a0_1 a0_2) else (bif !(v23_0 a1 (-1000) 1000) then (v64_0 a0_0 a0_1 a0_2) else (bif (v83_1 a0_0 a0_1 a0_2 a1) then (v64_0 a0_0 a0_1 a0_2) else (v110_0 (v109_0 a0_0 a0_1 a0_2 (v108_0 a0_0 (v107_0 a0_0 a0_1 a0_2 a1) (v107_1 a0_0 a0_1 a0_2 a1) a1)) (v109_1 a0_0 a0_1 a0_2 (v108_0 a0_0 (v107_0 a0_0 a0_1 a0_2 a1) (v107_1 a0_0 a0_1 a0_2 a1) a1)) (v109_2 a0_0 a0_1 a0_2 (v108_0 a0_0 (v107_0 a0_0 a0_1 a0_2 a1) (v107_1 a0_0 a0_1 a0_2 a1) a1)) a1 (v108_1 a0_0 (v107_0 a0_0 a0_1 a0_2 a1) (v107_1 a0_0 a0_1 a0_2 a1) a1))))), AV.fl [.int .i64] (bif b then (v64_1 a0_0 a0_1 a0_2) else (bif !(v23_0 a1 (-1000) 1000) then (v64_1 a0_0 a0_1 a0_2) else (bif (v83_1 a0_0 a0_1 a0_2 a1) then (v64_1 a0_0 a0_1 a0_2) else (v110_1 (v109_0 a0_0 a0_1 a0_2 (v108_0 a0_0 (v107_0 a0_0 a0_1 a0_2 a1) (v107_1 a0_0 a0_1 a0_2 a1) a1)) (v109_1 a0_0 a0_1 a0_2 (v108_0 a0_0 (v107_0 a0_0 a0_1 a0_2 a1) (v107_1 a0_0 a0_1 a0_2 a1) a1)) (v109_2 a0_0 a0_1 a0_2 (v108_0 a0_0 (v107_0 a0_0 a0_1 a0_2 a1) (v107_1 a0_0 a0_1 a0_2 a1) a1)) a1 (v108_1 a0_0 (v107_0 a0_0 a0_1 a0_2 a1) (v107_1 a0_0 a0_1 a0_2 a1) a1))))), AV.fl [.int .i64, .int .i64] (bif b then (v64_2 a0_0 a0_1 a0_2) else (bif !(v23_0 a1 (-1000) 1000) then (v64_2 a0_0 a0_1 a0_2) else (bif (v83_1 a0_0 a0_1 a0_2 a1) then (v64_2 a0_0 a0_1 a0_2) else (v110_2 (v109_0 a0_0 a0_1 a0_2 (v108_0 a0_0 (v107_0 a0_0 a0_1 a0_2 a1) (v107_1 a0_0 a0_1 a0_2 a1) a1)) (v109_1 a0_0 a0_1 a0_2 (v108_0 a0_0 (v107_0 a0_0 a0_1 a0_2 a1) (v107_1 a0_0 a0_1 a0_2 a1) a1)) (v109_2 a0_0 a0_1 a0_2 (v108_0 a0_0 (v107_0 a0_0 a0_1 a0_2 a1) (v107_1 a0_0 a0_1 a0_2 a1) a1)) a1 (v108_1 a0_0 (v107_0 a0_0 a0_1 a0_2 a1) (v107_1 a0_0 a0_1 a0_2 a1) a1)))))], AV.fl [.int .i64, .int .i64] (bif b then ([] : List AV) else (bif !(v23_0 a1 (-1000) 1000) then ([] : List AV) else (bif (v83_1 a0_0 a0_1 a0_2 a1) then ([] : List AV) else (v108_0 a0_0 (v107_0 a0_0 a0_1 a0_2 a1) (v107_1 a0_0 a0_1 a0_2 a1) a1)))), AV.bool (bif b then false else (bif !(v23_0 a1 (-1000) 1000) then false else true))])) (brL1 (fun _ => rfl)) (br (fun b => some (AV.tup [AV.agg [AV.fl [.int .i64] (bif b then (v64_0 a0_0 a0_1 a0_2) else (bif (v83_1 a0_0 a0_1 a0_2 a1) then (v64_0 a0_0 a0_1 a0_2) else (v110_0 (v109_0 a0_0 a0_1 a0_2 (v108_0 a0_0 (v107_0 a0_0 a0_1 a0_2 a1) (v107_1 a0_0 a0_1 a0_2 a1) a1)) (v109_1 a0_0 a0_1 a0_2 (v108_0 a0_0 (v107_0 a0_0 a0_1 a0_2 a1) (v107_1 a0_0 a0_1 a0_2 a1) a1)) (v109_2 a0_0 a0_1 a0_2 (v108_0 a0_0 (v107_0 a0_0 a0_1 a0_2 a1) (v107_1 a0_0 a0_1 a0_2 a1) a1)) a1 (v108_1 a0_0 (v107_0 a0_0 a0_1 a0_2 a1) (v107_1 a0_0 a0_1 a0_2 a1) a1)))), AV.fl [.int .i64] (bif b then (v64_1 a0_0 a0_1 a0_2) else (bif (v83_1 a0_0 a0_1 a0_2 a1) then (v64_1 a0_0 a0_1 a0_2) else (v110_1 (v109_0 a0_0 a0_1 a0_2 (v108_0 a0_0 (v107_0 a0_0 a0_1 a0_2 a1) (v107_1 a0_0 a0_1 a0_2 a1) a1)) (v109_1 a0_0 a0_1 a0_2 (v108_0 a0_0 (v107_0 a0_0 a0_1 a0_2 a1) (v107_1 a0_0 a0_1 a0_2 a1) a1)) (v109_2 a0_0 a0_1 a0_2 (v108_0 a0_0 (v107_0 a0_0 a0_1 a0_2 a1) (v107_1 a0_0 a0_1 a0_2 a1) a1)) a1 (v108_1 a0_0 (v107_0 a0_0 a0_1 a0_2 a1) (v107_1 a0_0 a0_1 a0_2 a1) a1)))), AV.fl [.int .i64, .int .i64] (bif b then (v64_2 a0_0 a0_1 a0_2) else (bif (v83_1 a0_0 a0_1 a0_2 a1) then (v64_2 a0_0 a0_1 a0_2) else (v110_2 (v109_0 a0_0 a0_1 a0_2 (v108_0 a0_0 (v107_0 a0_0 a0_1 a0_2 a1) (v107_1 a0_0 a0_1 a0_2 a1) a1)) (v109_1 a0_0 a0_1 a0_2 (v108_0 a0_0 (v107_0 a0_0 a0_1 a0_2 a1) (v107_1 a0_0 a0_1 a0_2 a1) a1)) (v109_2 a0_0 a0_1 a0_2 (v108_0 a0_0 (v107_0 a0_0 a0_1 a0_2 a1) (v107_1 a0_0 a0_1 a0_2 a1) a1)) a1 (v108_1 a0_0 (v107_0 a0_0 a0_1 a0_2 a1) (v107_1 a0_0 a0_1 a0_2 a1) a1))))], AV.fl [.int .i64, .int .i64] (bif b then ([] : List AV) else (bif (v83_1 a0_0 a0_1 a0_2 a1) then ([] : List AV) else (v108_0 a0_0 (v107_0 a0_0 a0_1 a0_2 a1) (v107_1 a0_0 a0_1 a0_2 a1) a1))), AV.bool (bif b then false else true)])) (brL1 (fun _ => rfl)) (brL (br (fun b => some (AV.tup [AV.agg [AV.fl [.int .i64] (bif b then (v64_0 a0_0 a0_1 a0_2) else (v110_0 (v109_0 a0_0 a0_1 a0_2 (v108_0 a0_0 (v107_0 a0_0 a0_1 a0_2 a1) (v107_1 a0_0 a0_1 a0_2 a1) a1)) (v109_1 a0_0 a0_1 a0_2 (v108_0 a0_0 (v107_0 a0_0 a0_1 a0_2 a1) (v107_1 a0_0 a0_1 a0_2 a1) a1)) (v109_2 a0_0 a0_1 a0_2 (v108_0 a0_0 (v107_0 a0_0 a0_1 a0_2 a1) (v107_1 a0_0 a0_1 a0_2 a1) a1)) a1 (v108_1 a0_0 (v107_0 a0_0 a0_1 a0_2 a1) (v107_1 a0_0 a0_1 a0_2 a1) a1))), AV.fl [.int .i64] (bif b then (v64_1 a0_0 a0_1 a0_2) else (v110_1 (v109_0 a0_0 a0_1 a0_2 (v108_0 a0_0 (v107_0 a0_0 a0_1 a0_2 a1) (v107_1 a0_0 a0_1 a0_2 a1) a1)) (v109_1 a0_0 a0_1 a0_2 (v108_0 a0_0 (v107_0 a0_0 a0_1 a0_2 a1) (v107_1 a0_0 a0_1 a0_2 a1) a1)) (v109_2 a0_0 a0_1 a0_2 (v108_0 a0_0 (v107_0 a0_0 a0_1 a0_2 a1) (v107_1 a0_0 a0_1 a0_2 a1) a1)) a1 (v108_1 a0_0 (v107_0 a0_0 a0_1 a0_2 a1) (v107_1 a0_0 a0_1 a0_2 a1) a1))), AV.fl [.int .i64, .int .i64] (bif b then (v64_2 a0_0 a0_1 a0_2) else (v110_2 (v109_0 a0_0 a0_1 a0_2 (v108_0 a0_0 (v107_0 a0_0 a0_1 a0_2 a1) (v107_1 a0_0 a0_1 a0_2 a1) a1)) (v109_1 a0_0 a0_1 a0_2 (v108_0 a0_0 (v107_0 a0_0 a0_1 a0_2 a1) (v107_1 a0_0 a0_1 a0_2 a1) a1)) (v109_2 a0_0 a0_1 a0_2 (v108_0 a0_0 (v107_0 a0_0 a0_1 a0_2 a1) (v107_1 a0_0 a0_1 a0_2 a1) a1)) a1 (v108_1 a0_0 (v107_0 a0_0 a0_1 a0_2 a1) (v107_1 a0_0 a0_1 a0_2 a1) a1)))], AV.fl [.int .i64, .int .i64] (bif b then ([] : List AV) else (v108_0 a0_0 (v107_0 a0_0 a0_1 a0_2 a1) (v107_1 a0_0 a0_1 a0_2 a1) a1)), AV.bool true])) (brL1 (fun _ => rfl)) (brL (brL (brL (brL1 (fun _ => rfl)))))))))) h)
def m91 : TModel
  | [.agg [.sl g0 a0_0, .sl g1 a0_1, .sl g2 a0_2], .int .i64 a1] => bif ctsEq g0 ([.int .i64]) && ctsEq g1 ([.int .i64]) && ctsEq g2 ([.int .i64, .int .i64]) then some (q91 a0_0 a0_1 a0_2 a1, AV.tup [AV.agg [AV.fl [.int .i64] (v91_0 a0_0 a0_1 a0_2 a1), AV.fl [.int .i64] (v91_1 a0_0 a0_1 a0_2 a1), AV.fl [.int .i64, .int .i64] (v91_2 a0_0 a0_1 a0_2 a1)], AV.fl [.int .i64, .int .i64] (v91_3 a0_0 a0_1 a0_2 a1), AV.bool (v91_4 a0_0 a0_1 a0_2 a1)]) else none
  | _ => none
theorem k91 : Known Tryz.prog 91 := ⟨Tryz.f91, Tryz.func91, by kernel_rfl, by kernel_rfl⟩
theorem meets91 : Meets Tryz.prog 91 m91 := by
  refine meet (f := Tryz.f91) (l := []) (hs := [(91, 999, [4, 5, 6])]) (ts := [(23, m23), (64, m64), (65, m65), (83, m83), (107, m107), (108, m108), (109, m109), (110, m110)]) (ws := []) (is := []) (ls := []) (lvl := 0) mixed k91 Tryz.func91 (by kernel_rfl) noLoop (allT_cons meets23 (allT_cons meets64 (allT_cons meets65 (allT_cons meets83 (allT_cons meets107 (allT_cons meets108 (allT_cons meets109 (allT_cons meets110 allT_nil)))))))) allM_nil noI fun w xs us r hl hv h => ?_
  unfold m91 at h
  split at h
  · rename_i g0 a0_0 g1 a0_1 g2 a0_2 a1
    obtain ⟨hg, h⟩ := bif_pair h
    simp only [Bool.and_eq_true] at hg
    obtain ⟨⟨q0, q1⟩, q2⟩ := hg
    obtain rfl := ctsEq_eq _ _ q0
    obtain rfl := ctsEq_eq _ _ q1
    obtain rfl := ctsEq_eq _ _ q2
    obtain ⟨h1, rfl⟩ := pair_inj h
    exact r91 a0_0 a0_1 a0_2 a1 h1
  · cases h

/-! ### 67 loop.example/g01984/spec.SelectRange -/
noncomputable def c67 : Cfg := cfg Tryz.prog [(67, 999, [4, 5, 6, 7])] [(34, m34), (64, m64), (65, m65), (83, m83), (91, m91)] [] [] []
def q67 (a0_0 : List AV) (a0_1 : List AV) (a0_2 : List AV) (a1_0 : Int) (a1_1 : Int) : Bool := (q65 a0_0 a0_1 a0_2 && (bif !(v65_0 a0_0 a0_1 a0_2) then q64 a0_0 a0_1 a0_2 else (bif !(v34_0 a1_0 a1_1) then q64 a0_0 a0_1 a0_2 else (q91 a0_0 a0_1 a0_2 a1_0 && (q91 (v91_0 a0_0 a0_1 a0_2 a1_0) (v91_1 a0_0 a0_1 a0_2 a1_0) (v91_2 a0_0 a0_1 a0_2 a1_0) a1_1 && (q83 (v91_0 (v91_0 a0_0 a0_1 a0_2 a1_0) (v91_1 a0_0 a0_1 a0_2 a1_0) (v91_2 a0_0 a0_1 a0_2 a1_0) a1_1) (v91_1 (v91_0 a0_0 a0_1 a0_2 a1_0) (v91_1 a0_0 a0_1 a0_2 a1_0) (v91_2 a0_0 a0_1 a0_2 a1_0) a1_1) (v91_2 (v91_0 a0_0 a0_1 a0_2 a1_0) (v91_1 a0_0 a0_1 a0_2 a1_0) (v91_2 a0_0 a0_1 a0_2 a1_0) a1_1) a1_0 && q83 (v91_0 (v91_0 a0_0 a0_1 a0_2 a1_0) (v91_1 a0_0 a0_1 a0_2 a1_0) (v91_2 a0_0 a0_1 a0_2 a1_0) a1_1) (v91_1 (v91_0 a0_0 a0_1 a0_2 a1_0) (v91_1 a0_0 a0_1 a0_2 a1_0) (v91_2 a0_0 a0_1 a0_2 a1_0) a1_1) (v91_2 (v91_0 a0_0 a0_1 a0_2 a1_0) (v91_1 a0_0 a0_1 a0_2 a1_0) (v91_2 a0_0 a0_1 a0_2 a1_0) a1_1) a1_1))))))
def v67_0 (a0_0 : List AV) (a0_1 : List AV) (a0_2 : List AV) (a1_0 : Int) (a1_1 : Int) : List AV := (bif !(v65_0 a0_0 a0_1 a0_2) then (v64_0 a0_0 a0_1 a0_2) else (bif !(v34_0 a1_0 a1_1) then (v64_0 a0_0 a0_1 a0_2) else (v91_0 (v91_0 a0_0 a0_1 a0_2 a1_0) (v91_1 a0_0 a0_1 a0_2 a1_0) (v91_2 a0_0 a0_1 a0_2 a1_0) a1_1)))
def v67_1 (a0_0 : List AV) (a0_1 : List AV) (a0_2 : List AV) (a1_0 : Int) (a1_1 : Int) : List AV := (bif !(v65_0 a0_0 a0_1 a0_2) then (v64_1 a0_0 a0_1 a0_2) else (bif !(v34_0 a1_0 a1_1) then (v64_1 a0_0 a0_1 a0_2) else (v91_1 (v91_0 a0_0 a0_1 a0_2 a1_0) (v91_1 a0_0 a0_1 a0_2 a1_0) (v91_2 a0_0 a0_1 a0_2 a1_0) a1_1)))
def v67_2 (a0_0 : List AV) (a0_1 : List AV) (a0_2 : List AV) (a1_0 : Int) (a1_1 : Int) : List AV := (bif !(v65_0 a0_0 a0_1 a0_2) then (v64_2 a0_0 a0_1 a0_2) else (bif !(v34_0 a1_0 a1_1) then (v64_2 a0_0 a0_1 a0_2) else (v91_2 (v91_0 a0_0 a0_1 a0_2 a1_0) (v91_1 a0_0 a0_1 a0_2 a1_0) (v91_2 a0_0 a0_1 a0_2 a1_0) a1_1)))
def v67_3 (a0_0 : List AV) (a0_1 : List AV) (a0_2 : List AV) (a1_0 : Int) (a1_1 : Int) : Int := (bif !(v65_0 a0_0 a0_1 a0_2) then 0 else (bif !(v34_0 a1_0 a1_1) then 0 else (v83_0 (v91_0 (v91_0 a0_0 a0_1 a0_2 a1_0) (v91_1 a0_0 a0_1 a0_2 a1_0) (v91_2 a0_0 a0_1 a0_2 a1_0) a1_1) (v91_1 (v91_0 a0_0 a0_1 a0_2 a1_0) (v91_1 a0_0 a0_1 a0_2 a1_0) (v91_2 a0_0 a0_1 a0_2 a1_0) a1_1) (v91_2 (v91_0 a0_0 a0_1 a0_2 a1_0) (v91_1 a0_0 a0_1 a0_2 a1_0) (v91_2 a0_0 a0_1 a0_2 a1_0) a1_1) a1_0)))
def v67_4 (a0_0 : List AV) (a0_1 : List AV) (a0_2 : List AV) (a1_0 : Int) (a1_1 : Int) : Int := (bif !(v65_0 a0_0 a0_1 a0_2) then 0 else (bif !(v34_0 a1_0 a1_1) then 0 else (v83_0 (v91_0 (v91_0 a0_0 a0_1 a0_2 a1_0) (v91_1 a0_0 a0_1 a0_2 a1_0) (v91_2 a0_0 a0_1 a0_2 a1_0) a1_1) (v91_1 (v91_0 a0_0 a0_1 a0_2 a1_0) (v91_1 a0_0 a0_1 a0_2 a1_0) (v91_2 a0_0 a0_1 a0_2 a1_0) a1_1) (v91_2 (v91_0 a0_0 a0_1 a0_2 a1_0) (v91_1 a0_0 a0_1 a0_2 a1_0) (v91_2 a0_0 a0_1 a0_2 a1_0) a1_1) a1_1)))
def v67_5 (a0_0 : List AV) (a0_1 : List AV) (a0_2 : List AV) (a1_0 : Int) (a1_1 : Int) : Int := (bif !(v65_0 a0_0 a0_1 a0_2) then 0 else (bif !(v34_0 a1_0 a1_1) then 0 else IntKind.i64.wrap (((v91_3 a0_0 a0_1 a0_2 a1_0).length : Int) + ((v91_3 (v91_0 a0_0 a0_1 a0_2 a1_0) (v91_1 a0_0 a0_1 a0_2 a1_0) (v91_2 a0_0 a0_1 a0_2 a1_0) a1_1).length : Int))))
theorem e67 (a0_0 : List AV) (a0_1 : List AV) (a0_2 : List AV) (a1_0 : Int) (a1_1 : Int) : funA c67 0 67 [AV.agg [AV.sl [.int .i64] a0_0, AV.sl [.int .i64] a0_1, AV.sl [.int .i64, .int .i64] a0_2], AV.agg [AV.int .i64 a1_0, AV.int .i64 a1_1]] = (bif q65 a0_0 a0_1 a0_2 then (bif !(v65_0 a0_0 a0_1 a0_2) then (bif q64 a0_0 a0_1 a0_2 then some (AV.tup [AV.agg [AV.fl [.int .i64] (v64_0 a0_0 a0_1 a0_2), AV.fl [.int .i64] (v64_1 a0_0 a0_1 a0_2), AV.fl [.int .i64, .int .i64] (v64_2 a0_0 a0_1 a0_2)], AV.int .i64 0, AV.int .i64 0, AV.int .i64 0])
  else none)
  else (bif !(v34_0 a1_0 a1_1) then (bif q64 a0_0 a0_1 a0_2 then some (AV.tup [AV.agg [AV.fl [.int .i64] (v64_0 a0_0 a0_1 a0_2), AV.fl [.int .i64] (v64_1 a0_0 a0_1 a0_2), AV.fl [.int .i64, .int .i64] (v64_2 a0_0 a0_1 a0_2)], AV.int .i64 0, AV.int .i64 0, AV.int .i64 0])
  else none)
  else (bif q91 a0_0 a0_1 a0_2 a1_0 then (bif q91 (v91_0 a0_0 a0_1 a0_2 a1_0) (v91_1 a0_0 a0_1 a0_2 a1_0) (v91_2 a0_0 a0_1 a0_2 a1_0) a1_1 then (bif q83 (v91_0 (v91_0 a0_0 a0_1 a0_2 a1_0) (v91_1 a0_0 a0_1 a0_2 a1_0) (v91_2 a0_0 a0_1 a0_2 a1_0) a1_1) (v91_1 (v91_0 a0_0 a0_1 a0_2 a1_0) (v91_1 a0_0 a0_1 a0_2 a1_0) (v91_2 a0_0 a0_1 a0_2 a1_0) a1_1) (v91_2 (v91_0 a0_0 a0_1 a0_2 a1_0) (v91_1 a0_0 a0_1 a0_2 a1_0) (v91_2 a0_0 a0_1 a0_2 a1_0) a1_1) a1_0 then (bif q83 (v91_0 (v91_0 a0_0 a0_1 a0_2 a1_0) (v91_1 a0_0 a0_1 a0_2 a1_0) (v91_2 a0_0 a0_1 a0_2 a1_0) a1_1) (v91_1 (v91_0 a0_0 a0_1 a0_2 a1_0) (v91_1 a0_0 a0_1 a0_2 a1_0) (v91_2 a0_0 a0_1 a0_2 a1_0) a1_1) (v91_2 (v91_0 a0_0 a0_1 a0_2 a1_0) (v91_1 a0_0 a0_1 a0_2 a1_0) (v91_2 a0_0 a0_1 a0_2 a1_0) a1_1) a1_1 then some (AV.tup [AV.agg [AV.fl [.int .i64] (v91_0 (v91_0 a0_0 a0_1 a0_2 a1_0) (v91_1 a0_0 a0_1 a0_2 a1_0) (v91_2 a0_0 a0_1 a0_2 a1_0) a1_1), AV.fl [.int .i64] (v91_1 (v91_0 a0_0 a0_1 a0_2 a1_0) (v91_1 a0_0 a0_1 a0_2 a1_0) (v91_2 a0_0 a0_1 a0_2 a1_0) a1_1), AV.fl [.int .i64, .int .i64] (v91_2 (v91_0 a0_0 a0_1 a0_2 a1_0) (v91_1 a0_0 a0_1 a0_2 a1_0) (v91_2 a0_0 a0_1 a0_2 a1_0) a1_1)], AV.int .i64 (v83_0 (v91_0 (v91_0 a0_0 a0_1 a0_2 a1_0) (v91_1 a0_0 a0_1 a0_2 a1_0) (v91_2 a0_0 a0_1 a0_2 a1_0) a1_1) (v91_1 (v91_0 a0_0 a0_1 a0_2 a1_0) (v91_1 a0_0 a0_1 a0_2 a1_0) (v91_2 a0_0 a0_1 a0_2 a1_0) a1_1) (v91_2 (v91_0 a0_0 a0_1 a0_2 a1_0) (v91_1 a0_0 a0_1 a0_2 a1_0) (v91_2 a0_0 a0_1 a0_2 a1_0) a1_1) a1_0), AV.int .i64 (v83_0 (v91_0 (v91_0 a0_0 a0_1 a0_2 a1_0) (v91_1 a0_0 a0_1 a0_2 a1_0) (v91_2 a0_0 a0_1 a0_2 a1_0) a1_1) (v91_1 (v91_0 a0_0 a0_1 a0_2 a1_0) (v91_1 a0_0 a0_1 a0_2 a1_0) (v91_2 a0_0 a0_1 a0_2 a1_0) a1_1) (v91_2 (v91_0 a0_0 a0_1 a0_2 a1_0) (v91_1 a0_0 a0_1 a0_2 a1_0) (v91_2 a0_0 a0_1 a0_2 a1_0) a1_1) a1_1), AV.int .i64 (IntKind.i64.wrap (((v91_3 a0_0 a0_1 a0_2 a1_0).length : Int) + ((v91_3 (v91_0 a0_0 a0_1 a0_2 a1_0) (v91_1 a0_0 a0_1 a0_2 a1_0) (v91_2 a0_0 a0_1 a0_2 a1_0) a1_1).length : Int)))])
  else none)
  else none)
  else none)
  else none)))
  else none) := by kernel_rfl
theorem r67 (a0_0 : List AV) (a0_1 : List AV) (a0_2 : List AV) (a1_0 : Int) (a1_1 : Int) (h : q67 a0_0 a0_1 a0_2 a1_0 a1_1 = true) : funA c67 0 67 [AV.agg [AV.sl [.int .i64] a0_0, AV.sl [.int .i64] a0_1, AV.sl [.int .i64, .int .i64] a0_2], AV.agg [AV.int .i64 a1_0, AV.int .i64 a1_1]] = some (AV.tup [AV.agg [AV.fl [.int .i64] (v67_0 a0_0 a0_1 a0_2 a1_0 a1_1), AV.fl [.int .i64] (v67_1 a0_0 a0_1 a0_2 a1_0 a1_1), AV.fl [.int .i64, .int .i64] (v67_2 a0_0 a0_1 a0_2 a1_0 a1_1)], AV.int .i64 (v67_3 a0_0 a0_1 a0_2 a1_0 a1_1), AV.int .i64 (v67_4 a0_0 a0_1 a0_2 a1_0 a1_1), AV.int .i64 (v67_5 a0_0 a0_1 a0_2 a1_0 a1_1)]) := (e67 a0_0 a0_1 a0_2 a1_0 a1_1).trans ((brL (br (fun b => some (AV.tup [AV.agg [AV.fl [.int .i64] (bif b then (v64_0 a0_0 a0_1 a0_2) else (bif !(v34_0 a1_0 a1_1) then (v64_0 a0_0 a0_1 a0_2) else (v91_0 (v91_0 a0_0 a0_1 a0_2 a1_0) (v91_1 a0_0 a0_1 a0_2 a1_0) (v91_2 a0_0 a0_1 a0_2 a1_0) a1_1))), AV.fl [.int .i64] (bif b then (v64_1 a0_0 a0_1 a0_2) else (bif !(v34_0 a1_0 a1_1) then (v64_1 a0_0 a0_1 a0_2) else (v91_1 (v91_0 a0_0 a0_1 a0_2 a1_0) (v91_1 a0_0 a0_1 a0_2 a1_0) (v91_2 a0_0 a0_1 a0_2 a1_0) a1_1))), AV.fl [.int .i64, .int .i64] (bif b then (v64_2 a0_0 a0_1 a0_2) else (bif !(v34_0 a1_0 a1_1) then (v64_2 a0_0 a0_1 a0_2) else (v91_2 (v91_0 a0_0 a0_1 a0_2 a1_0) (v91_1 a0_0 a0_1 a0_2 a1_0) (v91_2 a0_0 a0_1 a0_2 a1_0) a1_1)))], AV.int .i64 (bif b then 0 else (bif !(v34_0 a1_0 a1_1) then 0 else (v83_0 (v91_0 (v91_0 a0_0 a0_1 a0_2 a1_0) (v91_1 a0_0 a0_1 a0_2 a1_0) (v91_2 a0_0 a0_1 a0_2 a1_0) a1_1) (v91_1 (v91_0 a0_0 a0_1 a0_2 a1_0) (v91_1 a0_0 a0_1 a0_2 a1_0) (v91_2 a0_0 a0_1 a0_2 a1_0) a1_1) (v91_2 (v91_0 a0_0 a0_1 a0_2 a1_0) (v91_1 a0_0 a0_1 a0_2 a1_0) (v91_2 a0_0 a0_1 a0_2 a1_0) a1_1) a1_0))), AV.int .i64 (bif b then 0 else (bif !(v34_0 a1_0 a1_1) then 0 else (v83_0 (v91_0 (v91_0 a0_0 a0_1 a0_2 a1_0) (v91_1 a0_0 a0_1 a0_2 a1_0) (v91_2 a0_0 a0_1 a0_2 a1_0) a1_1) (v91_1 (v91_0 a0_0 a0_1 a0_2 a1_0) (v91_1 a0_0 a0_1 a0_2 a1_0) (v91_2 a0_0 a0_1 a0_2 a1_0) a1_1) (v91_2 (v91_0 a0_0 a0_1 a0_2 a1_0) (v91_1 a0_0 a0_1 a0_2 a1_0) (v91_2 a0_0 a0_1 a0_2 a1_0) a1_1) a1_1))), AV.int .i64 (bif b then 0 else (bif !(v34_0 a1_0 a1_1) then 0 else IntKind.i64.wrap (((v91_3 a0_0 a0_1 a0_2 a1_0).length : Int) + ((v91_3 (v91_0 a0_0 a0_1 a0_2 a1_0) (v91_1 a0_0 a0_1 a0_2 a1_0) (v91_2 a0_0 a0_1 a0_2 a1_0) a1_1).length : Int))))])) (brL1 (fun _ => rfl)) (br (fun b => some (AV.tup [AV.agg [AV.fl [.int .i64] (bif b then (v64_0 a0_0 a0_1 a0_2) else (v91_0 (v91_0 a0_0 a0_1 a0_2 a1_0) (v91_1 a0_0 a0_1 a0_2 a1_0) (v91_2 a0_0 a0_1 a0_2 a1_0) a1_1)), AV.fl [.int .i64] (bif b then (v64_1 a0_0 a0_1 a0_2) else (v91_1 (v91_0 a0_0 a0_1 a0_2 a1_0) (v91_1 a0_0 a0_1 a0_2 a1_0) (v91_2 a0_0 a0_1 a0_2 a1_0) a1_1)), AV.fl [.int .i64, .int .i64] (bif b then (v64_2 a0_0 a0_1 a0_2) else (v91_2 (v91_0 a0_0 a0_1 a0_2 a1_0) (v91_1 a0_0 a0_1 a0_2 a1_0) (v91_2 a0_0 a0_1 a0_2 a1_0) a1_1))], AV.int .i64 (bif b then 0 else (v83_0 (v91_0 (v91_0 a0_0 a0_1 a0_2 a1_0) (v91_1 a0_0 a0_1 a0_2 a1_0) (v91_2 a0_0 a0_1 a0_2 a1_0) a1_1) (v91_1 (v91_0 a0_0 a0_1 a0_2 a1_0) (v91_1 a0_0 a0_1 a0_2 a1_0) (v91_2 a0_0 a0_1 a0_2 a1_0) a1_1) (v91_2 (v91_0 a0_0 a0_1 a0_2 a1_0) (v91_1 a0_0 a0_1 a0_2 a1_0) (v91_2 a0_0 a0_1 a0_2 a1_0) a1_1) a1_0)), AV.int .i64 (bif b then 0 else (v83_0 (v91_0 (v91_0 a0_0 a0_1 a0_2 a1_0) (v91_1 a0_0 a0_1 a0_2 a1_0) (v91_2 a0_0 a0_1 a0_2 a1_0) a1_1) (v91_1 (v91_0 a0_0 a0_1 a0_2 a1_0) (v91_1 a0_0 a0_1 a0_2 a1_0) (v91_2 a0_0 a0_1 a0_2 a1_0) a1_1) (v91_2 (v91_0 a0_0 a0_1 a0_2 a1_0) (v91_1 a0_0 a0_1 a0_2 a1_0) (v91_2 a0_0 a0_1 a0_2 a1_0) a1_1) a1_1)), AV.int .i64 (bif b then 0 else IntKind.i64.wrap (((v91_3 a0_0 a0_1 a0_2 a1_0).length : Int) + ((v91_3 (v91_0 a0_0 a0_1 a0_2 a1_0) (v91_1 a0_0 a0_1 a0_2 a1_0) (v91_2 a0_0 a0_1 a0_2 a1_0) a1_1).length : Int)))])) (brL1 (fun _ => rfl)) (brL (brL (brL (brL1 (fun _ => rfl)))))))) h)
def m67 : TModel
  | [.agg [.sl g0 a0_0, .sl g1 a0_1, .sl g2 a0_2], .agg [.int .i64 a1_0, .int .i64 a1_1]] => bif ctsEq g0 ([.int .i64]) && ctsEq g1 ([.int .i64]) && ctsEq g2 ([.int .i64, .int .i64]) then some (q67 a0_0 a0_1 a0_2 a1_0 a1_1, AV.tup [AV.agg [AV.fl [.int .i64] (v67_0 a0_0 a0_1 a0_2 a1_0 a1_1), AV.fl [.int .i64] (v67_1 a0_0 a0_1 a0_2 a1_0 a1_1), AV.fl [.int .i64, .int .i64] (v67_2 a0_0 a0_1 a0_2 a1_0 a1_1)], AV.int .i64 (v67_3 a0_0 a0_1 a0_2 a1_0 a1_1), AV.int .i64 (v67_4 a0_0 a0_1 a0_2 a1_0 a1_1), AV.int .i64 (v67_5 a0_0 a0_1 a0_2 a1_0 a1_1)]) else none
  | _ => none
theorem k67 : Known Tryz.prog 67 := ⟨Tryz.f67, Tryz.func67, by kernel_rfl, by kernel_rfl⟩
theorem meets67 : Meets Tryz.prog 67 m67 := by
  refine meet (f := Tryz.f67) (l := []) (hs := [(67, 999, [4, 5, 6, 7])]) (ts := [(34, m34), (64, m64), (65, m65), (83, m83), (91, m91)]) (ws := []) (is := []) (ls := []) (lvl := 0) mixed k67 Tryz.func67 (by kernel_rfl) noLoop (allT_cons meets34 (allT_cons meets64 (allT_cons meets65 (allT_cons meets83 (allT_cons meets91 allT_nil))))) allM_nil noI fun w xs us r hl hv h => ?_
  unfold m67 at h
  split at h
  · rename_i g0 a0_0 g1 a0_1 g2 a0_2 a1_0 a1_1
    obtain ⟨hg, h⟩ := bif_pair h
    simp only [Bool.and_eq_true] at hg
    obtain ⟨⟨q0, q1⟩, q2⟩ := hg
    obtain rfl := ctsEq_eq _ _ q0
    obtain rfl := ctsEq_eq _ _ q1
    obtain rfl := ctsEq_eq _ _ q2
    obtain ⟨h1, rfl⟩ := pair_inj h
    exact r67 a0_0 a0_1 a0_2 a1_0 a1_1 h1
  · cases h
end Go.Proofs.YtmlhhemflhiinaaGreat
