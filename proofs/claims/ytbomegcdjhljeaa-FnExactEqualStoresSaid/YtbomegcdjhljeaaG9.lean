/- The walk of what this claim reaches: printed by a program, each equation checked by the kernel. -/
import Derived.Test.YtbomegcdjhljeaaVEy
import Derived.Test.YtbomegcdjhljeaaProg
import Derived.KernelRfl
namespace Go.Proofs.Ytbomegcdjhljeaa
open Go Go.Proofs.VE
set_option linter.unusedVariables false
set_option linter.unusedSimpArgs false
set_option maxRecDepth 100000
theorem mixed : Try.prog.follows .mixedOrders = true := by kernel_rfl
/-! ### 75 loop.example/g01984/laws.szStampS -/
noncomputable def c75 : Cfg := cfg Try.prog [(75, 999, [4])] [] [] [] []
def q75 (a0 : List AV) (a1 : Int) : Bool := true
def v75_0 (a0 : List AV) (a1 : Int) : Int := (bif decide (IntKind.i64.wrap (a1 - (a0.length : Int)) < 0) then (-1) else IntKind.i64.wrap (a1 - (a0.length : Int)))
theorem e75 (a0 : List AV) (a1 : Int) : funA c75 0 75 [AV.sl [.int .i64, .int .i64, .int .i64, .int .i64] a0, AV.int .i64 a1] = (bif decide (IntKind.i64.wrap (a1 - (a0.length : Int)) < 0) then some (AV.int .i64 (-1))
  else some (AV.int .i64 (IntKind.i64.wrap (a1 - (a0.length : Int))))) := by kernel_rfl
theorem r75 (a0 : List AV) (a1 : Int) : funA c75 0 75 [AV.sl [.int .i64, .int .i64, .int .i64, .int .i64] a0, AV.int .i64 a1] = some (AV.int .i64 (v75_0 a0 a1)) := (e75 a0 a1).trans (of_tt (brT (fun b => some (AV.int .i64 (bif b then (-1) else IntKind.i64.wrap (a1 - (a0.length : Int))))) (fun _ => rfl) (fun _ => rfl)))
def m75 : TModel
  | [.sl g0 a0, .int .i64 a1] => bif ctsEq g0 ([.int .i64, .int .i64, .int .i64, .int .i64]) then some (true, AV.int .i64 (v75_0 a0 a1)) else none
  | _ => none
theorem k75 : Known Try.prog 75 := ⟨Try.f75, Try.func75, by kernel_rfl, by kernel_rfl⟩
theorem meets75 : Meets Try.prog 75 m75 := by
  refine meet (f := Try.f75) (l := []) (hs := [(75, 999, [4])]) (ts := []) (ws := []) (is := []) (ls := []) (lvl := 0) mixed k75 Try.func75 (by kernel_rfl) noLoop allT_nil allM_nil noI fun w xs us r hl hv h => ?_
  unfold m75 at h
  split at h
  · rename_i g0 a0 a1
    obtain ⟨hg, h⟩ := bif_pair h
    have q0 := hg
    obtain rfl := ctsEq_eq _ _ q0
    obtain ⟨h1, rfl⟩ := pair_inj h
    exact r75 a0 a1
  · cases h

/-! ### 111 loop.example/g01984/laws.szIntS -/
noncomputable def c111 : Cfg := cfg Try.prog [(111, 999, [4])] [] [] [] []
def q111 (a0 : List AV) (a1 : Int) : Bool := true
def v111_0 (a0 : List AV) (a1 : Int) : Int := (bif decide (IntKind.i64.wrap (a1 - (a0.length : Int)) < 0) then (-1) else IntKind.i64.wrap (a1 - (a0.length : Int)))
theorem e111 (a0 : List AV) (a1 : Int) : funA c111 0 111 [AV.sl [.int .i64] a0, AV.int .i64 a1] = (bif decide (IntKind.i64.wrap (a1 - (a0.length : Int)) < 0) then some (AV.int .i64 (-1))
  else some (AV.int .i64 (IntKind.i64.wrap (a1 - (a0.length : Int))))) := by kernel_rfl
theorem r111 (a0 : List AV) (a1 : Int) : funA c111 0 111 [AV.sl [.int .i64] a0, AV.int .i64 a1] = some (AV.int .i64 (v111_0 a0 a1)) := (e111 a0 a1).trans (of_tt (brT (fun b => some (AV.int .i64 (bif b then (-1) else IntKind.i64.wrap (a1 - (a0.length : Int))))) (fun _ => rfl) (fun _ => rfl)))
def m111 : TModel
  | [.sl g0 a0, .int .i64 a1] => bif ctsEq g0 ([.int .i64]) then some (true, AV.int .i64 (v111_0 a0 a1)) else none
  | _ => none
theorem k111 : Known Try.prog 111 := ⟨Try.f111, Try.func111, by kernel_rfl, by kernel_rfl⟩
theorem meets111 : Meets Try.prog 111 m111 := by
  refine meet (f := Try.f111) (l := []) (hs := [(111, 999, [4])]) (ts := []) (ws := []) (is := []) (ls := []) (lvl := 0) mixed k111 Try.func111 (by kernel_rfl) noLoop allT_nil allM_nil noI fun w xs us r hl hv h => ?_
  unfold m111 at h
  split at h
  · rename_i g0 a0 a1
    obtain ⟨hg, h⟩ := bif_pair h
    have q0 := hg
    obtain rfl := ctsEq_eq _ _ q0
    obtain ⟨h1, rfl⟩ := pair_inj h
    exact r111 a0 a1
  · cases h

/-! ### 112 loop.example/g01984/laws.szPivotS -/
noncomputable def c112 : Cfg := cfg Try.prog [(112, 999, [4])] [] [] [] []
def q112 (a0 : List AV) (a1 : Int) : Bool := true
def v112_0 (a0 : List AV) (a1 : Int) : Int := (bif decide (IntKind.i64.wrap (a1 - (a0.length : Int)) < 0) then (-1) else IntKind.i64.wrap (a1 - (a0.length : Int)))
theorem e112 (a0 : List AV) (a1 : Int) : funA c112 0 112 [AV.sl [.int .i64, .int .i64] a0, AV.int .i64 a1] = (bif decide (IntKind.i64.wrap (a1 - (a0.length : Int)) < 0) then some (AV.int .i64 (-1))
  else some (AV.int .i64 (IntKind.i64.wrap (a1 - (a0.length : Int))))) := by kernel_rfl
theorem r112 (a0 : List AV) (a1 : Int) : funA c112 0 112 [AV.sl [.int .i64, .int .i64] a0, AV.int .i64 a1] = some (AV.int .i64 (v112_0 a0 a1)) := (e112 a0 a1).trans (of_tt (brT (fun b => some (AV.int .i64 (bif b then (-1) else IntKind.i64.wrap (a1 - (a0.length : Int))))) (fun _ => rfl) (fun _ => rfl)))
def m112 : TModel
  | [.sl g0 a0, .int .i64 a1] => bif ctsEq g0 ([.int .i64, .int .i64]) then some (true, AV.int .i64 (v112_0 a0 a1)) else none
  | _ => none
theorem k112 : Known Try.prog 112 := ⟨Try.f112, Try.func112, by kernel_rfl, by kernel_rfl⟩
theorem meets112 : Meets Try.prog 112 m112 := by
  refine meet (f := Try.f112) (l := []) (hs := [(112, 999, [4])]) (ts := []) (ws := []) (is := []) (ls := []) (lvl := 0) mixed k112 Try.func112 (by kernel_rfl) noLoop allT_nil allM_nil noI fun w xs us r hl hv h => ?_
  unfold m112 at h
  split at h
  · rename_i g0 a0 a1
    obtain ⟨hg, h⟩ := bif_pair h
    have q0 := hg
    obtain rfl := ctsEq_eq _ _ q0
    obtain ⟨h1, rfl⟩ := pair_inj h
    exact r112 a0 a1
  · cases h

/-! ### 76 loop.example/g01984/laws.szCracker -/
noncomputable def c76 : Cfg := cfg Try.prog [(76, 999, [4])] [(111, m111), (112, m112)] [] [] []
def q76 (a0_0 : List AV) (a0_1 : List AV) (a0_2 : List AV) (a1 : Int) : Bool := true
def v76_0 (a0_0 : List AV) (a0_1 : List AV) (a0_2 : List AV) (a1 : Int) : Int := (bif decide ((v111_0 a0_0 a1) < 0) then (-1) else (bif decide ((v111_0 a0_1 (v111_0 a0_0 a1)) < 0) then (-1) else (bif decide ((v112_0 a0_2 (v111_0 a0_1 (v111_0 a0_0 a1))) < 0) then (-1) else (v112_0 a0_2 (v111_0 a0_1 (v111_0 a0_0 a1))))))
theorem e76 (a0_0 : List AV) (a0_1 : List AV) (a0_2 : List AV) (a1 : Int) : funA c76 0 76 [AV.agg [AV.sl [.int .i64] a0_0, AV.sl [.int .i64] a0_1, AV.sl [.int .i64, .int .i64] a0_2], AV.int .i64 a1] = (bif decide ((v111_0 a0_0 a1) < 0) then some (AV.int .i64 (-1))
  else (bif decide ((v111_0 a0_1 (v111_0 a0_0 a1)) < 0) then some (AV.int .i64 (-1))
   else (bif decide ((v112_0 a0_2 (v111_0 a0_1 (v111_0 a0_0 a1))) < 0) then some (AV.int .i64 (-1))
    else some (AV.int .i64 (v112_0 a0_2 (v111_0 a0_1 (v111_0 a0_0 a1))))))) := by kernel_rfl
theorem r76 (a0_0 : List AV) (a0_1 : List AV) (a0_2 : List AV) (a1 : Int) : funA c76 0 76 [AV.agg [AV.sl [.int .i64] a0_0, AV.sl [.int .i64] a0_1, AV.sl [.int .i64, .int .i64] a0_2], AV.int .i64 a1] = some (AV.int .i64 (v76_0 a0_0 a0_1 a0_2 a1)) := (e76 a0_0 a0_1 a0_2 a1).trans (of_tt (brT (fun b => some (AV.int .i64 (bif b then (-1) else (bif decide ((v111_0 a0_1 (v111_0 a0_0 a1)) < 0) then (-1) else (bif decide ((v112_0 a0_2 (v111_0 a0_1 (v111_0 a0_0 a1))) < 0) then (-1) else (v112_0 a0_2 (v111_0 a0_1 (v111_0 a0_0 a1)))))))) (fun _ => rfl) (brT (fun b => some (AV.int .i64 (bif b then (-1) else (bif decide ((v112_0 a0_2 (v111_0 a0_1 (v111_0 a0_0 a1))) < 0) then (-1) else (v112_0 a0_2 (v111_0 a0_1 (v111_0 a0_0 a1))))))) (fun _ => rfl) (brT (fun b => some (AV.int .i64 (bif b then (-1) else (v112_0 a0_2 (v111_0 a0_1 (v111_0 a0_0 a1)))))) (fun _ => rfl) (fun _ => rfl)))))
def m76 : TModel
  | [.agg [.sl g0 a0_0, .sl g1 a0_1, .sl g2 a0_2], .int .i64 a1] => bif ctsEq g0 ([.int .i64]) && ctsEq g1 ([.int .i64]) && ctsEq g2 ([.int .i64, .int .i64]) then some (true, AV.int .i64 (v76_0 a0_0 a0_1 a0_2 a1)) else none
  | _ => none
theorem k76 : Known Try.prog 76 := ⟨Try.f76, Try.func76, by kernel_rfl, by kernel_rfl⟩
theorem meets76 : Meets Try.prog 76 m76 := by
  refine meet (f := Try.f76) (l := []) (hs := [(76, 999, [4])]) (ts := [(111, m111), (112, m112)]) (ws := []) (is := []) (ls := []) (lvl := 0) mixed k76 Try.func76 (by kernel_rfl) noLoop (allT_cons meets111 (allT_cons meets112 allT_nil)) allM_nil noI fun w xs us r hl hv h => ?_
  unfold m76 at h
  split at h
  · rename_i g0 a0_0 g1 a0_1 g2 a0_2 a1
    obtain ⟨hg, h⟩ := bif_pair h
    simp only [Bool.and_eq_true] at hg
    obtain ⟨⟨q0, q1⟩, q2⟩ := hg
    obtain rfl := ctsEq_eq _ _ q0
    obtain rfl := ctsEq_eq _ _ q1
    obtain rfl := ctsEq_eq _ _ q2
    obtain ⟨h1, rfl⟩ := pair_inj h
    exact r76 a0_0 a0_1 a0_2 a1
  · cases h

/-! ### 38 loop.example/g01984/laws.szStore -/
noncomputable def c38 : Cfg := cfg Try.prog [(38, 999, [4])] [(75, m75), (76, m76)] [] [] []
def q38 (a0_0 : List AV) (a0_1 : Int) (a0_2 : List AV) (a0_3 : List AV) (a0_4 : List AV) (a1 : Int) : Bool := true
def v38_0 (a0_0 : List AV) (a0_1 : Int) (a0_2 : List AV) (a0_3 : List AV) (a0_4 : List AV) (a1 : Int) : Int := (bif decide ((v75_0 a0_0 a1) < 0) then (-1) else (bif decide ((v76_0 a0_2 a0_3 a0_4 (v75_0 a0_0 a1)) < 0) then (-1) else (v76_0 a0_2 a0_3 a0_4 (v75_0 a0_0 a1))))
theorem e38 (a0_0 : List AV) (a0_1 : Int) (a0_2 : List AV) (a0_3 : List AV) (a0_4 : List AV) (a1 : Int) : funA c38 0 38 [AV.agg [AV.sl [.int .i64, .int .i64, .int .i64, .int .i64] a0_0, AV.int .i64 a0_1, AV.sl [.int .i64] a0_2, AV.sl [.int .i64] a0_3, AV.sl [.int .i64, .int .i64] a0_4], AV.int .i64 a1] = (bif decide ((v75_0 a0_0 a1) < 0) then some (AV.int .i64 (-1))
  else (bif decide ((v76_0 a0_2 a0_3 a0_4 (v75_0 a0_0 a1)) < 0) then some (AV.int .i64 (-1))
   else some (AV.int .i64 (v76_0 a0_2 a0_3 a0_4 (v75_0 a0_0 a1))))) := by kernel_rfl
theorem r38 (a0_0 : List AV) (a0_1 : Int) (a0_2 : List AV) (a0_3 : List AV) (a0_4 : List AV) (a1 : Int) : funA c38 0 38 [AV.agg [AV.sl [.int .i64, .int .i64, .int .i64, .int .i64] a0_0, AV.int .i64 a0_1, AV.sl [.int .i64] a0_2, AV.sl [.int .i64] a0_3, AV.sl [.int .i64, .int .i64] a0_4], AV.int .i64 a1] = some (AV.int .i64 (v38_0 a0_0 a0_1 a0_2 a0_3 a0_4 a1)) := (e38 a0_0 a0_1 a0_2 a0_3 a0_4 a1).trans (of_tt (brT (fun b => some (AV.int .i64 (bif b then (-1) else (bif decide ((v76_0 a0_2 a0_3 a0_4 (v75_0 a0_0 a1)) < 0) then (-1) else (v76_0 a0_2 a0_3 a0_4 (v75_0 a0_0 a1)))))) (fun _ => rfl) (brT (fun b => some (AV.int .i64 (bif b then (-1) else (v76_0 a0_2 a0_3 a0_4 (v75_0 a0_0 a1))))) (fun _ => rfl) (fun _ => rfl))))
def m38 : TModel
  | [.agg [.sl g0 a0_0, .int .i64 a0_1, .sl g1 a0_2, .sl g2 a0_3, .sl g3 a0_4], .int .i64 a1] => bif ctsEq g0 ([.int .i64, .int .i64, .int .i64, .int .i64]) && ctsEq g1 ([.int .i64]) && ctsEq g2 ([.int .i64]) && ctsEq g3 ([.int .i64, .int .i64]) then some (true, AV.int .i64 (v38_0 a0_0 a0_1 a0_2 a0_3 a0_4 a1)) else none
  | _ => none
theorem k38 : Known Try.prog 38 := ⟨Try.f38, Try.func38, by kernel_rfl, by kernel_rfl⟩
theorem meets38 : Meets Try.prog 38 m38 := by
  refine meet (f := Try.f38) (l := []) (hs := [(38, 999, [4])]) (ts := [(75, m75), (76, m76)]) (ws := []) (is := []) (ls := []) (lvl := 0) mixed k38 Try.func38 (by kernel_rfl) noLoop (allT_cons meets75 (allT_cons meets76 allT_nil)) allM_nil noI fun w xs us r hl hv h => ?_
  unfold m38 at h
  split at h
  · rename_i g0 a0_0 a0_1 g1 a0_2 g2 a0_3 g3 a0_4 a1
    obtain ⟨hg, h⟩ := bif_pair h
    simp only [Bool.and_eq_true] at hg
    obtain ⟨⟨⟨q0, q1⟩, q2⟩, q3⟩ := hg
    obtain rfl := ctsEq_eq _ _ q0
    obtain rfl := ctsEq_eq _ _ q1
    obtain rfl := ctsEq_eq _ _ q2
    obtain rfl := ctsEq_eq _ _ q3
    obtain ⟨h1, rfl⟩ := pair_inj h
    exact r38 a0_0 a0_1 a0_2 a0_3 a0_4 a1
  · cases h

/-! ### 113 loop.example/g01984/laws.toStamp -/
noncomputable def c113 : Cfg := cfg Try.prog [(113, 999, [2])] [] [] [] []
def q113 (a0_0 : Int) (a0_1 : Int) (a0_2 : Int) (a0_3 : Int) : Bool := true
def v113_0 (a0_0 : Int) (a0_1 : Int) (a0_2 : Int) (a0_3 : Int) : Int := a0_0
def v113_1 (a0_0 : Int) (a0_1 : Int) (a0_2 : Int) (a0_3 : Int) : Int := a0_1
def v113_2 (a0_0 : Int) (a0_1 : Int) (a0_2 : Int) (a0_3 : Int) : Int := a0_2
def v113_3 (a0_0 : Int) (a0_1 : Int) (a0_2 : Int) (a0_3 : Int) : Int := a0_3
theorem e113 (a0_0 : Int) (a0_1 : Int) (a0_2 : Int) (a0_3 : Int) : funA c113 0 113 [AV.agg [AV.int .i64 a0_0, AV.int .i64 a0_1, AV.int .i64 a0_2, AV.int .i64 a0_3]] = some (AV.agg [AV.int .i64 a0_0, AV.int .i64 a0_1, AV.int .i64 a0_2, AV.int .i64 a0_3]) := by kernel_rfl
theorem r113 (a0_0 : Int) (a0_1 : Int) (a0_2 : Int) (a0_3 : Int) : funA c113 0 113 [AV.agg [AV.int .i64 a0_0, AV.int .i64 a0_1, AV.int .i64 a0_2, AV.int .i64 a0_3]] = some (AV.agg [AV.int .i64 (v113_0 a0_0 a0_1 a0_2 a0_3), AV.int .i64 (v113_1 a0_0 a0_1 a0_2 a0_3), AV.int .i64 (v113_2 a0_0 a0_1 a0_2 a0_3), AV.int .i64 (v113_3 a0_0 a0_1 a0_2 a0_3)]) := (e113 a0_0 a0_1 a0_2 a0_3).trans (of_tt (fun _ => rfl))
def m113 : TModel
  | [.agg [.int .i64 a0_0, .int .i64 a0_1, .int .i64 a0_2, .int .i64 a0_3]] => some (true, AV.agg [AV.int .i64 (v113_0 a0_0 a0_1 a0_2 a0_3), AV.int .i64 (v113_1 a0_0 a0_1 a0_2 a0_3), AV.int .i64 (v113_2 a0_0 a0_1 a0_2 a0_3), AV.int .i64 (v113_3 a0_0 a0_1 a0_2 a0_3)])
  | _ => none
theorem k113 : Known Try.prog 113 := ⟨Try.f113, Try.func113, by kernel_rfl, by kernel_rfl⟩
theorem meets113 : Meets Try.prog 113 m113 := by
  refine meet (f := Try.f113) (l := []) (hs := [(113, 999, [2])]) (ts := []) (ws := []) (is := []) (ls := []) (lvl := 0) mixed k113 Try.func113 (by kernel_rfl) noLoop allT_nil allM_nil noI fun w xs us r hl hv h => ?_
  unfold m113 at h
  split at h
  · rename_i a0_0 a0_1 a0_2 a0_3
    obtain ⟨h1, rfl⟩ := pair_inj h
    exact r113 a0_0 a0_1 a0_2 a0_3
  · cases h

/-! ### 77 loop.example/g01984/laws.toStampS -/
def F77_0 (t0 : List AV) (t4 : Int) (h0 : List AV) : Out ((Int × (List AV))) (((List AV))) := (bif decide (t4 < (t0.length : Int)) then (bif (decide (0 ≤ t4) && decide (t4 < (t0.length : Int))) then (bif (decide (0 ≤ t4) && decide (t4 < (h0.length : Int))) then .next (IntKind.i64.wrap (t4 + 1), h0.set t4.toNat (AV.agg [AV.int .i64 (v113_0 (fI (t0.getD t4.toNat AV.undef) 0) (fI (t0.getD t4.toNat AV.undef) 1) (fI (t0.getD t4.toNat AV.undef) 2) (fI (t0.getD t4.toNat AV.undef) 3)), AV.int .i64 (v113_1 (fI (t0.getD t4.toNat AV.undef) 0) (fI (t0.getD t4.toNat AV.undef) 1) (fI (t0.getD t4.toNat AV.undef) 2) (fI (t0.getD t4.toNat AV.undef) 3)), AV.int .i64 (v113_2 (fI (t0.getD t4.toNat AV.undef) 0) (fI (t0.getD t4.toNat AV.undef) 1) (fI (t0.getD t4.toNat AV.undef) 2) (fI (t0.getD t4.toNat AV.undef) 3)), AV.int .i64 (v113_3 (fI (t0.getD t4.toNat AV.undef) 0) (fI (t0.getD t4.toNat AV.undef) 1) (fI (t0.getD t4.toNat AV.undef) 2) (fI (t0.getD t4.toNat AV.undef) 3))]))
    else .fail)
   else .fail)
  else .stop h0)
def R77_0 (t0 : List AV) : ((Int × (List AV))) → Out ((Int × (List AV))) (((List AV))) := fun s : Int × (List AV) => F77_0 t0 s.1 s.2
def l77_0 : LModel := fun _ _ st k => match st with
  | ⟨[(0, .sl g0 t0), (3, .own g1), (4, .int .i64 t4)], [(g2, ⟨false, g3, h0⟩)]⟩ => bif ctsEq g0 ([.int .i64, .int .i64, .int .i64, .int .i64]) && nmEq g1 ([0, 3]) && nmEq g2 ([0, 3]) && ctsEq g3 ([.int .i64, .int .i64, .int .i64, .int .i64]) then ro (runW (R77_0 t0) (((t0.length : Int) - t4).toNat + 1) (t4, h0)) none (fun p : (List AV) => k (.exit 0) ⟨[(3, AV.own [0, 3])], [([0, 3], ⟨false, [.int .i64, .int .i64, .int .i64, .int .i64], p⟩)]⟩) else none
  | _ => none
noncomputable def c77 : Cfg := cfg Try.prog [(77, 0, [0, 3, 4]), (77, 999, [2]), (77, 1000, [3]), (77, 1001, [0, 3, 4])] [(113, m113)] [] [] [(77, 0, l77_0)]
theorem s77_0 (ce : CallE) (t0 : List AV) (t4 : Int) (h0 : List AV) (next : St → Option AV) (k : Kont) : stepA (codeA c77 ce [] 77 0 (sub [1, 1, 0, 1, 0, 0] (body Try.f77))) (normA [] [0, 3, 4]) next ⟨[(0, AV.sl [.int .i64, .int .i64, .int .i64, .int .i64] t0), (3, AV.own [0, 3]), (4, AV.int .i64 t4)], [([0, 3], ⟨false, [.int .i64, .int .i64, .int .i64, .int .i64], h0⟩)]⟩ k = (bif decide (t4 < (t0.length : Int)) then (bif (decide (0 ≤ t4) && decide (t4 < (t0.length : Int))) then (bif (decide (0 ≤ t4) && decide (t4 < (h0.length : Int))) then next ⟨[(0, AV.sl [.int .i64, .int .i64, .int .i64, .int .i64] t0), (3, AV.own [0, 3]), (4, AV.int .i64 (IntKind.i64.wrap (t4 + 1)))], [([0, 3], ⟨false, [.int .i64, .int .i64, .int .i64, .int .i64], h0.set t4.toNat (AV.agg [AV.int .i64 (v113_0 (fI (t0.getD t4.toNat AV.undef) 0) (fI (t0.getD t4.toNat AV.undef) 1) (fI (t0.getD t4.toNat AV.undef) 2) (fI (t0.getD t4.toNat AV.undef) 3)), AV.int .i64 (v113_1 (fI (t0.getD t4.toNat AV.undef) 0) (fI (t0.getD t4.toNat AV.undef) 1) (fI (t0.getD t4.toNat AV.undef) 2) (fI (t0.getD t4.toNat AV.undef) 3)), AV.int .i64 (v113_2 (fI (t0.getD t4.toNat AV.undef) 0) (fI (t0.getD t4.toNat AV.undef) 1) (fI (t0.getD t4.toNat AV.undef) 2) (fI (t0.getD t4.toNat AV.undef) 3)), AV.int .i64 (v113_3 (fI (t0.getD t4.toNat AV.undef) 0) (fI (t0.getD t4.toNat AV.undef) 1) (fI (t0.getD t4.toNat AV.undef) 2) (fI (t0.getD t4.toNat AV.undef) 3))])⟩)]⟩
    else none)
   else none)
  else k (.exit 0) ⟨[(3, AV.own [0, 3])], [([0, 3], ⟨false, [.int .i64, .int .i64, .int .i64, .int .i64], h0⟩)]⟩) := by kernel_rfl
theorem st77_0 (t0 : List AV) (ce : CallE) (k : Kont) (s : (Int × (List AV))) (next : St → Option AV) : stepA (codeA c77 ce [] 77 0 (sub [1, 1, 0, 1, 0, 0] (body Try.f77))) (normA [] [0, 3, 4]) next ((fun s : Int × (List AV) => ⟨[(0, AV.sl [.int .i64, .int .i64, .int .i64, .int .i64] t0), (3, AV.own [0, 3]), (4, AV.int .i64 s.1)], [([0, 3], ⟨false, [.int .i64, .int .i64, .int .i64, .int .i64], s.2⟩)]⟩) s) k = (R77_0 t0 s).el none (fun s => next ((fun s : Int × (List AV) => ⟨[(0, AV.sl [.int .i64, .int .i64, .int .i64, .int .i64] t0), (3, AV.own [0, 3]), (4, AV.int .i64 s.1)], [([0, 3], ⟨false, [.int .i64, .int .i64, .int .i64, .int .i64], s.2⟩)]⟩) s)) (fun p : (List AV) => k (.exit 0) ⟨[(3, AV.own [0, 3])], [([0, 3], ⟨false, [.int .i64, .int .i64, .int .i64, .int .i64], p⟩)]⟩) := (s77_0 ce t0 s.1 s.2 next k).trans (by unfold R77_0; unfold F77_0; simp only [el_cond, el_ro, el_sum, el_fail, el_next, el_stop] <;> rfl)
theorem ok77_0 : LoopOK c77 [] 77 0 (sub [1, 1, 0, 1, 0, 0] (body Try.f77)) := by
  intro m hm ce st k r h
  obtain rfl : l77_0 = m := Option.some.inj hm
  unfold l77_0 at h
  split at h
  · rename_i g0 t0 g1 t4 g2 g3 h0
    obtain ⟨hg, h⟩ := bif_some h
    simp only [Bool.and_eq_true] at hg
    obtain ⟨⟨⟨q0, q1⟩, q2⟩, q3⟩ := hg
    obtain rfl := ctsEq_eq _ _ q0
    obtain rfl := (nmEq_iff _ _).1 q1
    obtain rfl := (nmEq_iff _ _).1 q2
    obtain rfl := ctsEq_eq _ _ q3
    refine ⟨(((t0.length : Int) - t4).toNat + 1), ?_⟩
    rw [← h]
    exact loop_run (fun s : Int × (List AV) => ⟨[(0, AV.sl [.int .i64, .int .i64, .int .i64, .int .i64] t0), (3, AV.own [0, 3]), (4, AV.int .i64 s.1)], [([0, 3], ⟨false, [.int .i64, .int .i64, .int .i64, .int .i64], s.2⟩)]⟩) (fun p : (List AV) => k (.exit 0) ⟨[(3, AV.own [0, 3])], [([0, 3], ⟨false, [.int .i64, .int .i64, .int .i64, .int .i64], p⟩)]⟩) (st77_0 t0 ce k) _ (t4, h0)
  · cases h
def q77 (a0 : List AV) : Bool := ((decide (0 ≤ (a0.length : Int)) && decide ((a0.length : Int) ≤ (a0.length : Int)) && decide ((a0.length : Int) * 32 ≤ 140737488355328) && decide ((a0.length : Int) ≤ 140737488355328)) && (ro (runW (R77_0 a0) (((a0.length : Int) - 0).toNat + 1) (0, List.replicate (Int.toNat (a0.length : Int)) (AV.agg [AV.int .i64 0, AV.int .i64 0, AV.int .i64 0, AV.int .i64 0]))) false (fun p1 => true)))
def v77_0 (a0 : List AV) : List AV := (ro (runW (R77_0 a0) (((a0.length : Int) - 0).toNat + 1) (0, List.replicate (Int.toNat (a0.length : Int)) (AV.agg [AV.int .i64 0, AV.int .i64 0, AV.int .i64 0, AV.int .i64 0]))) [] (fun p1 => p1))
theorem e77 (a0 : List AV) : funA c77 0 77 [AV.sl [.int .i64, .int .i64, .int .i64, .int .i64] a0] = (bif (decide (0 ≤ (a0.length : Int)) && decide ((a0.length : Int) ≤ (a0.length : Int)) && decide ((a0.length : Int) * 32 ≤ 140737488355328) && decide ((a0.length : Int) ≤ 140737488355328)) then (ro (runW (R77_0 a0) (((a0.length : Int) - 0).toNat + 1) (0, List.replicate (Int.toNat (a0.length : Int)) (AV.agg [AV.int .i64 0, AV.int .i64 0, AV.int .i64 0, AV.int .i64 0]))) none (fun p1 => some (AV.fl [.int .i64, .int .i64, .int .i64, .int .i64] p1)))
  else none) := by kernel_rfl
theorem r77 (a0 : List AV) (h : q77 a0 = true) : funA c77 0 77 [AV.sl [.int .i64, .int .i64, .int .i64, .int .i64] a0] = some (AV.fl [.int .i64, .int .i64, .int .i64, .int .i64] (v77_0 a0)) := (e77 a0).trans ((brL (brO (fun o : Option (((List AV))) => some (AV.fl [.int .i64, .int .i64, .int .i64, .int .i64] (ro o [] (fun p1 => p1)))) (fun p1 => (fun _ => rfl)))) h)
def m77 : TModel
  | [.sl g0 a0] => bif ctsEq g0 ([.int .i64, .int .i64, .int .i64, .int .i64]) then some (q77 a0, AV.fl [.int .i64, .int .i64, .int .i64, .int .i64] (v77_0 a0)) else none
  | _ => none
theorem k77 : Known Try.prog 77 := ⟨Try.f77, Try.func77, by kernel_rfl, by kernel_rfl⟩
theorem meets77 : Meets Try.prog 77 m77 := by
  refine meet (f := Try.f77) (l := [(0, sub [1, 1, 0, 1, 0, 0] (body Try.f77))]) (hs := [(77, 0, [0, 3, 4]), (77, 999, [2]), (77, 1000, [3]), (77, 1001, [0, 3, 4])]) (ts := [(113, m113)]) (ws := []) (is := []) (ls := [(77, 0, l77_0)]) (lvl := 0) mixed k77 Try.func77 (by kernel_rfl) (loops_cons ok77_0 noLoop) (allT_cons meets113 allT_nil) allM_nil noI fun w xs us r hl hv h => ?_
  unfold m77 at h
  split at h
  · rename_i g0 a0
    obtain ⟨hg, h⟩ := bif_pair h
    have q0 := hg
    obtain rfl := ctsEq_eq _ _ q0
    obtain ⟨h1, rfl⟩ := pair_inj h
    exact r77 a0 h1
  · cases h

/-! ### 34 loop.example/g01984/laws.toIntS -/
def F34_0 (t0 : List AV) (t4 : Int) (h0 : List AV) : Out ((Int × (List AV))) (((List AV))) := (bif decide (t4 < (t0.length : Int)) then (bif (decide (0 ≤ t4) && decide (t4 < (t0.length : Int))) then (bif (decide (0 ≤ t4) && decide (t4 < (h0.length : Int))) then .next (IntKind.i64.wrap (t4 + 1), h0.set t4.toNat (AV.agg [AV.int .i64 (fI (t0.getD t4.toNat AV.undef) 0)]))
    else .fail)
   else .fail)
  else .stop h0)
def R34_0 (t0 : List AV) : ((Int × (List AV))) → Out ((Int × (List AV))) (((List AV))) := fun s : Int × (List AV) => F34_0 t0 s.1 s.2
def l34_0 : LModel := fun _ _ st k => match st with
  | ⟨[(0, .sl g0 t0), (3, .own g1), (4, .int .i64 t4)], [(g2, ⟨false, g3, h0⟩)]⟩ => bif ctsEq g0 ([.int .i64]) && nmEq g1 ([0, 3]) && nmEq g2 ([0, 3]) && ctsEq g3 ([.int .i64]) then ro (runW (R34_0 t0) (((t0.length : Int) - t4).toNat + 1) (t4, h0)) none (fun p : (List AV) => k (.exit 0) ⟨[(3, AV.own [0, 3])], [([0, 3], ⟨false, [.int .i64], p⟩)]⟩) else none
  | _ => none
noncomputable def c34 : Cfg := cfg Try.prog [(34, 0, [0, 3, 4]), (34, 999, [2]), (34, 1000, [3]), (34, 1001, [0, 3, 4])] [] [] [] [(34, 0, l34_0)]
theorem s34_0 (ce : CallE) (t0 : List AV) (t4 : Int) (h0 : List AV) (next : St → Option AV) (k : Kont) : stepA (codeA c34 ce [] 34 0 (sub [1, 1, 0, 1, 0, 0] (body Try.f34))) (normA [] [0, 3, 4]) next ⟨[(0, AV.sl [.int .i64] t0), (3, AV.own [0, 3]), (4, AV.int .i64 t4)], [([0, 3], ⟨false, [.int .i64], h0⟩)]⟩ k = (bif decide (t4 < (t0.length : Int)) then (bif (decide (0 ≤ t4) && decide (t4 < (t0.length : Int))) then (bif (decide (0 ≤ t4) && decide (t4 < (h0.length : Int))) then next ⟨[(0, AV.sl [.int .i64] t0), (3, AV.own [0, 3]), (4, AV.int .i64 (IntKind.i64.wrap (t4 + 1)))], [([0, 3], ⟨false, [.int .i64], h0.set t4.toNat (AV.agg [AV.int .i64 (fI (t0.getD t4.toNat AV.undef) 0)])⟩)]⟩
    else none)
   else none)
  else k (.exit 0) ⟨[(3, AV.own [0, 3])], [([0, 3], ⟨false, [.int .i64], h0⟩)]⟩) := by kernel_rfl
theorem st34_0 (t0 : List AV) (ce : CallE) (k : Kont) (s : (Int × (List AV))) (next : St → Option AV) : stepA (codeA c34 ce [] 34 0 (sub [1, 1, 0, 1, 0, 0] (body Try.f34))) (normA [] [0, 3, 4]) next ((fun s : Int × (List AV) => ⟨[(0, AV.sl [.int .i64] t0), (3, AV.own [0, 3]), (4, AV.int .i64 s.1)], [([0, 3], ⟨false, [.int .i64], s.2⟩)]⟩) s) k = (R34_0 t0 s).el none (fun s => next ((fun s : Int × (List AV) => ⟨[(0, AV.sl [.int .i64] t0), (3, AV.own [0, 3]), (4, AV.int .i64 s.1)], [([0, 3], ⟨false, [.int .i64], s.2⟩)]⟩) s)) (fun p : (List AV) => k (.exit 0) ⟨[(3, AV.own [0, 3])], [([0, 3], ⟨false, [.int .i64], p⟩)]⟩) := (s34_0 ce t0 s.1 s.2 next k).trans (by unfold R34_0; unfold F34_0; simp only [el_cond, el_ro, el_sum, el_fail, el_next, el_stop] <;> rfl)
theorem ok34_0 : LoopOK c34 [] 34 0 (sub [1, 1, 0, 1, 0, 0] (body Try.f34)) := by
  intro m hm ce st k r h
  obtain rfl : l34_0 = m := Option.some.inj hm
  unfold l34_0 at h
  split at h
  · rename_i g0 t0 g1 t4 g2 g3 h0
    obtain ⟨hg, h⟩ := bif_some h
    simp only [Bool.and_eq_true] at hg
    obtain ⟨⟨⟨q0, q1⟩, q2⟩, q3⟩ := hg
    obtain rfl := ctsEq_eq _ _ q0
    obtain rfl := (nmEq_iff _ _).1 q1
    obtain rfl := (nmEq_iff _ _).1 q2
    obtain rfl := ctsEq_eq _ _ q3
    refine ⟨(((t0.length : Int) - t4).toNat + 1), ?_⟩
    rw [← h]
    exact loop_run (fun s : Int × (List AV) => ⟨[(0, AV.sl [.int .i64] t0), (3, AV.own [0, 3]), (4, AV.int .i64 s.1)], [([0, 3], ⟨false, [.int .i64], s.2⟩)]⟩) (fun p : (List AV) => k (.exit 0) ⟨[(3, AV.own [0, 3])], [([0, 3], ⟨false, [.int .i64], p⟩)]⟩) (st34_0 t0 ce k) _ (t4, h0)
  · cases h
def q34 (a0 : List AV) : Bool := ((decide (0 ≤ (a0.length : Int)) && decide ((a0.length : Int) ≤ (a0.length : Int)) && decide ((a0.length : Int) * 8 ≤ 140737488355328) && decide ((a0.length : Int) ≤ 140737488355328)) && (ro (runW (R34_0 a0) (((a0.length : Int) - 0).toNat + 1) (0, List.replicate (Int.toNat (a0.length : Int)) (AV.int .i64 0))) false (fun p2 => true)))
def v34_0 (a0 : List AV) : List AV := (ro (runW (R34_0 a0) (((a0.length : Int) - 0).toNat + 1) (0, List.replicate (Int.toNat (a0.length : Int)) (AV.int .i64 0))) [] (fun p2 => p2))
theorem e34 (a0 : List AV) : funA c34 0 34 [AV.sl [.int .i64] a0] = (bif (decide (0 ≤ (a0.length : Int)) && decide ((a0.length : Int) ≤ (a0.length : Int)) && decide ((a0.length : Int) * 8 ≤ 140737488355328) && decide ((a0.length : Int) ≤ 140737488355328)) then (ro (runW (R34_0 a0) (((a0.length : Int) - 0).toNat + 1) (0, List.replicate (Int.toNat (a0.length : Int)) (AV.int .i64 0))) none (fun p2 => some (AV.fl [.int .i64] p2)))
  else none) := by kernel_rfl
theorem r34 (a0 : List AV) (h : q34 a0 = true) : funA c34 0 34 [AV.sl [.int .i64] a0] = some (AV.fl [.int .i64] (v34_0 a0)) := (e34 a0).trans ((brL (brO (fun o : Option (((List AV))) => some (AV.fl [.int .i64] (ro o [] (fun p2 => p2)))) (fun p2 => (fun _ => rfl)))) h)
def m34 : TModel
  | [.sl g0 a0] => bif ctsEq g0 ([.int .i64]) then some (q34 a0, AV.fl [.int .i64] (v34_0 a0)) else none
  | _ => none
theorem k34 : Known Try.prog 34 := ⟨Try.f34, Try.func34, by kernel_rfl, by kernel_rfl⟩
theorem meets34 : Meets Try.prog 34 m34 := by
  refine meet (f := Try.f34) (l := [(0, sub [1, 1, 0, 1, 0, 0] (body Try.f34))]) (hs := [(34, 0, [0, 3, 4]), (34, 999, [2]), (34, 1000, [3]), (34, 1001, [0, 3, 4])]) (ts := []) (ws := []) (is := []) (ls := [(34, 0, l34_0)]) (lvl := 0) mixed k34 Try.func34 (by kernel_rfl) (loops_cons ok34_0 noLoop) allT_nil allM_nil noI fun w xs us r hl hv h => ?_
  unfold m34 at h
  split at h
  · rename_i g0 a0
    obtain ⟨hg, h⟩ := bif_pair h
    have q0 := hg
    obtain rfl := ctsEq_eq _ _ q0
    obtain ⟨h1, rfl⟩ := pair_inj h
    exact r34 a0 h1
  · cases h

/-! ### 146 loop.example/g01984/laws.toPivot -/
noncomputable def c146 : Cfg := cfg Try.prog [(146, 999, [2])] [] [] [] []
def q146 (a0_0 : Int) (a0_1 : Int) : Bool := true
def v146_0 (a0_0 : Int) (a0_1 : Int) : Int := a0_0
def v146_1 (a0_0 : Int) (a0_1 : Int) : Int := a0_1
theorem e146 (a0_0 : Int) (a0_1 : Int) : funA c146 0 146 [AV.agg [AV.int .i64 a0_0, AV.int .i64 a0_1]] = some (AV.agg [AV.int .i64 a0_0, AV.int .i64 a0_1]) := by kernel_rfl
theorem r146 (a0_0 : Int) (a0_1 : Int) : funA c146 0 146 [AV.agg [AV.int .i64 a0_0, AV.int .i64 a0_1]] = some (AV.agg [AV.int .i64 (v146_0 a0_0 a0_1), AV.int .i64 (v146_1 a0_0 a0_1)]) := (e146 a0_0 a0_1).trans (of_tt (fun _ => rfl))
def m146 : TModel
  | [.agg [.int .i64 a0_0, .int .i64 a0_1]] => some (true, AV.agg [AV.int .i64 (v146_0 a0_0 a0_1), AV.int .i64 (v146_1 a0_0 a0_1)])
  | _ => none
theorem k146 : Known Try.prog 146 := ⟨Try.f146, Try.func146, by kernel_rfl, by kernel_rfl⟩
theorem meets146 : Meets Try.prog 146 m146 := by
  refine meet (f := Try.f146) (l := []) (hs := [(146, 999, [2])]) (ts := []) (ws := []) (is := []) (ls := []) (lvl := 0) mixed k146 Try.func146 (by kernel_rfl) noLoop allT_nil allM_nil noI fun w xs us r hl hv h => ?_
  unfold m146 at h
  split at h
  · rename_i a0_0 a0_1
    obtain ⟨h1, rfl⟩ := pair_inj h
    exact r146 a0_0 a0_1
  · cases h

/-! ### 114 loop.example/g01984/laws.toPivotS -/
def F114_0 (t0 : List AV) (t4 : Int) (h0 : List AV) : Out ((Int × (List AV))) (((List AV))) := (bif decide (t4 < (t0.length : Int)) then (bif (decide (0 ≤ t4) && decide (t4 < (t0.length : Int))) then (bif (decide (0 ≤ t4) && decide (t4 < (h0.length : Int))) then .next (IntKind.i64.wrap (t4 + 1), h0.set t4.toNat (AV.agg [AV.int .i64 (v146_0 (fI (t0.getD t4.toNat AV.undef) 0) (fI (t0.getD t4.toNat AV.undef) 1)), AV.int .i64 (v146_1 (fI (t0.getD t4.toNat AV.undef) 0) (fI (t0.getD t4.toNat AV.undef) 1))]))
    else .fail)
   else .fail)
  else .stop h0)
def R114_0 (t0 : List AV) : ((Int × (List AV))) → Out ((Int × (List AV))) (((List AV))) := fun s : Int × (List AV) => F114_0 t0 s.1 s.2
def l114_0 : LModel := fun _ _ st k => match st with
  | ⟨[(0, .sl g0 t0), (3, .own g1), (4, .int .i64 t4)], [(g2, ⟨false, g3, h0⟩)]⟩ => bif ctsEq g0 ([.int .i64, .int .i64]) && nmEq g1 ([0, 3]) && nmEq g2 ([0, 3]) && ctsEq g3 ([.int .i64, .int .i64]) then ro (runW (R114_0 t0) (((t0.length : Int) - t4).toNat + 1) (t4, h0)) none (fun p : (List AV) => k (.exit 0) ⟨[(3, AV.own [0, 3])], [([0, 3], ⟨false, [.int .i64, .int .i64], p⟩)]⟩) else none
  | _ => none
noncomputable def c114 : Cfg := cfg Try.prog [(114, 0, [0, 3, 4]), (114, 999, [2]), (114, 1000, [3]), (114, 1001, [0, 3, 4])] [(146, m146)] [] [] [(114, 0, l114_0)]
theorem s114_0 (ce : CallE) (t0 : List AV) (t4 : Int) (h0 : List AV) (next : St → Option AV) (k : Kont) : stepA (codeA c114 ce [] 114 0 (sub [1, 1, 0, 1, 0, 0] (body Try.f114))) (normA [] [0, 3, 4]) next ⟨[(0, AV.sl [.int .i64, .int .i64] t0), (3, AV.own [0, 3]), (4, AV.int .i64 t4)], [([0, 3], ⟨false, [.int .i64, .int .i64], h0⟩)]⟩ k = (bif decide (t4 < (t0.length : Int)) then (bif (decide (0 ≤ t4) && decide (t4 < (t0.length : Int))) then (bif (decide (0 ≤ t4) && decide (t4 < (h0.length : Int))) then next ⟨[(0, AV.sl [.int .i64, .int .i64] t0), (3, AV.own [0, 3]), (4, AV.int .i64 (IntKind.i64.wrap (t4 + 1)))], [([0, 3], ⟨false, [.int .i64, .int .i64], h0.set t4.toNat (AV.agg [AV.int .i64 (v146_0 (fI (t0.getD t4.toNat AV.undef) 0) (fI (t0.getD t4.toNat AV.undef) 1)), AV.int .i64 (v146_1 (fI (t0.getD t4.toNat AV.undef) 0) (fI (t0.getD t4.toNat AV.undef) 1))])⟩)]⟩
    else none)
   else none)
  else k (.exit 0) ⟨[(3, AV.own [0, 3])], [([0, 3], ⟨false, [.int .i64, .int .i64], h0⟩)]⟩) := by kernel_rfl
theorem st114_0 (t0 : List AV) (ce : CallE) (k : Kont) (s : (Int × (List AV))) (next : St → Option AV) : stepA (codeA c114 ce [] 114 0 (sub [1, 1, 0, 1, 0, 0] (body Try.f114))) (normA [] [0, 3, 4]) next ((fun s : Int × (List AV) => ⟨[(0, AV.sl [.int .i64, .int .i64] t0), (3, AV.own [0, 3]), (4, AV.int .i64 s.1)], [([0, 3], ⟨false, [.int .i64, .int .i64], s.2⟩)]⟩) s) k = (R114_0 t0 s).el none (fun s => next ((fun s : Int × (List AV) => ⟨[(0, AV.sl [.int .i64, .int .i64] t0), (3, AV.own [0, 3]), (4, AV.int .i64 s.1)], [([0, 3], ⟨false, [.int .i64, .int .i64], s.2⟩)]⟩) s)) (fun p : (List AV) => k (.exit 0) ⟨[(3, AV.own [0, 3])], [([0, 3], ⟨false, [.int .i64, .int .i64], p⟩)]⟩) := (s114_0 ce t0 s.1 s.2 next k).trans (by unfold R114_0; unfold F114_0; simp only [el_cond, el_ro, el_sum, el_fail, el_next, el_stop] <;> rfl)
theorem ok114_0 : LoopOK c114 [] 114 0 (sub [1, 1, 0, 1, 0, 0] (body Try.f114)) := by
  intro m hm ce st k r h
  obtain rfl : l114_0 = m := Option.some.inj hm
  unfold l114_0 at h
  split at h
  · rename_i g0 t0 g1 t4 g2 g3 h0
    obtain ⟨hg, h⟩ := bif_some h
    simp only [Bool.and_eq_true] at hg
    obtain ⟨⟨⟨q0, q1⟩, q2⟩, q3⟩ := hg
    obtain rfl := ctsEq_eq _ _ q0
    obtain rfl := (nmEq_iff _ _).1 q1
    obtain rfl := (nmEq_iff _ _).1 q2
    obtain rfl := ctsEq_eq _ _ q3
    refine ⟨(((t0.length : Int) - t4).toNat + 1), ?_⟩
    rw [← h]
    exact loop_run (fun s : Int × (List AV) => ⟨[(0, AV.sl [.int .i64, .int .i64] t0), (3, AV.own [0, 3]), (4, AV.int .i64 s.1)], [([0, 3], ⟨false, [.int .i64, .int .i64], s.2⟩)]⟩) (fun p : (List AV) => k (.exit 0) ⟨[(3, AV.own [0, 3])], [([0, 3], ⟨false, [.int .i64, .int .i64], p⟩)]⟩) (st114_0 t0 ce k) _ (t4, h0)
  · cases h
def q114 (a0 : List AV) : Bool := ((decide (0 ≤ (a0.length : Int)) && decide ((a0.length : Int) ≤ (a0.length : Int)) && decide ((a0.length : Int) * 16 ≤ 140737488355328) && decide ((a0.length : Int) ≤ 140737488355328)) && (ro (runW (R114_0 a0) (((a0.length : Int) - 0).toNat + 1) (0, List.replicate (Int.toNat (a0.length : Int)) (AV.agg [AV.int .i64 0, AV.int .i64 0]))) false (fun p3 => true)))
def v114_0 (a0 : List AV) : List AV := (ro (runW (R114_0 a0) (((a0.length : Int) - 0).toNat + 1) (0, List.replicate (Int.toNat (a0.length : Int)) (AV.agg [AV.int .i64 0, AV.int .i64 0]))) [] (fun p3 => p3))
theorem e114 (a0 : List AV) : funA c114 0 114 [AV.sl [.int .i64, .int .i64] a0] = (bif (decide (0 ≤ (a0.length : Int)) && decide ((a0.length : Int) ≤ (a0.length : Int)) && decide ((a0.length : Int) * 16 ≤ 140737488355328) && decide ((a0.length : Int) ≤ 140737488355328)) then (ro (runW (R114_0 a0) (((a0.length : Int) - 0).toNat + 1) (0, List.replicate (Int.toNat (a0.length : Int)) (AV.agg [AV.int .i64 0, AV.int .i64 0]))) none (fun p3 => some (AV.fl [.int .i64, .int .i64] p3)))
  else none) := by kernel_rfl
theorem r114 (a0 : List AV) (h : q114 a0 = true) : funA c114 0 114 [AV.sl [.int .i64, .int .i64] a0] = some (AV.fl [.int .i64, .int .i64] (v114_0 a0)) := (e114 a0).trans ((brL (brO (fun o : Option (((List AV))) => some (AV.fl [.int .i64, .int .i64] (ro o [] (fun p3 => p3)))) (fun p3 => (fun _ => rfl)))) h)
def m114 : TModel
  | [.sl g0 a0] => bif ctsEq g0 ([.int .i64, .int .i64]) then some (q114 a0, AV.fl [.int .i64, .int .i64] (v114_0 a0)) else none
  | _ => none
theorem k114 : Known Try.prog 114 := ⟨Try.f114, Try.func114, by kernel_rfl, by kernel_rfl⟩
theorem meets114 : Meets Try.prog 114 m114 := by
  refine meet (f := Try.f114) (l := [(0, sub [1, 1, 0, 1, 0, 0] (body Try.f114))]) (hs := [(114, 0, [0, 3, 4]), (114, 999, [2]), (114, 1000, [3]), (114, 1001, [0, 3, 4])]) (ts := [(146, m146)]) (ws := []) (is := []) (ls := [(114, 0, l114_0)]) (lvl := 0) mixed k114 Try.func114 (by kernel_rfl) (loops_cons ok114_0 noLoop) (allT_cons meets146 allT_nil) allM_nil noI fun w xs us r hl hv h => ?_
  unfold m114 at h
  split at h
  · rename_i g0 a0
    obtain ⟨hg, h⟩ := bif_pair h
    have q0 := hg
    obtain rfl := ctsEq_eq _ _ q0
    obtain ⟨h1, rfl⟩ := pair_inj h
    exact r114 a0 h1
  · cases h

/-! ### 78 loop.example/g01984/laws.toCracker -/
noncomputable def c78 : Cfg := cfg Try.prog [(78, 999, [2])] [(34, m34), (114, m114)] [] [] []
def q78 (a0_0 : List AV) (a0_1 : List AV) (a0_2 : List AV) : Bool := (q34 a0_0 && (q34 a0_1 && q114 a0_2))
def v78_0 (a0_0 : List AV) (a0_1 : List AV) (a0_2 : List AV) : List AV := (v34_0 a0_0)
def v78_1 (a0_0 : List AV) (a0_1 : List AV) (a0_2 : List AV) : List AV := (v34_0 a0_1)
def v78_2 (a0_0 : List AV) (a0_1 : List AV) (a0_2 : List AV) : List AV := (v114_0 a0_2)
theorem e78 (a0_0 : List AV) (a0_1 : List AV) (a0_2 : List AV) : funA c78 0 78 [AV.agg [AV.sl [.int .i64] a0_0, AV.sl [.int .i64] a0_1, AV.sl [.int .i64, .int .i64] a0_2]] = (bif q34 a0_0 then (bif q34 a0_1 then (bif q114 a0_2 then some (AV.agg [AV.fl [.int .i64] (v34_0 a0_0), AV.fl [.int .i64] (v34_0 a0_1), AV.fl [.int .i64, .int .i64] (v114_0 a0_2)])
    else none)
   else none)
  else none) := by kernel_rfl
theorem r78 (a0_0 : List AV) (a0_1 : List AV) (a0_2 : List AV) (h : q78 a0_0 a0_1 a0_2 = true) : funA c78 0 78 [AV.agg [AV.sl [.int .i64] a0_0, AV.sl [.int .i64] a0_1, AV.sl [.int .i64, .int .i64] a0_2]] = some (AV.agg [AV.fl [.int .i64] (v78_0 a0_0 a0_1 a0_2), AV.fl [.int .i64] (v78_1 a0_0 a0_1 a0_2), AV.fl [.int .i64, .int .i64] (v78_2 a0_0 a0_1 a0_2)]) := (e78 a0_0 a0_1 a0_2).trans ((brL (brL (brL1 (fun _ => rfl)))) h)
def m78 : TModel
  | [.agg [.sl g0 a0_0, .sl g1 a0_1, .sl g2 a0_2]] => bif ctsEq g0 ([.int .i64]) && ctsEq g1 ([.int .i64]) && ctsEq g2 ([.int .i64, .int .i64]) then some (q78 a0_0 a0_1 a0_2, AV.agg [AV.fl [.int .i64] (v78_0 a0_0 a0_1 a0_2), AV.fl [.int .i64] (v78_1 a0_0 a0_1 a0_2), AV.fl [.int .i64, .int .i64] (v78_2 a0_0 a0_1 a0_2)]) else none
  | _ => none
theorem k78 : Known Try.prog 78 := ⟨Try.f78, Try.func78, by kernel_rfl, by kernel_rfl⟩
theorem meets78 : Meets Try.prog 78 m78 := by
  refine meet (f := Try.f78) (l := []) (hs := [(78, 999, [2])]) (ts := [(34, m34), (114, m114)]) (ws := []) (is := []) (ls := []) (lvl := 0) mixed k78 Try.func78 (by kernel_rfl) noLoop (allT_cons meets34 (allT_cons meets114 allT_nil)) allM_nil noI fun w xs us r hl hv h => ?_
  unfold m78 at h
  split at h
  · rename_i g0 a0_0 g1 a0_1 g2 a0_2
    obtain ⟨hg, h⟩ := bif_pair h
    simp only [Bool.and_eq_true] at hg
    obtain ⟨⟨q0, q1⟩, q2⟩ := hg
    obtain rfl := ctsEq_eq _ _ q0
    obtain rfl := ctsEq_eq _ _ q1
    obtain rfl := ctsEq_eq _ _ q2
    obtain ⟨h1, rfl⟩ := pair_inj h
    exact r78 a0_0 a0_1 a0_2 h1
  · cases h

/-! ### 40 loop.example/g01984/laws.toStore -/
noncomputable def c40 : Cfg := cfg Try.prog [(40, 999, [2])] [(77, m77), (78, m78)] [] [] []
def q40 (a0_0 : List AV) (a0_1 : Int) (a0_2 : List AV) (a0_3 : List AV) (a0_4 : List AV) : Bool := (q77 a0_0 && q78 a0_2 a0_3 a0_4)
def v40_0 (a0_0 : List AV) (a0_1 : Int) (a0_2 : List AV) (a0_3 : List AV) (a0_4 : List AV) : List AV := (v77_0 a0_0)
def v40_1 (a0_0 : List AV) (a0_1 : Int) (a0_2 : List AV) (a0_3 : List AV) (a0_4 : List AV) : Int := a0_1
def v40_2 (a0_0 : List AV) (a0_1 : Int) (a0_2 : List AV) (a0_3 : List AV) (a0_4 : List AV) : List AV := (v78_0 a0_2 a0_3 a0_4)
def v40_3 (a0_0 : List AV) (a0_1 : Int) (a0_2 : List AV) (a0_3 : List AV) (a0_4 : List AV) : List AV := (v78_1 a0_2 a0_3 a0_4)
def v40_4 (a0_0 : List AV) (a0_1 : Int) (a0_2 : List AV) (a0_3 : List AV) (a0_4 : List AV) : List AV := (v78_2 a0_2 a0_3 a0_4)
theorem e40 (a0_0 : List AV) (a0_1 : Int) (a0_2 : List AV) (a0_3 : List AV) (a0_4 : List AV) : funA c40 0 40 [AV.agg [AV.sl [.int .i64, .int .i64, .int .i64, .int .i64] a0_0, AV.int .i64 a0_1, AV.sl [.int .i64] a0_2, AV.sl [.int .i64] a0_3, AV.sl [.int .i64, .int .i64] a0_4]] = (bif q77 a0_0 then (bif q78 a0_2 a0_3 a0_4 then some (AV.agg [AV.fl [.int .i64, .int .i64, .int .i64, .int .i64] (v77_0 a0_0), AV.int .i64 a0_1, AV.fl [.int .i64] (v78_0 a0_2 a0_3 a0_4), AV.fl [.int .i64] (v78_1 a0_2 a0_3 a0_4), AV.fl [.int .i64, .int .i64] (v78_2 a0_2 a0_3 a0_4)])
   else none)
  else none) := by kernel_rfl
theorem r40 (a0_0 : List AV) (a0_1 : Int) (a0_2 : List AV) (a0_3 : List AV) (a0_4 : List AV) (h : q40 a0_0 a0_1 a0_2 a0_3 a0_4 = true) : funA c40 0 40 [AV.agg [AV.sl [.int .i64, .int .i64, .int .i64, .int .i64] a0_0, AV.int .i64 a0_1, AV.sl [.int .i64] a0_2, AV.sl [.int .i64] a0_3, AV.sl [.int .i64, .int .i64] a0_4]] = some (AV.agg [AV.fl [.int .i64, .int .i64, .int .i64, .int .i64] (v40_0 a0_0 a0_1 a0_2 a0_3 a0_4), AV.int .i64 (v40_1 a0_0 a0_1 a0_2 a0_3 a0_4), AV.fl [.int .i64] (v40_2 a0_0 a0_1 a0_2 a0_3 a0_4), AV.fl [.int .i64] (v40_3 a0_0 a0_1 a0_2 a0_3 a0_4), AV.fl [.int .i64, .int .i64] (v40_4 a0_0 a0_1 a0_2 a0_3 a0_4)]) := (e40 a0_0 a0_1 a0_2 a0_3 a0_4).trans ((brL (brL1 (fun _ => rfl))) h)
def m40 : TModel
  | [.agg [.sl g0 a0_0, .int .i64 a0_1, .sl g1 a0_2, .sl g2 a0_3, .sl g3 a0_4]] => bif ctsEq g0 ([.int .i64, .int .i64, .int .i64, .int .i64]) && ctsEq g1 ([.int .i64]) && ctsEq g2 ([.int .i64]) && ctsEq g3 ([.int .i64, .int .i64]) then some (q40 a0_0 a0_1 a0_2 a0_3 a0_4, AV.agg [AV.fl [.int .i64, .int .i64, .int .i64, .int .i64] (v40_0 a0_0 a0_1 a0_2 a0_3 a0_4), AV.int .i64 (v40_1 a0_0 a0_1 a0_2 a0_3 a0_4), AV.fl [.int .i64] (v40_2 a0_0 a0_1 a0_2 a0_3 a0_4), AV.fl [.int .i64] (v40_3 a0_0 a0_1 a0_2 a0_3 a0_4), AV.fl [.int .i64, .int .i64] (v40_4 a0_0 a0_1 a0_2 a0_3 a0_4)]) else none
  | _ => none
theorem k40 : Known Try.prog 40 := ⟨Try.f40, Try.func40, by kernel_rfl, by kernel_rfl⟩
theorem meets40 : Meets Try.prog 40 m40 := by
  refine meet (f := Try.f40) (l := []) (hs := [(40, 999, [2])]) (ts := [(77, m77), (78, m78)]) (ws := []) (is := []) (ls := []) (lvl := 0) mixed k40 Try.func40 (by kernel_rfl) noLoop (allT_cons meets77 (allT_cons meets78 allT_nil)) allM_nil noI fun w xs us r hl hv h => ?_
  unfold m40 at h
  split at h
  · rename_i g0 a0_0 a0_1 g1 a0_2 g2 a0_3 g3 a0_4
    obtain ⟨hg, h⟩ := bif_pair h
    simp only [Bool.and_eq_true] at hg
    obtain ⟨⟨⟨q0, q1⟩, q2⟩, q3⟩ := hg
    obtain rfl := ctsEq_eq _ _ q0
    obtain rfl := ctsEq_eq _ _ q1
    obtain rfl := ctsEq_eq _ _ q2
    obtain rfl := ctsEq_eq _ _ q3
    obtain ⟨h1, rfl⟩ := pair_inj h
    exact r40 a0_0 a0_1 a0_2 a0_3 a0_4 h1
  · cases h

/-! ### 94 loop.example/g01984/spec.l4Ints -/
def F94_0 (t0 : List AV) (t1 : List AV) (t5 : Int) : Out (Int) (Unit ⊕ Unit) := (bif decide (t5 < (t0.length : Int)) then (bif (decide (0 ≤ t5) && decide (t5 < (t0.length : Int))) then (bif (decide (0 ≤ t5) && decide (t5 < (t1.length : Int))) then (bif !decide (fI (t0.getD t5.toNat AV.undef) 0 = fI (t1.getD t5.toNat AV.undef) 0) then .stop (.inr ())
     else .next (IntKind.i64.wrap (t5 + 1)))
    else .fail)
   else .fail)
  else .stop (.inl ()))
def R94_0 (t0 : List AV) (t1 : List AV) : (Int) → Out (Int) (Unit ⊕ Unit) := fun s : Int => F94_0 t0 t1 s
def l94_0 : LModel := fun _ _ st k => match st with
  | ⟨[(0, .sl g0 t0), (1, .sl g1 t1), (5, .int .i64 t5)], []⟩ => bif ctsEq g0 ([.int .i64]) && ctsEq g1 ([.int .i64]) then ro (runW (R94_0 t0 t1) (((t0.length : Int) - t5).toNat + 1) t5) none (sumE (fun _ : Unit => k (.exit 0) ⟨[], []⟩) (fun _ : Unit => k .ret ⟨[(4, AV.bool false)], []⟩)) else none
  | _ => none
noncomputable def c94 : Cfg := cfg Try.prog [(94, 0, [0, 1, 5]), (94, 999, [4]), (94, 1000, []), (94, 1001, [0, 1, 5])] [] [] [] [(94, 0, l94_0)]
theorem s94_0 (ce : CallE) (t0 : List AV) (t1 : List AV) (t5 : Int) (next : St → Option AV) (k : Kont) : stepA (codeA c94 ce [] 94 0 (sub [1, 1, 0, 1, 0, 0] (body Try.f94))) (normA [] [0, 1, 5]) next ⟨[(0, AV.sl [.int .i64] t0), (1, AV.sl [.int .i64] t1), (5, AV.int .i64 t5)], []⟩ k = (bif decide (t5 < (t0.length : Int)) then (bif (decide (0 ≤ t5) && decide (t5 < (t0.length : Int))) then (bif (decide (0 ≤ t5) && decide (t5 < (t1.length : Int))) then (bif !decide (fI (t0.getD t5.toNat AV.undef) 0 = fI (t1.getD t5.toNat AV.undef) 0) then k .ret ⟨[(4, AV.bool false)], []⟩
     else next ⟨[(0, AV.sl [.int .i64] t0), (1, AV.sl [.int .i64] t1), (5, AV.int .i64 (IntKind.i64.wrap (t5 + 1)))], []⟩)
    else none)
   else none)
  else k (.exit 0) ⟨[], []⟩) := by kernel_rfl
theorem st94_0 (t0 : List AV) (t1 : List AV) (ce : CallE) (k : Kont) (s : Int) (next : St → Option AV) : stepA (codeA c94 ce [] 94 0 (sub [1, 1, 0, 1, 0, 0] (body Try.f94))) (normA [] [0, 1, 5]) next ((fun s : Int => ⟨[(0, AV.sl [.int .i64] t0), (1, AV.sl [.int .i64] t1), (5, AV.int .i64 s)], []⟩) s) k = (R94_0 t0 t1 s).el none (fun s => next ((fun s : Int => ⟨[(0, AV.sl [.int .i64] t0), (1, AV.sl [.int .i64] t1), (5, AV.int .i64 s)], []⟩) s)) (sumE (fun _ : Unit => k (.exit 0) ⟨[], []⟩) (fun _ : Unit => k .ret ⟨[(4, AV.bool false)], []⟩)) := (s94_0 ce t0 t1 s next k).trans (by unfold R94_0; unfold F94_0; simp only [el_cond, el_ro, el_sum, el_fail, el_next, el_stop] <;> rfl)
theorem ok94_0 : LoopOK c94 [] 94 0 (sub [1, 1, 0, 1, 0, 0] (body Try.f94)) := by
  intro m hm ce st k r h
  obtain rfl : l94_0 = m := Option.some.inj hm
  unfold l94_0 at h
  split at h
  · rename_i g0 t0 g1 t1 t5
    obtain ⟨hg, h⟩ := bif_some h
    simp only [Bool.and_eq_true] at hg
    obtain ⟨q0, q1⟩ := hg
    obtain rfl := ctsEq_eq _ _ q0
    obtain rfl := ctsEq_eq _ _ q1
    refine ⟨(((t0.length : Int) - t5).toNat + 1), ?_⟩
    rw [← h]
    exact loop_run (fun s : Int => ⟨[(0, AV.sl [.int .i64] t0), (1, AV.sl [.int .i64] t1), (5, AV.int .i64 s)], []⟩) (sumE (fun _ : Unit => k (.exit 0) ⟨[], []⟩) (fun _ : Unit => k .ret ⟨[(4, AV.bool false)], []⟩)) (st94_0 t0 t1 ce k) _ t5
  · cases h
def q94 (a0 : List AV) (a1 : List AV) : Bool := (bif !decide ((a0.length : Int) = (a1.length : Int)) then true else (ro (runW (R94_0 a0 a1) (((a0.length : Int) - 0).toNat + 1) 0) false (sumE (fun _ => true) (fun _ => true))))
def v94_0 (a0 : List AV) (a1 : List AV) : Bool := (bif !decide ((a0.length : Int) = (a1.length : Int)) then false else (ro (runW (R94_0 a0 a1) (((a0.length : Int) - 0).toNat + 1) 0) false (sumE (fun _ => true) (fun _ => false))))
theorem e94 (a0 : List AV) (a1 : List AV) : funA c94 0 94 [AV.sl [.int .i64] a0, AV.sl [.int .i64] a1] = (bif !decide ((a0.length : Int) = (a1.length : Int)) then some (AV.bool false)
  else (ro (runW (R94_0 a0 a1) (((a0.length : Int) - 0).toNat + 1) 0) none (sumE (fun _ => some (AV.bool true)) (fun _ => some (AV.bool false))))) := by kernel_rfl
theorem r94 (a0 : List AV) (a1 : List AV) (h : q94 a0 a1 = true) : funA c94 0 94 [AV.sl [.int .i64] a0, AV.sl [.int .i64] a1] = some (AV.bool (v94_0 a0 a1)) := (e94 a0 a1).trans ((br (fun b => some (AV.bool (bif b then false else (ro (runW (R94_0 a0 a1) (((a0.length : Int) - 0).toNat + 1) 0) false (sumE (fun _ => true) (fun _ => false)))))) (fun _ => rfl) (brO (fun o : Option (Unit ⊕ Unit) => some (AV.bool (ro o false (sumE (fun _ => true) (fun _ => false))))) (brS (fun o : Unit ⊕ Unit => some (AV.bool ((sumE (fun _ => true) (fun _ => false)) o))) (fun _ => (fun _ => rfl)) (fun _ => (fun _ => rfl))))) h)
def m94 : TModel
  | [.sl g0 a0, .sl g1 a1] => bif ctsEq g0 ([.int .i64]) && ctsEq g1 ([.int .i64]) then some (q94 a0 a1, AV.bool (v94_0 a0 a1)) else none
  | _ => none
theorem k94 : Known Try.prog 94 := ⟨Try.f94, Try.func94, by kernel_rfl, by kernel_rfl⟩
theorem meets94 : Meets Try.prog 94 m94 := by
  refine meet (f := Try.f94) (l := [(0, sub [1, 1, 0, 1, 0, 0] (body Try.f94))]) (hs := [(94, 0, [0, 1, 5]), (94, 999, [4]), (94, 1000, []), (94, 1001, [0, 1, 5])]) (ts := []) (ws := []) (is := []) (ls := [(94, 0, l94_0)]) (lvl := 0) mixed k94 Try.func94 (by kernel_rfl) (loops_cons ok94_0 noLoop) allT_nil allM_nil noI fun w xs us r hl hv h => ?_
  unfold m94 at h
  split at h
  · rename_i g0 a0 g1 a1
    obtain ⟨hg, h⟩ := bif_pair h
    simp only [Bool.and_eq_true] at hg
    obtain ⟨q0, q1⟩ := hg
    obtain rfl := ctsEq_eq _ _ q0
    obtain rfl := ctsEq_eq _ _ q1
    obtain ⟨h1, rfl⟩ := pair_inj h
    exact r94 a0 a1 h1
  · cases h

/-! ### 95 loop.example/g01984/spec.l4Same -/
def F95_0 (t0 : List AV) (t1 : List AV) (t5 : Int) : Out (Int) (Unit ⊕ Unit) := (bif decide (t5 < (t0.length : Int)) then (bif (decide (0 ≤ t5) && decide (t5 < (t0.length : Int))) then (bif (decide (0 ≤ t5) && decide (t5 < (t1.length : Int))) then (bif !(bif decide (fI (t0.getD t5.toNat AV.undef) 0 = fI (t1.getD t5.toNat AV.undef) 0) then (bif decide (fI (t0.getD t5.toNat AV.undef) 1 = fI (t1.getD t5.toNat AV.undef) 1) then true else false) else false) then .stop (.inr ())
     else .next (IntKind.i64.wrap (t5 + 1)))
    else .fail)
   else .fail)
  else .stop (.inl ()))
def R95_0 (t0 : List AV) (t1 : List AV) : (Int) → Out (Int) (Unit ⊕ Unit) := fun s : Int => F95_0 t0 t1 s
def l95_0 : LModel := fun _ _ st k => match st with
  | ⟨[(0, .sl g0 t0), (1, .sl g1 t1), (5, .int .i64 t5)], []⟩ => bif ctsEq g0 ([.int .i64, .int .i64]) && ctsEq g1 ([.int .i64, .int .i64]) then ro (runW (R95_0 t0 t1) (((t0.length : Int) - t5).toNat + 1) t5) none (sumE (fun _ : Unit => k (.exit 0) ⟨[], []⟩) (fun _ : Unit => k .ret ⟨[(4, AV.bool false)], []⟩)) else none
  | _ => none
noncomputable def c95 : Cfg := cfg Try.prog [(95, 0, [0, 1, 5]), (95, 999, [4]), (95, 1000, []), (95, 1001, [0, 1, 5])] [] [] [] [(95, 0, l95_0)]
theorem s95_0 (ce : CallE) (t0 : List AV) (t1 : List AV) (t5 : Int) (next : St → Option AV) (k : Kont) : stepA (codeA c95 ce [] 95 0 (sub [1, 1, 0, 1, 0, 0] (body Try.f95))) (normA [] [0, 1, 5]) next ⟨[(0, AV.sl [.int .i64, .int .i64] t0), (1, AV.sl [.int .i64, .int .i64] t1), (5, AV.int .i64 t5)], []⟩ k = (bif decide (t5 < (t0.length : Int)) then (bif (decide (0 ≤ t5) && decide (t5 < (t0.length : Int))) then (bif (decide (0 ≤ t5) && decide (t5 < (t1.length : Int))) then (bif !(bif decide (fI (t0.getD t5.toNat AV.undef) 0 = fI (t1.getD t5.toNat AV.undef) 0) then (bif decide (fI (t0.getD t5.toNat AV.undef) 1 = fI (t1.getD t5.toNat AV.undef) 1) then true else false) else false) then k .ret ⟨[(4, AV.bool false)], []⟩
     else next ⟨[(0, AV.sl [.int .i64, .int .i64] t0), (1, AV.sl [.int .i64, .int .i64] t1), (5, AV.int .i64 (IntKind.i64.wrap (t5 + 1)))], []⟩)
    else none)
   else none)
  else k (.exit 0) ⟨[], []⟩) := by kernel_rfl
theorem st95_0 (t0 : List AV) (t1 : List AV) (ce : CallE) (k : Kont) (s : Int) (next : St → Option AV) : stepA (codeA c95 ce [] 95 0 (sub [1, 1, 0, 1, 0, 0] (body Try.f95))) (normA [] [0, 1, 5]) next ((fun s : Int => ⟨[(0, AV.sl [.int .i64, .int .i64] t0), (1, AV.sl [.int .i64, .int .i64] t1), (5, AV.int .i64 s)], []⟩) s) k = (R95_0 t0 t1 s).el none (fun s => next ((fun s : Int => ⟨[(0, AV.sl [.int .i64, .int .i64] t0), (1, AV.sl [.int .i64, .int .i64] t1), (5, AV.int .i64 s)], []⟩) s)) (sumE (fun _ : Unit => k (.exit 0) ⟨[], []⟩) (fun _ : Unit => k .ret ⟨[(4, AV.bool false)], []⟩)) := (s95_0 ce t0 t1 s next k).trans (by unfold R95_0; unfold F95_0; simp only [el_cond, el_ro, el_sum, el_fail, el_next, el_stop] <;> rfl)
theorem ok95_0 : LoopOK c95 [] 95 0 (sub [1, 1, 0, 1, 0, 0] (body Try.f95)) := by
  intro m hm ce st k r h
  obtain rfl : l95_0 = m := Option.some.inj hm
  unfold l95_0 at h
  split at h
  · rename_i g0 t0 g1 t1 t5
    obtain ⟨hg, h⟩ := bif_some h
    simp only [Bool.and_eq_true] at hg
    obtain ⟨q0, q1⟩ := hg
    obtain rfl := ctsEq_eq _ _ q0
    obtain rfl := ctsEq_eq _ _ q1
    refine ⟨(((t0.length : Int) - t5).toNat + 1), ?_⟩
    rw [← h]
    exact loop_run (fun s : Int => ⟨[(0, AV.sl [.int .i64, .int .i64] t0), (1, AV.sl [.int .i64, .int .i64] t1), (5, AV.int .i64 s)], []⟩) (sumE (fun _ : Unit => k (.exit 0) ⟨[], []⟩) (fun _ : Unit => k .ret ⟨[(4, AV.bool false)], []⟩)) (st95_0 t0 t1 ce k) _ t5
  · cases h
def q95 (a0 : List AV) (a1 : List AV) : Bool := (bif !decide ((a0.length : Int) = (a1.length : Int)) then true else (ro (runW (R95_0 a0 a1) (((a0.length : Int) - 0).toNat + 1) 0) false (sumE (fun _ => true) (fun _ => true))))
def v95_0 (a0 : List AV) (a1 : List AV) : Bool := (bif !decide ((a0.length : Int) = (a1.length : Int)) then false else (ro (runW (R95_0 a0 a1) (((a0.length : Int) - 0).toNat + 1) 0) false (sumE (fun _ => true) (fun _ => false))))
theorem e95 (a0 : List AV) (a1 : List AV) : funA c95 0 95 [AV.sl [.int .i64, .int .i64] a0, AV.sl [.int .i64, .int .i64] a1] = (bif !decide ((a0.length : Int) = (a1.length : Int)) then some (AV.bool false)
  else (ro (runW (R95_0 a0 a1) (((a0.length : Int) - 0).toNat + 1) 0) none (sumE (fun _ => some (AV.bool true)) (fun _ => some (AV.bool false))))) := by kernel_rfl
theorem r95 (a0 : List AV) (a1 : List AV) (h : q95 a0 a1 = true) : funA c95 0 95 [AV.sl [.int .i64, .int .i64] a0, AV.sl [.int .i64, .int .i64] a1] = some (AV.bool (v95_0 a0 a1)) := (e95 a0 a1).trans ((br (fun b => some (AV.bool (bif b then false else (ro (runW (R95_0 a0 a1) (((a0.length : Int) - 0).toNat + 1) 0) false (sumE (fun _ => true) (fun _ => false)))))) (fun _ => rfl) (brO (fun o : Option (Unit ⊕ Unit) => some (AV.bool (ro o false (sumE (fun _ => true) (fun _ => false))))) (brS (fun o : Unit ⊕ Unit => some (AV.bool ((sumE (fun _ => true) (fun _ => false)) o))) (fun _ => (fun _ => rfl)) (fun _ => (fun _ => rfl))))) h)
def m95 : TModel
  | [.sl g0 a0, .sl g1 a1] => bif ctsEq g0 ([.int .i64, .int .i64]) && ctsEq g1 ([.int .i64, .int .i64]) then some (q95 a0 a1, AV.bool (v95_0 a0 a1)) else none
  | _ => none
theorem k95 : Known Try.prog 95 := ⟨Try.f95, Try.func95, by kernel_rfl, by kernel_rfl⟩
theorem meets95 : Meets Try.prog 95 m95 := by
  refine meet (f := Try.f95) (l := [(0, sub [1, 1, 0, 1, 0, 0] (body Try.f95))]) (hs := [(95, 0, [0, 1, 5]), (95, 999, [4]), (95, 1000, []), (95, 1001, [0, 1, 5])]) (ts := []) (ws := []) (is := []) (ls := [(95, 0, l95_0)]) (lvl := 0) mixed k95 Try.func95 (by kernel_rfl) (loops_cons ok95_0 noLoop) allT_nil allM_nil noI fun w xs us r hl hv h => ?_
  unfold m95 at h
  split at h
  · rename_i g0 a0 g1 a1
    obtain ⟨hg, h⟩ := bif_pair h
    simp only [Bool.and_eq_true] at hg
    obtain ⟨q0, q1⟩ := hg
    obtain rfl := ctsEq_eq _ _ q0
    obtain rfl := ctsEq_eq _ _ q1
    obtain ⟨h1, rfl⟩ := pair_inj h
    exact r95 a0 a1 h1
  · cases h

/-! ### 47 loop.example/g01984/spec.EqualCrackers -/
noncomputable def c47 : Cfg := cfg Try.prog [(47, 999, [4])] [(94, m94), (95, m95)] [] [] []
def q47 (a0_0 : List AV) (a0_1 : List AV) (a0_2 : List AV) (a1_0 : List AV) (a1_1 : List AV) (a1_2 : List AV) : Bool := (q94 a0_0 a1_0 && (bif (v94_0 a0_0 a1_0) then (q94 a0_1 a1_1 && (bif (v94_0 a0_1 a1_1) then q95 a0_2 a1_2 else true)) else true))
def v47_0 (a0_0 : List AV) (a0_1 : List AV) (a0_2 : List AV) (a1_0 : List AV) (a1_1 : List AV) (a1_2 : List AV) : Bool := (bif (v94_0 a0_0 a1_0) then (bif (v94_0 a0_1 a1_1) then (v95_0 a0_2 a1_2) else false) else false)
theorem e47 (a0_0 : List AV) (a0_1 : List AV) (a0_2 : List AV) (a1_0 : List AV) (a1_1 : List AV) (a1_2 : List AV) : funA c47 0 47 [AV.agg [AV.sl [.int .i64] a0_0, AV.sl [.int .i64] a0_1, AV.sl [.int .i64, .int .i64] a0_2], AV.agg [AV.sl [.int .i64] a1_0, AV.sl [.int .i64] a1_1, AV.sl [.int .i64, .int .i64] a1_2]] = (bif q94 a0_0 a1_0 then (bif (v94_0 a0_0 a1_0) then (bif q94 a0_1 a1_1 then (bif (v94_0 a0_1 a1_1) then (bif q95 a0_2 a1_2 then some (AV.bool (v95_0 a0_2 a1_2))
      else none)
     else some (AV.bool false))
    else none)
   else some (AV.bool false))
  else none) := by kernel_rfl
theorem r47 (a0_0 : List AV) (a0_1 : List AV) (a0_2 : List AV) (a1_0 : List AV) (a1_1 : List AV) (a1_2 : List AV) (h : q47 a0_0 a0_1 a0_2 a1_0 a1_1 a1_2 = true) : funA c47 0 47 [AV.agg [AV.sl [.int .i64] a0_0, AV.sl [.int .i64] a0_1, AV.sl [.int .i64, .int .i64] a0_2], AV.agg [AV.sl [.int .i64] a1_0, AV.sl [.int .i64] a1_1, AV.sl [.int .i64, .int .i64] a1_2]] = some (AV.bool (v47_0 a0_0 a0_1 a0_2 a1_0 a1_1 a1_2)) := (e47 a0_0 a0_1 a0_2 a1_0 a1_1 a1_2).trans ((brL (br (fun b => some (AV.bool (bif b then (bif (v94_0 a0_1 a1_1) then (v95_0 a0_2 a1_2) else false) else false))) (brL (br (fun b => some (AV.bool (bif b then (v95_0 a0_2 a1_2) else false))) (brL1 (fun _ => rfl)) (fun _ => rfl))) (fun _ => rfl))) h)
def m47 : TModel
  | [.agg [.sl g0 a0_0, .sl g1 a0_1, .sl g2 a0_2], .agg [.sl g3 a1_0, .sl g4 a1_1, .sl g5 a1_2]] => bif ctsEq g0 ([.int .i64]) && ctsEq g1 ([.int .i64]) && ctsEq g2 ([.int .i64, .int .i64]) && ctsEq g3 ([.int .i64]) && ctsEq g4 ([.int .i64]) && ctsEq g5 ([.int .i64, .int .i64]) then some (q47 a0_0 a0_1 a0_2 a1_0 a1_1 a1_2, AV.bool (v47_0 a0_0 a0_1 a0_2 a1_0 a1_1 a1_2)) else none
  | _ => none
theorem k47 : Known Try.prog 47 := ⟨Try.f47, Try.func47, by kernel_rfl, by kernel_rfl⟩
theorem meets47 : Meets Try.prog 47 m47 := by
  refine meet (f := Try.f47) (l := []) (hs := [(47, 999, [4])]) (ts := [(94, m94), (95, m95)]) (ws := []) (is := []) (ls := []) (lvl := 0) mixed k47 Try.func47 (by kernel_rfl) noLoop (allT_cons meets94 (allT_cons meets95 allT_nil)) allM_nil noI fun w xs us r hl hv h => ?_
  unfold m47 at h
  split at h
  · rename_i g0 a0_0 g1 a0_1 g2 a0_2 g3 a1_0 g4 a1_1 g5 a1_2
    obtain ⟨hg, h⟩ := bif_pair h
    simp only [Bool.and_eq_true] at hg
    obtain ⟨⟨⟨⟨⟨q0, q1⟩, q2⟩, q3⟩, q4⟩, q5⟩ := hg
    obtain rfl := ctsEq_eq _ _ q0
    obtain rfl := ctsEq_eq _ _ q1
    obtain rfl := ctsEq_eq _ _ q2
    obtain rfl := ctsEq_eq _ _ q3
    obtain rfl := ctsEq_eq _ _ q4
    obtain rfl := ctsEq_eq _ _ q5
    obtain ⟨h1, rfl⟩ := pair_inj h
    exact r47 a0_0 a0_1 a0_2 a1_0 a1_1 a1_2 h1
  · cases h

/-! ### 39 loop.example/g01984/spec.EqualStores -/
def F39_0 (h0_0 : List AV) (h0_1 : Int) (h0_2 : List AV) (h0_3 : List AV) (h0_4 : List AV) (h1_0 : List AV) (h1_1 : Int) (h1_2 : List AV) (h1_3 : List AV) (h1_4 : List AV) (t5 : Int) : Out (Int) (Unit ⊕ Unit) := (bif decide (t5 < (h0_0.length : Int)) then (bif (decide (0 ≤ t5) && decide (t5 < (h0_0.length : Int))) then (bif (decide (0 ≤ t5) && decide (t5 < (h1_0.length : Int))) then (bif !(bif decide (fI (h0_0.getD t5.toNat AV.undef) 0 = fI (h1_0.getD t5.toNat AV.undef) 0) then (bif decide (fI (h0_0.getD t5.toNat AV.undef) 1 = fI (h1_0.getD t5.toNat AV.undef) 1) then (bif decide (fI (h0_0.getD t5.toNat AV.undef) 2 = fI (h1_0.getD t5.toNat AV.undef) 2) then (bif decide (fI (h0_0.getD t5.toNat AV.undef) 3 = fI (h1_0.getD t5.toNat AV.undef) 3) then true else false) else false) else false) else false) then .stop (.inr ())
     else .next (IntKind.i64.wrap (t5 + 1)))
    else .fail)
   else .fail)
  else .stop (.inl ()))
def R39_0 (h0_0 : List AV) (h0_1 : Int) (h0_2 : List AV) (h0_3 : List AV) (h0_4 : List AV) (h1_0 : List AV) (h1_1 : Int) (h1_2 : List AV) (h1_3 : List AV) (h1_4 : List AV) : (Int) → Out (Int) (Unit ⊕ Unit) := fun s : Int => F39_0 h0_0 h0_1 h0_2 h0_3 h0_4 h1_0 h1_1 h1_2 h1_3 h1_4 s
def l39_0 : LModel := fun _ _ st k => match st with
  | ⟨[(2, .ptr g0 g1 g2), (3, .ptr g3 g4 g5), (5, .int .i64 t5)], [(g6, ⟨true, [], [.agg [.sl g7 h0_0, .int .i64 h0_1, .sl g8 h0_2, .sl g9 h0_3, .sl g10 h0_4]]⟩), (g11, ⟨true, [], [.agg [.sl g12 h1_0, .int .i64 h1_1, .sl g13 h1_2, .sl g14 h1_3, .sl g15 h1_4]]⟩)]⟩ => bif nmEq g0 ([0, 2]) && Nat.beq g1 0 && Nat.beq g2 0 && nmEq g3 ([0, 3]) && Nat.beq g4 0 && Nat.beq g5 0 && nmEq g6 ([0, 2]) && ctsEq g7 ([.int .i64, .int .i64, .int .i64, .int .i64]) && ctsEq g8 ([.int .i64]) && ctsEq g9 ([.int .i64]) && ctsEq g10 ([.int .i64, .int .i64]) && nmEq g11 ([0, 3]) && ctsEq g12 ([.int .i64, .int .i64, .int .i64, .int .i64]) && ctsEq g13 ([.int .i64]) && ctsEq g14 ([.int .i64]) && ctsEq g15 ([.int .i64, .int .i64]) then ro (runW (R39_0 h0_0 h0_1 h0_2 h0_3 h0_4 h1_0 h1_1 h1_2 h1_3 h1_4) (((h0_0.length : Int) - t5).toNat + 1) t5) none (sumE (fun _ : Unit => k (.exit 0) ⟨[], [([0, 2], ⟨true, [], [AV.agg [AV.sl [.int .i64, .int .i64, .int .i64, .int .i64] h0_0, AV.int .i64 h0_1, AV.sl [.int .i64] h0_2, AV.sl [.int .i64] h0_3, AV.sl [.int .i64, .int .i64] h0_4]]⟩), ([0, 3], ⟨true, [], [AV.agg [AV.sl [.int .i64, .int .i64, .int .i64, .int .i64] h1_0, AV.int .i64 h1_1, AV.sl [.int .i64] h1_2, AV.sl [.int .i64] h1_3, AV.sl [.int .i64, .int .i64] h1_4]]⟩)]⟩) (fun _ : Unit => k .ret ⟨[(4, AV.bool false)], [([0, 2], ⟨true, [], [AV.agg [AV.sl [.int .i64, .int .i64, .int .i64, .int .i64] h0_0, AV.int .i64 h0_1, AV.sl [.int .i64] h0_2, AV.sl [.int .i64] h0_3, AV.sl [.int .i64, .int .i64] h0_4]]⟩), ([0, 3], ⟨true, [], [AV.agg [AV.sl [.int .i64, .int .i64, .int .i64, .int .i64] h1_0, AV.int .i64 h1_1, AV.sl [.int .i64] h1_2, AV.sl [.int .i64] h1_3, AV.sl [.int .i64, .int .i64] h1_4]]⟩)]⟩)) else none
  | _ => none
noncomputable def c39 : Cfg := cfg Try.prog [(39, 0, [2, 3, 5]), (39, 999, [4]), (39, 1000, []), (39, 1001, [2, 3, 5])] [(47, m47)] [] [] [(39, 0, l39_0)]
theorem s39_0 (ce : CallE) (t5 : Int) (h0_0 : List AV) (h0_1 : Int) (h0_2 : List AV) (h0_3 : List AV) (h0_4 : List AV) (h1_0 : List AV) (h1_1 : Int) (h1_2 : List AV) (h1_3 : List AV) (h1_4 : List AV) (next : St → Option AV) (k : Kont) : stepA (codeA c39 ce [] 39 0 (sub [1, 1, 0, 1, 0, 0] (body Try.f39))) (normA [] [2, 3, 5]) next ⟨[(2, AV.ptr [0, 2] 0 0), (3, AV.ptr [0, 3] 0 0), (5, AV.int .i64 t5)], [([0, 2], ⟨true, [], [AV.agg [AV.sl [.int .i64, .int .i64, .int .i64, .int .i64] h0_0, AV.int .i64 h0_1, AV.sl [.int .i64] h0_2, AV.sl [.int .i64] h0_3, AV.sl [.int .i64, .int .i64] h0_4]]⟩), ([0, 3], ⟨true, [], [AV.agg [AV.sl [.int .i64, .int .i64, .int .i64, .int .i64] h1_0, AV.int .i64 h1_1, AV.sl [.int .i64] h1_2, AV.sl [.int .i64] h1_3, AV.sl [.int .i64, .int .i64] h1_4]]⟩)]⟩ k = (bif decide (t5 < (h0_0.length : Int)) then (bif (decide (0 ≤ t5) && decide (t5 < (h0_0.length : Int))) then (bif (decide (0 ≤ t5) && decide (t5 < (h1_0.length : Int))) then (bif !(bif decide (fI (h0_0.getD t5.toNat AV.undef) 0 = fI (h1_0.getD t5.toNat AV.undef) 0) then (bif decide (fI (h0_0.getD t5.toNat AV.undef) 1 = fI (h1_0.getD t5.toNat AV.undef) 1) then (bif decide (fI (h0_0.getD t5.toNat AV.undef) 2 = fI (h1_0.getD t5.toNat AV.undef) 2) then (bif decide (fI (h0_0.getD t5.toNat AV.undef) 3 = fI (h1_0.getD t5.toNat AV.undef) 3) then true else false) else false) else false) else false) then k .ret ⟨[(4, AV.bool false)], [([0, 2], ⟨true, [], [AV.agg [AV.sl [.int .i64, .int .i64, .int .i64, .int .i64] h0_0, AV.int .i64 h0_1, AV.sl [.int .i64] h0_2, AV.sl [.int .i64] h0_3, AV.sl [.int .i64, .int .i64] h0_4]]⟩), ([0, 3], ⟨true, [], [AV.agg [AV.sl [.int .i64, .int .i64, .int .i64, .int .i64] h1_0, AV.int .i64 h1_1, AV.sl [.int .i64] h1_2, AV.sl [.int .i64] h1_3, AV.sl [.int .i64, .int .i64] h1_4]]⟩)]⟩
     else next ⟨[(2, AV.ptr [0, 2] 0 0), (3, AV.ptr [0, 3] 0 0), (5, AV.int .i64 (IntKind.i64.wrap (t5 + 1)))], [([0, 2], ⟨true, [], [AV.agg [AV.sl [.int .i64, .int .i64, .int .i64, .int .i64] h0_0, AV.int .i64 h0_1, AV.sl [.int .i64] h0_2, AV.sl [.int .i64] h0_3, AV.sl [.int .i64, .int .i64] h0_4]]⟩), ([0, 3], ⟨true, [], [AV.agg [AV.sl [.int .i64, .int .i64, .int .i64, .int .i64] h1_0, AV.int .i64 h1_1, AV.sl [.int .i64] h1_2, AV.sl [.int .i64] h1_3, AV.sl [.int .i64, .int .i64] h1_4]]⟩)]⟩)
    else none)
   else none)
  else k (.exit 0) ⟨[], [([0, 2], ⟨true, [], [AV.agg [AV.sl [.int .i64, .int .i64, .int .i64, .int .i64] h0_0, AV.int .i64 h0_1, AV.sl [.int .i64] h0_2, AV.sl [.int .i64] h0_3, AV.sl [.int .i64, .int .i64] h0_4]]⟩), ([0, 3], ⟨true, [], [AV.agg [AV.sl [.int .i64, .int .i64, .int .i64, .int .i64] h1_0, AV.int .i64 h1_1, AV.sl [.int .i64] h1_2, AV.sl [.int .i64] h1_3, AV.sl [.int .i64, .int .i64] h1_4]]⟩)]⟩) := by kernel_rfl
theorem st39_0 (h0_0 : List AV) (h0_1 : Int) (h0_2 : List AV) (h0_3 : List AV) (h0_4 : List AV) (h1_0 : List AV) (h1_1 : Int) (h1_2 : List AV) (h1_3 : List AV) (h1_4 : List AV) (ce : CallE) (k : Kont) (s : Int) (next : St → Option AV) : stepA (codeA c39 ce [] 39 0 (sub [1, 1, 0, 1, 0, 0] (body Try.f39))) (normA [] [2, 3, 5]) next ((fun s : Int => ⟨[(2, AV.ptr [0, 2] 0 0), (3, AV.ptr [0, 3] 0 0), (5, AV.int .i64 s)], [([0, 2], ⟨true, [], [AV.agg [AV.sl [.int .i64, .int .i64, .int .i64, .int .i64] h0_0, AV.int .i64 h0_1, AV.sl [.int .i64] h0_2, AV.sl [.int .i64] h0_3, AV.sl [.int .i64, .int .i64] h0_4]]⟩), ([0, 3], ⟨true, [], [AV.agg [AV.sl [.int .i64, .int .i64, .int .i64, .int .i64] h1_0, AV.int .i64 h1_1, AV.sl [.int .i64] h1_2, AV.sl [.int .i64] h1_3, AV.sl [.int .i64, .int .i64] h1_4]]⟩)]⟩) s) k = (R39_0 h0_0 h0_1 h0_2 h0_3 h0_4 h1_0 h1_1 h1_2 h1_3 h1_4 s).el none (fun s => next ((fun s : Int => ⟨[(2, AV.ptr [0, 2] 0 0), (3, AV.ptr [0, 3] 0 0), (5, AV.int .i64 s)], [([0, 2], ⟨true, [], [AV.agg [AV.sl [.int .i64, .int .i64, .int .i64, .int .i64] h0_0, AV.int .i64 h0_1, AV.sl [.int .i64] h0_2, AV.sl [.int .i64] h0_3, AV.sl [.int .i64, .int .i64] h0_4]]⟩), ([0, 3], ⟨true, [], [AV.agg [AV.sl [.int .i64, .int .i64, .int .i64, .int .i64] h1_0, AV.int .i64 h1_1, AV.sl [.int .i64] h1_2, AV.sl [.int .i64] h1_3, AV.sl [.int .i64, .int .i64] h1_4]]⟩)]⟩) s)) (sumE (fun _ : Unit => k (.exit 0) ⟨[], [([0, 2], ⟨true, [], [AV.agg [AV.sl [.int .i64, .int .i64, .int .i64, .int .i64] h0_0, AV.int .i64 h0_1, AV.sl [.int .i64] h0_2, AV.sl [.int .i64] h0_3, AV.sl [.int .i64, .int .i64] h0_4]]⟩), ([0, 3], ⟨true, [], [AV.agg [AV.sl [.int .i64, .int .i64, .int .i64, .int .i64] h1_0, AV.int .i64 h1_1, AV.sl [.int .i64] h1_2, AV.sl [.int .i64] h1_3, AV.sl [.int .i64, .int .i64] h1_4]]⟩)]⟩) (fun _ : Unit => k .ret ⟨[(4, AV.bool false)], [([0, 2], ⟨true, [], [AV.agg [AV.sl [.int .i64, .int .i64, .int .i64, .int .i64] h0_0, AV.int .i64 h0_1, AV.sl [.int .i64] h0_2, AV.sl [.int .i64] h0_3, AV.sl [.int .i64, .int .i64] h0_4]]⟩), ([0, 3], ⟨true, [], [AV.agg [AV.sl [.int .i64, .int .i64, .int .i64, .int .i64] h1_0, AV.int .i64 h1_1, AV.sl [.int .i64] h1_2, AV.sl [.int .i64] h1_3, AV.sl [.int .i64, .int .i64] h1_4]]⟩)]⟩)) := (s39_0 ce s h0_0 h0_1 h0_2 h0_3 h0_4 h1_0 h1_1 h1_2 h1_3 h1_4 next k).trans (by unfold R39_0; unfold F39_0; simp only [el_cond, el_ro, el_sum, el_fail, el_next, el_stop] <;> rfl)
theorem ok39_0 : LoopOK c39 [] 39 0 (sub [1, 1, 0, 1, 0, 0] (body Try.f39)) := by
  intro m hm ce st k r h
  obtain rfl : l39_0 = m := Option.some.inj hm
  unfold l39_0 at h
  split at h
  · rename_i g0 g1 g2 g3 g4 g5 t5 g6 g7 h0_0 h0_1 g8 h0_2 g9 h0_3 g10 h0_4 g11 g12 h1_0 h1_1 g13 h1_2 g14 h1_3 g15 h1_4
    obtain ⟨hg, h⟩ := bif_some h
    simp only [Bool.and_eq_true] at hg
    obtain ⟨⟨⟨⟨⟨⟨⟨⟨⟨⟨⟨⟨⟨⟨⟨q0, q1⟩, q2⟩, q3⟩, q4⟩, q5⟩, q6⟩, q7⟩, q8⟩, q9⟩, q10⟩, q11⟩, q12⟩, q13⟩, q14⟩, q15⟩ := hg
    obtain rfl := (nmEq_iff _ _).1 q0
    obtain rfl := Nat.eq_of_beq_eq_true q1
    obtain rfl := Nat.eq_of_beq_eq_true q2
    obtain rfl := (nmEq_iff _ _).1 q3
    obtain rfl := Nat.eq_of_beq_eq_true q4
    obtain rfl := Nat.eq_of_beq_eq_true q5
    obtain rfl := (nmEq_iff _ _).1 q6
    obtain rfl := ctsEq_eq _ _ q7
    obtain rfl := ctsEq_eq _ _ q8
    obtain rfl := ctsEq_eq _ _ q9
    obtain rfl := ctsEq_eq _ _ q10
    obtain rfl := (nmEq_iff _ _).1 q11
    obtain rfl := ctsEq_eq _ _ q12
    obtain rfl := ctsEq_eq _ _ q13
    obtain rfl := ctsEq_eq _ _ q14
    obtain rfl := ctsEq_eq _ _ q15
    refine ⟨(((h0_0.length : Int) - t5).toNat + 1), ?_⟩
    rw [← h]
    exact loop_run (fun s : Int => ⟨[(2, AV.ptr [0, 2] 0 0), (3, AV.ptr [0, 3] 0 0), (5, AV.int .i64 s)], [([0, 2], ⟨true, [], [AV.agg [AV.sl [.int .i64, .int .i64, .int .i64, .int .i64] h0_0, AV.int .i64 h0_1, AV.sl [.int .i64] h0_2, AV.sl [.int .i64] h0_3, AV.sl [.int .i64, .int .i64] h0_4]]⟩), ([0, 3], ⟨true, [], [AV.agg [AV.sl [.int .i64, .int .i64, .int .i64, .int .i64] h1_0, AV.int .i64 h1_1, AV.sl [.int .i64] h1_2, AV.sl [.int .i64] h1_3, AV.sl [.int .i64, .int .i64] h1_4]]⟩)]⟩) (sumE (fun _ : Unit => k (.exit 0) ⟨[], [([0, 2], ⟨true, [], [AV.agg [AV.sl [.int .i64, .int .i64, .int .i64, .int .i64] h0_0, AV.int .i64 h0_1, AV.sl [.int .i64] h0_2, AV.sl [.int .i64] h0_3, AV.sl [.int .i64, .int .i64] h0_4]]⟩), ([0, 3], ⟨true, [], [AV.agg [AV.sl [.int .i64, .int .i64, .int .i64, .int .i64] h1_0, AV.int .i64 h1_1, AV.sl [.int .i64] h1_2, AV.sl [.int .i64] h1_3, AV.sl [.int .i64, .int .i64] h1_4]]⟩)]⟩) (fun _ : Unit => k .ret ⟨[(4, AV.bool false)], [([0, 2], ⟨true, [], [AV.agg [AV.sl [.int .i64, .int .i64, .int .i64, .int .i64] h0_0, AV.int .i64 h0_1, AV.sl [.int .i64] h0_2, AV.sl [.int .i64] h0_3, AV.sl [.int .i64, .int .i64] h0_4]]⟩), ([0, 3], ⟨true, [], [AV.agg [AV.sl [.int .i64, .int .i64, .int .i64, .int .i64] h1_0, AV.int .i64 h1_1, AV.sl [.int .i64] h1_2, AV.sl [.int .i64] h1_3, AV.sl [.int .i64, .int .i64] h1_4]]⟩)]⟩)) (st39_0 h0_0 h0_1 h0_2 h0_3 h0_4 h1_0 h1_1 h1_2 h1_3 h1_4 ce k) _ t5
  · cases h
def q39 (a0_0 : List AV) (a0_1 : Int) (a0_2 : List AV) (a0_3 : List AV) (a0_4 : List AV) (a1_0 : List AV) (a1_1 : Int) (a1_2 : List AV) (a1_3 : List AV) (a1_4 : List AV) : Bool := (bif !decide ((a0_0.length : Int) = (a1_0.length : Int)) then true else (bif !decide (a0_1 = a1_1) then true else (q47 a0_2 a0_3 a0_4 a1_2 a1_3 a1_4 && (bif !(v47_0 a0_2 a0_3 a0_4 a1_2 a1_3 a1_4) then true else (ro (runW (R39_0 a0_0 a0_1 a0_2 a0_3 a0_4 a1_0 a1_1 a1_2 a1_3 a1_4) (((a0_0.length : Int) - 0).toNat + 1) 0) false (sumE (fun _ => true) (fun _ => true)))))))
def v39_0 (a0_0 : List AV) (a0_1 : Int) (a0_2 : List AV) (a0_3 : List AV) (a0_4 : List AV) (a1_0 : List AV) (a1_1 : Int) (a1_2 : List AV) (a1_3 : List AV) (a1_4 : List AV) : Bool := (bif !decide ((a0_0.length : Int) = (a1_0.length : Int)) then false else (bif !decide (a0_1 = a1_1) then false else (bif !(v47_0 a0_2 a0_3 a0_4 a1_2 a1_3 a1_4) then false else (ro (runW (R39_0 a0_0 a0_1 a0_2 a0_3 a0_4 a1_0 a1_1 a1_2 a1_3 a1_4) (((a0_0.length : Int) - 0).toNat + 1) 0) false (sumE (fun _ => true) (fun _ => false))))))
theorem e39 (a0_0 : List AV) (a0_1 : Int) (a0_2 : List AV) (a0_3 : List AV) (a0_4 : List AV) (a1_0 : List AV) (a1_1 : Int) (a1_2 : List AV) (a1_3 : List AV) (a1_4 : List AV) : funA c39 0 39 [AV.agg [AV.sl [.int .i64, .int .i64, .int .i64, .int .i64] a0_0, AV.int .i64 a0_1, AV.sl [.int .i64] a0_2, AV.sl [.int .i64] a0_3, AV.sl [.int .i64, .int .i64] a0_4], AV.agg [AV.sl [.int .i64, .int .i64, .int .i64, .int .i64] a1_0, AV.int .i64 a1_1, AV.sl [.int .i64] a1_2, AV.sl [.int .i64] a1_3, AV.sl [.int .i64, .int .i64] a1_4]] = (bif !decide ((a0_0.length : Int) = (a1_0.length : Int)) then some (AV.bool false)
  else (bif !decide (a0_1 = a1_1) then some (AV.bool false)
   else (bif q47 a0_2 a0_3 a0_4 a1_2 a1_3 a1_4 then (bif !(v47_0 a0_2 a0_3 a0_4 a1_2 a1_3 a1_4) then some (AV.bool false)
     else (ro (runW (R39_0 a0_0 a0_1 a0_2 a0_3 a0_4 a1_0 a1_1 a1_2 a1_3 a1_4) (((a0_0.length : Int) - 0).toNat + 1) 0) none (sumE (fun _ => some (AV.bool true)) (fun _ => some (AV.bool false)))))
    else none))) := by kernel_rfl
theorem r39 (a0_0 : List AV) (a0_1 : Int) (a0_2 : List AV) (a0_3 : List AV) (a0_4 : List AV) (a1_0 : List AV) (a1_1 : Int) (a1_2 : List AV) (a1_3 : List AV) (a1_4 : List AV) (h : q39 a0_0 a0_1 a0_2 a0_3 a0_4 a1_0 a1_1 a1_2 a1_3 a1_4 = true) : funA c39 0 39 [AV.agg [AV.sl [.int .i64, .int .i64, .int .i64, .int .i64] a0_0, AV.int .i64 a0_1, AV.sl [.int .i64] a0_2, AV.sl [.int .i64] a0_3, AV.sl [.int .i64, .int .i64] a0_4], AV.agg [AV.sl [.int .i64, .int .i64, .int .i64, .int .i64] a1_0, AV.int .i64 a1_1, AV.sl [.int .i64] a1_2, AV.sl [.int .i64] a1_3, AV.sl [.int .i64, .int .i64] a1_4]] = some (AV.bool (v39_0 a0_0 a0_1 a0_2 a0_3 a0_4 a1_0 a1_1 a1_2 a1_3 a1_4)) := (e39 a0_0 a0_1 a0_2 a0_3 a0_4 a1_0 a1_1 a1_2 a1_3 a1_4).trans ((br (fun b => some (AV.bool (bif b then false else (bif !decide (a0_1 = a1_1) then false else (bif !(v47_0 a0_2 a0_3 a0_4 a1_2 a1_3 a1_4) then false else (ro (runW (R39_0 a0_0 a0_1 a0_2 a0_3 a0_4 a1_0 a1_1 a1_2 a1_3 a1_4) (((a0_0.length : Int) - 0).toNat + 1) 0) false (sumE (fun _ => true) (fun _ => false)))))))) (fun _ => rfl) (br (fun b => some (AV.bool (bif b then false else (bif !(v47_0 a0_2 a0_3 a0_4 a1_2 a1_3 a1_4) then false else (ro (runW (R39_0 a0_0 a0_1 a0_2 a0_3 a0_4 a1_0 a1_1 a1_2 a1_3 a1_4) (((a0_0.length : Int) - 0).toNat + 1) 0) false (sumE (fun _ => true) (fun _ => false))))))) (fun _ => rfl) (brL (br (fun b => some (AV.bool (bif b then false else (ro (runW (R39_0 a0_0 a0_1 a0_2 a0_3 a0_4 a1_0 a1_1 a1_2 a1_3 a1_4) (((a0_0.length : Int) - 0).toNat + 1) 0) false (sumE (fun _ => true) (fun _ => false)))))) (fun _ => rfl) (brO (fun o : Option (Unit ⊕ Unit) => some (AV.bool (ro o false (sumE (fun _ => true) (fun _ => false))))) (brS (fun o : Unit ⊕ Unit => some (AV.bool ((sumE (fun _ => true) (fun _ => false)) o))) (fun _ => (fun _ => rfl)) (fun _ => (fun _ => rfl)))))))) h)
def m39 : TModel
  | [.agg [.sl g0 a0_0, .int .i64 a0_1, .sl g1 a0_2, .sl g2 a0_3, .sl g3 a0_4], .agg [.sl g4 a1_0, .int .i64 a1_1, .sl g5 a1_2, .sl g6 a1_3, .sl g7 a1_4]] => bif ctsEq g0 ([.int .i64, .int .i64, .int .i64, .int .i64]) && ctsEq g1 ([.int .i64]) && ctsEq g2 ([.int .i64]) && ctsEq g3 ([.int .i64, .int .i64]) && ctsEq g4 ([.int .i64, .int .i64, .int .i64, .int .i64]) && ctsEq g5 ([.int .i64]) && ctsEq g6 ([.int .i64]) && ctsEq g7 ([.int .i64, .int .i64]) then some (q39 a0_0 a0_1 a0_2 a0_3 a0_4 a1_0 a1_1 a1_2 a1_3 a1_4, AV.bool (v39_0 a0_0 a0_1 a0_2 a0_3 a0_4 a1_0 a1_1 a1_2 a1_3 a1_4)) else none
  | _ => none
theorem k39 : Known Try.prog 39 := ⟨Try.f39, Try.func39, by kernel_rfl, by kernel_rfl⟩
theorem meets39 : Meets Try.prog 39 m39 := by
  refine meet (f := Try.f39) (l := [(0, sub [1, 1, 0, 1, 0, 0] (body Try.f39))]) (hs := [(39, 0, [2, 3, 5]), (39, 999, [4]), (39, 1000, []), (39, 1001, [2, 3, 5])]) (ts := [(47, m47)]) (ws := []) (is := []) (ls := [(39, 0, l39_0)]) (lvl := 0) mixed k39 Try.func39 (by kernel_rfl) (loops_cons ok39_0 noLoop) (allT_cons meets47 allT_nil) allM_nil noI fun w xs us r hl hv h => ?_
  unfold m39 at h
  split at h
  · rename_i g0 a0_0 a0_1 g1 a0_2 g2 a0_3 g3 a0_4 g4 a1_0 a1_1 g5 a1_2 g6 a1_3 g7 a1_4
    obtain ⟨hg, h⟩ := bif_pair h
    simp only [Bool.and_eq_true] at hg
    obtain ⟨⟨⟨⟨⟨⟨⟨q0, q1⟩, q2⟩, q3⟩, q4⟩, q5⟩, q6⟩, q7⟩ := hg
    obtain rfl := ctsEq_eq _ _ q0
    obtain rfl := ctsEq_eq _ _ q1
    obtain rfl := ctsEq_eq _ _ q2
    obtain rfl := ctsEq_eq _ _ q3
    obtain rfl := ctsEq_eq _ _ q4
    obtain rfl := ctsEq_eq _ _ q5
    obtain rfl := ctsEq_eq _ _ q6
    obtain rfl := ctsEq_eq _ _ q7
    obtain ⟨h1, rfl⟩ := pair_inj h
    exact r39 a0_0 a0_1 a0_2 a0_3 a0_4 a1_0 a1_1 a1_2 a1_3 a1_4 h1
  · cases h

/-! ### 79 slices.Equal[[]loop.example/g01984/impl.Stamp,loop.example/g01984/impl.Stamp] -/
def F79_0 (t0 : List AV) (t1 : List AV) (t12 : Int) (t13 : Int) : Out (Int) (Unit ⊕ Unit) := (bif decide (t13 < t12) then (bif (decide (0 ≤ t13) && decide (t13 < (t0.length : Int))) then (bif (decide (0 ≤ t13) && decide (t13 < (t1.length : Int))) then (bif !(bif decide (fI (t0.getD t13.toNat AV.undef) 0 = fI (t1.getD t13.toNat AV.undef) 0) then (bif decide (fI (t0.getD t13.toNat AV.undef) 1 = fI (t1.getD t13.toNat AV.undef) 1) then (bif decide (fI (t0.getD t13.toNat AV.undef) 2 = fI (t1.getD t13.toNat AV.undef) 2) then (bif decide (fI (t0.getD t13.toNat AV.undef) 3 = fI (t1.getD t13.toNat AV.undef) 3) then true else false) else false) else false) else false) then .stop (.inr ())
     else .next (IntKind.i64.wrap (t13 + 1)))
    else .fail)
   else .fail)
  else .stop (.inl ()))
def R79_0 (t0 : List AV) (t1 : List AV) (t12 : Int) : (Int) → Out (Int) (Unit ⊕ Unit) := fun s : Int => F79_0 t0 t1 t12 s
def l79_0 : LModel := fun _ _ st k => match st with
  | ⟨[(0, .sl g0 t0), (1, .sl g1 t1), (12, .int .i64 t12), (13, .int .i64 t13)], []⟩ => bif ctsEq g0 ([.int .i64, .int .i64, .int .i64, .int .i64]) && ctsEq g1 ([.int .i64, .int .i64, .int .i64, .int .i64]) then ro (runW (R79_0 t0 t1 t12) ((t12 - t13).toNat + 1) t13) none (sumE (fun _ : Unit => k (.exit 0) ⟨[], []⟩) (fun _ : Unit => k .ret ⟨[(4, AV.bool false)], []⟩)) else none
  | _ => none
noncomputable def c79 : Cfg := cfg Try.prog [(79, 0, [0, 1, 12, 13]), (79, 999, [4]), (79, 1000, []), (79, 1001, [0, 1, 12, 13])] [] [] [] [(79, 0, l79_0)]
theorem s79_0 (ce : CallE) (t0 : List AV) (t1 : List AV) (t12 : Int) (t13 : Int) (next : St → Option AV) (k : Kont) : stepA (codeA c79 ce [] 79 0 (sub [1, 1, 0, 1, 0, 0] (body Try.f79))) (normA [] [0, 1, 12, 13]) next ⟨[(0, AV.sl [.int .i64, .int .i64, .int .i64, .int .i64] t0), (1, AV.sl [.int .i64, .int .i64, .int .i64, .int .i64] t1), (12, AV.int .i64 t12), (13, AV.int .i64 t13)], []⟩ k = (bif decide (t13 < t12) then (bif (decide (0 ≤ t13) && decide (t13 < (t0.length : Int))) then (bif (decide (0 ≤ t13) && decide (t13 < (t1.length : Int))) then (bif !(bif decide (fI (t0.getD t13.toNat AV.undef) 0 = fI (t1.getD t13.toNat AV.undef) 0) then (bif decide (fI (t0.getD t13.toNat AV.undef) 1 = fI (t1.getD t13.toNat AV.undef) 1) then (bif decide (fI (t0.getD t13.toNat AV.undef) 2 = fI (t1.getD t13.toNat AV.undef) 2) then (bif decide (fI (t0.getD t13.toNat AV.undef) 3 = fI (t1.getD t13.toNat AV.undef) 3) then true else false) else false) else false) else false) then k .ret ⟨[(4, AV.bool false)], []⟩
     else next ⟨[(0, AV.sl [.int .i64, .int .i64, .int .i64, .int .i64] t0), (1, AV.sl [.int .i64, .int .i64, .int .i64, .int .i64] t1), (12, AV.int .i64 t12), (13, AV.int .i64 (IntKind.i64.wrap (t13 + 1)))], []⟩)
    else none)
   else none)
  else k (.exit 0) ⟨[], []⟩) := by kernel_rfl
theorem st79_0 (t0 : List AV) (t1 : List AV) (t12 : Int) (ce : CallE) (k : Kont) (s : Int) (next : St → Option AV) : stepA (codeA c79 ce [] 79 0 (sub [1, 1, 0, 1, 0, 0] (body Try.f79))) (normA [] [0, 1, 12, 13]) next ((fun s : Int => ⟨[(0, AV.sl [.int .i64, .int .i64, .int .i64, .int .i64] t0), (1, AV.sl [.int .i64, .int .i64, .int .i64, .int .i64] t1), (12, AV.int .i64 t12), (13, AV.int .i64 s)], []⟩) s) k = (R79_0 t0 t1 t12 s).el none (fun s => next ((fun s : Int => ⟨[(0, AV.sl [.int .i64, .int .i64, .int .i64, .int .i64] t0), (1, AV.sl [.int .i64, .int .i64, .int .i64, .int .i64] t1), (12, AV.int .i64 t12), (13, AV.int .i64 s)], []⟩) s)) (sumE (fun _ : Unit => k (.exit 0) ⟨[], []⟩) (fun _ : Unit => k .ret ⟨[(4, AV.bool false)], []⟩)) := (s79_0 ce t0 t1 t12 s next k).trans (by unfold R79_0; unfold F79_0; simp only [el_cond, el_ro, el_sum, el_fail, el_next, el_stop] <;> rfl)
theorem ok79_0 : LoopOK c79 [] 79 0 (sub [1, 1, 0, 1, 0, 0] (body Try.f79)) := by
  intro m hm ce st k r h
  obtain rfl : l79_0 = m := Option.some.inj hm
  unfold l79_0 at h
  split at h
  · rename_i g0 t0 g1 t1 t12 t13
    obtain ⟨hg, h⟩ := bif_some h
    simp only [Bool.and_eq_true] at hg
    obtain ⟨q0, q1⟩ := hg
    obtain rfl := ctsEq_eq _ _ q0
    obtain rfl := ctsEq_eq _ _ q1
    refine ⟨((t12 - t13).toNat + 1), ?_⟩
    rw [← h]
    exact loop_run (fun s : Int => ⟨[(0, AV.sl [.int .i64, .int .i64, .int .i64, .int .i64] t0), (1, AV.sl [.int .i64, .int .i64, .int .i64, .int .i64] t1), (12, AV.int .i64 t12), (13, AV.int .i64 s)], []⟩) (sumE (fun _ : Unit => k (.exit 0) ⟨[], []⟩) (fun _ : Unit => k .ret ⟨[(4, AV.bool false)], []⟩)) (st79_0 t0 t1 t12 ce k) _ t13
  · cases h
def q79 (a0 : List AV) (a1 : List AV) : Bool := (bif !decide ((a0.length : Int) = (a1.length : Int)) then true else (ro (runW (R79_0 a0 a1 (a0.length : Int)) (((a0.length : Int) - 0).toNat + 1) 0) false (sumE (fun _ => true) (fun _ => true))))
def v79_0 (a0 : List AV) (a1 : List AV) : Bool := (bif !decide ((a0.length : Int) = (a1.length : Int)) then false else (ro (runW (R79_0 a0 a1 (a0.length : Int)) (((a0.length : Int) - 0).toNat + 1) 0) false (sumE (fun _ => true) (fun _ => false))))
theorem e79 (a0 : List AV) (a1 : List AV) : funA c79 0 79 [AV.sl [.int .i64, .int .i64, .int .i64, .int .i64] a0, AV.sl [.int .i64, .int .i64, .int .i64, .int .i64] a1] = (bif !decide ((a0.length : Int) = (a1.length : Int)) then some (AV.bool false)
  else (ro (runW (R79_0 a0 a1 (a0.length : Int)) (((a0.length : Int) - 0).toNat + 1) 0) none (sumE (fun _ => some (AV.bool true)) (fun _ => some (AV.bool false))))) := by kernel_rfl
theorem r79 (a0 : List AV) (a1 : List AV) (h : q79 a0 a1 = true) : funA c79 0 79 [AV.sl [.int .i64, .int .i64, .int .i64, .int .i64] a0, AV.sl [.int .i64, .int .i64, .int .i64, .int .i64] a1] = some (AV.bool (v79_0 a0 a1)) := (e79 a0 a1).trans ((br (fun b => some (AV.bool (bif b then false else (ro (runW (R79_0 a0 a1 (a0.length : Int)) (((a0.length : Int) - 0).toNat + 1) 0) false (sumE (fun _ => true) (fun _ => false)))))) (fun _ => rfl) (brO (fun o : Option (Unit ⊕ Unit) => some (AV.bool (ro o false (sumE (fun _ => true) (fun _ => false))))) (brS (fun o : Unit ⊕ Unit => some (AV.bool ((sumE (fun _ => true) (fun _ => false)) o))) (fun _ => (fun _ => rfl)) (fun _ => (fun _ => rfl))))) h)
def m79 : TModel
  | [.sl g0 a0, .sl g1 a1] => bif ctsEq g0 ([.int .i64, .int .i64, .int .i64, .int .i64]) && ctsEq g1 ([.int .i64, .int .i64, .int .i64, .int .i64]) then some (q79 a0 a1, AV.bool (v79_0 a0 a1)) else none
  | _ => none
theorem k79 : Known Try.prog 79 := ⟨Try.f79, Try.func79, by kernel_rfl, by kernel_rfl⟩
theorem meets79 : Meets Try.prog 79 m79 := by
  refine meet (f := Try.f79) (l := [(0, sub [1, 1, 0, 1, 0, 0] (body Try.f79))]) (hs := [(79, 0, [0, 1, 12, 13]), (79, 999, [4]), (79, 1000, []), (79, 1001, [0, 1, 12, 13])]) (ts := []) (ws := []) (is := []) (ls := [(79, 0, l79_0)]) (lvl := 0) mixed k79 Try.func79 (by kernel_rfl) (loops_cons ok79_0 noLoop) allT_nil allM_nil noI fun w xs us r hl hv h => ?_
  unfold m79 at h
  split at h
  · rename_i g0 a0 g1 a1
    obtain ⟨hg, h⟩ := bif_pair h
    simp only [Bool.and_eq_true] at hg
    obtain ⟨q0, q1⟩ := hg
    obtain rfl := ctsEq_eq _ _ q0
    obtain rfl := ctsEq_eq _ _ q1
    obtain ⟨h1, rfl⟩ := pair_inj h
    exact r79 a0 a1 h1
  · cases h

/-! ### 105 slices.Equal[[]int,int] -/
def F105_0 (t0 : List AV) (t1 : List AV) (t12 : Int) (t13 : Int) : Out (Int) (Unit ⊕ Unit) := (bif decide (t13 < t12) then (bif (decide (0 ≤ t13) && decide (t13 < (t0.length : Int))) then (bif (decide (0 ≤ t13) && decide (t13 < (t1.length : Int))) then (bif !decide (fI (t0.getD t13.toNat AV.undef) 0 = fI (t1.getD t13.toNat AV.undef) 0) then .stop (.inr ())
     else .next (IntKind.i64.wrap (t13 + 1)))
    else .fail)
   else .fail)
  else .stop (.inl ()))
def R105_0 (t0 : List AV) (t1 : List AV) (t12 : Int) : (Int) → Out (Int) (Unit ⊕ Unit) := fun s : Int => F105_0 t0 t1 t12 s
def l105_0 : LModel := fun _ _ st k => match st with
  | ⟨[(0, .sl g0 t0), (1, .sl g1 t1), (12, .int .i64 t12), (13, .int .i64 t13)], []⟩ => bif ctsEq g0 ([.int .i64]) && ctsEq g1 ([.int .i64]) then ro (runW (R105_0 t0 t1 t12) ((t12 - t13).toNat + 1) t13) none (sumE (fun _ : Unit => k (.exit 0) ⟨[], []⟩) (fun _ : Unit => k .ret ⟨[(4, AV.bool false)], []⟩)) else none
  | _ => none
noncomputable def c105 : Cfg := cfg Try.prog [(105, 0, [0, 1, 12, 13]), (105, 999, [4]), (105, 1000, []), (105, 1001, [0, 1, 12, 13])] [] [] [] [(105, 0, l105_0)]
theorem s105_0 (ce : CallE) (t0 : List AV) (t1 : List AV) (t12 : Int) (t13 : Int) (next : St → Option AV) (k : Kont) : stepA (codeA c105 ce [] 105 0 (sub [1, 1, 0, 1, 0, 0] (body Try.f105))) (normA [] [0, 1, 12, 13]) next ⟨[(0, AV.sl [.int .i64] t0), (1, AV.sl [.int .i64] t1), (12, AV.int .i64 t12), (13, AV.int .i64 t13)], []⟩ k = (bif decide (t13 < t12) then (bif (decide (0 ≤ t13) && decide (t13 < (t0.length : Int))) then (bif (decide (0 ≤ t13) && decide (t13 < (t1.length : Int))) then (bif !decide (fI (t0.getD t13.toNat AV.undef) 0 = fI (t1.getD t13.toNat AV.undef) 0) then k .ret ⟨[(4, AV.bool false)], []⟩
     else next ⟨[(0, AV.sl [.int .i64] t0), (1, AV.sl [.int .i64] t1), (12, AV.int .i64 t12), (13, AV.int .i64 (IntKind.i64.wrap (t13 + 1)))], []⟩)
    else none)
   else none)
  else k (.exit 0) ⟨[], []⟩) := by kernel_rfl
theorem st105_0 (t0 : List AV) (t1 : List AV) (t12 : Int) (ce : CallE) (k : Kont) (s : Int) (next : St → Option AV) : stepA (codeA c105 ce [] 105 0 (sub [1, 1, 0, 1, 0, 0] (body Try.f105))) (normA [] [0, 1, 12, 13]) next ((fun s : Int => ⟨[(0, AV.sl [.int .i64] t0), (1, AV.sl [.int .i64] t1), (12, AV.int .i64 t12), (13, AV.int .i64 s)], []⟩) s) k = (R105_0 t0 t1 t12 s).el none (fun s => next ((fun s : Int => ⟨[(0, AV.sl [.int .i64] t0), (1, AV.sl [.int .i64] t1), (12, AV.int .i64 t12), (13, AV.int .i64 s)], []⟩) s)) (sumE (fun _ : Unit => k (.exit 0) ⟨[], []⟩) (fun _ : Unit => k .ret ⟨[(4, AV.bool false)], []⟩)) := (s105_0 ce t0 t1 t12 s next k).trans (by unfold R105_0; unfold F105_0; simp only [el_cond, el_ro, el_sum, el_fail, el_next, el_stop] <;> rfl)
theorem ok105_0 : LoopOK c105 [] 105 0 (sub [1, 1, 0, 1, 0, 0] (body Try.f105)) := by
  intro m hm ce st k r h
  obtain rfl : l105_0 = m := Option.some.inj hm
  unfold l105_0 at h
  split at h
  · rename_i g0 t0 g1 t1 t12 t13
    obtain ⟨hg, h⟩ := bif_some h
    simp only [Bool.and_eq_true] at hg
    obtain ⟨q0, q1⟩ := hg
    obtain rfl := ctsEq_eq _ _ q0
    obtain rfl := ctsEq_eq _ _ q1
    refine ⟨((t12 - t13).toNat + 1), ?_⟩
    rw [← h]
    exact loop_run (fun s : Int => ⟨[(0, AV.sl [.int .i64] t0), (1, AV.sl [.int .i64] t1), (12, AV.int .i64 t12), (13, AV.int .i64 s)], []⟩) (sumE (fun _ : Unit => k (.exit 0) ⟨[], []⟩) (fun _ : Unit => k .ret ⟨[(4, AV.bool false)], []⟩)) (st105_0 t0 t1 t12 ce k) _ t13
  · cases h
def q105 (a0 : List AV) (a1 : List AV) : Bool := (bif !decide ((a0.length : Int) = (a1.length : Int)) then true else (ro (runW (R105_0 a0 a1 (a0.length : Int)) (((a0.length : Int) - 0).toNat + 1) 0) false (sumE (fun _ => true) (fun _ => true))))
def v105_0 (a0 : List AV) (a1 : List AV) : Bool := (bif !decide ((a0.length : Int) = (a1.length : Int)) then false else (ro (runW (R105_0 a0 a1 (a0.length : Int)) (((a0.length : Int) - 0).toNat + 1) 0) false (sumE (fun _ => true) (fun _ => false))))
theorem e105 (a0 : List AV) (a1 : List AV) : funA c105 0 105 [AV.sl [.int .i64] a0, AV.sl [.int .i64] a1] = (bif !decide ((a0.length : Int) = (a1.length : Int)) then some (AV.bool false)
  else (ro (runW (R105_0 a0 a1 (a0.length : Int)) (((a0.length : Int) - 0).toNat + 1) 0) none (sumE (fun _ => some (AV.bool true)) (fun _ => some (AV.bool false))))) := by kernel_rfl
theorem r105 (a0 : List AV) (a1 : List AV) (h : q105 a0 a1 = true) : funA c105 0 105 [AV.sl [.int .i64] a0, AV.sl [.int .i64] a1] = some (AV.bool (v105_0 a0 a1)) := (e105 a0 a1).trans ((br (fun b => some (AV.bool (bif b then false else (ro (runW (R105_0 a0 a1 (a0.length : Int)) (((a0.length : Int) - 0).toNat + 1) 0) false (sumE (fun _ => true) (fun _ => false)))))) (fun _ => rfl) (brO (fun o : Option (Unit ⊕ Unit) => some (AV.bool (ro o false (sumE (fun _ => true) (fun _ => false))))) (brS (fun o : Unit ⊕ Unit => some (AV.bool ((sumE (fun _ => true) (fun _ => false)) o))) (fun _ => (fun _ => rfl)) (fun _ => (fun _ => rfl))))) h)
def m105 : TModel
  | [.sl g0 a0, .sl g1 a1] => bif ctsEq g0 ([.int .i64]) && ctsEq g1 ([.int .i64]) then some (q105 a0 a1, AV.bool (v105_0 a0 a1)) else none
  | _ => none
theorem k105 : Known Try.prog 105 := ⟨Try.f105, Try.func105, by kernel_rfl, by kernel_rfl⟩
theorem meets105 : Meets Try.prog 105 m105 := by
  refine meet (f := Try.f105) (l := [(0, sub [1, 1, 0, 1, 0, 0] (body Try.f105))]) (hs := [(105, 0, [0, 1, 12, 13]), (105, 999, [4]), (105, 1000, []), (105, 1001, [0, 1, 12, 13])]) (ts := []) (ws := []) (is := []) (ls := [(105, 0, l105_0)]) (lvl := 0) mixed k105 Try.func105 (by kernel_rfl) (loops_cons ok105_0 noLoop) allT_nil allM_nil noI fun w xs us r hl hv h => ?_
  unfold m105 at h
  split at h
  · rename_i g0 a0 g1 a1
    obtain ⟨hg, h⟩ := bif_pair h
    simp only [Bool.and_eq_true] at hg
    obtain ⟨q0, q1⟩ := hg
    obtain rfl := ctsEq_eq _ _ q0
    obtain rfl := ctsEq_eq _ _ q1
    obtain ⟨h1, rfl⟩ := pair_inj h
    exact r105 a0 a1 h1
  · cases h

/-! ### 115 slices.Equal[[]loop.example/g01984/impl.Pivot,loop.example/g01984/impl.Pivot] -/
def F115_0 (t0 : List AV) (t1 : List AV) (t12 : Int) (t13 : Int) : Out (Int) (Unit ⊕ Unit) := (bif decide (t13 < t12) then (bif (decide (0 ≤ t13) && decide (t13 < (t0.length : Int))) then (bif (decide (0 ≤ t13) && decide (t13 < (t1.length : Int))) then (bif !(bif decide (fI (t0.getD t13.toNat AV.undef) 0 = fI (t1.getD t13.toNat AV.undef) 0) then (bif decide (fI (t0.getD t13.toNat AV.undef) 1 = fI (t1.getD t13.toNat AV.undef) 1) then true else false) else false) then .stop (.inr ())
     else .next (IntKind.i64.wrap (t13 + 1)))
    else .fail)
   else .fail)
  else .stop (.inl ()))
def R115_0 (t0 : List AV) (t1 : List AV) (t12 : Int) : (Int) → Out (Int) (Unit ⊕ Unit) := fun s : Int => F115_0 t0 t1 t12 s
def l115_0 : LModel := fun _ _ st k => match st with
  | ⟨[(0, .sl g0 t0), (1, .sl g1 t1), (12, .int .i64 t12), (13, .int .i64 t13)], []⟩ => bif ctsEq g0 ([.int .i64, .int .i64]) && ctsEq g1 ([.int .i64, .int .i64]) then ro (runW (R115_0 t0 t1 t12) ((t12 - t13).toNat + 1) t13) none (sumE (fun _ : Unit => k (.exit 0) ⟨[], []⟩) (fun _ : Unit => k .ret ⟨[(4, AV.bool false)], []⟩)) else none
  | _ => none
noncomputable def c115 : Cfg := cfg Try.prog [(115, 0, [0, 1, 12, 13]), (115, 999, [4]), (115, 1000, []), (115, 1001, [0, 1, 12, 13])] [] [] [] [(115, 0, l115_0)]
theorem s115_0 (ce : CallE) (t0 : List AV) (t1 : List AV) (t12 : Int) (t13 : Int) (next : St → Option AV) (k : Kont) : stepA (codeA c115 ce [] 115 0 (sub [1, 1, 0, 1, 0, 0] (body Try.f115))) (normA [] [0, 1, 12, 13]) next ⟨[(0, AV.sl [.int .i64, .int .i64] t0), (1, AV.sl [.int .i64, .int .i64] t1), (12, AV.int .i64 t12), (13, AV.int .i64 t13)], []⟩ k = (bif decide (t13 < t12) then (bif (decide (0 ≤ t13) && decide (t13 < (t0.length : Int))) then (bif (decide (0 ≤ t13) && decide (t13 < (t1.length : Int))) then (bif !(bif decide (fI (t0.getD t13.toNat AV.undef) 0 = fI (t1.getD t13.toNat AV.undef) 0) then (bif decide (fI (t0.getD t13.toNat AV.undef) 1 = fI (t1.getD t13.toNat AV.undef) 1) then true else false) else false) then k .ret ⟨[(4, AV.bool false)], []⟩
     else next ⟨[(0, AV.sl [.int .i64, .int .i64] t0), (1, AV.sl [.int .i64, .int .i64] t1), (12, AV.int .i64 t12), (13, AV.int .i64 (IntKind.i64.wrap (t13 + 1)))], []⟩)
    else none)
   else none)
  else k (.exit 0) ⟨[], []⟩) := by kernel_rfl
theorem st115_0 (t0 : List AV) (t1 : List AV) (t12 : Int) (ce : CallE) (k : Kont) (s : Int) (next : St → Option AV) : stepA (codeA c115 ce [] 115 0 (sub [1, 1, 0, 1, 0, 0] (body Try.f115))) (normA [] [0, 1, 12, 13]) next ((fun s : Int => ⟨[(0, AV.sl [.int .i64, .int .i64] t0), (1, AV.sl [.int .i64, .int .i64] t1), (12, AV.int .i64 t12), (13, AV.int .i64 s)], []⟩) s) k = (R115_0 t0 t1 t12 s).el none (fun s => next ((fun s : Int => ⟨[(0, AV.sl [.int .i64, .int .i64] t0), (1, AV.sl [.int .i64, .int .i64] t1), (12, AV.int .i64 t12), (13, AV.int .i64 s)], []⟩) s)) (sumE (fun _ : Unit => k (.exit 0) ⟨[], []⟩) (fun _ : Unit => k .ret ⟨[(4, AV.bool false)], []⟩)) := (s115_0 ce t0 t1 t12 s next k).trans (by unfold R115_0; unfold F115_0; simp only [el_cond, el_ro, el_sum, el_fail, el_next, el_stop] <;> rfl)
theorem ok115_0 : LoopOK c115 [] 115 0 (sub [1, 1, 0, 1, 0, 0] (body Try.f115)) := by
  intro m hm ce st k r h
  obtain rfl : l115_0 = m := Option.some.inj hm
  unfold l115_0 at h
  split at h
  · rename_i g0 t0 g1 t1 t12 t13
    obtain ⟨hg, h⟩ := bif_some h
    simp only [Bool.and_eq_true] at hg
    obtain ⟨q0, q1⟩ := hg
    obtain rfl := ctsEq_eq _ _ q0
    obtain rfl := ctsEq_eq _ _ q1
    refine ⟨((t12 - t13).toNat + 1), ?_⟩
    rw [← h]
    exact loop_run (fun s : Int => ⟨[(0, AV.sl [.int .i64, .int .i64] t0), (1, AV.sl [.int .i64, .int .i64] t1), (12, AV.int .i64 t12), (13, AV.int .i64 s)], []⟩) (sumE (fun _ : Unit => k (.exit 0) ⟨[], []⟩) (fun _ : Unit => k .ret ⟨[(4, AV.bool false)], []⟩)) (st115_0 t0 t1 t12 ce k) _ t13
  · cases h
def q115 (a0 : List AV) (a1 : List AV) : Bool := (bif !decide ((a0.length : Int) = (a1.length : Int)) then true else (ro (runW (R115_0 a0 a1 (a0.length : Int)) (((a0.length : Int) - 0).toNat + 1) 0) false (sumE (fun _ => true) (fun _ => true))))
def v115_0 (a0 : List AV) (a1 : List AV) : Bool := (bif !decide ((a0.length : Int) = (a1.length : Int)) then false else (ro (runW (R115_0 a0 a1 (a0.length : Int)) (((a0.length : Int) - 0).toNat + 1) 0) false (sumE (fun _ => true) (fun _ => false))))
theorem e115 (a0 : List AV) (a1 : List AV) : funA c115 0 115 [AV.sl [.int .i64, .int .i64] a0, AV.sl [.int .i64, .int .i64] a1] = (bif !decide ((a0.length : Int) = (a1.length : Int)) then some (AV.bool false)
  else (ro (runW (R115_0 a0 a1 (a0.length : Int)) (((a0.length : Int) - 0).toNat + 1) 0) none (sumE (fun _ => some (AV.bool true)) (fun _ => some (AV.bool false))))) := by kernel_rfl
theorem r115 (a0 : List AV) (a1 : List AV) (h : q115 a0 a1 = true) : funA c115 0 115 [AV.sl [.int .i64, .int .i64] a0, AV.sl [.int .i64, .int .i64] a1] = some (AV.bool (v115_0 a0 a1)) := (e115 a0 a1).trans ((br (fun b => some (AV.bool (bif b then false else (ro (runW (R115_0 a0 a1 (a0.length : Int)) (((a0.length : Int) - 0).toNat + 1) 0) false (sumE (fun _ => true) (fun _ => false)))))) (fun _ => rfl) (brO (fun o : Option (Unit ⊕ Unit) => some (AV.bool (ro o false (sumE (fun _ => true) (fun _ => false))))) (brS (fun o : Unit ⊕ Unit => some (AV.bool ((sumE (fun _ => true) (fun _ => false)) o))) (fun _ => (fun _ => rfl)) (fun _ => (fun _ => rfl))))) h)
def m115 : TModel
  | [.sl g0 a0, .sl g1 a1] => bif ctsEq g0 ([.int .i64, .int .i64]) && ctsEq g1 ([.int .i64, .int .i64]) then some (q115 a0 a1, AV.bool (v115_0 a0 a1)) else none
  | _ => none
theorem k115 : Known Try.prog 115 := ⟨Try.f115, Try.func115, by kernel_rfl, by kernel_rfl⟩
theorem meets115 : Meets Try.prog 115 m115 := by
  refine meet (f := Try.f115) (l := [(0, sub [1, 1, 0, 1, 0, 0] (body Try.f115))]) (hs := [(115, 0, [0, 1, 12, 13]), (115, 999, [4]), (115, 1000, []), (115, 1001, [0, 1, 12, 13])]) (ts := []) (ws := []) (is := []) (ls := [(115, 0, l115_0)]) (lvl := 0) mixed k115 Try.func115 (by kernel_rfl) (loops_cons ok115_0 noLoop) allT_nil allM_nil noI fun w xs us r hl hv h => ?_
  unfold m115 at h
  split at h
  · rename_i g0 a0 g1 a1
    obtain ⟨hg, h⟩ := bif_pair h
    simp only [Bool.and_eq_true] at hg
    obtain ⟨q0, q1⟩ := hg
    obtain rfl := ctsEq_eq _ _ q0
    obtain rfl := ctsEq_eq _ _ q1
    obtain ⟨h1, rfl⟩ := pair_inj h
    exact r115 a0 a1 h1
  · cases h

/-! ### 80 loop.example/g01984/impl.EqualCrackers -/
noncomputable def c80 : Cfg := cfg Try.prog [(80, 999, [4])] [(105, m105), (115, m115)] [] [] []
def q80 (a0_0 : List AV) (a0_1 : List AV) (a0_2 : List AV) (a1_0 : List AV) (a1_1 : List AV) (a1_2 : List AV) : Bool := (q105 a0_0 a1_0 && (bif (v105_0 a0_0 a1_0) then (q105 a0_1 a1_1 && (bif (v105_0 a0_1 a1_1) then q115 a0_2 a1_2 else true)) else true))
def v80_0 (a0_0 : List AV) (a0_1 : List AV) (a0_2 : List AV) (a1_0 : List AV) (a1_1 : List AV) (a1_2 : List AV) : Bool := (bif (v105_0 a0_0 a1_0) then (bif (v105_0 a0_1 a1_1) then (v115_0 a0_2 a1_2) else false) else false)
theorem e80 (a0_0 : List AV) (a0_1 : List AV) (a0_2 : List AV) (a1_0 : List AV) (a1_1 : List AV) (a1_2 : List AV) : funA c80 0 80 [AV.agg [AV.sl [.int .i64] a0_0, AV.sl [.int .i64] a0_1, AV.sl [.int .i64, .int .i64] a0_2], AV.agg [AV.sl [.int .i64] a1_0, AV.sl [.int .i64] a1_1, AV.sl [.int .i64, .int .i64] a1_2]] = (bif q105 a0_0 a1_0 then (bif (v105_0 a0_0 a1_0) then (bif q105 a0_1 a1_1 then (bif (v105_0 a0_1 a1_1) then (bif q115 a0_2 a1_2 then some (AV.bool (v115_0 a0_2 a1_2))
      else none)
     else some (AV.bool false))
    else none)
   else some (AV.bool false))
  else none) := by kernel_rfl
theorem r80 (a0_0 : List AV) (a0_1 : List AV) (a0_2 : List AV) (a1_0 : List AV) (a1_1 : List AV) (a1_2 : List AV) (h : q80 a0_0 a0_1 a0_2 a1_0 a1_1 a1_2 = true) : funA c80 0 80 [AV.agg [AV.sl [.int .i64] a0_0, AV.sl [.int .i64] a0_1, AV.sl [.int .i64, .int .i64] a0_2], AV.agg [AV.sl [.int .i64] a1_0, AV.sl [.int .i64] a1_1, AV.sl [.int .i64, .int .i64] a1_2]] = some (AV.bool (v80_0 a0_0 a0_1 a0_2 a1_0 a1_1 a1_2)) := (e80 a0_0 a0_1 a0_2 a1_0 a1_1 a1_2).trans ((brL (br (fun b => some (AV.bool (bif b then (bif (v105_0 a0_1 a1_1) then (v115_0 a0_2 a1_2) else false) else false))) (brL (br (fun b => some (AV.bool (bif b then (v115_0 a0_2 a1_2) else false))) (brL1 (fun _ => rfl)) (fun _ => rfl))) (fun _ => rfl))) h)
def m80 : TModel
  | [.agg [.sl g0 a0_0, .sl g1 a0_1, .sl g2 a0_2], .agg [.sl g3 a1_0, .sl g4 a1_1, .sl g5 a1_2]] => bif ctsEq g0 ([.int .i64]) && ctsEq g1 ([.int .i64]) && ctsEq g2 ([.int .i64, .int .i64]) && ctsEq g3 ([.int .i64]) && ctsEq g4 ([.int .i64]) && ctsEq g5 ([.int .i64, .int .i64]) then some (q80 a0_0 a0_1 a0_2 a1_0 a1_1 a1_2, AV.bool (v80_0 a0_0 a0_1 a0_2 a1_0 a1_1 a1_2)) else none
  | _ => none
theorem k80 : Known Try.prog 80 := ⟨Try.f80, Try.func80, by kernel_rfl, by kernel_rfl⟩
theorem meets80 : Meets Try.prog 80 m80 := by
  refine meet (f := Try.f80) (l := []) (hs := [(80, 999, [4])]) (ts := [(105, m105), (115, m115)]) (ws := []) (is := []) (ls := []) (lvl := 0) mixed k80 Try.func80 (by kernel_rfl) noLoop (allT_cons meets105 (allT_cons meets115 allT_nil)) allM_nil noI fun w xs us r hl hv h => ?_
  unfold m80 at h
  split at h
  · rename_i g0 a0_0 g1 a0_1 g2 a0_2 g3 a1_0 g4 a1_1 g5 a1_2
    obtain ⟨hg, h⟩ := bif_pair h
    simp only [Bool.and_eq_true] at hg
    obtain ⟨⟨⟨⟨⟨q0, q1⟩, q2⟩, q3⟩, q4⟩, q5⟩ := hg
    obtain rfl := ctsEq_eq _ _ q0
    obtain rfl := ctsEq_eq _ _ q1
    obtain rfl := ctsEq_eq _ _ q2
    obtain rfl := ctsEq_eq _ _ q3
    obtain rfl := ctsEq_eq _ _ q4
    obtain rfl := ctsEq_eq _ _ q5
    obtain ⟨h1, rfl⟩ := pair_inj h
    exact r80 a0_0 a0_1 a0_2 a1_0 a1_1 a1_2 h1
  · cases h

/-! ### 41 loop.example/g01984/impl.EqualStores -/
noncomputable def c41 : Cfg := cfg Try.prog [(41, 999, [4])] [(79, m79), (80, m80)] [] [] []
def q41 (a0_0 : List AV) (a0_1 : Int) (a0_2 : List AV) (a0_3 : List AV) (a0_4 : List AV) (a1_0 : List AV) (a1_1 : Int) (a1_2 : List AV) (a1_3 : List AV) (a1_4 : List AV) : Bool := (q79 a0_0 a1_0 && (bif (v79_0 a0_0 a1_0) then (bif decide (a0_1 = a1_1) then q80 a0_2 a0_3 a0_4 a1_2 a1_3 a1_4 else true) else true))
def v41_0 (a0_0 : List AV) (a0_1 : Int) (a0_2 : List AV) (a0_3 : List AV) (a0_4 : List AV) (a1_0 : List AV) (a1_1 : Int) (a1_2 : List AV) (a1_3 : List AV) (a1_4 : List AV) : Bool := (bif (v79_0 a0_0 a1_0) then (bif decide (a0_1 = a1_1) then (v80_0 a0_2 a0_3 a0_4 a1_2 a1_3 a1_4) else false) else false)
theorem e41 (a0_0 : List AV) (a0_1 : Int) (a0_2 : List AV) (a0_3 : List AV) (a0_4 : List AV) (a1_0 : List AV) (a1_1 : Int) (a1_2 : List AV) (a1_3 : List AV) (a1_4 : List AV) : funA c41 0 41 [AV.agg [AV.sl [.int .i64, .int .i64, .int .i64, .int .i64] a0_0, AV.int .i64 a0_1, AV.sl [.int .i64] a0_2, AV.sl [.int .i64] a0_3, AV.sl [.int .i64, .int .i64] a0_4], AV.agg [AV.sl [.int .i64, .int .i64, .int .i64, .int .i64] a1_0, AV.int .i64 a1_1, AV.sl [.int .i64] a1_2, AV.sl [.int .i64] a1_3, AV.sl [.int .i64, .int .i64] a1_4]] = (bif q79 a0_0 a1_0 then (bif (v79_0 a0_0 a1_0) then (bif decide (a0_1 = a1_1) then (bif q80 a0_2 a0_3 a0_4 a1_2 a1_3 a1_4 then some (AV.bool (v80_0 a0_2 a0_3 a0_4 a1_2 a1_3 a1_4))
     else none)
    else some (AV.bool false))
   else some (AV.bool false))
  else none) := by kernel_rfl
theorem r41 (a0_0 : List AV) (a0_1 : Int) (a0_2 : List AV) (a0_3 : List AV) (a0_4 : List AV) (a1_0 : List AV) (a1_1 : Int) (a1_2 : List AV) (a1_3 : List AV) (a1_4 : List AV) (h : q41 a0_0 a0_1 a0_2 a0_3 a0_4 a1_0 a1_1 a1_2 a1_3 a1_4 = true) : funA c41 0 41 [AV.agg [AV.sl [.int .i64, .int .i64, .int .i64, .int .i64] a0_0, AV.int .i64 a0_1, AV.sl [.int .i64] a0_2, AV.sl [.int .i64] a0_3, AV.sl [.int .i64, .int .i64] a0_4], AV.agg [AV.sl [.int .i64, .int .i64, .int .i64, .int .i64] a1_0, AV.int .i64 a1_1, AV.sl [.int .i64] a1_2, AV.sl [.int .i64] a1_3, AV.sl [.int .i64, .int .i64] a1_4]] = some (AV.bool (v41_0 a0_0 a0_1 a0_2 a0_3 a0_4 a1_0 a1_1 a1_2 a1_3 a1_4)) := (e41 a0_0 a0_1 a0_2 a0_3 a0_4 a1_0 a1_1 a1_2 a1_3 a1_4).trans ((brL (br (fun b => some (AV.bool (bif b then (bif decide (a0_1 = a1_1) then (v80_0 a0_2 a0_3 a0_4 a1_2 a1_3 a1_4) else false) else false))) (br (fun b => some (AV.bool (bif b then (v80_0 a0_2 a0_3 a0_4 a1_2 a1_3 a1_4) else false))) (brL1 (fun _ => rfl)) (fun _ => rfl)) (fun _ => rfl))) h)
def m41 : TModel
  | [.agg [.sl g0 a0_0, .int .i64 a0_1, .sl g1 a0_2, .sl g2 a0_3, .sl g3 a0_4], .agg [.sl g4 a1_0, .int .i64 a1_1, .sl g5 a1_2, .sl g6 a1_3, .sl g7 a1_4]] => bif ctsEq g0 ([.int .i64, .int .i64, .int .i64, .int .i64]) && ctsEq g1 ([.int .i64]) && ctsEq g2 ([.int .i64]) && ctsEq g3 ([.int .i64, .int .i64]) && ctsEq g4 ([.int .i64, .int .i64, .int .i64, .int .i64]) && ctsEq g5 ([.int .i64]) && ctsEq g6 ([.int .i64]) && ctsEq g7 ([.int .i64, .int .i64]) then some (q41 a0_0 a0_1 a0_2 a0_3 a0_4 a1_0 a1_1 a1_2 a1_3 a1_4, AV.bool (v41_0 a0_0 a0_1 a0_2 a0_3 a0_4 a1_0 a1_1 a1_2 a1_3 a1_4)) else none
  | _ => none
theorem k41 : Known Try.prog 41 := ⟨Try.f41, Try.func41, by kernel_rfl, by kernel_rfl⟩
theorem meets41 : Meets Try.prog 41 m41 := by
  refine meet (f := Try.f41) (l := []) (hs := [(41, 999, [4])]) (ts := [(79, m79), (80, m80)]) (ws := []) (is := []) (ls := []) (lvl := 0) mixed k41 Try.func41 (by kernel_rfl) noLoop (allT_cons meets79 (allT_cons meets80 allT_nil)) allM_nil noI fun w xs us r hl hv h => ?_
  unfold m41 at h
  split at h
  · rename_i g0 a0_0 a0_1 g1 a0_2 g2 a0_3 g3 a0_4 g4 a1_0 a1_1 g5 a1_2 g6 a1_3 g7 a1_4
    obtain ⟨hg, h⟩ := bif_pair h
    simp only [Bool.and_eq_true] at hg
    obtain ⟨⟨⟨⟨⟨⟨⟨q0, q1⟩, q2⟩, q3⟩, q4⟩, q5⟩, q6⟩, q7⟩ := hg
    obtain rfl := ctsEq_eq _ _ q0
    obtain rfl := ctsEq_eq _ _ q1
    obtain rfl := ctsEq_eq _ _ q2
    obtain rfl := ctsEq_eq _ _ q3
    obtain rfl := ctsEq_eq _ _ q4
    obtain rfl := ctsEq_eq _ _ q5
    obtain rfl := ctsEq_eq _ _ q6
    obtain rfl := ctsEq_eq _ _ q7
    obtain ⟨h1, rfl⟩ := pair_inj h
    exact r41 a0_0 a0_1 a0_2 a0_3 a0_4 a1_0 a1_1 a1_2 a1_3 a1_4 h1
  · cases h

/-! ### 116 loop.example/g01984/laws.eqStamp -/
noncomputable def c116 : Cfg := cfg Try.prog [(116, 999, [4])] [] [] [] []
def q116 (a0_0 : Int) (a0_1 : Int) (a0_2 : Int) (a0_3 : Int) (a1_0 : Int) (a1_1 : Int) (a1_2 : Int) (a1_3 : Int) : Bool := true
def v116_0 (a0_0 : Int) (a0_1 : Int) (a0_2 : Int) (a0_3 : Int) (a1_0 : Int) (a1_1 : Int) (a1_2 : Int) (a1_3 : Int) : Bool := (bif !decide (a0_0 = a1_0) then false else (bif !decide (a0_1 = a1_1) then false else (bif !decide (a0_2 = a1_2) then false else (bif !decide (a0_3 = a1_3) then false else true))))
theorem e116 (a0_0 : Int) (a0_1 : Int) (a0_2 : Int) (a0_3 : Int) (a1_0 : Int) (a1_1 : Int) (a1_2 : Int) (a1_3 : Int) : funA c116 0 116 [AV.agg [AV.int .i64 a0_0, AV.int .i64 a0_1, AV.int .i64 a0_2, AV.int .i64 a0_3], AV.agg [AV.int .i64 a1_0, AV.int .i64 a1_1, AV.int .i64 a1_2, AV.int .i64 a1_3]] = (bif !decide (a0_0 = a1_0) then some (AV.bool false)
  else (bif !decide (a0_1 = a1_1) then some (AV.bool false)
   else (bif !decide (a0_2 = a1_2) then some (AV.bool false)
    else (bif !decide (a0_3 = a1_3) then some (AV.bool false)
     else some (AV.bool true))))) := by kernel_rfl
theorem r116 (a0_0 : Int) (a0_1 : Int) (a0_2 : Int) (a0_3 : Int) (a1_0 : Int) (a1_1 : Int) (a1_2 : Int) (a1_3 : Int) : funA c116 0 116 [AV.agg [AV.int .i64 a0_0, AV.int .i64 a0_1, AV.int .i64 a0_2, AV.int .i64 a0_3], AV.agg [AV.int .i64 a1_0, AV.int .i64 a1_1, AV.int .i64 a1_2, AV.int .i64 a1_3]] = some (AV.bool (v116_0 a0_0 a0_1 a0_2 a0_3 a1_0 a1_1 a1_2 a1_3)) := (e116 a0_0 a0_1 a0_2 a0_3 a1_0 a1_1 a1_2 a1_3).trans (of_tt (brT (fun b => some (AV.bool (bif b then false else (bif !decide (a0_1 = a1_1) then false else (bif !decide (a0_2 = a1_2) then false else (bif !decide (a0_3 = a1_3) then false else true)))))) (fun _ => rfl) (brT (fun b => some (AV.bool (bif b then false else (bif !decide (a0_2 = a1_2) then false else (bif !decide (a0_3 = a1_3) then false else true))))) (fun _ => rfl) (brT (fun b => some (AV.bool (bif b then false else (bif !decide (a0_3 = a1_3) then false else true)))) (fun _ => rfl) (brT (fun b => some (AV.bool (bif b then false else true))) (fun _ => rfl) (fun _ => rfl))))))
def m116 : TModel
  | [.agg [.int .i64 a0_0, .int .i64 a0_1, .int .i64 a0_2, .int .i64 a0_3], .agg [.int .i64 a1_0, .int .i64 a1_1, .int .i64 a1_2, .int .i64 a1_3]] => some (true, AV.bool (v116_0 a0_0 a0_1 a0_2 a0_3 a1_0 a1_1 a1_2 a1_3))
  | _ => none
theorem k116 : Known Try.prog 116 := ⟨Try.f116, Try.func116, by kernel_rfl, by kernel_rfl⟩
theorem meets116 : Meets Try.prog 116 m116 := by
  refine meet (f := Try.f116) (l := []) (hs := [(116, 999, [4])]) (ts := []) (ws := []) (is := []) (ls := []) (lvl := 0) mixed k116 Try.func116 (by kernel_rfl) noLoop allT_nil allM_nil noI fun w xs us r hl hv h => ?_
  unfold m116 at h
  split at h
  · rename_i a0_0 a0_1 a0_2 a0_3 a1_0 a1_1 a1_2 a1_3
    obtain ⟨h1, rfl⟩ := pair_inj h
    exact r116 a0_0 a0_1 a0_2 a0_3 a1_0 a1_1 a1_2 a1_3
  · cases h

/-! ### 81 loop.example/g01984/laws.eqStampS -/
def F81_0 (t0 : List AV) (t1 : List AV) (t5 : Int) : Out (Int) (Unit ⊕ Unit) := (bif decide (t5 < (t0.length : Int)) then (bif (decide (0 ≤ t5) && decide (t5 < (t0.length : Int))) then (bif (decide (0 ≤ t5) && decide (t5 < (t1.length : Int))) then (bif !(v116_0 (fI (t0.getD t5.toNat AV.undef) 0) (fI (t0.getD t5.toNat AV.undef) 1) (fI (t0.getD t5.toNat AV.undef) 2) (fI (t0.getD t5.toNat AV.undef) 3) (fI (t1.getD t5.toNat AV.undef) 0) (fI (t1.getD t5.toNat AV.undef) 1) (fI (t1.getD t5.toNat AV.undef) 2) (fI (t1.getD t5.toNat AV.undef) 3)) then .stop (.inr ())
     else .next (IntKind.i64.wrap (t5 + 1)))
    else .fail)
   else .fail)
  else .stop (.inl ()))
def R81_0 (t0 : List AV) (t1 : List AV) : (Int) → Out (Int) (Unit ⊕ Unit) := fun s : Int => F81_0 t0 t1 s
def l81_0 : LModel := fun _ _ st k => match st with
  | ⟨[(0, .sl g0 t0), (1, .sl g1 t1), (5, .int .i64 t5)], []⟩ => bif ctsEq g0 ([.int .i64, .int .i64, .int .i64, .int .i64]) && ctsEq g1 ([.int .i64, .int .i64, .int .i64, .int .i64]) then ro (runW (R81_0 t0 t1) (((t0.length : Int) - t5).toNat + 1) t5) none (sumE (fun _ : Unit => k (.exit 0) ⟨[], []⟩) (fun _ : Unit => k .ret ⟨[(4, AV.bool false)], []⟩)) else none
  | _ => none
noncomputable def c81 : Cfg := cfg Try.prog [(81, 0, [0, 1, 5]), (81, 999, [4]), (81, 1000, []), (81, 1001, [0, 1, 5])] [(116, m116)] [] [] [(81, 0, l81_0)]
theorem s81_0 (ce : CallE) (t0 : List AV) (t1 : List AV) (t5 : Int) (next : St → Option AV) (k : Kont) : stepA (codeA c81 ce [] 81 0 (sub [1, 1, 0, 1, 0, 0] (body Try.f81))) (normA [] [0, 1, 5]) next ⟨[(0, AV.sl [.int .i64, .int .i64, .int .i64, .int .i64] t0), (1, AV.sl [.int .i64, .int .i64, .int .i64, .int .i64] t1), (5, AV.int .i64 t5)], []⟩ k = (bif decide (t5 < (t0.length : Int)) then (bif (decide (0 ≤ t5) && decide (t5 < (t0.length : Int))) then (bif (decide (0 ≤ t5) && decide (t5 < (t1.length : Int))) then (bif !(v116_0 (fI (t0.getD t5.toNat AV.undef) 0) (fI (t0.getD t5.toNat AV.undef) 1) (fI (t0.getD t5.toNat AV.undef) 2) (fI (t0.getD t5.toNat AV.undef) 3) (fI (t1.getD t5.toNat AV.undef) 0) (fI (t1.getD t5.toNat AV.undef) 1) (fI (t1.getD t5.toNat AV.undef) 2) (fI (t1.getD t5.toNat AV.undef) 3)) then k .ret ⟨[(4, AV.bool false)], []⟩
     else next ⟨[(0, AV.sl [.int .i64, .int .i64, .int .i64, .int .i64] t0), (1, AV.sl [.int .i64, .int .i64, .int .i64, .int .i64] t1), (5, AV.int .i64 (IntKind.i64.wrap (t5 + 1)))], []⟩)
    else none)
   else none)
  else k (.exit 0) ⟨[], []⟩) := by kernel_rfl
theorem st81_0 (t0 : List AV) (t1 : List AV) (ce : CallE) (k : Kont) (s : Int) (next : St → Option AV) : stepA (codeA c81 ce [] 81 0 (sub [1, 1, 0, 1, 0, 0] (body Try.f81))) (normA [] [0, 1, 5]) next ((fun s : Int => ⟨[(0, AV.sl [.int .i64, .int .i64, .int .i64, .int .i64] t0), (1, AV.sl [.int .i64, .int .i64, .int .i64, .int .i64] t1), (5, AV.int .i64 s)], []⟩) s) k = (R81_0 t0 t1 s).el none (fun s => next ((fun s : Int => ⟨[(0, AV.sl [.int .i64, .int .i64, .int .i64, .int .i64] t0), (1, AV.sl [.int .i64, .int .i64, .int .i64, .int .i64] t1), (5, AV.int .i64 s)], []⟩) s)) (sumE (fun _ : Unit => k (.exit 0) ⟨[], []⟩) (fun _ : Unit => k .ret ⟨[(4, AV.bool false)], []⟩)) := (s81_0 ce t0 t1 s next k).trans (by unfold R81_0; unfold F81_0; simp only [el_cond, el_ro, el_sum, el_fail, el_next, el_stop] <;> rfl)
theorem ok81_0 : LoopOK c81 [] 81 0 (sub [1, 1, 0, 1, 0, 0] (body Try.f81)) := by
  intro m hm ce st k r h
  obtain rfl : l81_0 = m := Option.some.inj hm
  unfold l81_0 at h
  split at h
  · rename_i g0 t0 g1 t1 t5
    obtain ⟨hg, h⟩ := bif_some h
    simp only [Bool.and_eq_true] at hg
    obtain ⟨q0, q1⟩ := hg
    obtain rfl := ctsEq_eq _ _ q0
    obtain rfl := ctsEq_eq _ _ q1
    refine ⟨(((t0.length : Int) - t5).toNat + 1), ?_⟩
    rw [← h]
    exact loop_run (fun s : Int => ⟨[(0, AV.sl [.int .i64, .int .i64, .int .i64, .int .i64] t0), (1, AV.sl [.int .i64, .int .i64, .int .i64, .int .i64] t1), (5, AV.int .i64 s)], []⟩) (sumE (fun _ : Unit => k (.exit 0) ⟨[], []⟩) (fun _ : Unit => k .ret ⟨[(4, AV.bool false)], []⟩)) (st81_0 t0 t1 ce k) _ t5
  · cases h
def q81 (a0 : List AV) (a1 : List AV) : Bool := (bif !decide ((a0.length : Int) = (a1.length : Int)) then true else (ro (runW (R81_0 a0 a1) (((a0.length : Int) - 0).toNat + 1) 0) false (sumE (fun _ => true) (fun _ => true))))
def v81_0 (a0 : List AV) (a1 : List AV) : Bool := (bif !decide ((a0.length : Int) = (a1.length : Int)) then false else (ro (runW (R81_0 a0 a1) (((a0.length : Int) - 0).toNat + 1) 0) false (sumE (fun _ => true) (fun _ => false))))
theorem e81 (a0 : List AV) (a1 : List AV) : funA c81 0 81 [AV.sl [.int .i64, .int .i64, .int .i64, .int .i64] a0, AV.sl [.int .i64, .int .i64, .int .i64, .int .i64] a1] = (bif !decide ((a0.length : Int) = (a1.length : Int)) then some (AV.bool false)
  else (ro (runW (R81_0 a0 a1) (((a0.length : Int) - 0).toNat + 1) 0) none (sumE (fun _ => some (AV.bool true)) (fun _ => some (AV.bool false))))) := by kernel_rfl
theorem r81 (a0 : List AV) (a1 : List AV) (h : q81 a0 a1 = true) : funA c81 0 81 [AV.sl [.int .i64, .int .i64, .int .i64, .int .i64] a0, AV.sl [.int .i64, .int .i64, .int .i64, .int .i64] a1] = some (AV.bool (v81_0 a0 a1)) := (e81 a0 a1).trans ((br (fun b => some (AV.bool (bif b then false else (ro (runW (R81_0 a0 a1) (((a0.length : Int) - 0).toNat + 1) 0) false (sumE (fun _ => true) (fun _ => false)))))) (fun _ => rfl) (brO (fun o : Option (Unit ⊕ Unit) => some (AV.bool (ro o false (sumE (fun _ => true) (fun _ => false))))) (brS (fun o : Unit ⊕ Unit => some (AV.bool ((sumE (fun _ => true) (fun _ => false)) o))) (fun _ => (fun _ => rfl)) (fun _ => (fun _ => rfl))))) h)
def m81 : TModel
  | [.sl g0 a0, .sl g1 a1] => bif ctsEq g0 ([.int .i64, .int .i64, .int .i64, .int .i64]) && ctsEq g1 ([.int .i64, .int .i64, .int .i64, .int .i64]) then some (q81 a0 a1, AV.bool (v81_0 a0 a1)) else none
  | _ => none
theorem k81 : Known Try.prog 81 := ⟨Try.f81, Try.func81, by kernel_rfl, by kernel_rfl⟩
theorem meets81 : Meets Try.prog 81 m81 := by
  refine meet (f := Try.f81) (l := [(0, sub [1, 1, 0, 1, 0, 0] (body Try.f81))]) (hs := [(81, 0, [0, 1, 5]), (81, 999, [4]), (81, 1000, []), (81, 1001, [0, 1, 5])]) (ts := [(116, m116)]) (ws := []) (is := []) (ls := [(81, 0, l81_0)]) (lvl := 0) mixed k81 Try.func81 (by kernel_rfl) (loops_cons ok81_0 noLoop) (allT_cons meets116 allT_nil) allM_nil noI fun w xs us r hl hv h => ?_
  unfold m81 at h
  split at h
  · rename_i g0 a0 g1 a1
    obtain ⟨hg, h⟩ := bif_pair h
    simp only [Bool.and_eq_true] at hg
    obtain ⟨q0, q1⟩ := hg
    obtain rfl := ctsEq_eq _ _ q0
    obtain rfl := ctsEq_eq _ _ q1
    obtain ⟨h1, rfl⟩ := pair_inj h
    exact r81 a0 a1 h1
  · cases h

/-! ### 22 loop.example/g01984/laws.eqIntS -/
def F22_0 (t0 : List AV) (t1 : List AV) (t5 : Int) : Out (Int) (Unit ⊕ Unit) := (bif decide (t5 < (t0.length : Int)) then (bif (decide (0 ≤ t5) && decide (t5 < (t0.length : Int))) then (bif (decide (0 ≤ t5) && decide (t5 < (t1.length : Int))) then (bif !decide (fI (t0.getD t5.toNat AV.undef) 0 = fI (t1.getD t5.toNat AV.undef) 0) then .stop (.inr ())
     else .next (IntKind.i64.wrap (t5 + 1)))
    else .fail)
   else .fail)
  else .stop (.inl ()))
def R22_0 (t0 : List AV) (t1 : List AV) : (Int) → Out (Int) (Unit ⊕ Unit) := fun s : Int => F22_0 t0 t1 s
def l22_0 : LModel := fun _ _ st k => match st with
  | ⟨[(0, .sl g0 t0), (1, .sl g1 t1), (5, .int .i64 t5)], []⟩ => bif ctsEq g0 ([.int .i64]) && ctsEq g1 ([.int .i64]) then ro (runW (R22_0 t0 t1) (((t0.length : Int) - t5).toNat + 1) t5) none (sumE (fun _ : Unit => k (.exit 0) ⟨[], []⟩) (fun _ : Unit => k .ret ⟨[(4, AV.bool false)], []⟩)) else none
  | _ => none
noncomputable def c22 : Cfg := cfg Try.prog [(22, 0, [0, 1, 5]), (22, 999, [4]), (22, 1000, []), (22, 1001, [0, 1, 5])] [] [] [] [(22, 0, l22_0)]
theorem s22_0 (ce : CallE) (t0 : List AV) (t1 : List AV) (t5 : Int) (next : St → Option AV) (k : Kont) : stepA (codeA c22 ce [] 22 0 (sub [1, 1, 0, 1, 0, 0] (body Try.f22))) (normA [] [0, 1, 5]) next ⟨[(0, AV.sl [.int .i64] t0), (1, AV.sl [.int .i64] t1), (5, AV.int .i64 t5)], []⟩ k = (bif decide (t5 < (t0.length : Int)) then (bif (decide (0 ≤ t5) && decide (t5 < (t0.length : Int))) then (bif (decide (0 ≤ t5) && decide (t5 < (t1.length : Int))) then (bif !decide (fI (t0.getD t5.toNat AV.undef) 0 = fI (t1.getD t5.toNat AV.undef) 0) then k .ret ⟨[(4, AV.bool false)], []⟩
     else next ⟨[(0, AV.sl [.int .i64] t0), (1, AV.sl [.int .i64] t1), (5, AV.int .i64 (IntKind.i64.wrap (t5 + 1)))], []⟩)
    else none)
   else none)
  else k (.exit 0) ⟨[], []⟩) := by kernel_rfl
theorem st22_0 (t0 : List AV) (t1 : List AV) (ce : CallE) (k : Kont) (s : Int) (next : St → Option AV) : stepA (codeA c22 ce [] 22 0 (sub [1, 1, 0, 1, 0, 0] (body Try.f22))) (normA [] [0, 1, 5]) next ((fun s : Int => ⟨[(0, AV.sl [.int .i64] t0), (1, AV.sl [.int .i64] t1), (5, AV.int .i64 s)], []⟩) s) k = (R22_0 t0 t1 s).el none (fun s => next ((fun s : Int => ⟨[(0, AV.sl [.int .i64] t0), (1, AV.sl [.int .i64] t1), (5, AV.int .i64 s)], []⟩) s)) (sumE (fun _ : Unit => k (.exit 0) ⟨[], []⟩) (fun _ : Unit => k .ret ⟨[(4, AV.bool false)], []⟩)) := (s22_0 ce t0 t1 s next k).trans (by unfold R22_0; unfold F22_0; simp only [el_cond, el_ro, el_sum, el_fail, el_next, el_stop] <;> rfl)
theorem ok22_0 : LoopOK c22 [] 22 0 (sub [1, 1, 0, 1, 0, 0] (body Try.f22)) := by
  intro m hm ce st k r h
  obtain rfl : l22_0 = m := Option.some.inj hm
  unfold l22_0 at h
  split at h
  · rename_i g0 t0 g1 t1 t5
    obtain ⟨hg, h⟩ := bif_some h
    simp only [Bool.and_eq_true] at hg
    obtain ⟨q0, q1⟩ := hg
    obtain rfl := ctsEq_eq _ _ q0
    obtain rfl := ctsEq_eq _ _ q1
    refine ⟨(((t0.length : Int) - t5).toNat + 1), ?_⟩
    rw [← h]
    exact loop_run (fun s : Int => ⟨[(0, AV.sl [.int .i64] t0), (1, AV.sl [.int .i64] t1), (5, AV.int .i64 s)], []⟩) (sumE (fun _ : Unit => k (.exit 0) ⟨[], []⟩) (fun _ : Unit => k .ret ⟨[(4, AV.bool false)], []⟩)) (st22_0 t0 t1 ce k) _ t5
  · cases h
def q22 (a0 : List AV) (a1 : List AV) : Bool := (bif !decide ((a0.length : Int) = (a1.length : Int)) then true else (ro (runW (R22_0 a0 a1) (((a0.length : Int) - 0).toNat + 1) 0) false (sumE (fun _ => true) (fun _ => true))))
def v22_0 (a0 : List AV) (a1 : List AV) : Bool := (bif !decide ((a0.length : Int) = (a1.length : Int)) then false else (ro (runW (R22_0 a0 a1) (((a0.length : Int) - 0).toNat + 1) 0) false (sumE (fun _ => true) (fun _ => false))))
theorem e22 (a0 : List AV) (a1 : List AV) : funA c22 0 22 [AV.sl [.int .i64] a0, AV.sl [.int .i64] a1] = (bif !decide ((a0.length : Int) = (a1.length : Int)) then some (AV.bool false)
  else (ro (runW (R22_0 a0 a1) (((a0.length : Int) - 0).toNat + 1) 0) none (sumE (fun _ => some (AV.bool true)) (fun _ => some (AV.bool false))))) := by kernel_rfl
theorem r22 (a0 : List AV) (a1 : List AV) (h : q22 a0 a1 = true) : funA c22 0 22 [AV.sl [.int .i64] a0, AV.sl [.int .i64] a1] = some (AV.bool (v22_0 a0 a1)) := (e22 a0 a1).trans ((br (fun b => some (AV.bool (bif b then false else (ro (runW (R22_0 a0 a1) (((a0.length : Int) - 0).toNat + 1) 0) false (sumE (fun _ => true) (fun _ => false)))))) (fun _ => rfl) (brO (fun o : Option (Unit ⊕ Unit) => some (AV.bool (ro o false (sumE (fun _ => true) (fun _ => false))))) (brS (fun o : Unit ⊕ Unit => some (AV.bool ((sumE (fun _ => true) (fun _ => false)) o))) (fun _ => (fun _ => rfl)) (fun _ => (fun _ => rfl))))) h)
def m22 : TModel
  | [.sl g0 a0, .sl g1 a1] => bif ctsEq g0 ([.int .i64]) && ctsEq g1 ([.int .i64]) then some (q22 a0 a1, AV.bool (v22_0 a0 a1)) else none
  | _ => none
theorem k22 : Known Try.prog 22 := ⟨Try.f22, Try.func22, by kernel_rfl, by kernel_rfl⟩
theorem meets22 : Meets Try.prog 22 m22 := by
  refine meet (f := Try.f22) (l := [(0, sub [1, 1, 0, 1, 0, 0] (body Try.f22))]) (hs := [(22, 0, [0, 1, 5]), (22, 999, [4]), (22, 1000, []), (22, 1001, [0, 1, 5])]) (ts := []) (ws := []) (is := []) (ls := [(22, 0, l22_0)]) (lvl := 0) mixed k22 Try.func22 (by kernel_rfl) (loops_cons ok22_0 noLoop) allT_nil allM_nil noI fun w xs us r hl hv h => ?_
  unfold m22 at h
  split at h
  · rename_i g0 a0 g1 a1
    obtain ⟨hg, h⟩ := bif_pair h
    simp only [Bool.and_eq_true] at hg
    obtain ⟨q0, q1⟩ := hg
    obtain rfl := ctsEq_eq _ _ q0
    obtain rfl := ctsEq_eq _ _ q1
    obtain ⟨h1, rfl⟩ := pair_inj h
    exact r22 a0 a1 h1
  · cases h

/-! ### 147 loop.example/g01984/laws.eqPivot -/
noncomputable def c147 : Cfg := cfg Try.prog [(147, 999, [4])] [] [] [] []
def q147 (a0_0 : Int) (a0_1 : Int) (a1_0 : Int) (a1_1 : Int) : Bool := true
def v147_0 (a0_0 : Int) (a0_1 : Int) (a1_0 : Int) (a1_1 : Int) : Bool := (bif !decide (a0_0 = a1_0) then false else (bif !decide (a0_1 = a1_1) then false else true))
theorem e147 (a0_0 : Int) (a0_1 : Int) (a1_0 : Int) (a1_1 : Int) : funA c147 0 147 [AV.agg [AV.int .i64 a0_0, AV.int .i64 a0_1], AV.agg [AV.int .i64 a1_0, AV.int .i64 a1_1]] = (bif !decide (a0_0 = a1_0) then some (AV.bool false)
  else (bif !decide (a0_1 = a1_1) then some (AV.bool false)
   else some (AV.bool true))) := by kernel_rfl
theorem r147 (a0_0 : Int) (a0_1 : Int) (a1_0 : Int) (a1_1 : Int) : funA c147 0 147 [AV.agg [AV.int .i64 a0_0, AV.int .i64 a0_1], AV.agg [AV.int .i64 a1_0, AV.int .i64 a1_1]] = some (AV.bool (v147_0 a0_0 a0_1 a1_0 a1_1)) := (e147 a0_0 a0_1 a1_0 a1_1).trans (of_tt (brT (fun b => some (AV.bool (bif b then false else (bif !decide (a0_1 = a1_1) then false else true)))) (fun _ => rfl) (brT (fun b => some (AV.bool (bif b then false else true))) (fun _ => rfl) (fun _ => rfl))))
def m147 : TModel
  | [.agg [.int .i64 a0_0, .int .i64 a0_1], .agg [.int .i64 a1_0, .int .i64 a1_1]] => some (true, AV.bool (v147_0 a0_0 a0_1 a1_0 a1_1))
  | _ => none
theorem k147 : Known Try.prog 147 := ⟨Try.f147, Try.func147, by kernel_rfl, by kernel_rfl⟩
theorem meets147 : Meets Try.prog 147 m147 := by
  refine meet (f := Try.f147) (l := []) (hs := [(147, 999, [4])]) (ts := []) (ws := []) (is := []) (ls := []) (lvl := 0) mixed k147 Try.func147 (by kernel_rfl) noLoop allT_nil allM_nil noI fun w xs us r hl hv h => ?_
  unfold m147 at h
  split at h
  · rename_i a0_0 a0_1 a1_0 a1_1
    obtain ⟨h1, rfl⟩ := pair_inj h
    exact r147 a0_0 a0_1 a1_0 a1_1
  · cases h

/-! ### 117 loop.example/g01984/laws.eqPivotS -/
def F117_0 (t0 : List AV) (t1 : List AV) (t5 : Int) : Out (Int) (Unit ⊕ Unit) := (bif decide (t5 < (t0.length : Int)) then (bif (decide (0 ≤ t5) && decide (t5 < (t0.length : Int))) then (bif (decide (0 ≤ t5) && decide (t5 < (t1.length : Int))) then (bif !(v147_0 (fI (t0.getD t5.toNat AV.undef) 0) (fI (t0.getD t5.toNat AV.undef) 1) (fI (t1.getD t5.toNat AV.undef) 0) (fI (t1.getD t5.toNat AV.undef) 1)) then .stop (.inr ())
     else .next (IntKind.i64.wrap (t5 + 1)))
    else .fail)
   else .fail)
  else .stop (.inl ()))
def R117_0 (t0 : List AV) (t1 : List AV) : (Int) → Out (Int) (Unit ⊕ Unit) := fun s : Int => F117_0 t0 t1 s
def l117_0 : LModel := fun _ _ st k => match st with
  | ⟨[(0, .sl g0 t0), (1, .sl g1 t1), (5, .int .i64 t5)], []⟩ => bif ctsEq g0 ([.int .i64, .int .i64]) && ctsEq g1 ([.int .i64, .int .i64]) then ro (runW (R117_0 t0 t1) (((t0.length : Int) - t5).toNat + 1) t5) none (sumE (fun _ : Unit => k (.exit 0) ⟨[], []⟩) (fun _ : Unit => k .ret ⟨[(4, AV.bool false)], []⟩)) else none
  | _ => none
noncomputable def c117 : Cfg := cfg Try.prog [(117, 0, [0, 1, 5]), (117, 999, [4]), (117, 1000, []), (117, 1001, [0, 1, 5])] [(147, m147)] [] [] [(117, 0, l117_0)]
theorem s117_0 (ce : CallE) (t0 : List AV) (t1 : List AV) (t5 : Int) (next : St → Option AV) (k : Kont) : stepA (codeA c117 ce [] 117 0 (sub [1, 1, 0, 1, 0, 0] (body Try.f117))) (normA [] [0, 1, 5]) next ⟨[(0, AV.sl [.int .i64, .int .i64] t0), (1, AV.sl [.int .i64, .int .i64] t1), (5, AV.int .i64 t5)], []⟩ k = (bif decide (t5 < (t0.length : Int)) then (bif (decide (0 ≤ t5) && decide (t5 < (t0.length : Int))) then (bif (decide (0 ≤ t5) && decide (t5 < (t1.length : Int))) then (bif !(v147_0 (fI (t0.getD t5.toNat AV.undef) 0) (fI (t0.getD t5.toNat AV.undef) 1) (fI (t1.getD t5.toNat AV.undef) 0) (fI (t1.getD t5.toNat AV.undef) 1)) then k .ret ⟨[(4, AV.bool false)], []⟩
     else next ⟨[(0, AV.sl [.int .i64, .int .i64] t0), (1, AV.sl [.int .i64, .int .i64] t1), (5, AV.int .i64 (IntKind.i64.wrap (t5 + 1)))], []⟩)
    else none)
   else none)
  else k (.exit 0) ⟨[], []⟩) := by kernel_rfl
theorem st117_0 (t0 : List AV) (t1 : List AV) (ce : CallE) (k : Kont) (s : Int) (next : St → Option AV) : stepA (codeA c117 ce [] 117 0 (sub [1, 1, 0, 1, 0, 0] (body Try.f117))) (normA [] [0, 1, 5]) next ((fun s : Int => ⟨[(0, AV.sl [.int .i64, .int .i64] t0), (1, AV.sl [.int .i64, .int .i64] t1), (5, AV.int .i64 s)], []⟩) s) k = (R117_0 t0 t1 s).el none (fun s => next ((fun s : Int => ⟨[(0, AV.sl [.int .i64, .int .i64] t0), (1, AV.sl [.int .i64, .int .i64] t1), (5, AV.int .i64 s)], []⟩) s)) (sumE (fun _ : Unit => k (.exit 0) ⟨[], []⟩) (fun _ : Unit => k .ret ⟨[(4, AV.bool false)], []⟩)) := (s117_0 ce t0 t1 s next k).trans (by unfold R117_0; unfold F117_0; simp only [el_cond, el_ro, el_sum, el_fail, el_next, el_stop] <;> rfl)
theorem ok117_0 : LoopOK c117 [] 117 0 (sub [1, 1, 0, 1, 0, 0] (body Try.f117)) := by
  intro m hm ce st k r h
  obtain rfl : l117_0 = m := Option.some.inj hm
  unfold l117_0 at h
  split at h
  · rename_i g0 t0 g1 t1 t5
    obtain ⟨hg, h⟩ := bif_some h
    simp only [Bool.and_eq_true] at hg
    obtain ⟨q0, q1⟩ := hg
    obtain rfl := ctsEq_eq _ _ q0
    obtain rfl := ctsEq_eq _ _ q1
    refine ⟨(((t0.length : Int) - t5).toNat + 1), ?_⟩
    rw [← h]
    exact loop_run (fun s : Int => ⟨[(0, AV.sl [.int .i64, .int .i64] t0), (1, AV.sl [.int .i64, .int .i64] t1), (5, AV.int .i64 s)], []⟩) (sumE (fun _ : Unit => k (.exit 0) ⟨[], []⟩) (fun _ : Unit => k .ret ⟨[(4, AV.bool false)], []⟩)) (st117_0 t0 t1 ce k) _ t5
  · cases h
def q117 (a0 : List AV) (a1 : List AV) : Bool := (bif !decide ((a0.length : Int) = (a1.length : Int)) then true else (ro (runW (R117_0 a0 a1) (((a0.length : Int) - 0).toNat + 1) 0) false (sumE (fun _ => true) (fun _ => true))))
def v117_0 (a0 : List AV) (a1 : List AV) : Bool := (bif !decide ((a0.length : Int) = (a1.length : Int)) then false else (ro (runW (R117_0 a0 a1) (((a0.length : Int) - 0).toNat + 1) 0) false (sumE (fun _ => true) (fun _ => false))))
theorem e117 (a0 : List AV) (a1 : List AV) : funA c117 0 117 [AV.sl [.int .i64, .int .i64] a0, AV.sl [.int .i64, .int .i64] a1] = (bif !decide ((a0.length : Int) = (a1.length : Int)) then some (AV.bool false)
  else (ro (runW (R117_0 a0 a1) (((a0.length : Int) - 0).toNat + 1) 0) none (sumE (fun _ => some (AV.bool true)) (fun _ => some (AV.bool false))))) := by kernel_rfl
theorem r117 (a0 : List AV) (a1 : List AV) (h : q117 a0 a1 = true) : funA c117 0 117 [AV.sl [.int .i64, .int .i64] a0, AV.sl [.int .i64, .int .i64] a1] = some (AV.bool (v117_0 a0 a1)) := (e117 a0 a1).trans ((br (fun b => some (AV.bool (bif b then false else (ro (runW (R117_0 a0 a1) (((a0.length : Int) - 0).toNat + 1) 0) false (sumE (fun _ => true) (fun _ => false)))))) (fun _ => rfl) (brO (fun o : Option (Unit ⊕ Unit) => some (AV.bool (ro o false (sumE (fun _ => true) (fun _ => false))))) (brS (fun o : Unit ⊕ Unit => some (AV.bool ((sumE (fun _ => true) (fun _ => false)) o))) (fun _ => (fun _ => rfl)) (fun _ => (fun _ => rfl))))) h)
def m117 : TModel
  | [.sl g0 a0, .sl g1 a1] => bif ctsEq g0 ([.int .i64, .int .i64]) && ctsEq g1 ([.int .i64, .int .i64]) then some (q117 a0 a1, AV.bool (v117_0 a0 a1)) else none
  | _ => none
theorem k117 : Known Try.prog 117 := ⟨Try.f117, Try.func117, by kernel_rfl, by kernel_rfl⟩
theorem meets117 : Meets Try.prog 117 m117 := by
  refine meet (f := Try.f117) (l := [(0, sub [1, 1, 0, 1, 0, 0] (body Try.f117))]) (hs := [(117, 0, [0, 1, 5]), (117, 999, [4]), (117, 1000, []), (117, 1001, [0, 1, 5])]) (ts := [(147, m147)]) (ws := []) (is := []) (ls := [(117, 0, l117_0)]) (lvl := 0) mixed k117 Try.func117 (by kernel_rfl) (loops_cons ok117_0 noLoop) (allT_cons meets147 allT_nil) allM_nil noI fun w xs us r hl hv h => ?_
  unfold m117 at h
  split at h
  · rename_i g0 a0 g1 a1
    obtain ⟨hg, h⟩ := bif_pair h
    simp only [Bool.and_eq_true] at hg
    obtain ⟨q0, q1⟩ := hg
    obtain rfl := ctsEq_eq _ _ q0
    obtain rfl := ctsEq_eq _ _ q1
    obtain ⟨h1, rfl⟩ := pair_inj h
    exact r117 a0 a1 h1
  · cases h

/-! ### 82 loop.example/g01984/laws.eqCracker -/
noncomputable def c82 : Cfg := cfg Try.prog [(82, 999, [4])] [(22, m22), (117, m117)] [] [] []
def q82 (a0_0 : List AV) (a0_1 : List AV) (a0_2 : List AV) (a1_0 : List AV) (a1_1 : List AV) (a1_2 : List AV) : Bool := (q22 a0_0 a1_0 && (bif !(v22_0 a0_0 a1_0) then true else (q22 a0_1 a1_1 && (bif !(v22_0 a0_1 a1_1) then true else q117 a0_2 a1_2))))
def v82_0 (a0_0 : List AV) (a0_1 : List AV) (a0_2 : List AV) (a1_0 : List AV) (a1_1 : List AV) (a1_2 : List AV) : Bool := (bif !(v22_0 a0_0 a1_0) then false else (bif !(v22_0 a0_1 a1_1) then false else (bif !(v117_0 a0_2 a1_2) then false else true)))
theorem e82 (a0_0 : List AV) (a0_1 : List AV) (a0_2 : List AV) (a1_0 : List AV) (a1_1 : List AV) (a1_2 : List AV) : funA c82 0 82 [AV.agg [AV.sl [.int .i64] a0_0, AV.sl [.int .i64] a0_1, AV.sl [.int .i64, .int .i64] a0_2], AV.agg [AV.sl [.int .i64] a1_0, AV.sl [.int .i64] a1_1, AV.sl [.int .i64, .int .i64] a1_2]] = (bif q22 a0_0 a1_0 then (bif !(v22_0 a0_0 a1_0) then some (AV.bool false)
   else (bif q22 a0_1 a1_1 then (bif !(v22_0 a0_1 a1_1) then some (AV.bool false)
     else (bif q117 a0_2 a1_2 then (bif !(v117_0 a0_2 a1_2) then some (AV.bool false)
       else some (AV.bool true))
      else none))
    else none))
  else none) := by kernel_rfl
theorem r82 (a0_0 : List AV) (a0_1 : List AV) (a0_2 : List AV) (a1_0 : List AV) (a1_1 : List AV) (a1_2 : List AV) (h : q82 a0_0 a0_1 a0_2 a1_0 a1_1 a1_2 = true) : funA c82 0 82 [AV.agg [AV.sl [.int .i64] a0_0, AV.sl [.int .i64] a0_1, AV.sl [.int .i64, .int .i64] a0_2], AV.agg [AV.sl [.int .i64] a1_0, AV.sl [.int .i64] a1_1, AV.sl [.int .i64, .int .i64] a1_2]] = some (AV.bool (v82_0 a0_0 a0_1 a0_2 a1_0 a1_1 a1_2)) := (e82 a0_0 a0_1 a0_2 a1_0 a1_1 a1_2).trans ((brL (br (fun b => some (AV.bool (bif b then false else (bif !(v22_0 a0_1 a1_1) then false else (bif !(v117_0 a0_2 a1_2) then false else true))))) (fun _ => rfl) (brL (br (fun b => some (AV.bool (bif b then false else (bif !(v117_0 a0_2 a1_2) then false else true)))) (fun _ => rfl) (brL1 (brT (fun b => some (AV.bool (bif b then false else true))) (fun _ => rfl) (fun _ => rfl))))))) h)
def m82 : TModel
  | [.agg [.sl g0 a0_0, .sl g1 a0_1, .sl g2 a0_2], .agg [.sl g3 a1_0, .sl g4 a1_1, .sl g5 a1_2]] => bif ctsEq g0 ([.int .i64]) && ctsEq g1 ([.int .i64]) && ctsEq g2 ([.int .i64, .int .i64]) && ctsEq g3 ([.int .i64]) && ctsEq g4 ([.int .i64]) && ctsEq g5 ([.int .i64, .int .i64]) then some (q82 a0_0 a0_1 a0_2 a1_0 a1_1 a1_2, AV.bool (v82_0 a0_0 a0_1 a0_2 a1_0 a1_1 a1_2)) else none
  | _ => none
theorem k82 : Known Try.prog 82 := ⟨Try.f82, Try.func82, by kernel_rfl, by kernel_rfl⟩
theorem meets82 : Meets Try.prog 82 m82 := by
  refine meet (f := Try.f82) (l := []) (hs := [(82, 999, [4])]) (ts := [(22, m22), (117, m117)]) (ws := []) (is := []) (ls := []) (lvl := 0) mixed k82 Try.func82 (by kernel_rfl) noLoop (allT_cons meets22 (allT_cons meets117 allT_nil)) allM_nil noI fun w xs us r hl hv h => ?_
  unfold m82 at h
  split at h
  · rename_i g0 a0_0 g1 a0_1 g2 a0_2 g3 a1_0 g4 a1_1 g5 a1_2
    obtain ⟨hg, h⟩ := bif_pair h
    simp only [Bool.and_eq_true] at hg
    obtain ⟨⟨⟨⟨⟨q0, q1⟩, q2⟩, q3⟩, q4⟩, q5⟩ := hg
    obtain rfl := ctsEq_eq _ _ q0
    obtain rfl := ctsEq_eq _ _ q1
    obtain rfl := ctsEq_eq _ _ q2
    obtain rfl := ctsEq_eq _ _ q3
    obtain rfl := ctsEq_eq _ _ q4
    obtain rfl := ctsEq_eq _ _ q5
    obtain ⟨h1, rfl⟩ := pair_inj h
    exact r82 a0_0 a0_1 a0_2 a1_0 a1_1 a1_2 h1
  · cases h

/-! ### 42 loop.example/g01984/laws.eqStore -/
noncomputable def c42 : Cfg := cfg Try.prog [(42, 999, [4])] [(81, m81), (82, m82)] [] [] []
def q42 (a0_0 : List AV) (a0_1 : Int) (a0_2 : List AV) (a0_3 : List AV) (a0_4 : List AV) (a1_0 : List AV) (a1_1 : Int) (a1_2 : List AV) (a1_3 : List AV) (a1_4 : List AV) : Bool := (q81 a0_0 a1_0 && (bif !(v81_0 a0_0 a1_0) then true else (bif !decide (a0_1 = a1_1) then true else q82 a0_2 a0_3 a0_4 a1_2 a1_3 a1_4)))
def v42_0 (a0_0 : List AV) (a0_1 : Int) (a0_2 : List AV) (a0_3 : List AV) (a0_4 : List AV) (a1_0 : List AV) (a1_1 : Int) (a1_2 : List AV) (a1_3 : List AV) (a1_4 : List AV) : Bool := (bif !(v81_0 a0_0 a1_0) then false else (bif !decide (a0_1 = a1_1) then false else (bif !(v82_0 a0_2 a0_3 a0_4 a1_2 a1_3 a1_4) then false else true)))
theorem e42 (a0_0 : List AV) (a0_1 : Int) (a0_2 : List AV) (a0_3 : List AV) (a0_4 : List AV) (a1_0 : List AV) (a1_1 : Int) (a1_2 : List AV) (a1_3 : List AV) (a1_4 : List AV) : funA c42 0 42 [AV.agg [AV.sl [.int .i64, .int .i64, .int .i64, .int .i64] a0_0, AV.int .i64 a0_1, AV.sl [.int .i64] a0_2, AV.sl [.int .i64] a0_3, AV.sl [.int .i64, .int .i64] a0_4], AV.agg [AV.sl [.int .i64, .int .i64, .int .i64, .int .i64] a1_0, AV.int .i64 a1_1, AV.sl [.int .i64] a1_2, AV.sl [.int .i64] a1_3, AV.sl [.int .i64, .int .i64] a1_4]] = (bif q81 a0_0 a1_0 then (bif !(v81_0 a0_0 a1_0) then some (AV.bool false)
   else (bif !decide (a0_1 = a1_1) then some (AV.bool false)
    else (bif q82 a0_2 a0_3 a0_4 a1_2 a1_3 a1_4 then (bif !(v82_0 a0_2 a0_3 a0_4 a1_2 a1_3 a1_4) then some (AV.bool false)
      else some (AV.bool true))
     else none)))
  else none) := by kernel_rfl
theorem r42 (a0_0 : List AV) (a0_1 : Int) (a0_2 : List AV) (a0_3 : List AV) (a0_4 : List AV) (a1_0 : List AV) (a1_1 : Int) (a1_2 : List AV) (a1_3 : List AV) (a1_4 : List AV) (h : q42 a0_0 a0_1 a0_2 a0_3 a0_4 a1_0 a1_1 a1_2 a1_3 a1_4 = true) : funA c42 0 42 [AV.agg [AV.sl [.int .i64, .int .i64, .int .i64, .int .i64] a0_0, AV.int .i64 a0_1, AV.sl [.int .i64] a0_2, AV.sl [.int .i64] a0_3, AV.sl [.int .i64, .int .i64] a0_4], AV.agg [AV.sl [.int .i64, .int .i64, .int .i64, .int .i64] a1_0, AV.int .i64 a1_1, AV.sl [.int .i64] a1_2, AV.sl [.int .i64] a1_3, AV.sl [.int .i64, .int .i64] a1_4]] = some (AV.bool (v42_0 a0_0 a0_1 a0_2 a0_3 a0_4 a1_0 a1_1 a1_2 a1_3 a1_4)) := (e42 a0_0 a0_1 a0_2 a0_3 a0_4 a1_0 a1_1 a1_2 a1_3 a1_4).trans ((brL (br (fun b => some (AV.bool (bif b then false else (bif !decide (a0_1 = a1_1) then false else (bif !(v82_0 a0_2 a0_3 a0_4 a1_2 a1_3 a1_4) then false else true))))) (fun _ => rfl) (br (fun b => some (AV.bool (bif b then false else (bif !(v82_0 a0_2 a0_3 a0_4 a1_2 a1_3 a1_4) then false else true)))) (fun _ => rfl) (brL1 (brT (fun b => some (AV.bool (bif b then false else true))) (fun _ => rfl) (fun _ => rfl)))))) h)
def m42 : TModel
  | [.agg [.sl g0 a0_0, .int .i64 a0_1, .sl g1 a0_2, .sl g2 a0_3, .sl g3 a0_4], .agg [.sl g4 a1_0, .int .i64 a1_1, .sl g5 a1_2, .sl g6 a1_3, .sl g7 a1_4]] => bif ctsEq g0 ([.int .i64, .int .i64, .int .i64, .int .i64]) && ctsEq g1 ([.int .i64]) && ctsEq g2 ([.int .i64]) && ctsEq g3 ([.int .i64, .int .i64]) && ctsEq g4 ([.int .i64, .int .i64, .int .i64, .int .i64]) && ctsEq g5 ([.int .i64]) && ctsEq g6 ([.int .i64]) && ctsEq g7 ([.int .i64, .int .i64]) then some (q42 a0_0 a0_1 a0_2 a0_3 a0_4 a1_0 a1_1 a1_2 a1_3 a1_4, AV.bool (v42_0 a0_0 a0_1 a0_2 a0_3 a0_4 a1_0 a1_1 a1_2 a1_3 a1_4)) else none
  | _ => none
theorem k42 : Known Try.prog 42 := ⟨Try.f42, Try.func42, by kernel_rfl, by kernel_rfl⟩
theorem meets42 : Meets Try.prog 42 m42 := by
  refine meet (f := Try.f42) (l := []) (hs := [(42, 999, [4])]) (ts := [(81, m81), (82, m82)]) (ws := []) (is := []) (ls := []) (lvl := 0) mixed k42 Try.func42 (by kernel_rfl) noLoop (allT_cons meets81 (allT_cons meets82 allT_nil)) allM_nil noI fun w xs us r hl hv h => ?_
  unfold m42 at h
  split at h
  · rename_i g0 a0_0 a0_1 g1 a0_2 g2 a0_3 g3 a0_4 g4 a1_0 a1_1 g5 a1_2 g6 a1_3 g7 a1_4
    obtain ⟨hg, h⟩ := bif_pair h
    simp only [Bool.and_eq_true] at hg
    obtain ⟨⟨⟨⟨⟨⟨⟨q0, q1⟩, q2⟩, q3⟩, q4⟩, q5⟩, q6⟩, q7⟩ := hg
    obtain rfl := ctsEq_eq _ _ q0
    obtain rfl := ctsEq_eq _ _ q1
    obtain rfl := ctsEq_eq _ _ q2
    obtain rfl := ctsEq_eq _ _ q3
    obtain rfl := ctsEq_eq _ _ q4
    obtain rfl := ctsEq_eq _ _ q5
    obtain rfl := ctsEq_eq _ _ q6
    obtain rfl := ctsEq_eq _ _ q7
    obtain ⟨h1, rfl⟩ := pair_inj h
    exact r42 a0_0 a0_1 a0_2 a0_3 a0_4 a1_0 a1_1 a1_2 a1_3 a1_4 h1
  · cases h

/-! ### 9 loop.example/g01984/laws.FnExactEqualStores -/
noncomputable def c9 : Cfg := cfg Try.prog [(9, 999, [4])] [(38, m38), (39, m39), (40, m40), (41, m41), (42, m42)] [] [] []
def q9 (a0_0 : List AV) (a0_1 : Int) (a0_2 : List AV) (a0_3 : List AV) (a0_4 : List AV) (a1_0 : List AV) (a1_1 : Int) (a1_2 : List AV) (a1_3 : List AV) (a1_4 : List AV) : Bool := (bif decide ((v38_0 a0_0 a0_1 a0_2 a0_3 a0_4 1048576) < 0) then true else (bif decide ((v38_0 a1_0 a1_1 a1_2 a1_3 a1_4 (v38_0 a0_0 a0_1 a0_2 a0_3 a0_4 1048576)) < 0) then true else (q40 a0_0 a0_1 a0_2 a0_3 a0_4 && (q40 a1_0 a1_1 a1_2 a1_3 a1_4 && (q39 (v40_0 a0_0 a0_1 a0_2 a0_3 a0_4) (v40_1 a0_0 a0_1 a0_2 a0_3 a0_4) (v40_2 a0_0 a0_1 a0_2 a0_3 a0_4) (v40_3 a0_0 a0_1 a0_2 a0_3 a0_4) (v40_4 a0_0 a0_1 a0_2 a0_3 a0_4) (v40_0 a1_0 a1_1 a1_2 a1_3 a1_4) (v40_1 a1_0 a1_1 a1_2 a1_3 a1_4) (v40_2 a1_0 a1_1 a1_2 a1_3 a1_4) (v40_3 a1_0 a1_1 a1_2 a1_3 a1_4) (v40_4 a1_0 a1_1 a1_2 a1_3 a1_4) && (q40 a0_0 a0_1 a0_2 a0_3 a0_4 && (q40 a1_0 a1_1 a1_2 a1_3 a1_4 && (q41 (v40_0 a0_0 a0_1 a0_2 a0_3 a0_4) (v40_1 a0_0 a0_1 a0_2 a0_3 a0_4) (v40_2 a0_0 a0_1 a0_2 a0_3 a0_4) (v40_3 a0_0 a0_1 a0_2 a0_3 a0_4) (v40_4 a0_0 a0_1 a0_2 a0_3 a0_4) (v40_0 a1_0 a1_1 a1_2 a1_3 a1_4) (v40_1 a1_0 a1_1 a1_2 a1_3 a1_4) (v40_2 a1_0 a1_1 a1_2 a1_3 a1_4) (v40_3 a1_0 a1_1 a1_2 a1_3 a1_4) (v40_4 a1_0 a1_1 a1_2 a1_3 a1_4) && (bif !((v41_0 (v40_0 a0_0 a0_1 a0_2 a0_3 a0_4) (v40_1 a0_0 a0_1 a0_2 a0_3 a0_4) (v40_2 a0_0 a0_1 a0_2 a0_3 a0_4) (v40_3 a0_0 a0_1 a0_2 a0_3 a0_4) (v40_4 a0_0 a0_1 a0_2 a0_3 a0_4) (v40_0 a1_0 a1_1 a1_2 a1_3 a1_4) (v40_1 a1_0 a1_1 a1_2 a1_3 a1_4) (v40_2 a1_0 a1_1 a1_2 a1_3 a1_4) (v40_3 a1_0 a1_1 a1_2 a1_3 a1_4) (v40_4 a1_0 a1_1 a1_2 a1_3 a1_4)) == (v39_0 (v40_0 a0_0 a0_1 a0_2 a0_3 a0_4) (v40_1 a0_0 a0_1 a0_2 a0_3 a0_4) (v40_2 a0_0 a0_1 a0_2 a0_3 a0_4) (v40_3 a0_0 a0_1 a0_2 a0_3 a0_4) (v40_4 a0_0 a0_1 a0_2 a0_3 a0_4) (v40_0 a1_0 a1_1 a1_2 a1_3 a1_4) (v40_1 a1_0 a1_1 a1_2 a1_3 a1_4) (v40_2 a1_0 a1_1 a1_2 a1_3 a1_4) (v40_3 a1_0 a1_1 a1_2 a1_3 a1_4) (v40_4 a1_0 a1_1 a1_2 a1_3 a1_4))) then true else (q40 a0_0 a0_1 a0_2 a0_3 a0_4 && (q42 (v40_0 a0_0 a0_1 a0_2 a0_3 a0_4) (v40_1 a0_0 a0_1 a0_2 a0_3 a0_4) (v40_2 a0_0 a0_1 a0_2 a0_3 a0_4) (v40_3 a0_0 a0_1 a0_2 a0_3 a0_4) (v40_4 a0_0 a0_1 a0_2 a0_3 a0_4) (v40_0 a0_0 a0_1 a0_2 a0_3 a0_4) (v40_1 a0_0 a0_1 a0_2 a0_3 a0_4) (v40_2 a0_0 a0_1 a0_2 a0_3 a0_4) (v40_3 a0_0 a0_1 a0_2 a0_3 a0_4) (v40_4 a0_0 a0_1 a0_2 a0_3 a0_4) && (bif !(v42_0 (v40_0 a0_0 a0_1 a0_2 a0_3 a0_4) (v40_1 a0_0 a0_1 a0_2 a0_3 a0_4) (v40_2 a0_0 a0_1 a0_2 a0_3 a0_4) (v40_3 a0_0 a0_1 a0_2 a0_3 a0_4) (v40_4 a0_0 a0_1 a0_2 a0_3 a0_4) (v40_0 a0_0 a0_1 a0_2 a0_3 a0_4) (v40_1 a0_0 a0_1 a0_2 a0_3 a0_4) (v40_2 a0_0 a0_1 a0_2 a0_3 a0_4) (v40_3 a0_0 a0_1 a0_2 a0_3 a0_4) (v40_4 a0_0 a0_1 a0_2 a0_3 a0_4)) then true else (q40 a1_0 a1_1 a1_2 a1_3 a1_4 && q42 (v40_0 a1_0 a1_1 a1_2 a1_3 a1_4) (v40_1 a1_0 a1_1 a1_2 a1_3 a1_4) (v40_2 a1_0 a1_1 a1_2 a1_3 a1_4) (v40_3 a1_0 a1_1 a1_2 a1_3 a1_4) (v40_4 a1_0 a1_1 a1_2 a1_3 a1_4) (v40_0 a1_0 a1_1 a1_2 a1_3 a1_4) (v40_1 a1_0 a1_1 a1_2 a1_3 a1_4) (v40_2 a1_0 a1_1 a1_2 a1_3 a1_4) (v40_3 a1_0 a1_1 a1_2 a1_3 a1_4) (v40_4 a1_0 a1_1 a1_2 a1_3 a1_4))))))))))))))
def v9_0 (a0_0 : List AV) (a0_1 : Int) (a0_2 : List AV) (a0_3 : List AV) (a0_4 : List AV) (a1_0 : List AV) (a1_1 : Int) (a1_2 : List AV) (a1_3 : List AV) (a1_4 : List AV) : Bool := (bif decide ((v38_0 a0_0 a0_1 a0_2 a0_3 a0_4 1048576) < 0) then true else (bif decide ((v38_0 a1_0 a1_1 a1_2 a1_3 a1_4 (v38_0 a0_0 a0_1 a0_2 a0_3 a0_4 1048576)) < 0) then true else (bif !((v41_0 (v40_0 a0_0 a0_1 a0_2 a0_3 a0_4) (v40_1 a0_0 a0_1 a0_2 a0_3 a0_4) (v40_2 a0_0 a0_1 a0_2 a0_3 a0_4) (v40_3 a0_0 a0_1 a0_2 a0_3 a0_4) (v40_4 a0_0 a0_1 a0_2 a0_3 a0_4) (v40_0 a1_0 a1_1 a1_2 a1_3 a1_4) (v40_1 a1_0 a1_1 a1_2 a1_3 a1_4) (v40_2 a1_0 a1_1 a1_2 a1_3 a1_4) (v40_3 a1_0 a1_1 a1_2 a1_3 a1_4) (v40_4 a1_0 a1_1 a1_2 a1_3 a1_4)) == (v39_0 (v40_0 a0_0 a0_1 a0_2 a0_3 a0_4) (v40_1 a0_0 a0_1 a0_2 a0_3 a0_4) (v40_2 a0_0 a0_1 a0_2 a0_3 a0_4) (v40_3 a0_0 a0_1 a0_2 a0_3 a0_4) (v40_4 a0_0 a0_1 a0_2 a0_3 a0_4) (v40_0 a1_0 a1_1 a1_2 a1_3 a1_4) (v40_1 a1_0 a1_1 a1_2 a1_3 a1_4) (v40_2 a1_0 a1_1 a1_2 a1_3 a1_4) (v40_3 a1_0 a1_1 a1_2 a1_3 a1_4) (v40_4 a1_0 a1_1 a1_2 a1_3 a1_4))) then false else (bif !(v42_0 (v40_0 a0_0 a0_1 a0_2 a0_3 a0_4) (v40_1 a0_0 a0_1 a0_2 a0_3 a0_4) (v40_2 a0_0 a0_1 a0_2 a0_3 a0_4) (v40_3 a0_0 a0_1 a0_2 a0_3 a0_4) (v40_4 a0_0 a0_1 a0_2 a0_3 a0_4) (v40_0 a0_0 a0_1 a0_2 a0_3 a0_4) (v40_1 a0_0 a0_1 a0_2 a0_3 a0_4) (v40_2 a0_0 a0_1 a0_2 a0_3 a0_4) (v40_3 a0_0 a0_1 a0_2 a0_3 a0_4) (v40_4 a0_0 a0_1 a0_2 a0_3 a0_4)) then false else (bif !(v42_0 (v40_0 a1_0 a1_1 a1_2 a1_3 a1_4) (v40_1 a1_0 a1_1 a1_2 a1_3 a1_4) (v40_2 a1_0 a1_1 a1_2 a1_3 a1_4) (v40_3 a1_0 a1_1 a1_2 a1_3 a1_4) (v40_4 a1_0 a1_1 a1_2 a1_3 a1_4) (v40_0 a1_0 a1_1 a1_2 a1_3 a1_4) (v40_1 a1_0 a1_1 a1_2 a1_3 a1_4) (v40_2 a1_0 a1_1 a1_2 a1_3 a1_4) (v40_3 a1_0 a1_1 a1_2 a1_3 a1_4) (v40_4 a1_0 a1_1 a1_2 a1_3 a1_4)) then false else true)))))
theorem e9 (a0_0 : List AV) (a0_1 : Int) (a0_2 : List AV) (a0_3 : List AV) (a0_4 : List AV) (a1_0 : List AV) (a1_1 : Int) (a1_2 : List AV) (a1_3 : List AV) (a1_4 : List AV) : funA c9 0 9 [AV.agg [AV.sl [.int .i64, .int .i64, .int .i64, .int .i64] a0_0, AV.int .i64 a0_1, AV.sl [.int .i64] a0_2, AV.sl [.int .i64] a0_3, AV.sl [.int .i64, .int .i64] a0_4], AV.agg [AV.sl [.int .i64, .int .i64, .int .i64, .int .i64] a1_0, AV.int .i64 a1_1, AV.sl [.int .i64] a1_2, AV.sl [.int .i64] a1_3, AV.sl [.int .i64, .int .i64] a1_4]] = (bif decide ((v38_0 a0_0 a0_1 a0_2 a0_3 a0_4 1048576) < 0) then some (AV.bool true)
  else (bif decide ((v38_0 a1_0 a1_1 a1_2 a1_3 a1_4 (v38_0 a0_0 a0_1 a0_2 a0_3 a0_4 1048576)) < 0) then some (AV.bool true)
   else (bif q40 a0_0 a0_1 a0_2 a0_3 a0_4 then (bif q40 a1_0 a1_1 a1_2 a1_3 a1_4 then (bif q39 (v40_0 a0_0 a0_1 a0_2 a0_3 a0_4) (v40_1 a0_0 a0_1 a0_2 a0_3 a0_4) (v40_2 a0_0 a0_1 a0_2 a0_3 a0_4) (v40_3 a0_0 a0_1 a0_2 a0_3 a0_4) (v40_4 a0_0 a0_1 a0_2 a0_3 a0_4) (v40_0 a1_0 a1_1 a1_2 a1_3 a1_4) (v40_1 a1_0 a1_1 a1_2 a1_3 a1_4) (v40_2 a1_0 a1_1 a1_2 a1_3 a1_4) (v40_3 a1_0 a1_1 a1_2 a1_3 a1_4) (v40_4 a1_0 a1_1 a1_2 a1_3 a1_4) then (bif q40 a0_0 a0_1 a0_2 a0_3 a0_4 then (bif q40 a1_0 a1_1 a1_2 a1_3 a1_4 then (bif q41 (v40_0 a0_0 a0_1 a0_2 a0_3 a0_4) (v40_1 a0_0 a0_1 a0_2 a0_3 a0_4) (v40_2 a0_0 a0_1 a0_2 a0_3 a0_4) (v40_3 a0_0 a0_1 a0_2 a0_3 a0_4) (v40_4 a0_0 a0_1 a0_2 a0_3 a0_4) (v40_0 a1_0 a1_1 a1_2 a1_3 a1_4) (v40_1 a1_0 a1_1 a1_2 a1_3 a1_4) (v40_2 a1_0 a1_1 a1_2 a1_3 a1_4) (v40_3 a1_0 a1_1 a1_2 a1_3 a1_4) (v40_4 a1_0 a1_1 a1_2 a1_3 a1_4) then (bif !((v41_0 (v40_0 a0_0 a0_1 a0_2 a0_3 a0_4) (v40_1 a0_0 a0_1 a0_2 a0_3 a0_4) (v40_2 a0_0 a0_1 a0_2 a0_3 a0_4) (v40_3 a0_0 a0_1 a0_2 a0_3 a0_4) (v40_4 a0_0 a0_1 a0_2 a0_3 a0_4) (v40_0 a1_0 a1_1 a1_2 a1_3 a1_4) (v40_1 a1_0 a1_1 a1_2 a1_3 a1_4) (v40_2 a1_0 a1_1 a1_2 a1_3 a1_4) (v40_3 a1_0 a1_1 a1_2 a1_3 a1_4) (v40_4 a1_0 a1_1 a1_2 a1_3 a1_4)) == (v39_0 (v40_0 a0_0 a0_1 a0_2 a0_3 a0_4) (v40_1 a0_0 a0_1 a0_2 a0_3 a0_4) (v40_2 a0_0 a0_1 a0_2 a0_3 a0_4) (v40_3 a0_0 a0_1 a0_2 a0_3 a0_4) (v40_4 a0_0 a0_1 a0_2 a0_3 a0_4) (v40_0 a1_0 a1_1 a1_2 a1_3 a1_4) (v40_1 a1_0 a1_1 a1_2 a1_3 a1_4) (v40_2 a1_0 a1_1 a1_2 a1_3 a1_4) (v40_3 a1_0 a1_1 a1_2 a1_3 a1_4) (v40_4 a1_0 a1_1 a1_2 a1_3 a1_4))) then some (AV.bool false)
          else (bif q40 a0_0 a0_1 a0_2 a0_3 a0_4 then (bif q42 (v40_0 a0_0 a0_1 a0_2 a0_3 a0_4) (v40_1 a0_0 a0_1 a0_2 a0_3 a0_4) (v40_2 a0_0 a0_1 a0_2 a0_3 a0_4) (v40_3 a0_0 a0_1 a0_2 a0_3 a0_4) (v40_4 a0_0 a0_1 a0_2 a0_3 a0_4) (v40_0 a0_0 a0_1 a0_2 a0_3 a0_4) (v40_1 a0_0 a0_1 a0_2 a0_3 a0_4) (v40_2 a0_0 a0_1 a0_2 a0_3 a0_4) (v40_3 a0_0 a0_1 a0_2 a0_3 a0_4) (v40_4 a0_0 a0_1 a0_2 a0_3 a0_4) then (bif !(v42_0 (v40_0 a0_0 a0_1 a0_2 a0_3 a0_4) (v40_1 a0_0 a0_1 a0_2 a0_3 a0_4) (v40_2 a0_0 a0_1 a0_2 a0_3 a0_4) (v40_3 a0_0 a0_1 a0_2 a0_3 a0_4) (v40_4 a0_0 a0_1 a0_2 a0_3 a0_4) (v40_0 a0_0 a0_1 a0_2 a0_3 a0_4) (v40_1 a0_0 a0_1 a0_2 a0_3 a0_4) (v40_2 a0_0 a0_1 a0_2 a0_3 a0_4) (v40_3 a0_0 a0_1 a0_2 a0_3 a0_4) (v40_4 a0_0 a0_1 a0_2 a0_3 a0_4)) then some (AV.bool false)
             else (bif q40 a1_0 a1_1 a1_2 a1_3 a1_4 then (bif q42 (v40_0 a1_0 a1_1 a1_2 a1_3 a1_4) (v40_1 a1_0 a1_1 a1_2 a1_3 a1_4) (v40_2 a1_0 a1_1 a1_2 a1_3 a1_4) (v40_3 a1_0 a1_1 a1_2 a1_3 a1_4) (v40_4 a1_0 a1_1 a1_2 a1_3 a1_4) (v40_0 a1_0 a1_1 a1_2 a1_3 a1_4) (v40_1 a1_0 a1_1 a1_2 a1_3 a1_4) (v40_2 a1_0 a1_1 a1_2 a1_3 a1_4) (v40_3 a1_0 a1_1 a1_2 a1_3 a1_4) (v40_4 a1_0 a1_1 a1_2 a1_3 a1_4) then (bif !(v42_0 (v40_0 a1_0 a1_1 a1_2 a1_3 a1_4) (v40_1 a1_0 a1_1 a1_2 a1_3 a1_4) (v40_2 a1_0 a1_1 a1_2 a1_3 a1_4) (v40_3 a1_0 a1_1 a1_2 a1_3 a1_4) (v40_4 a1_0 a1_1 a1_2 a1_3 a1_4) (v40_0 a1_0 a1_1 a1_2 a1_3 a1_4) (v40_1 a1_0 a1_1 a1_2 a1_3 a1_4) (v40_2 a1_0 a1_1 a1_2 a1_3 a1_4) (v40_3 a1_0 a1_1 a1_2 a1_3 a1_4) (v40_4 a1_0 a1_1 a1_2 a1_3 a1_4)) then some (AV.bool false)
                else some (AV.bool true))
               else none)
              else none))
            else none)
           else none))
         else none)
        else none)
       else none)
      else none)
     else none)
    else none))) := by kernel_rfl
theorem r9 (a0_0 : List AV) (a0_1 : Int) (a0_2 : List AV) (a0_3 : List AV) (a0_4 : List AV) (a1_0 : List AV) (a1_1 : Int) (a1_2 : List AV) (a1_3 : List AV) (a1_4 : List AV) (h : q9 a0_0 a0_1 a0_2 a0_3 a0_4 a1_0 a1_1 a1_2 a1_3 a1_4 = true) : funA c9 0 9 [AV.agg [AV.sl [.int .i64, .int .i64, .int .i64, .int .i64] a0_0, AV.int .i64 a0_1, AV.sl [.int .i64] a0_2, AV.sl [.int .i64] a0_3, AV.sl [.int .i64, .int .i64] a0_4], AV.agg [AV.sl [.int .i64, .int .i64, .int .i64, .int .i64] a1_0, AV.int .i64 a1_1, AV.sl [.int .i64] a1_2, AV.sl [.int .i64] a1_3, AV.sl [.int .i64, .int .i64] a1_4]] = some (AV.bool (v9_0 a0_0 a0_1 a0_2 a0_3 a0_4 a1_0 a1_1 a1_2 a1_3 a1_4)) := (e9 a0_0 a0_1 a0_2 a0_3 a0_4 a1_0 a1_1 a1_2 a1_3 a1_4).trans ((br (fun b => some (AV.bool (bif b then true else (bif decide ((v38_0 a1_0 a1_1 a1_2 a1_3 a1_4 (v38_0 a0_0 a0_1 a0_2 a0_3 a0_4 1048576)) < 0) then true else (bif !((v41_0 (v40_0 a0_0 a0_1 a0_2 a0_3 a0_4) (v40_1 a0_0 a0_1 a0_2 a0_3 a0_4) (v40_2 a0_0 a0_1 a0_2 a0_3 a0_4) (v40_3 a0_0 a0_1 a0_2 a0_3 a0_4) (v40_4 a0_0 a0_1 a0_2 a0_3 a0_4) (v40_0 a1_0 a1_1 a1_2 a1_3 a1_4) (v40_1 a1_0 a1_1 a1_2 a1_3 a1_4) (v40_2 a1_0 a1_1 a1_2 a1_3 a1_4) (v40_3 a1_0 a1_1 a1_2 a1_3 a1_4) (v40_4 a1_0 a1_1 a1_2 a1_3 a1_4)) == (v39_0 (v40_0 a0_0 a0_1 a0_2 a0_3 a0_4) (v40_1 a0_0 a0_1 a0_2 a0_3 a0_4) (v40_2 a0_0 a0_1 a0_2 a0_3 a0_4) (v40_3 a0_0 a0_1 a0_2 a0_3 a0_4) (v40_4 a0_0 a0_1 a0_2 a0_3 a0_4) (v40_0 a1_0 a1_1 a1_2 a1_3 a1_4) (v40_1 a1_0 a1_1 a1_2 a1_3 a1_4) (v40_2 a1_0 a1_1 a1_2 a1_3 a1_4) (v40_3 a1_0 a1_1 a1_2 a1_3 a1_4) (v40_4 a1_0 a1_1 a1_2 a1_3 a1_4))) then false else (bif !(v42_0 (v40_0 a0_0 a0_1 a0_2 a0_3 a0_4) (v40_1 a0_0 a0_1 a0_2 a0_3 a0_4) (v40_2 a0_0 a0_1 a0_2 a0_3 a0_4) (v40_3 a0_0 a0_1 a0_2 a0_3 a0_4) (v40_4 a0_0 a0_1 a0_2 a0_3 a0_4) (v40_0 a0_0 a0_1 a0_2 a0_3 a0_4) (v40_1 a0_0 a0_1 a0_2 a0_3 a0_4) (v40_2 a0_0 a0_1 a0_2 a0_3 a0_4) (v40_3 a0_0 a0_1 a0_2 a0_3 a0_4) (v40_4 a0_0 a0_1 a0_2 a0_3 a0_4)) then false else (bif !(v42_0 (v40_0 a1_0 a1_1 a1_2 a1_3 a1_4) (v40_1 a1_0 a1_1 a1_2 a1_3 a1_4) (v40_2 a1_0 a1_1 a1_2 a1_3 a1_4) (v40_3 a1_0 a1_1 a1_2 a1_3 a1_4) (v40_4 a1_0 a1_1 a1_2 a1_3 a1_4) (v40_0 a1_0 a1_1 a1_2 a1_3 a1_4) (v40_1 a1_0 a1_1 a1_2 a1_3 a1_4) (v40_2 a1_0 a1_1 a1_2 a1_3 a1_4) (v40_3 a1_0 a1_1 a1_2 a1_3 a1_4) (v40_4 a1_0 a1_1 a1_2 a1_3 a1_4)) then false else true))))))) (fun _ => rfl) (br (fun b => some (AV.bool (bif b then true else (bif !((v41_0 (v40_0 a0_0 a0_1 a0_2 a0_3 a0_4) (v40_1 a0_0 a0_1 a0_2 a0_3 a0_4) (v40_2 a0_0 a0_1 a0_2 a0_3 a0_4) (v40_3 a0_0 a0_1 a0_2 a0_3 a0_4) (v40_4 a0_0 a0_1 a0_2 a0_3 a0_4) (v40_0 a1_0 a1_1 a1_2 a1_3 a1_4) (v40_1 a1_0 a1_1 a1_2 a1_3 a1_4) (v40_2 a1_0 a1_1 a1_2 a1_3 a1_4) (v40_3 a1_0 a1_1 a1_2 a1_3 a1_4) (v40_4 a1_0 a1_1 a1_2 a1_3 a1_4)) == (v39_0 (v40_0 a0_0 a0_1 a0_2 a0_3 a0_4) (v40_1 a0_0 a0_1 a0_2 a0_3 a0_4) (v40_2 a0_0 a0_1 a0_2 a0_3 a0_4) (v40_3 a0_0 a0_1 a0_2 a0_3 a0_4) (v40_4 a0_0 a0_1 a0_2 a0_3 a0_4) (v40_0 a1_0 a1_1 a1_2 a1_3 a1_4) (v40_1 a1_0 a1_1 a1_2 a1_3 a1_4) (v40_2 a1_0 a1_1 a1_2 a1_3 a1_4) (v40_3 a1_0 a1_1 a1_2 a1_3 a1_4) (v40_4 a1_0 a1_1 a1_2 a1_3 a1_4))) then false else (bif !(v42_0 (v40_0 a0_0 a0_1 a0_2 a0_3 a0_4) (v40_1 a0_0 a0_1 a0_2 a0_3 a0_4) (v40_2 a0_0 a0_1 a0_2 a0_3 a0_4) (v40_3 a0_0 a0_1 a0_2 a0_3 a0_4) (v40_4 a0_0 a0_1 a0_2 a0_3 a0_4) (v40_0 a0_0 a0_1 a0_2 a0_3 a0_4) (v40_1 a0_0 a0_1 a0_2 a0_3 a0_4) (v40_2 a0_0 a0_1 a0_2 a0_3 a0_4) (v40_3 a0_0 a0_1 a0_2 a0_3 a0_4) (v40_4 a0_0 a0_1 a0_2 a0_3 a0_4)) then false else (bif !(v42_0 (v40_0 a1_0 a1_1 a1_2 a1_3 a1_4) (v40_1 a1_0 a1_1 a1_2 a1_3 a1_4) (v40_2 a1_0 a1_1 a1_2 a1_3 a1_4) (v40_3 a1_0 a1_1 a1_2 a1_3 a1_4) (v40_4 a1_0 a1_1 a1_2 a1_3 a1_4) (v40_0 a1_0 a1_1 a1_2 a1_3 a1_4) (v40_1 a1_0 a1_1 a1_2 a1_3 a1_4) (v40_2 a1_0 a1_1 a1_2 a1_3 a1_4) (v40_3 a1_0 a1_1 a1_2 a1_3 a1_4) (v40_4 a1_0 a1_1 a1_2 a1_3 a1_4)) then false else true)))))) (fun _ => rfl) (brL (brL (brL (brL (brL (brL (br (fun b => some (AV.bool (bif b then false else (bif !(v42_0 (v40_0 a0_0 a0_1 a0_2 a0_3 a0_4) (v40_1 a0_0 a0_1 a0_2 a0_3 a0_4) (v40_2 a0_0 a0_1 a0_2 a0_3 a0_4) (v40_3 a0_0 a0_1 a0_2 a0_3 a0_4) (v40_4 a0_0 a0_1 a0_2 a0_3 a0_4) (v40_0 a0_0 a0_1 a0_2 a0_3 a0_4) (v40_1 a0_0 a0_1 a0_2 a0_3 a0_4) (v40_2 a0_0 a0_1 a0_2 a0_3 a0_4) (v40_3 a0_0 a0_1 a0_2 a0_3 a0_4) (v40_4 a0_0 a0_1 a0_2 a0_3 a0_4)) then false else (bif !(v42_0 (v40_0 a1_0 a1_1 a1_2 a1_3 a1_4) (v40_1 a1_0 a1_1 a1_2 a1_3 a1_4) (v40_2 a1_0 a1_1 a1_2 a1_3 a1_4) (v40_3 a1_0 a1_1 a1_2 a1_3 a1_4) (v40_4 a1_0 a1_1 a1_2 a1_3 a1_4) (v40_0 a1_0 a1_1 a1_2 a1_3 a1_4) (v40_1 a1_0 a1_1 a1_2 a1_3 a1_4) (v40_2 a1_0 a1_1 a1_2 a1_3 a1_4) (v40_3 a1_0 a1_1 a1_2 a1_3 a1_4) (v40_4 a1_0 a1_1 a1_2 a1_3 a1_4)) then false else true))))) (fun _ => rfl) (brL (brL (br (fun b => some (AV.bool (bif b then false else (bif !(v42_0 (v40_0 a1_0 a1_1 a1_2 a1_3 a1_4) (v40_1 a1_0 a1_1 a1_2 a1_3 a1_4) (v40_2 a1_0 a1_1 a1_2 a1_3 a1_4) (v40_3 a1_0 a1_1 a1_2 a1_3 a1_4) (v40_4 a1_0 a1_1 a1_2 a1_3 a1_4) (v40_0 a1_0 a1_1 a1_2 a1_3 a1_4) (v40_1 a1_0 a1_1 a1_2 a1_3 a1_4) (v40_2 a1_0 a1_1 a1_2 a1_3 a1_4) (v40_3 a1_0 a1_1 a1_2 a1_3 a1_4) (v40_4 a1_0 a1_1 a1_2 a1_3 a1_4)) then false else true)))) (fun _ => rfl) (brL (brL1 (brT (fun b => some (AV.bool (bif b then false else true))) (fun _ => rfl) (fun _ => rfl)))))))))))))))) h)
def m9 : TModel
  | [.agg [.sl g0 a0_0, .int .i64 a0_1, .sl g1 a0_2, .sl g2 a0_3, .sl g3 a0_4], .agg [.sl g4 a1_0, .int .i64 a1_1, .sl g5 a1_2, .sl g6 a1_3, .sl g7 a1_4]] => bif ctsEq g0 ([.int .i64, .int .i64, .int .i64, .int .i64]) && ctsEq g1 ([.int .i64]) && ctsEq g2 ([.int .i64]) && ctsEq g3 ([.int .i64, .int .i64]) && ctsEq g4 ([.int .i64, .int .i64, .int .i64, .int .i64]) && ctsEq g5 ([.int .i64]) && ctsEq g6 ([.int .i64]) && ctsEq g7 ([.int .i64, .int .i64]) then some (q9 a0_0 a0_1 a0_2 a0_3 a0_4 a1_0 a1_1 a1_2 a1_3 a1_4, AV.bool (v9_0 a0_0 a0_1 a0_2 a0_3 a0_4 a1_0 a1_1 a1_2 a1_3 a1_4)) else none
  | _ => none
theorem k9 : Known Try.prog 9 := ⟨Try.f9, Try.func9, by kernel_rfl, by kernel_rfl⟩
theorem meets9 : Meets Try.prog 9 m9 := by
  refine meet (f := Try.f9) (l := []) (hs := [(9, 999, [4])]) (ts := [(38, m38), (39, m39), (40, m40), (41, m41), (42, m42)]) (ws := []) (is := []) (ls := []) (lvl := 0) mixed k9 Try.func9 (by kernel_rfl) noLoop (allT_cons meets38 (allT_cons meets39 (allT_cons meets40 (allT_cons meets41 (allT_cons meets42 allT_nil))))) allM_nil noI fun w xs us r hl hv h => ?_
  unfold m9 at h
  split at h
  · rename_i g0 a0_0 a0_1 g1 a0_2 g2 a0_3 g3 a0_4 g4 a1_0 a1_1 g5 a1_2 g6 a1_3 g7 a1_4
    obtain ⟨hg, h⟩ := bif_pair h
    simp only [Bool.and_eq_true] at hg
    obtain ⟨⟨⟨⟨⟨⟨⟨q0, q1⟩, q2⟩, q3⟩, q4⟩, q5⟩, q6⟩, q7⟩ := hg
    obtain rfl := ctsEq_eq _ _ q0
    obtain rfl := ctsEq_eq _ _ q1
    obtain rfl := ctsEq_eq _ _ q2
    obtain rfl := ctsEq_eq _ _ q3
    obtain rfl := ctsEq_eq _ _ q4
    obtain rfl := ctsEq_eq _ _ q5
    obtain rfl := ctsEq_eq _ _ q6
    obtain rfl := ctsEq_eq _ _ q7
    obtain ⟨h1, rfl⟩ := pair_inj h
    exact r9 a0_0 a0_1 a0_2 a0_3 a0_4 a1_0 a1_1 a1_2 a1_3 a1_4 h1
  · cases h
end Go.Proofs.Ytbomegcdjhljeaa
