/- The walk of what this claim reaches: printed by a program, each equation checked by the kernel. -/
import Derived.Test.YtiokajbmckcklaaDoorVEzc
import Derived.Test.YtiokajbmckcklaaDoorLAY4a
import Derived.Test.YtiokajbmckcklaaDoorLAY4b
import Derived.Test.YtiokajbmckcklaaDoorGL4
import Derived.Test.YtiokajbmckcklaaDoorProg
import Derived.KernelRfl
namespace Go.Proofs.YtiokajbmckcklaaDoor
open Go Go.Proofs.VE
set_option linter.unusedVariables false
set_option linter.unusedSimpArgs false
set_option maxRecDepth 100000
set_option maxHeartbeats 4000000
theorem mixed : Tryd.prog.follows .mixedOrders = true := by kernel_rfl
/-! ### 62 loop.example/g01984/laws.szIntS -/
noncomputable def c62 : Cfg := cfg Tryd.prog [(62, 999, [4])] [] [] [] []
def q62 (a0 : List AV) (a1 : Int) : Bool := true
def v62_0 (a0 : List AV) (a1 : Int) : Int := (bif decide (IntKind.i64.wrap (a1 - (a0.length : Int)) < 0) then (-1) else IntKind.i64.wrap (a1 - (a0.length : Int)))
theorem e62 (a0 : List AV) (a1 : Int) : funA c62 0 62 [AV.sl [.int .i64] a0, AV.int .i64 a1] = (bif decide (IntKind.i64.wrap (a1 - (a0.length : Int)) < 0) then some (AV.int .i64 (-1))
  else some (AV.int .i64 (IntKind.i64.wrap (a1 - (a0.length : Int))))) := by kernel_rfl
theorem r62 (a0 : List AV) (a1 : Int) : funA c62 0 62 [AV.sl [.int .i64] a0, AV.int .i64 a1] = some (AV.int .i64 (v62_0 a0 a1)) := (e62 a0 a1).trans (of_tt (brT (fun b => some (AV.int .i64 (bif b then (-1) else IntKind.i64.wrap (a1 - (a0.length : Int))))) (fun _ => rfl) (fun _ => rfl)))
def m62 : TModel
  | [.sl g0 a0, .int .i64 a1] => bif ctsEq g0 ([.int .i64]) then some (true, AV.int .i64 (v62_0 a0 a1)) else none
  | _ => none
theorem k62 : Known Tryd.prog 62 := ⟨Tryd.f62, Tryd.func62, by kernel_rfl, by kernel_rfl⟩
theorem meets62 : Meets Tryd.prog 62 m62 := by
  refine meet (f := Tryd.f62) (l := []) (hs := [(62, 999, [4])]) (ts := []) (ws := []) (is := []) (ls := []) (lvl := 0) mixed k62 Tryd.func62 (by kernel_rfl) noLoop allT_nil allM_nil noI fun w xs us r hl hv h => ?_
  unfold m62 at h
  split at h
  · rename_i g0 a0 a1
    obtain ⟨hg, h⟩ := bif_pair h
    have q0 := hg
    obtain rfl := ctsEq_eq _ _ q0
    obtain ⟨h1, rfl⟩ := pair_inj h
    exact r62 a0 a1
  · cases h

/-! ### 63 loop.example/g01984/laws.szPivotS -/
noncomputable def c63 : Cfg := cfg Tryd.prog [(63, 999, [4])] [] [] [] []
def q63 (a0 : List AV) (a1 : Int) : Bool := true
def v63_0 (a0 : List AV) (a1 : Int) : Int := (bif decide (IntKind.i64.wrap (a1 - (a0.length : Int)) < 0) then (-1) else IntKind.i64.wrap (a1 - (a0.length : Int)))
theorem e63 (a0 : List AV) (a1 : Int) : funA c63 0 63 [AV.sl [.int .i64, .int .i64] a0, AV.int .i64 a1] = (bif decide (IntKind.i64.wrap (a1 - (a0.length : Int)) < 0) then some (AV.int .i64 (-1))
  else some (AV.int .i64 (IntKind.i64.wrap (a1 - (a0.length : Int))))) := by kernel_rfl
theorem r63 (a0 : List AV) (a1 : Int) : funA c63 0 63 [AV.sl [.int .i64, .int .i64] a0, AV.int .i64 a1] = some (AV.int .i64 (v63_0 a0 a1)) := (e63 a0 a1).trans (of_tt (brT (fun b => some (AV.int .i64 (bif b then (-1) else IntKind.i64.wrap (a1 - (a0.length : Int))))) (fun _ => rfl) (fun _ => rfl)))
def m63 : TModel
  | [.sl g0 a0, .int .i64 a1] => bif ctsEq g0 ([.int .i64, .int .i64]) then some (true, AV.int .i64 (v63_0 a0 a1)) else none
  | _ => none
theorem k63 : Known Tryd.prog 63 := ⟨Tryd.f63, Tryd.func63, by kernel_rfl, by kernel_rfl⟩
theorem meets63 : Meets Tryd.prog 63 m63 := by
  refine meet (f := Tryd.f63) (l := []) (hs := [(63, 999, [4])]) (ts := []) (ws := []) (is := []) (ls := []) (lvl := 0) mixed k63 Tryd.func63 (by kernel_rfl) noLoop allT_nil allM_nil noI fun w xs us r hl hv h => ?_
  unfold m63 at h
  split at h
  · rename_i g0 a0 a1
    obtain ⟨hg, h⟩ := bif_pair h
    have q0 := hg
    obtain rfl := ctsEq_eq _ _ q0
    obtain ⟨h1, rfl⟩ := pair_inj h
    exact r63 a0 a1
  · cases h

/-! ### 34 loop.example/g01984/laws.szCracker -/
noncomputable def c34 : Cfg := cfg Tryd.prog [(34, 999, [4])] [(62, m62), (63, m63)] [] [] []
def q34 (a0_0 : List AV) (a0_1 : List AV) (a0_2 : List AV) (a1 : Int) : Bool := true
def v34_0 (a0_0 : List AV) (a0_1 : List AV) (a0_2 : List AV) (a1 : Int) : Int := (bif decide ((v62_0 a0_0 a1) < 0) then (-1) else (bif decide ((v62_0 a0_1 (v62_0 a0_0 a1)) < 0) then (-1) else (bif decide ((v63_0 a0_2 (v62_0 a0_1 (v62_0 a0_0 a1))) < 0) then (-1) else (v63_0 a0_2 (v62_0 a0_1 (v62_0 a0_0 a1))))))
theorem e34 (a0_0 : List AV) (a0_1 : List AV) (a0_2 : List AV) (a1 : Int) : funA c34 0 34 [AV.agg [AV.sl [.int .i64] a0_0, AV.sl [.int .i64] a0_1, AV.sl [.int .i64, .int .i64] a0_2], AV.int .i64 a1] = (bif decide ((v62_0 a0_0 a1) < 0) then some (AV.int .i64 (-1))
  else (bif decide ((v62_0 a0_1 (v62_0 a0_0 a1)) < 0) then some (AV.int .i64 (-1))
  else (bif decide ((v63_0 a0_2 (v62_0 a0_1 (v62_0 a0_0 a1))) < 0) then some (AV.int .i64 (-1))
  else some (AV.int .i64 (v63_0 a0_2 (v62_0 a0_1 (v62_0 a0_0 a1))))))) := by kernel_rfl
theorem r34 (a0_0 : List AV) (a0_1 : List AV) (a0_2 : List AV) (a1 : Int) : funA c34 0 34 [AV.agg [AV.sl [.int .i64] a0_0, AV.sl [.int .i64] a0_1, AV.sl [.int .i64, .int .i64] a0_2], AV.int .i64 a1] = some (AV.int .i64 (v34_0 a0_0 a0_1 a0_2 a1)) := (e34 a0_0 a0_1 a0_2 a1).trans (of_tt (brT (fun b => some (AV.int .i64 (bif b then (-1) else (bif decide ((v62_0 a0_1 (v62_0 a0_0 a1)) < 0) then (-1) else (bif decide ((v63_0 a0_2 (v62_0 a0_1 (v62_0 a0_0 a1))) < 0) then (-1) else (v63_0 a0_2 (v62_0 a0_1 (v62_0 a0_0 a1)))))))) (fun _ => rfl) (brT (fun b => some (AV.int .i64 (bif b then (-1) else (bif decide ((v63_0 a0_2 (v62_0 a0_1 (v62_0 a0_0 a1))) < 0) then (-1) else (v63_0 a0_2 (v62_0 a0_1 (v62_0 a0_0 a1))))))) (fun _ => rfl) (brT (fun b => some (AV.int .i64 (bif b then (-1) else (v63_0 a0_2 (v62_0 a0_1 (v62_0 a0_0 a1)))))) (fun _ => rfl) (fun _ => rfl)))))
def m34 : TModel
  | [.agg [.sl g0 a0_0, .sl g1 a0_1, .sl g2 a0_2], .int .i64 a1] => bif ctsEq g0 ([.int .i64]) && ctsEq g1 ([.int .i64]) && ctsEq g2 ([.int .i64, .int .i64]) then some (true, AV.int .i64 (v34_0 a0_0 a0_1 a0_2 a1)) else none
  | _ => none
theorem k34 : Known Tryd.prog 34 := ⟨Tryd.f34, Tryd.func34, by kernel_rfl, by kernel_rfl⟩
theorem meets34 : Meets Tryd.prog 34 m34 := by
  refine meet (f := Tryd.f34) (l := []) (hs := [(34, 999, [4])]) (ts := [(62, m62), (63, m63)]) (ws := []) (is := []) (ls := []) (lvl := 0) mixed k34 Tryd.func34 (by kernel_rfl) noLoop (allT_cons meets62 (allT_cons meets63 allT_nil)) allM_nil noI fun w xs us r hl hv h => ?_
  unfold m34 at h
  split at h
  · rename_i g0 a0_0 g1 a0_1 g2 a0_2 a1
    obtain ⟨hg, h⟩ := bif_pair h
    simp only [Bool.and_eq_true] at hg
    obtain ⟨⟨q0, q1⟩, q2⟩ := hg
    obtain rfl := ctsEq_eq _ _ q0
    obtain rfl := ctsEq_eq _ _ q1
    obtain rfl := ctsEq_eq _ _ q2
    obtain ⟨h1, rfl⟩ := pair_inj h
    exact r34 a0_0 a0_1 a0_2 a1
  · cases h

/-! ### 14 loop.example/g01984/laws.toIntS -/
def F14_0 (t0 : List AV) (t4 : Int) (h0 : List AV) : Out ((Int × (List AV))) (((List AV))) := (bif decide (t4 < (t0.length : Int)) then (bif (decide (0 ≤ t4) && decide (t4 < (t0.length : Int))) then (bif (decide (0 ≤ t4) && decide (t4 < (h0.length : Int))) then .next (IntKind.i64.wrap (t4 + 1), h0.set t4.toNat (AV.agg [AV.int .i64 (fI (t0.getD t4.toNat AV.undef) 0)]))
  else .fail)
  else .fail)
  else .stop h0)
def R14_0 (t0 : List AV) : ((Int × (List AV))) → Out ((Int × (List AV))) (((List AV))) := fun s : Int × (List AV) => F14_0 t0 s.1 s.2
def l14_0 : LModel := fun _ _ st k => match st with
  | ⟨[(0, .sl g0 t0), (3, .own g1), (4, .int .i64 t4)], [(g2, ⟨false, g3, h0⟩)]⟩ => bif ctsEq g0 ([.int .i64]) && nmEq g1 ([0, 3]) && nmEq g2 ([0, 3]) && ctsEq g3 ([.int .i64]) then ro (runW (R14_0 t0) (((t0.length : Int) - t4).toNat + 1) (t4, h0)) none (fun p : (List AV) => k (.exit 0) ⟨[(3, AV.own [0, 3])], [([0, 3], ⟨false, [.int .i64], p⟩)]⟩) else none
  | _ => none
noncomputable def c14 : Cfg := cfg Tryd.prog [(14, 0, [0, 3, 4]), (14, 999, [2]), (14, 1000, [3]), (14, 1001, [0, 3, 4])] [] [] [] [(14, 0, l14_0)]
theorem s14_0 (ce : CallE) (t0 : List AV) (t4 : Int) (h0 : List AV) (next : St → Option AV) (k : Kont) : stepA (codeA c14 ce [] 14 0 (sub [1, 1, 0, 1, 0, 0] (body Tryd.f14))) (normA [] [0, 3, 4]) next ⟨[(0, AV.sl [.int .i64] t0), (3, AV.own [0, 3]), (4, AV.int .i64 t4)], [([0, 3], ⟨false, [.int .i64], h0⟩)]⟩ k = (bif decide (t4 < (t0.length : Int)) then (bif (decide (0 ≤ t4) && decide (t4 < (t0.length : Int))) then (bif (decide (0 ≤ t4) && decide (t4 < (h0.length : Int))) then next ⟨[(0, AV.sl [.int .i64] t0), (3, AV.own [0, 3]), (4, AV.int .i64 (IntKind.i64.wrap (t4 + 1)))], [([0, 3], ⟨false, [.int .i64], h0.set t4.toNat (AV.agg [AV.int .i64 (fI (t0.getD t4.toNat AV.undef) 0)])⟩)]⟩
  else none)
  else none)
  else k (.exit 0) ⟨[(3, AV.own [0, 3])], [([0, 3], ⟨false, [.int .i64], h0⟩)]⟩) := by kernel_rfl
theorem st14_0 (t0 : List AV) (ce : CallE) (k : Kont) (s : (Int × (List AV))) (next : St → Option AV) : stepA (codeA c14 ce [] 14 0 (sub [1, 1, 0, 1, 0, 0] (body Tryd.f14))) (normA [] [0, 3, 4]) next ((fun s : Int × (List AV) => ⟨[(0, AV.sl [.int .i64] t0), (3, AV.own [0, 3]), (4, AV.int .i64 s.1)], [([0, 3], ⟨false, [.int .i64], s.2⟩)]⟩) s) k = (R14_0 t0 s).el none (fun s => next ((fun s : Int × (List AV) => ⟨[(0, AV.sl [.int .i64] t0), (3, AV.own [0, 3]), (4, AV.int .i64 s.1)], [([0, 3], ⟨false, [.int .i64], s.2⟩)]⟩) s)) (fun p : (List AV) => k (.exit 0) ⟨[(3, AV.own [0, 3])], [([0, 3], ⟨false, [.int .i64], p⟩)]⟩) := (s14_0 ce t0 s.1 s.2 next k).trans (by unfold R14_0; unfold F14_0; simp only [el_cond, el_ro, el_sum, el_fail, el_next, el_stop] <;> rfl)
theorem ok14_0 {ce : CallE} : LoopOK c14 ce [] 14 0 (sub [1, 1, 0, 1, 0, 0] (body Tryd.f14)) := by
  intro m hm st k r h
  obtain rfl : l14_0 = m := Option.some.inj hm
  unfold l14_0 at h
  split at h
  · rename_i g0 t0 g1 t4 g2 g3 h0
    obtain ⟨hg, h⟩ := bif_some h
    simp only [Bool.and_eq_true] at hg
    obtain ⟨⟨⟨q0, q1⟩, q2⟩, q3⟩ := hg
    obtain rfl := ctsEq_eq _ _ q0
    obtain rfl := (nmEq_iff _ _).1 q1
    obtain rfl := (nmEq_iff _ _).1 q2
    obtain rfl := ctsEq_eq _ _ q3
    refine ⟨(((t0.length : Int) - t4).toNat + 1), ?_⟩
    rw [← h]
    exact loop_run (fun s : Int × (List AV) => ⟨[(0, AV.sl [.int .i64] t0), (3, AV.own [0, 3]), (4, AV.int .i64 s.1)], [([0, 3], ⟨false, [.int .i64], s.2⟩)]⟩) (fun p : (List AV) => k (.exit 0) ⟨[(3, AV.own [0, 3])], [([0, 3], ⟨false, [.int .i64], p⟩)]⟩) (st14_0 t0 ce k) _ (t4, h0)
  · cases h
def q14 (a0 : List AV) : Bool := ((decide (0 ≤ (a0.length : Int)) && decide ((a0.length : Int) ≤ (a0.length : Int)) && decide ((a0.length : Int) * 8 ≤ 140737488355328) && decide ((a0.length : Int) ≤ 140737488355328)) && (ro (runW (R14_0 a0) (((a0.length : Int) - 0).toNat + 1) (0, List.replicate (Int.toNat (a0.length : Int)) (AV.int .i64 0))) false (fun p1 => true)))
def v14_0 (a0 : List AV) : List AV := (ro (runW (R14_0 a0) (((a0.length : Int) - 0).toNat + 1) (0, List.replicate (Int.toNat (a0.length : Int)) (AV.int .i64 0))) [] (fun p1 => p1))
theorem e14 (a0 : List AV) : funA c14 0 14 [AV.sl [.int .i64] a0] = (bif (decide (0 ≤ (a0.length : Int)) && decide ((a0.length : Int) ≤ (a0.length : Int)) && decide ((a0.length : Int) * 8 ≤ 140737488355328) && decide ((a0.length : Int) ≤ 140737488355328)) then (ro (runW (R14_0 a0) (((a0.length : Int) - 0).toNat + 1) (0, List.replicate (Int.toNat (a0.length : Int)) (AV.int .i64 0))) none (fun p1 => some (AV.fl [.int .i64] p1)))
  else none) := by kernel_rfl
theorem r14 (a0 : List AV) (h : q14 a0 = true) : funA c14 0 14 [AV.sl [.int .i64] a0] = some (AV.fl [.int .i64] (v14_0 a0)) := (e14 a0).trans ((brL (brO (fun o : Option (((List AV))) => some (AV.fl [.int .i64] (ro o [] (fun p1 => p1)))) (fun p1 => (fun _ => rfl)))) h)
def m14 : TModel
  | [.sl g0 a0] => bif ctsEq g0 ([.int .i64]) then some (q14 a0, AV.fl [.int .i64] (v14_0 a0)) else none
  | _ => none
theorem k14 : Known Tryd.prog 14 := ⟨Tryd.f14, Tryd.func14, by kernel_rfl, by kernel_rfl⟩
theorem meets14 : Meets Tryd.prog 14 m14 := by
  refine meet (f := Tryd.f14) (l := [(0, sub [1, 1, 0, 1, 0, 0] (body Tryd.f14))]) (hs := [(14, 0, [0, 3, 4]), (14, 999, [2]), (14, 1000, [3]), (14, 1001, [0, 3, 4])]) (ts := []) (ws := []) (is := []) (ls := [(14, 0, l14_0)]) (lvl := 0) mixed k14 Tryd.func14 (by kernel_rfl) (loops_cons ok14_0 noLoop) allT_nil allM_nil noI fun w xs us r hl hv h => ?_
  unfold m14 at h
  split at h
  · rename_i g0 a0
    obtain ⟨hg, h⟩ := bif_pair h
    have q0 := hg
    obtain rfl := ctsEq_eq _ _ q0
    obtain ⟨h1, rfl⟩ := pair_inj h
    exact r14 a0 h1
  · cases h

/-! ### 89 loop.example/g01984/laws.toPivot -/
noncomputable def c89 : Cfg := cfg Tryd.prog [(89, 999, [2])] [] [] [] []
def q89 (a0_0 : Int) (a0_1 : Int) : Bool := true
def v89_0 (a0_0 : Int) (a0_1 : Int) : Int := a0_0
def v89_1 (a0_0 : Int) (a0_1 : Int) : Int := a0_1
theorem e89 (a0_0 : Int) (a0_1 : Int) : funA c89 0 89 [AV.agg [AV.int .i64 a0_0, AV.int .i64 a0_1]] = some (AV.agg [AV.int .i64 a0_0, AV.int .i64 a0_1]) := by kernel_rfl
theorem r89 (a0_0 : Int) (a0_1 : Int) : funA c89 0 89 [AV.agg [AV.int .i64 a0_0, AV.int .i64 a0_1]] = some (AV.agg [AV.int .i64 (v89_0 a0_0 a0_1), AV.int .i64 (v89_1 a0_0 a0_1)]) := (e89 a0_0 a0_1).trans (of_tt (fun _ => rfl))
def m89 : TModel
  | [.agg [.int .i64 a0_0, .int .i64 a0_1]] => some (true, AV.agg [AV.int .i64 (v89_0 a0_0 a0_1), AV.int .i64 (v89_1 a0_0 a0_1)])
  | _ => none
theorem k89 : Known Tryd.prog 89 := ⟨Tryd.f89, Tryd.func89, by kernel_rfl, by kernel_rfl⟩
theorem meets89 : Meets Tryd.prog 89 m89 := by
  refine meet (f := Tryd.f89) (l := []) (hs := [(89, 999, [2])]) (ts := []) (ws := []) (is := []) (ls := []) (lvl := 0) mixed k89 Tryd.func89 (by kernel_rfl) noLoop allT_nil allM_nil noI fun w xs us r hl hv h => ?_
  unfold m89 at h
  split at h
  · rename_i a0_0 a0_1
    obtain ⟨h1, rfl⟩ := pair_inj h
    exact r89 a0_0 a0_1
  · cases h

/-! ### 65 loop.example/g01984/laws.toPivotS -/
def F65_0 (t0 : List AV) (t4 : Int) (h0 : List AV) : Out ((Int × (List AV))) (((List AV))) := (bif decide (t4 < (t0.length : Int)) then (bif (decide (0 ≤ t4) && decide (t4 < (t0.length : Int))) then (bif (decide (0 ≤ t4) && decide (t4 < (h0.length : Int))) then .next (IntKind.i64.wrap (t4 + 1), h0.set t4.toNat (AV.agg [AV.int .i64 (v89_0 (fI (t0.getD t4.toNat AV.undef) 0) (fI (t0.getD t4.toNat AV.undef) 1)), AV.int .i64 (v89_1 (fI (t0.getD t4.toNat AV.undef) 0) (fI (t0.getD t4.toNat AV.undef) 1))]))
  else .fail)
  else .fail)
  else .stop h0)
def R65_0 (t0 : List AV) : ((Int × (List AV))) → Out ((Int × (List AV))) (((List AV))) := fun s : Int × (List AV) => F65_0 t0 s.1 s.2
def l65_0 : LModel := fun _ _ st k => match st with
  | ⟨[(0, .sl g0 t0), (3, .own g1), (4, .int .i64 t4)], [(g2, ⟨false, g3, h0⟩)]⟩ => bif ctsEq g0 ([.int .i64, .int .i64]) && nmEq g1 ([0, 3]) && nmEq g2 ([0, 3]) && ctsEq g3 ([.int .i64, .int .i64]) then ro (runW (R65_0 t0) (((t0.length : Int) - t4).toNat + 1) (t4, h0)) none (fun p : (List AV) => k (.exit 0) ⟨[(3, AV.own [0, 3])], [([0, 3], ⟨false, [.int .i64, .int .i64], p⟩)]⟩) else none
  | _ => none
noncomputable def c65 : Cfg := cfg Tryd.prog [(65, 0, [0, 3, 4]), (65, 999, [2]), (65, 1000, [3]), (65, 1001, [0, 3, 4])] [(89, m89)] [] [] [(65, 0, l65_0)]
theorem s65_0 (ce : CallE) (t0 : List AV) (t4 : Int) (h0 : List AV) (next : St → Option AV) (k : Kont) : stepA (codeA c65 ce [] 65 0 (sub [1, 1, 0, 1, 0, 0] (body Tryd.f65))) (normA [] [0, 3, 4]) next ⟨[(0, AV.sl [.int .i64, .int .i64] t0), (3, AV.own [0, 3]), (4, AV.int .i64 t4)], [([0, 3], ⟨false, [.int .i64, .int .i64], h0⟩)]⟩ k = (bif decide (t4 < (t0.length : Int)) then (bif (decide (0 ≤ t4) && decide (t4 < (t0.length : Int))) then (bif (decide (0 ≤ t4) && decide (t4 < (h0.length : Int))) then next ⟨[(0, AV.sl [.int .i64, .int .i64] t0), (3, AV.own [0, 3]), (4, AV.int .i64 (IntKind.i64.wrap (t4 + 1)))], [([0, 3], ⟨false, [.int .i64, .int .i64], h0.set t4.toNat (AV.agg [AV.int .i64 (v89_0 (fI (t0.getD t4.toNat AV.undef) 0) (fI (t0.getD t4.toNat AV.undef) 1)), AV.int .i64 (v89_1 (fI (t0.getD t4.toNat AV.undef) 0) (fI (t0.getD t4.toNat AV.undef) 1))])⟩)]⟩
  else none)
  else none)
  else k (.exit 0) ⟨[(3, AV.own [0, 3])], [([0, 3], ⟨false, [.int .i64, .int .i64], h0⟩)]⟩) := by kernel_rfl
theorem st65_0 (t0 : List AV) (ce : CallE) (k : Kont) (s : (Int × (List AV))) (next : St → Option AV) : stepA (codeA c65 ce [] 65 0 (sub [1, 1, 0, 1, 0, 0] (body Tryd.f65))) (normA [] [0, 3, 4]) next ((fun s : Int × (List AV) => ⟨[(0, AV.sl [.int .i64, .int .i64] t0), (3, AV.own [0, 3]), (4, AV.int .i64 s.1)], [([0, 3], ⟨false, [.int .i64, .int .i64], s.2⟩)]⟩) s) k = (R65_0 t0 s).el none (fun s => next ((fun s : Int × (List AV) => ⟨[(0, AV.sl [.int .i64, .int .i64] t0), (3, AV.own [0, 3]), (4, AV.int .i64 s.1)], [([0, 3], ⟨false, [.int .i64, .int .i64], s.2⟩)]⟩) s)) (fun p : (List AV) => k (.exit 0) ⟨[(3, AV.own [0, 3])], [([0, 3], ⟨false, [.int .i64, .int .i64], p⟩)]⟩) := (s65_0 ce t0 s.1 s.2 next k).trans (by unfold R65_0; unfold F65_0; simp only [el_cond, el_ro, el_sum, el_fail, el_next, el_stop] <;> rfl)
theorem ok65_0 {ce : CallE} : LoopOK c65 ce [] 65 0 (sub [1, 1, 0, 1, 0, 0] (body Tryd.f65)) := by
  intro m hm st k r h
  obtain rfl : l65_0 = m := Option.some.inj hm
  unfold l65_0 at h
  split at h
  · rename_i g0 t0 g1 t4 g2 g3 h0
    obtain ⟨hg, h⟩ := bif_some h
    simp only [Bool.and_eq_true] at hg
    obtain ⟨⟨⟨q0, q1⟩, q2⟩, q3⟩ := hg
    obtain rfl := ctsEq_eq _ _ q0
    obtain rfl := (nmEq_iff _ _).1 q1
    obtain rfl := (nmEq_iff _ _).1 q2
    obtain rfl := ctsEq_eq _ _ q3
    refine ⟨(((t0.length : Int) - t4).toNat + 1), ?_⟩
    rw [← h]
    exact loop_run (fun s : Int × (List AV) => ⟨[(0, AV.sl [.int .i64, .int .i64] t0), (3, AV.own [0, 3]), (4, AV.int .i64 s.1)], [([0, 3], ⟨false, [.int .i64, .int .i64], s.2⟩)]⟩) (fun p : (List AV) => k (.exit 0) ⟨[(3, AV.own [0, 3])], [([0, 3], ⟨false, [.int .i64, .int .i64], p⟩)]⟩) (st65_0 t0 ce k) _ (t4, h0)
  · cases h
def q65 (a0 : List AV) : Bool := ((decide (0 ≤ (a0.length : Int)) && decide ((a0.length : Int) ≤ (a0.length : Int)) && decide ((a0.length : Int) * 16 ≤ 140737488355328) && decide ((a0.length : Int) ≤ 140737488355328)) && (ro (runW (R65_0 a0) (((a0.length : Int) - 0).toNat + 1) (0, List.replicate (Int.toNat (a0.length : Int)) (AV.agg [AV.int .i64 0, AV.int .i64 0]))) false (fun p2 => true)))
def v65_0 (a0 : List AV) : List AV := (ro (runW (R65_0 a0) (((a0.length : Int) - 0).toNat + 1) (0, List.replicate (Int.toNat (a0.length : Int)) (AV.agg [AV.int .i64 0, AV.int .i64 0]))) [] (fun p2 => p2))
theorem e65 (a0 : List AV) : funA c65 0 65 [AV.sl [.int .i64, .int .i64] a0] = (bif (decide (0 ≤ (a0.length : Int)) && decide ((a0.length : Int) ≤ (a0.length : Int)) && decide ((a0.length : Int) * 16 ≤ 140737488355328) && decide ((a0.length : Int) ≤ 140737488355328)) then (ro (runW (R65_0 a0) (((a0.length : Int) - 0).toNat + 1) (0, List.replicate (Int.toNat (a0.length : Int)) (AV.agg [AV.int .i64 0, AV.int .i64 0]))) none (fun p2 => some (AV.fl [.int .i64, .int .i64] p2)))
  else none) := by kernel_rfl
theorem r65 (a0 : List AV) (h : q65 a0 = true) : funA c65 0 65 [AV.sl [.int .i64, .int .i64] a0] = some (AV.fl [.int .i64, .int .i64] (v65_0 a0)) := (e65 a0).trans ((brL (brO (fun o : Option (((List AV))) => some (AV.fl [.int .i64, .int .i64] (ro o [] (fun p2 => p2)))) (fun p2 => (fun _ => rfl)))) h)
def m65 : TModel
  | [.sl g0 a0] => bif ctsEq g0 ([.int .i64, .int .i64]) then some (q65 a0, AV.fl [.int .i64, .int .i64] (v65_0 a0)) else none
  | _ => none
theorem k65 : Known Tryd.prog 65 := ⟨Tryd.f65, Tryd.func65, by kernel_rfl, by kernel_rfl⟩
theorem meets65 : Meets Tryd.prog 65 m65 := by
  refine meet (f := Tryd.f65) (l := [(0, sub [1, 1, 0, 1, 0, 0] (body Tryd.f65))]) (hs := [(65, 0, [0, 3, 4]), (65, 999, [2]), (65, 1000, [3]), (65, 1001, [0, 3, 4])]) (ts := [(89, m89)]) (ws := []) (is := []) (ls := [(65, 0, l65_0)]) (lvl := 0) mixed k65 Tryd.func65 (by kernel_rfl) (loops_cons ok65_0 noLoop) (allT_cons meets89 allT_nil) allM_nil noI fun w xs us r hl hv h => ?_
  unfold m65 at h
  split at h
  · rename_i g0 a0
    obtain ⟨hg, h⟩ := bif_pair h
    have q0 := hg
    obtain rfl := ctsEq_eq _ _ q0
    obtain ⟨h1, rfl⟩ := pair_inj h
    exact r65 a0 h1
  · cases h

/-! ### 36 loop.example/g01984/laws.toCracker -/
noncomputable def c36 : Cfg := cfg Tryd.prog [(36, 999, [2])] [(14, m14), (65, m65)] [] [] []
def q36 (a0_0 : List AV) (a0_1 : List AV) (a0_2 : List AV) : Bool := (q14 a0_0 && (q14 a0_1 && q65 a0_2))
def v36_0 (a0_0 : List AV) (a0_1 : List AV) (a0_2 : List AV) : List AV := (v14_0 a0_0)
def v36_1 (a0_0 : List AV) (a0_1 : List AV) (a0_2 : List AV) : List AV := (v14_0 a0_1)
def v36_2 (a0_0 : List AV) (a0_1 : List AV) (a0_2 : List AV) : List AV := (v65_0 a0_2)
theorem e36 (a0_0 : List AV) (a0_1 : List AV) (a0_2 : List AV) : funA c36 0 36 [AV.agg [AV.sl [.int .i64] a0_0, AV.sl [.int .i64] a0_1, AV.sl [.int .i64, .int .i64] a0_2]] = (bif q14 a0_0 then (bif q14 a0_1 then (bif q65 a0_2 then some (AV.agg [AV.fl [.int .i64] (v14_0 a0_0), AV.fl [.int .i64] (v14_0 a0_1), AV.fl [.int .i64, .int .i64] (v65_0 a0_2)])
  else none)
  else none)
  else none) := by kernel_rfl
theorem r36 (a0_0 : List AV) (a0_1 : List AV) (a0_2 : List AV) (h : q36 a0_0 a0_1 a0_2 = true) : funA c36 0 36 [AV.agg [AV.sl [.int .i64] a0_0, AV.sl [.int .i64] a0_1, AV.sl [.int .i64, .int .i64] a0_2]] = some (AV.agg [AV.fl [.int .i64] (v36_0 a0_0 a0_1 a0_2), AV.fl [.int .i64] (v36_1 a0_0 a0_1 a0_2), AV.fl [.int .i64, .int .i64] (v36_2 a0_0 a0_1 a0_2)]) := (e36 a0_0 a0_1 a0_2).trans ((brL (brL (brL1 (fun _ => rfl)))) h)
def m36 : TModel
  | [.agg [.sl g0 a0_0, .sl g1 a0_1, .sl g2 a0_2]] => bif ctsEq g0 ([.int .i64]) && ctsEq g1 ([.int .i64]) && ctsEq g2 ([.int .i64, .int .i64]) then some (q36 a0_0 a0_1 a0_2, AV.agg [AV.fl [.int .i64] (v36_0 a0_0 a0_1 a0_2), AV.fl [.int .i64] (v36_1 a0_0 a0_1 a0_2), AV.fl [.int .i64, .int .i64] (v36_2 a0_0 a0_1 a0_2)]) else none
  | _ => none
theorem k36 : Known Tryd.prog 36 := ⟨Tryd.f36, Tryd.func36, by kernel_rfl, by kernel_rfl⟩
theorem meets36 : Meets Tryd.prog 36 m36 := by
  refine meet (f := Tryd.f36) (l := []) (hs := [(36, 999, [2])]) (ts := [(14, m14), (65, m65)]) (ws := []) (is := []) (ls := []) (lvl := 0) mixed k36 Tryd.func36 (by kernel_rfl) noLoop (allT_cons meets14 (allT_cons meets65 allT_nil)) allM_nil noI fun w xs us r hl hv h => ?_
  unfold m36 at h
  split at h
  · rename_i g0 a0_0 g1 a0_1 g2 a0_2
    obtain ⟨hg, h⟩ := bif_pair h
    simp only [Bool.and_eq_true] at hg
    obtain ⟨⟨q0, q1⟩, q2⟩ := hg
    obtain rfl := ctsEq_eq _ _ q0
    obtain rfl := ctsEq_eq _ _ q1
    obtain rfl := ctsEq_eq _ _ q2
    obtain ⟨h1, rfl⟩ := pair_inj h
    exact r36 a0_0 a0_1 a0_2 h1
  · cases h

/-! ### 42 loop.example/g01984/spec.l1In -/
noncomputable def c42 : Cfg := cfg Tryd.prog [(42, 999, [6])] [] [] [] []
def q42 (a0 : Int) (a1 : Int) (a2 : Int) : Bool := true
def v42_0 (a0 : Int) (a1 : Int) (a2 : Int) : Bool := (bif decide (a0 ≥ a1) then decide (a0 ≤ a2) else false)
theorem e42 (a0 : Int) (a1 : Int) (a2 : Int) : funA c42 0 42 [AV.int .i64 a0, AV.int .i64 a1, AV.int .i64 a2] = (bif decide (a0 ≥ a1) then some (AV.bool (decide (a0 ≤ a2)))
  else some (AV.bool false)) := by kernel_rfl
theorem r42 (a0 : Int) (a1 : Int) (a2 : Int) : funA c42 0 42 [AV.int .i64 a0, AV.int .i64 a1, AV.int .i64 a2] = some (AV.bool (v42_0 a0 a1 a2)) := (e42 a0 a1 a2).trans (of_tt (brT (fun b => some (AV.bool (bif b then decide (a0 ≤ a2) else false))) (fun _ => rfl) (fun _ => rfl)))
def m42 : TModel
  | [.int .i64 a0, .int .i64 a1, .int .i64 a2] => some (true, AV.bool (v42_0 a0 a1 a2))
  | _ => none
theorem k42 : Known Tryd.prog 42 := ⟨Tryd.f42, Tryd.func42, by kernel_rfl, by kernel_rfl⟩
theorem meets42 : Meets Tryd.prog 42 m42 := by
  refine meet (f := Tryd.f42) (l := []) (hs := [(42, 999, [6])]) (ts := []) (ws := []) (is := []) (ls := []) (lvl := 0) mixed k42 Tryd.func42 (by kernel_rfl) noLoop allT_nil allM_nil noI fun w xs us r hl hv h => ?_
  unfold m42 at h
  split at h
  · rename_i a0 a1 a2
    obtain ⟨h1, rfl⟩ := pair_inj h
    exact r42 a0 a1 a2
  · cases h

/-! ### 86 loop.example/g01984/spec.AreValues -/
def F86_0 (t0 : List AV) (t3 : Int) : Out (Int) (Unit ⊕ Unit) := (bif decide (t3 < (t0.length : Int)) then (bif (decide (0 ≤ t3) && decide (t3 < (t0.length : Int))) then (bif !(v42_0 (fI (t0.getD t3.toNat AV.undef) 0) (-999) 999) then .stop (.inr ())
  else .next (IntKind.i64.wrap (t3 + 1)))
  else .fail)
  else .stop (.inl ()))
def R86_0 (t0 : List AV) : (Int) → Out (Int) (Unit ⊕ Unit) := fun s : Int => F86_0 t0 s
def l86_0 : LModel := fun _ _ st k => match st with
  | ⟨[(0, .sl g0 t0), (3, .int .i64 t3)], []⟩ => bif ctsEq g0 ([.int .i64]) then ro (runW (R86_0 t0) (((t0.length : Int) - t3).toNat + 1) t3) none (sumE (fun _ : Unit => k (.exit 0) ⟨[(0, AV.sl [.int .i64] t0)], []⟩) (fun _ : Unit => k .ret ⟨[(2, AV.bool false)], []⟩)) else none
  | _ => none
noncomputable def c86 : Cfg := cfg Tryd.prog [(86, 0, [0, 3]), (86, 999, [2]), (86, 1000, [0]), (86, 1001, [0, 3])] [(42, m42)] [] [] [(86, 0, l86_0)]
theorem s86_0 (ce : CallE) (t0 : List AV) (t3 : Int) (next : St → Option AV) (k : Kont) : stepA (codeA c86 ce [] 86 0 (sub [1, 0, 1, 0, 0] (body Tryd.f86))) (normA [] [0, 3]) next ⟨[(0, AV.sl [.int .i64] t0), (3, AV.int .i64 t3)], []⟩ k = (bif decide (t3 < (t0.length : Int)) then (bif (decide (0 ≤ t3) && decide (t3 < (t0.length : Int))) then (bif !(v42_0 (fI (t0.getD t3.toNat AV.undef) 0) (-999) 999) then k .ret ⟨[(2, AV.bool false)], []⟩
  else next ⟨[(0, AV.sl [.int .i64] t0), (3, AV.int .i64 (IntKind.i64.wrap (t3 + 1)))], []⟩)
  else none)
  else k (.exit 0) ⟨[(0, AV.sl [.int .i64] t0)], []⟩) := by kernel_rfl
theorem st86_0 (t0 : List AV) (ce : CallE) (k : Kont) (s : Int) (next : St → Option AV) : stepA (codeA c86 ce [] 86 0 (sub [1, 0, 1, 0, 0] (body Tryd.f86))) (normA [] [0, 3]) next ((fun s : Int => ⟨[(0, AV.sl [.int .i64] t0), (3, AV.int .i64 s)], []⟩) s) k = (R86_0 t0 s).el none (fun s => next ((fun s : Int => ⟨[(0, AV.sl [.int .i64] t0), (3, AV.int .i64 s)], []⟩) s)) (sumE (fun _ : Unit => k (.exit 0) ⟨[(0, AV.sl [.int .i64] t0)], []⟩) (fun _ : Unit => k .ret ⟨[(2, AV.bool false)], []⟩)) := (s86_0 ce t0 s next k).trans (by unfold R86_0; unfold F86_0; simp only [el_cond, el_ro, el_sum, el_fail, el_next, el_stop] <;> rfl)
theorem ok86_0 {ce : CallE} : LoopOK c86 ce [] 86 0 (sub [1, 0, 1, 0, 0] (body Tryd.f86)) := by
  intro m hm st k r h
  obtain rfl : l86_0 = m := Option.some.inj hm
  unfold l86_0 at h
  split at h
  · rename_i g0 t0 t3
    obtain ⟨hg, h⟩ := bif_some h
    have q0 := hg
    obtain rfl := ctsEq_eq _ _ q0
    refine ⟨(((t0.length : Int) - t3).toNat + 1), ?_⟩
    rw [← h]
    exact loop_run (fun s : Int => ⟨[(0, AV.sl [.int .i64] t0), (3, AV.int .i64 s)], []⟩) (sumE (fun _ : Unit => k (.exit 0) ⟨[(0, AV.sl [.int .i64] t0)], []⟩) (fun _ : Unit => k .ret ⟨[(2, AV.bool false)], []⟩)) (st86_0 t0 ce k) _ t3
  · cases h
def q86 (a0 : List AV) : Bool := (ro (runW (R86_0 a0) (((a0.length : Int) - 0).toNat + 1) 0) false (sumE (fun _ => true) (fun _ => true)))
def v86_0 (a0 : List AV) : Bool := (ro (runW (R86_0 a0) (((a0.length : Int) - 0).toNat + 1) 0) false (sumE (fun _ => decide ((a0.length : Int) ≤ 64)) (fun _ => false)))
theorem e86 (a0 : List AV) : funA c86 0 86 [AV.sl [.int .i64] a0] = (ro (runW (R86_0 a0) (((a0.length : Int) - 0).toNat + 1) 0) none (sumE (fun _ => some (AV.bool (decide ((a0.length : Int) ≤ 64)))) (fun _ => some (AV.bool false)))) := by kernel_rfl
theorem r86 (a0 : List AV) (h : q86 a0 = true) : funA c86 0 86 [AV.sl [.int .i64] a0] = some (AV.bool (v86_0 a0)) := (e86 a0).trans ((brO (fun o : Option (Unit ⊕ Unit) => some (AV.bool (ro o false (sumE (fun _ => decide ((a0.length : Int) ≤ 64)) (fun _ => false))))) (brS (fun o : Unit ⊕ Unit => some (AV.bool ((sumE (fun _ => decide ((a0.length : Int) ≤ 64)) (fun _ => false)) o))) (fun _ => (fun _ => rfl)) (fun _ => (fun _ => rfl)))) h)
def m86 : TModel
  | [.sl g0 a0] => bif ctsEq g0 ([.int .i64]) then some (q86 a0, AV.bool (v86_0 a0)) else none
  | _ => none
theorem k86 : Known Tryd.prog 86 := ⟨Tryd.f86, Tryd.func86, by kernel_rfl, by kernel_rfl⟩
theorem meets86 : Meets Tryd.prog 86 m86 := by
  refine meet (f := Tryd.f86) (l := [(0, sub [1, 0, 1, 0, 0] (body Tryd.f86))]) (hs := [(86, 0, [0, 3]), (86, 999, [2]), (86, 1000, [0]), (86, 1001, [0, 3])]) (ts := [(42, m42)]) (ws := []) (is := []) (ls := [(86, 0, l86_0)]) (lvl := 0) mixed k86 Tryd.func86 (by kernel_rfl) (loops_cons ok86_0 noLoop) (allT_cons meets42 allT_nil) allM_nil noI fun w xs us r hl hv h => ?_
  unfold m86 at h
  split at h
  · rename_i g0 a0
    obtain ⟨hg, h⟩ := bif_pair h
    have q0 := hg
    obtain rfl := ctsEq_eq _ _ q0
    obtain ⟨h1, rfl⟩ := pair_inj h
    exact r86 a0 h1
  · cases h

/-! ### 87 loop.example/g01984/spec.l4Has -/
def F87_0 (t0 : List AV) (t1 : Int) (t5 : Int) : Out (Int) (Unit ⊕ Unit) := (bif decide (t5 < (t0.length : Int)) then (bif (decide (0 ≤ t5) && decide (t5 < (t0.length : Int))) then (bif decide (fI (t0.getD t5.toNat AV.undef) 0 = t1) then .stop (.inr ())
  else .next (IntKind.i64.wrap (t5 + 1)))
  else .fail)
  else .stop (.inl ()))
def R87_0 (t0 : List AV) (t1 : Int) : (Int) → Out (Int) (Unit ⊕ Unit) := fun s : Int => F87_0 t0 t1 s
def l87_0 : LModel := fun _ _ st k => match st with
  | ⟨[(0, .sl g0 t0), (1, .int .i64 t1), (5, .int .i64 t5)], []⟩ => bif ctsEq g0 ([.int .i64]) then ro (runW (R87_0 t0 t1) (((t0.length : Int) - t5).toNat + 1) t5) none (sumE (fun _ : Unit => k (.exit 0) ⟨[], []⟩) (fun _ : Unit => k .ret ⟨[(4, AV.bool true)], []⟩)) else none
  | _ => none
noncomputable def c87 : Cfg := cfg Tryd.prog [(87, 0, [0, 1, 5]), (87, 999, [4]), (87, 1000, []), (87, 1001, [0, 1, 5])] [] [] [] [(87, 0, l87_0)]
theorem s87_0 (ce : CallE) (t0 : List AV) (t1 : Int) (t5 : Int) (next : St → Option AV) (k : Kont) : stepA (codeA c87 ce [] 87 0 (sub [1, 0, 1, 0, 0] (body Tryd.f87))) (normA [] [0, 1, 5]) next ⟨[(0, AV.sl [.int .i64] t0), (1, AV.int .i64 t1), (5, AV.int .i64 t5)], []⟩ k = (bif decide (t5 < (t0.length : Int)) then (bif (decide (0 ≤ t5) && decide (t5 < (t0.length : Int))) then (bif decide (fI (t0.getD t5.toNat AV.undef) 0 = t1) then k .ret ⟨[(4, AV.bool true)], []⟩
  else next ⟨[(0, AV.sl [.int .i64] t0), (1, AV.int .i64 t1), (5, AV.int .i64 (IntKind.i64.wrap (t5 + 1)))], []⟩)
  else none)
  else k (.exit 0) ⟨[], []⟩) := by kernel_rfl
theorem st87_0 (t0 : List AV) (t1 : Int) (ce : CallE) (k : Kont) (s : Int) (next : St → Option AV) : stepA (codeA c87 ce [] 87 0 (sub [1, 0, 1, 0, 0] (body Tryd.f87))) (normA [] [0, 1, 5]) next ((fun s : Int => ⟨[(0, AV.sl [.int .i64] t0), (1, AV.int .i64 t1), (5, AV.int .i64 s)], []⟩) s) k = (R87_0 t0 t1 s).el none (fun s => next ((fun s : Int => ⟨[(0, AV.sl [.int .i64] t0), (1, AV.int .i64 t1), (5, AV.int .i64 s)], []⟩) s)) (sumE (fun _ : Unit => k (.exit 0) ⟨[], []⟩) (fun _ : Unit => k .ret ⟨[(4, AV.bool true)], []⟩)) := (s87_0 ce t0 t1 s next k).trans (by unfold R87_0; unfold F87_0; simp only [el_cond, el_ro, el_sum, el_fail, el_next, el_stop] <;> rfl)
theorem ok87_0 {ce : CallE} : LoopOK c87 ce [] 87 0 (sub [1, 0, 1, 0, 0] (body Tryd.f87)) := by
  intro m hm st k r h
  obtain rfl : l87_0 = m := Option.some.inj hm
  unfold l87_0 at h
  split at h
  · rename_i g0 t0 t1 t5
    obtain ⟨hg, h⟩ := bif_some h
    have q0 := hg
    obtain rfl := ctsEq_eq _ _ q0
    refine ⟨(((t0.length : Int) - t5).toNat + 1), ?_⟩
    rw [← h]
    exact loop_run (fun s : Int => ⟨[(0, AV.sl [.int .i64] t0), (1, AV.int .i64 t1), (5, AV.int .i64 s)], []⟩) (sumE (fun _ : Unit => k (.exit 0) ⟨[], []⟩) (fun _ : Unit => k .ret ⟨[(4, AV.bool true)], []⟩)) (st87_0 t0 t1 ce k) _ t5
  · cases h
def q87 (a0 : List AV) (a1 : Int) : Bool := (ro (runW (R87_0 a0 a1) (((a0.length : Int) - 0).toNat + 1) 0) false (sumE (fun _ => true) (fun _ => true)))
def v87_0 (a0 : List AV) (a1 : Int) : Bool := (ro (runW (R87_0 a0 a1) (((a0.length : Int) - 0).toNat + 1) 0) false (sumE (fun _ => false) (fun _ => true)))
theorem e87 (a0 : List AV) (a1 : Int) : funA c87 0 87 [AV.sl [.int .i64] a0, AV.int .i64 a1] = (ro (runW (R87_0 a0 a1) (((a0.length : Int) - 0).toNat + 1) 0) none (sumE (fun _ => some (AV.bool false)) (fun _ => some (AV.bool true)))) := by kernel_rfl
theorem r87 (a0 : List AV) (a1 : Int) (h : q87 a0 a1 = true) : funA c87 0 87 [AV.sl [.int .i64] a0, AV.int .i64 a1] = some (AV.bool (v87_0 a0 a1)) := (e87 a0 a1).trans ((brO (fun o : Option (Unit ⊕ Unit) => some (AV.bool (ro o false (sumE (fun _ => false) (fun _ => true))))) (brS (fun o : Unit ⊕ Unit => some (AV.bool ((sumE (fun _ => false) (fun _ => true)) o))) (fun _ => (fun _ => rfl)) (fun _ => (fun _ => rfl)))) h)
def m87 : TModel
  | [.sl g0 a0, .int .i64 a1] => bif ctsEq g0 ([.int .i64]) then some (q87 a0 a1, AV.bool (v87_0 a0 a1)) else none
  | _ => none
theorem k87 : Known Tryd.prog 87 := ⟨Tryd.f87, Tryd.func87, by kernel_rfl, by kernel_rfl⟩
theorem meets87 : Meets Tryd.prog 87 m87 := by
  refine meet (f := Tryd.f87) (l := [(0, sub [1, 0, 1, 0, 0] (body Tryd.f87))]) (hs := [(87, 0, [0, 1, 5]), (87, 999, [4]), (87, 1000, []), (87, 1001, [0, 1, 5])]) (ts := []) (ws := []) (is := []) (ls := [(87, 0, l87_0)]) (lvl := 0) mixed k87 Tryd.func87 (by kernel_rfl) (loops_cons ok87_0 noLoop) allT_nil allM_nil noI fun w xs us r hl hv h => ?_
  unfold m87 at h
  split at h
  · rename_i g0 a0 a1
    obtain ⟨hg, h⟩ := bif_pair h
    have q0 := hg
    obtain rfl := ctsEq_eq _ _ q0
    obtain ⟨h1, rfl⟩ := pair_inj h
    exact r87 a0 a1 h1
  · cases h

/-! ### 88 loop.example/g01984/spec.l4Pivots -/
def F88_2 (t0 : List AV) (t1 : List AV) (t5 : Int) (h0_0 : Int) (h0_1 : Int) (t7 : Int) : Out (Int) (Unit ⊕ Unit) := (bif decide (t7 < (t0.length : Int)) then (bif (decide (0 ≤ t7) && decide (t7 < (t0.length : Int))) then (bif !(decide (fI (t0.getD t7.toNat AV.undef) 0 < h0_0) == decide (t7 < h0_1)) then .stop (.inr ())
  else .next (IntKind.i64.wrap (t7 + 1)))
  else .fail)
  else .stop (.inl ()))
def R88_2 (t0 : List AV) (t1 : List AV) (t5 : Int) (h0_0 : Int) (h0_1 : Int) : (Int) → Out (Int) (Unit ⊕ Unit) := fun s : Int => F88_2 t0 t1 t5 h0_0 h0_1 s
def l88_2 : LModel := fun _ _ st k => match st with
  | ⟨[(0, .sl g0 t0), (1, .sl g1 t1), (5, .int .i64 t5), (6, .ptr g2 g3 g4), (7, .int .i64 t7)], [(g5, ⟨true, [], [.agg [.int .i64 h0_0, .int .i64 h0_1]]⟩)]⟩ => bif ctsEq g0 ([.int .i64]) && ctsEq g1 ([.int .i64, .int .i64]) && nmEq g2 ([0, 6]) && Nat.beq g3 0 && Nat.beq g4 0 && nmEq g5 ([0, 6]) then ro (runW (R88_2 t0 t1 t5 h0_0 h0_1) (((t0.length : Int) - t7).toNat + 1) t7) none (sumE (fun _ : Unit => k (.exit 2) ⟨[(0, AV.sl [.int .i64] t0), (1, AV.sl [.int .i64, .int .i64] t1), (5, AV.int .i64 t5)], [([0, 6], ⟨true, [], [AV.agg [AV.int .i64 h0_0, AV.int .i64 h0_1]]⟩)]⟩) (fun _ : Unit => k .ret ⟨[(4, AV.bool false)], [([0, 6], ⟨true, [], [AV.agg [AV.int .i64 h0_0, AV.int .i64 h0_1]]⟩)]⟩)) else none
  | _ => none
def F88_0 (t0 : List AV) (t1 : List AV) (t5 : Int) : Out (Int) (Unit ⊕ (Int × Int) ⊕ (Int × Int)) := (bif decide (t5 < (t1.length : Int)) then (bif (decide (0 ≤ t5) && decide (t5 < (t1.length : Int))) then (bif !(v42_0 (fI (t1.getD t5.toNat AV.undef) 0) (-1000) 1000) then .stop (.inr (.inl (fI (t1.getD t5.toNat AV.undef) 0, fI (t1.getD t5.toNat AV.undef) 1)))
  else (bif !(v42_0 (fI (t1.getD t5.toNat AV.undef) 1) 0 (t0.length : Int)) then .stop (.inr (.inl (fI (t1.getD t5.toNat AV.undef) 0, fI (t1.getD t5.toNat AV.undef) 1)))
  else (bif decide (t5 > 0) then (bif (decide (0 ≤ IntKind.i64.wrap (t5 - 1)) && decide (IntKind.i64.wrap (t5 - 1) < (t1.length : Int))) then (bif decide (fI (t1.getD t5.toNat AV.undef) 0 ≤ fI (t1.getD (IntKind.i64.wrap (t5 - 1)).toNat AV.undef) 0) then .stop (.inr (.inl (fI (t1.getD t5.toNat AV.undef) 0, fI (t1.getD t5.toNat AV.undef) 1)))
  else (bif (decide (0 ≤ IntKind.i64.wrap (t5 - 1)) && decide (IntKind.i64.wrap (t5 - 1) < (t1.length : Int))) then (bif decide (fI (t1.getD t5.toNat AV.undef) 1 < fI (t1.getD (IntKind.i64.wrap (t5 - 1)).toNat AV.undef) 1) then .stop (.inr (.inl (fI (t1.getD t5.toNat AV.undef) 0, fI (t1.getD t5.toNat AV.undef) 1)))
  else (ro (runW (R88_2 t0 t1 t5 (fI (t1.getD t5.toNat AV.undef) 0) (fI (t1.getD t5.toNat AV.undef) 1)) (((t0.length : Int) - 0).toNat + 1) 0) .fail (sumE (fun _ => .next (IntKind.i64.wrap (t5 + 1))) (fun _ => .stop (.inr (.inr (fI (t1.getD t5.toNat AV.undef) 0, fI (t1.getD t5.toNat AV.undef) 1)))))))
  else .fail))
  else .fail)
  else (ro (runW (R88_2 t0 t1 t5 (fI (t1.getD t5.toNat AV.undef) 0) (fI (t1.getD t5.toNat AV.undef) 1)) (((t0.length : Int) - 0).toNat + 1) 0) .fail (sumE (fun _ => .next (IntKind.i64.wrap (t5 + 1))) (fun _ => .stop (.inr (.inr (fI (t1.getD t5.toNat AV.undef) 0, fI (t1.getD t5.toNat AV.undef) 1)))))))))
  else .fail)
  else .stop (.inl ()))
def R88_0 (t0 : List AV) (t1 : List AV) : (Int) → Out (Int) (Unit ⊕ (Int × Int) ⊕ (Int × Int)) := fun s : Int => F88_0 t0 t1 s
def l88_0 : LModel := fun _ _ st k => match st with
  | ⟨[(0, .sl g0 t0), (1, .sl g1 t1), (5, .int .i64 t5)], []⟩ => bif ctsEq g0 ([.int .i64]) && ctsEq g1 ([.int .i64, .int .i64]) then ro (runW (R88_0 t0 t1) (((t1.length : Int) - t5).toNat + 1) t5) none (sumE (fun _ : Unit => k (.exit 0) ⟨[], []⟩) (sumE (fun p : Int × Int => k .ret ⟨[(4, AV.bool false)], [([1, 6], ⟨true, [], [AV.agg [AV.int .i64 p.1, AV.int .i64 p.2]]⟩)]⟩) (fun p : Int × Int => k .ret ⟨[(4, AV.bool false)], [([0, 6], ⟨true, [], [AV.agg [AV.int .i64 p.1, AV.int .i64 p.2]]⟩)]⟩))) else none
  | _ => none
noncomputable def c88 : Cfg := cfg Tryd.prog [(88, 0, [0, 1, 5]), (88, 2, [0, 1, 5, 6, 7]), (88, 999, [4]), (88, 1000, []), (88, 1001, [0, 1, 5]), (88, 1002, [0, 1, 5]), (88, 1003, [0, 1, 5, 6, 7])] [(42, m42)] [] [] [(88, 0, l88_0), (88, 2, l88_2)]
theorem s88_2 (ce : CallE) (t0 : List AV) (t1 : List AV) (t5 : Int) (t7 : Int) (h0_0 : Int) (h0_1 : Int) (next : St → Option AV) (k : Kont) : stepA (codeA c88 ce [] 88 2 (sub [1, 0, 1, 0, 0, 1, 0, 0, 1, 1, 1, 0, 0] (body Tryd.f88))) (normA [] [0, 1, 5, 6, 7]) next ⟨[(0, AV.sl [.int .i64] t0), (1, AV.sl [.int .i64, .int .i64] t1), (5, AV.int .i64 t5), (6, AV.ptr [0, 6] 0 0), (7, AV.int .i64 t7)], [([0, 6], ⟨true, [], [AV.agg [AV.int .i64 h0_0, AV.int .i64 h0_1]]⟩)]⟩ k = (bif decide (t7 < (t0.length : Int)) then (bif (decide (0 ≤ t7) && decide (t7 < (t0.length : Int))) then (bif !(decide (fI (t0.getD t7.toNat AV.undef) 0 < h0_0) == decide (t7 < h0_1)) then k .ret ⟨[(4, AV.bool false)], [([0, 6], ⟨true, [], [AV.agg [AV.int .i64 h0_0, AV.int .i64 h0_1]]⟩)]⟩
  else next ⟨[(0, AV.sl [.int .i64] t0), (1, AV.sl [.int .i64, .int .i64] t1), (5, AV.int .i64 t5), (6, AV.ptr [0, 6] 0 0), (7, AV.int .i64 (IntKind.i64.wrap (t7 + 1)))], [([0, 6], ⟨true, [], [AV.agg [AV.int .i64 h0_0, AV.int .i64 h0_1]]⟩)]⟩)
  else none)
  else k (.exit 2) ⟨[(0, AV.sl [.int .i64] t0), (1, AV.sl [.int .i64, .int .i64] t1), (5, AV.int .i64 t5)], [([0, 6], ⟨true, [], [AV.agg [AV.int .i64 h0_0, AV.int .i64 h0_1]]⟩)]⟩) := by kernel_rfl
theorem st88_2 (t0 : List AV) (t1 : List AV) (t5 : Int) (h0_0 : Int) (h0_1 : Int) (ce : CallE) (k : Kont) (s : Int) (next : St → Option AV) : stepA (codeA c88 ce [] 88 2 (sub [1, 0, 1, 0, 0, 1, 0, 0, 1, 1, 1, 0, 0] (body Tryd.f88))) (normA [] [0, 1, 5, 6, 7]) next ((fun s : Int => ⟨[(0, AV.sl [.int .i64] t0), (1, AV.sl [.int .i64, .int .i64] t1), (5, AV.int .i64 t5), (6, AV.ptr [0, 6] 0 0), (7, AV.int .i64 s)], [([0, 6], ⟨true, [], [AV.agg [AV.int .i64 h0_0, AV.int .i64 h0_1]]⟩)]⟩) s) k = (R88_2 t0 t1 t5 h0_0 h0_1 s).el none (fun s => next ((fun s : Int => ⟨[(0, AV.sl [.int .i64] t0), (1, AV.sl [.int .i64, .int .i64] t1), (5, AV.int .i64 t5), (6, AV.ptr [0, 6] 0 0), (7, AV.int .i64 s)], [([0, 6], ⟨true, [], [AV.agg [AV.int .i64 h0_0, AV.int .i64 h0_1]]⟩)]⟩) s)) (sumE (fun _ : Unit => k (.exit 2) ⟨[(0, AV.sl [.int .i64] t0), (1, AV.sl [.int .i64, .int .i64] t1), (5, AV.int .i64 t5)], [([0, 6], ⟨true, [], [AV.agg [AV.int .i64 h0_0, AV.int .i64 h0_1]]⟩)]⟩) (fun _ : Unit => k .ret ⟨[(4, AV.bool false)], [([0, 6], ⟨true, [], [AV.agg [AV.int .i64 h0_0, AV.int .i64 h0_1]]⟩)]⟩)) := (s88_2 ce t0 t1 t5 s h0_0 h0_1 next k).trans (by unfold R88_2; unfold F88_2; simp only [el_cond, el_ro, el_sum, el_fail, el_next, el_stop] <;> rfl)
theorem ok88_2 {ce : CallE} : LoopOK c88 ce [] 88 2 (sub [1, 0, 1, 0, 0, 1, 0, 0, 1, 1, 1, 0, 0] (body Tryd.f88)) := by
  intro m hm st k r h
  obtain rfl : l88_2 = m := Option.some.inj hm
  unfold l88_2 at h
  split at h
  · rename_i g0 t0 g1 t1 t5 g2 g3 g4 t7 g5 h0_0 h0_1
    obtain ⟨hg, h⟩ := bif_some h
    simp only [Bool.and_eq_true] at hg
    obtain ⟨⟨⟨⟨⟨q0, q1⟩, q2⟩, q3⟩, q4⟩, q5⟩ := hg
    obtain rfl := ctsEq_eq _ _ q0
    obtain rfl := ctsEq_eq _ _ q1
    obtain rfl := (nmEq_iff _ _).1 q2
    obtain rfl := Nat.eq_of_beq_eq_true q3
    obtain rfl := Nat.eq_of_beq_eq_true q4
    obtain rfl := (nmEq_iff _ _).1 q5
    refine ⟨(((t0.length : Int) - t7).toNat + 1), ?_⟩
    rw [← h]
    exact loop_run (fun s : Int => ⟨[(0, AV.sl [.int .i64] t0), (1, AV.sl [.int .i64, .int .i64] t1), (5, AV.int .i64 t5), (6, AV.ptr [0, 6] 0 0), (7, AV.int .i64 s)], [([0, 6], ⟨true, [], [AV.agg [AV.int .i64 h0_0, AV.int .i64 h0_1]]⟩)]⟩) (sumE (fun _ : Unit => k (.exit 2) ⟨[(0, AV.sl [.int .i64] t0), (1, AV.sl [.int .i64, .int .i64] t1), (5, AV.int .i64 t5)], [([0, 6], ⟨true, [], [AV.agg [AV.int .i64 h0_0, AV.int .i64 h0_1]]⟩)]⟩) (fun _ : Unit => k .ret ⟨[(4, AV.bool false)], [([0, 6], ⟨true, [], [AV.agg [AV.int .i64 h0_0, AV.int .i64 h0_1]]⟩)]⟩)) (st88_2 t0 t1 t5 h0_0 h0_1 ce k) _ t7
  · cases h
theorem s88_0 (ce : CallE) (t0 : List AV) (t1 : List AV) (t5 : Int) (next : St → Option AV) (k : Kont) : stepA (codeA c88 ce [] 88 0 (sub [1, 0, 1, 0, 0] (body Tryd.f88))) (normA [] [0, 1, 5]) next ⟨[(0, AV.sl [.int .i64] t0), (1, AV.sl [.int .i64, .int .i64] t1), (5, AV.int .i64 t5)], []⟩ k = (bif decide (t5 < (t1.length : Int)) then (bif (decide (0 ≤ t5) && decide (t5 < (t1.length : Int))) then (bif !(v42_0 (fI (t1.getD t5.toNat AV.undef) 0) (-1000) 1000) then k .ret ⟨[(4, AV.bool false)], [([1, 6], ⟨true, [], [AV.agg [AV.int .i64 (fI (t1.getD t5.toNat AV.undef) 0), AV.int .i64 (fI (t1.getD t5.toNat AV.undef) 1)]]⟩)]⟩
  else (bif !(v42_0 (fI (t1.getD t5.toNat AV.undef) 1) 0 (t0.length : Int)) then k .ret ⟨[(4, AV.bool false)], [([1, 6], ⟨true, [], [AV.agg [AV.int .i64 (fI (t1.getD t5.toNat AV.undef) 0), AV.int .i64 (fI (t1.getD t5.toNat AV.undef) 1)]]⟩)]⟩
  else (bif decide (t5 > 0) then (bif (decide (0 ≤ IntKind.i64.wrap (t5 - 1)) && decide (IntKind.i64.wrap (t5 - 1) < (t1.length : Int))) then (bif decide (fI (t1.getD t5.toNat AV.undef) 0 ≤ fI (t1.getD (IntKind.i64.wrap (t5 - 1)).toNat AV.undef) 0) then k .ret ⟨[(4, AV.bool false)], [([1, 6], ⟨true, [], [AV.agg [AV.int .i64 (fI (t1.getD t5.toNat AV.undef) 0), AV.int .i64 (fI (t1.getD t5.toNat AV.undef) 1)]]⟩)]⟩
  else (bif (decide (0 ≤ IntKind.i64.wrap (t5 - 1)) && decide (IntKind.i64.wrap (t5 - 1) < (t1.length : Int))) then (bif decide (fI (t1.getD t5.toNat AV.undef) 1 < fI (t1.getD (IntKind.i64.wrap (t5 - 1)).toNat AV.undef) 1) then k .ret ⟨[(4, AV.bool false)], [([1, 6], ⟨true, [], [AV.agg [AV.int .i64 (fI (t1.getD t5.toNat AV.undef) 0), AV.int .i64 (fI (t1.getD t5.toNat AV.undef) 1)]]⟩)]⟩
  else (ro (runW (R88_2 t0 t1 t5 (fI (t1.getD t5.toNat AV.undef) 0) (fI (t1.getD t5.toNat AV.undef) 1)) (((t0.length : Int) - 0).toNat + 1) 0) none (sumE (fun _ => next ⟨[(0, AV.sl [.int .i64] t0), (1, AV.sl [.int .i64, .int .i64] t1), (5, AV.int .i64 (IntKind.i64.wrap (t5 + 1)))], []⟩) (fun _ => k .ret ⟨[(4, AV.bool false)], [([0, 6], ⟨true, [], [AV.agg [AV.int .i64 (fI (t1.getD t5.toNat AV.undef) 0), AV.int .i64 (fI (t1.getD t5.toNat AV.undef) 1)]]⟩)]⟩))))
  else none))
  else none)
  else (ro (runW (R88_2 t0 t1 t5 (fI (t1.getD t5.toNat AV.undef) 0) (fI (t1.getD t5.toNat AV.undef) 1)) (((t0.length : Int) - 0).toNat + 1) 0) none (sumE (fun _ => next ⟨[(0, AV.sl [.int .i64] t0), (1, AV.sl [.int .i64, .int .i64] t1), (5, AV.int .i64 (IntKind.i64.wrap (t5 + 1)))], []⟩) (fun _ => k .ret ⟨[(4, AV.bool false)], [([0, 6], ⟨true, [], [AV.agg [AV.int .i64 (fI (t1.getD t5.toNat AV.undef) 0), AV.int .i64 (fI (t1.getD t5.toNat AV.undef) 1)]]⟩)]⟩))))))
  else none)
  else k (.exit 0) ⟨[], []⟩) := by kernel_rfl
theorem st88_0 (t0 : List AV) (t1 : List AV) (ce : CallE) (k : Kont) (s : Int) (next : St → Option AV) : stepA (codeA c88 ce [] 88 0 (sub [1, 0, 1, 0, 0] (body Tryd.f88))) (normA [] [0, 1, 5]) next ((fun s : Int => ⟨[(0, AV.sl [.int .i64] t0), (1, AV.sl [.int .i64, .int .i64] t1), (5, AV.int .i64 s)], []⟩) s) k = (R88_0 t0 t1 s).el none (fun s => next ((fun s : Int => ⟨[(0, AV.sl [.int .i64] t0), (1, AV.sl [.int .i64, .int .i64] t1), (5, AV.int .i64 s)], []⟩) s)) (sumE (fun _ : Unit => k (.exit 0) ⟨[], []⟩) (sumE (fun p : Int × Int => k .ret ⟨[(4, AV.bool false)], [([1, 6], ⟨true, [], [AV.agg [AV.int .i64 p.1, AV.int .i64 p.2]]⟩)]⟩) (fun p : Int × Int => k .ret ⟨[(4, AV.bool false)], [([0, 6], ⟨true, [], [AV.agg [AV.int .i64 p.1, AV.int .i64 p.2]]⟩)]⟩))) := (s88_0 ce t0 t1 s next k).trans (by unfold R88_0; unfold F88_0; simp only [el_cond, el_ro, el_sum, el_fail, el_next, el_stop] <;> rfl)
theorem ok88_0 {ce : CallE} : LoopOK c88 ce [] 88 0 (sub [1, 0, 1, 0, 0] (body Tryd.f88)) := by
  intro m hm st k r h
  obtain rfl : l88_0 = m := Option.some.inj hm
  unfold l88_0 at h
  split at h
  · rename_i g0 t0 g1 t1 t5
    obtain ⟨hg, h⟩ := bif_some h
    simp only [Bool.and_eq_true] at hg
    obtain ⟨q0, q1⟩ := hg
    obtain rfl := ctsEq_eq _ _ q0
    obtain rfl := ctsEq_eq _ _ q1
    refine ⟨(((t1.length : Int) - t5).toNat + 1), ?_⟩
    rw [← h]
    exact loop_run (fun s : Int => ⟨[(0, AV.sl [.int .i64] t0), (1, AV.sl [.int .i64, .int .i64] t1), (5, AV.int .i64 s)], []⟩) (sumE (fun _ : Unit => k (.exit 0) ⟨[], []⟩) (sumE (fun p : Int × Int => k .ret ⟨[(4, AV.bool false)], [([1, 6], ⟨true, [], [AV.agg [AV.int .i64 p.1, AV.int .i64 p.2]]⟩)]⟩) (fun p : Int × Int => k .ret ⟨[(4, AV.bool false)], [([0, 6], ⟨true, [], [AV.agg [AV.int .i64 p.1, AV.int .i64 p.2]]⟩)]⟩))) (st88_0 t0 t1 ce k) _ t5
  · cases h
def q88 (a0 : List AV) (a1 : List AV) : Bool := (ro (runW (R88_0 a0 a1) (((a1.length : Int) - 0).toNat + 1) 0) false (sumE (fun _ => true) (sumE (fun p13 => true) (fun p14 => true))))
def v88_0 (a0 : List AV) (a1 : List AV) : Bool := (ro (runW (R88_0 a0 a1) (((a1.length : Int) - 0).toNat + 1) 0) false (sumE (fun _ => true) (sumE (fun p13 => false) (fun p14 => false))))
theorem e88 (a0 : List AV) (a1 : List AV) : funA c88 0 88 [AV.sl [.int .i64] a0, AV.sl [.int .i64, .int .i64] a1] = (ro (runW (R88_0 a0 a1) (((a1.length : Int) - 0).toNat + 1) 0) none (sumE (fun _ => some (AV.bool true)) (sumE (fun p13 => some (AV.bool false)) (fun p14 => some (AV.bool false))))) := by kernel_rfl
theorem r88 (a0 : List AV) (a1 : List AV) (h : q88 a0 a1 = true) : funA c88 0 88 [AV.sl [.int .i64] a0, AV.sl [.int .i64, .int .i64] a1] = some (AV.bool (v88_0 a0 a1)) := (e88 a0 a1).trans ((brO (fun o : Option (Unit ⊕ (Int × Int) ⊕ (Int × Int)) => some (AV.bool (ro o false (sumE (fun _ => true) (sumE (fun p13 => false) (fun p14 => false)))))) (brS (fun o : Unit ⊕ (Int × Int) ⊕ (Int × Int) => some (AV.bool ((sumE (fun _ => true) (sumE (fun p13 => false) (fun p14 => false))) o))) (fun _ => (fun _ => rfl)) (brS (fun o : (Int × Int) ⊕ (Int × Int) => some (AV.bool ((sumE (fun p13 => false) (fun p14 => false)) o))) (fun p13 => (fun _ => rfl)) (fun p14 => (fun _ => rfl))))) h)
def m88 : TModel
  | [.sl g0 a0, .sl g1 a1] => bif ctsEq g0 ([.int .i64]) && ctsEq g1 ([.int .i64, .int .i64]) then some (q88 a0 a1, AV.bool (v88_0 a0 a1)) else none
  | _ => none
theorem k88 : Known Tryd.prog 88 := ⟨Tryd.f88, Tryd.func88, by kernel_rfl, by kernel_rfl⟩
theorem meets88 : Meets Tryd.prog 88 m88 := by
  refine meet (f := Tryd.f88) (l := [(0, sub [1, 0, 1, 0, 0] (body Tryd.f88)), (2, sub [1, 0, 1, 0, 0, 1, 0, 0, 1, 1, 1, 0, 0] (body Tryd.f88))]) (hs := [(88, 0, [0, 1, 5]), (88, 2, [0, 1, 5, 6, 7]), (88, 999, [4]), (88, 1000, []), (88, 1001, [0, 1, 5]), (88, 1002, [0, 1, 5]), (88, 1003, [0, 1, 5, 6, 7])]) (ts := [(42, m42)]) (ws := []) (is := []) (ls := [(88, 0, l88_0), (88, 2, l88_2)]) (lvl := 0) mixed k88 Tryd.func88 (by kernel_rfl) (loops_cons ok88_0 (loops_cons ok88_2 noLoop)) (allT_cons meets42 allT_nil) allM_nil noI fun w xs us r hl hv h => ?_
  unfold m88 at h
  split at h
  · rename_i g0 a0 g1 a1
    obtain ⟨hg, h⟩ := bif_pair h
    simp only [Bool.and_eq_true] at hg
    obtain ⟨q0, q1⟩ := hg
    obtain rfl := ctsEq_eq _ _ q0
    obtain rfl := ctsEq_eq _ _ q1
    obtain ⟨h1, rfl⟩ := pair_inj h
    exact r88 a0 a1 h1
  · cases h

/-! ### 64 loop.example/g01984/spec.IsCracker -/
def F64_0 (h0_0 : List AV) (h0_1 : List AV) (h0_2 : List AV) (t3 : Int) : Out (Int) (Unit ⊕ Unit) := (bif decide (t3 < (h0_1.length : Int)) then (bif (decide (0 ≤ t3) && decide (t3 < (h0_1.length : Int))) then (bif !(v42_0 (fI (h0_1.getD t3.toNat AV.undef) 0) 0 999) then .stop (.inr ())
  else (bif (decide (0 ≤ 0) && decide (0 ≤ t3) && decide (t3 ≤ (h0_1.length : Int))) then (bif (decide (0 ≤ t3) && decide (t3 < (h0_1.length : Int))) then (bif q87 ((h0_1.take (Int.toNat t3)).drop (Int.toNat 0)) (fI (h0_1.getD t3.toNat AV.undef) 0) then (bif (v87_0 ((h0_1.take (Int.toNat t3)).drop (Int.toNat 0)) (fI (h0_1.getD t3.toNat AV.undef) 0)) then .stop (.inr ())
  else .next (IntKind.i64.wrap (t3 + 1)))
  else .fail)
  else .fail)
  else .fail))
  else .fail)
  else .stop (.inl ()))
def R64_0 (h0_0 : List AV) (h0_1 : List AV) (h0_2 : List AV) : (Int) → Out (Int) (Unit ⊕ Unit) := fun s : Int => F64_0 h0_0 h0_1 h0_2 s
def l64_0 : LModel := fun _ _ st k => match st with
  | ⟨[(1, .ptr g0 g1 g2), (3, .int .i64 t3)], [(g3, ⟨true, [], [.agg [.sl g4 h0_0, .sl g5 h0_1, .sl g6 h0_2]]⟩)]⟩ => bif nmEq g0 ([0, 1]) && Nat.beq g1 0 && Nat.beq g2 0 && nmEq g3 ([0, 1]) && ctsEq g4 ([.int .i64]) && ctsEq g5 ([.int .i64]) && ctsEq g6 ([.int .i64, .int .i64]) then ro (runW (R64_0 h0_0 h0_1 h0_2) (((h0_1.length : Int) - t3).toNat + 1) t3) none (sumE (fun _ : Unit => k (.exit 0) ⟨[(1, AV.ptr [0, 1] 0 0)], [([0, 1], ⟨true, [], [AV.agg [AV.sl [.int .i64] h0_0, AV.sl [.int .i64] h0_1, AV.sl [.int .i64, .int .i64] h0_2]]⟩)]⟩) (fun _ : Unit => k .ret ⟨[(2, AV.bool false)], [([0, 1], ⟨true, [], [AV.agg [AV.sl [.int .i64] h0_0, AV.sl [.int .i64] h0_1, AV.sl [.int .i64, .int .i64] h0_2]]⟩)]⟩)) else none
  | _ => none
noncomputable def c64 : Cfg := cfg Tryd.prog [(64, 0, [1, 3]), (64, 999, [2]), (64, 1000, [1]), (64, 1001, [1, 3])] [(42, m42), (86, m86), (87, m87), (88, m88)] [] [] [(64, 0, l64_0)]
theorem s64_0 (ce : CallE) (t3 : Int) (h0_0 : List AV) (h0_1 : List AV) (h0_2 : List AV) (next : St → Option AV) (k : Kont) : stepA (codeA c64 ce [] 64 0 (sub [1, 1, 0, 1, 0, 0] (body Tryd.f64))) (normA [] [1, 3]) next ⟨[(1, AV.ptr [0, 1] 0 0), (3, AV.int .i64 t3)], [([0, 1], ⟨true, [], [AV.agg [AV.sl [.int .i64] h0_0, AV.sl [.int .i64] h0_1, AV.sl [.int .i64, .int .i64] h0_2]]⟩)]⟩ k = (bif decide (t3 < (h0_1.length : Int)) then (bif (decide (0 ≤ t3) && decide (t3 < (h0_1.length : Int))) then (bif !(v42_0 (fI (h0_1.getD t3.toNat AV.undef) 0) 0 999) then k .ret ⟨[(2, AV.bool false)], [([0, 1], ⟨true, [], [AV.agg [AV.sl [.int .i64] h0_0, AV.sl [.int .i64] h0_1, AV.sl [.int .i64, .int .i64] h0_2]]⟩)]⟩
  else (bif (decide (0 ≤ 0) && decide (0 ≤ t3) && decide (t3 ≤ (h0_1.length : Int))) then (bif (decide (0 ≤ t3) && decide (t3 < (h0_1.length : Int))) then (bif q87 ((h0_1.take (Int.toNat t3)).drop (Int.toNat 0)) (fI (h0_1.getD t3.toNat AV.undef) 0) then (bif (v87_0 ((h0_1.take (Int.toNat t3)).drop (Int.toNat 0)) (fI (h0_1.getD t3.toNat AV.undef) 0)) then k .ret ⟨[(2, AV.bool false)], [([0, 1], ⟨true, [], [AV.agg [AV.sl [.int .i64] h0_0, AV.sl [.int .i64] h0_1, AV.sl [.int .i64, .int .i64] h0_2]]⟩)]⟩
  else next ⟨[(1, AV.ptr [0, 1] 0 0), (3, AV.int .i64 (IntKind.i64.wrap (t3 + 1)))], [([0, 1], ⟨true, [], [AV.agg [AV.sl [.int .i64] h0_0, AV.sl [.int .i64] h0_1, AV.sl [.int .i64, .int .i64] h0_2]]⟩)]⟩)
  else none)
  else none)
  else none))
  else none)
  else k (.exit 0) ⟨[(1, AV.ptr [0, 1] 0 0)], [([0, 1], ⟨true, [], [AV.agg [AV.sl [.int .i64] h0_0, AV.sl [.int .i64] h0_1, AV.sl [.int .i64, .int .i64] h0_2]]⟩)]⟩) := by kernel_rfl
theorem st64_0 (h0_0 : List AV) (h0_1 : List AV) (h0_2 : List AV) (ce : CallE) (k : Kont) (s : Int) (next : St → Option AV) : stepA (codeA c64 ce [] 64 0 (sub [1, 1, 0, 1, 0, 0] (body Tryd.f64))) (normA [] [1, 3]) next ((fun s : Int => ⟨[(1, AV.ptr [0, 1] 0 0), (3, AV.int .i64 s)], [([0, 1], ⟨true, [], [AV.agg [AV.sl [.int .i64] h0_0, AV.sl [.int .i64] h0_1, AV.sl [.int .i64, .int .i64] h0_2]]⟩)]⟩) s) k = (R64_0 h0_0 h0_1 h0_2 s).el none (fun s => next ((fun s : Int => ⟨[(1, AV.ptr [0, 1] 0 0), (3, AV.int .i64 s)], [([0, 1], ⟨true, [], [AV.agg [AV.sl [.int .i64] h0_0, AV.sl [.int .i64] h0_1, AV.sl [.int .i64, .int .i64] h0_2]]⟩)]⟩) s)) (sumE (fun _ : Unit => k (.exit 0) ⟨[(1, AV.ptr [0, 1] 0 0)], [([0, 1], ⟨true, [], [AV.agg [AV.sl [.int .i64] h0_0, AV.sl [.int .i64] h0_1, AV.sl [.int .i64, .int .i64] h0_2]]⟩)]⟩) (fun _ : Unit => k .ret ⟨[(2, AV.bool false)], [([0, 1], ⟨true, [], [AV.agg [AV.sl [.int .i64] h0_0, AV.sl [.int .i64] h0_1, AV.sl [.int .i64, .int .i64] h0_2]]⟩)]⟩)) := (s64_0 ce s h0_0 h0_1 h0_2 next k).trans (by unfold R64_0; unfold F64_0; simp only [el_cond, el_ro, el_sum, el_fail, el_next, el_stop] <;> rfl)
theorem ok64_0 {ce : CallE} : LoopOK c64 ce [] 64 0 (sub [1, 1, 0, 1, 0, 0] (body Tryd.f64)) := by
  intro m hm st k r h
  obtain rfl : l64_0 = m := Option.some.inj hm
  unfold l64_0 at h
  split at h
  · rename_i g0 g1 g2 t3 g3 g4 h0_0 g5 h0_1 g6 h0_2
    obtain ⟨hg, h⟩ := bif_some h
    simp only [Bool.and_eq_true] at hg
    obtain ⟨⟨⟨⟨⟨⟨q0, q1⟩, q2⟩, q3⟩, q4⟩, q5⟩, q6⟩ := hg
    obtain rfl := (nmEq_iff _ _).1 q0
    obtain rfl := Nat.eq_of_beq_eq_true q1
    obtain rfl := Nat.eq_of_beq_eq_true q2
    obtain rfl := (nmEq_iff _ _).1 q3
    obtain rfl := ctsEq_eq _ _ q4
    obtain rfl := ctsEq_eq _ _ q5
    obtain rfl := ctsEq_eq _ _ q6
    refine ⟨(((h0_1.length : Int) - t3).toNat + 1), ?_⟩
    rw [← h]
    exact loop_run (fun s : Int => ⟨[(1, AV.ptr [0, 1] 0 0), (3, AV.int .i64 s)], [([0, 1], ⟨true, [], [AV.agg [AV.sl [.int .i64] h0_0, AV.sl [.int .i64] h0_1, AV.sl [.int .i64, .int .i64] h0_2]]⟩)]⟩) (sumE (fun _ : Unit => k (.exit 0) ⟨[(1, AV.ptr [0, 1] 0 0)], [([0, 1], ⟨true, [], [AV.agg [AV.sl [.int .i64] h0_0, AV.sl [.int .i64] h0_1, AV.sl [.int .i64, .int .i64] h0_2]]⟩)]⟩) (fun _ : Unit => k .ret ⟨[(2, AV.bool false)], [([0, 1], ⟨true, [], [AV.agg [AV.sl [.int .i64] h0_0, AV.sl [.int .i64] h0_1, AV.sl [.int .i64, .int .i64] h0_2]]⟩)]⟩)) (st64_0 h0_0 h0_1 h0_2 ce k) _ t3
  · cases h
def q64 (a0_0 : List AV) (a0_1 : List AV) (a0_2 : List AV) : Bool := (q86 a0_0 && (bif !(v86_0 a0_0) then true else (bif !decide ((a0_1.length : Int) = (a0_0.length : Int)) then true else (ro (runW (R64_0 a0_0 a0_1 a0_2) (((a0_1.length : Int) - 0).toNat + 1) 0) false (sumE (fun _ => q88 a0_0 a0_2) (fun _ => true))))))
def v64_0 (a0_0 : List AV) (a0_1 : List AV) (a0_2 : List AV) : Bool := (bif !(v86_0 a0_0) then false else (bif !decide ((a0_1.length : Int) = (a0_0.length : Int)) then false else (ro (runW (R64_0 a0_0 a0_1 a0_2) (((a0_1.length : Int) - 0).toNat + 1) 0) false (sumE (fun _ => (v88_0 a0_0 a0_2)) (fun _ => false)))))
theorem e64 (a0_0 : List AV) (a0_1 : List AV) (a0_2 : List AV) : funA c64 0 64 [AV.agg [AV.sl [.int .i64] a0_0, AV.sl [.int .i64] a0_1, AV.sl [.int .i64, .int .i64] a0_2]] = (bif q86 a0_0 then (bif !(v86_0 a0_0) then some (AV.bool false)
  else (bif !decide ((a0_1.length : Int) = (a0_0.length : Int)) then some (AV.bool false)
  else (ro (runW (R64_0 a0_0 a0_1 a0_2) (((a0_1.length : Int) - 0).toNat + 1) 0) none (sumE (fun _ => (bif q88 a0_0 a0_2 then some (AV.bool (v88_0 a0_0 a0_2))
  else none)) (fun _ => some (AV.bool false))))))
  else none) := by kernel_rfl
theorem r64 (a0_0 : List AV) (a0_1 : List AV) (a0_2 : List AV) (h : q64 a0_0 a0_1 a0_2 = true) : funA c64 0 64 [AV.agg [AV.sl [.int .i64] a0_0, AV.sl [.int .i64] a0_1, AV.sl [.int .i64, .int .i64] a0_2]] = some (AV.bool (v64_0 a0_0 a0_1 a0_2)) := (e64 a0_0 a0_1 a0_2).trans ((brL (br (fun b => some (AV.bool (bif b then false else (bif !decide ((a0_1.length : Int) = (a0_0.length : Int)) then false else (ro (runW (R64_0 a0_0 a0_1 a0_2) (((a0_1.length : Int) - 0).toNat + 1) 0) false (sumE (fun _ => (v88_0 a0_0 a0_2)) (fun _ => false))))))) (fun _ => rfl) (br (fun b => some (AV.bool (bif b then false else (ro (runW (R64_0 a0_0 a0_1 a0_2) (((a0_1.length : Int) - 0).toNat + 1) 0) false (sumE (fun _ => (v88_0 a0_0 a0_2)) (fun _ => false)))))) (fun _ => rfl) (brO (fun o : Option (Unit ⊕ Unit) => some (AV.bool (ro o false (sumE (fun _ => (v88_0 a0_0 a0_2)) (fun _ => false))))) (brS (fun o : Unit ⊕ Unit => some (AV.bool ((sumE (fun _ => (v88_0 a0_0 a0_2)) (fun _ => false)) o))) (fun _ => (brL1 (fun _ => rfl))) (fun _ => (fun _ => rfl))))))) h)
def m64 : TModel
  | [.agg [.sl g0 a0_0, .sl g1 a0_1, .sl g2 a0_2]] => bif ctsEq g0 ([.int .i64]) && ctsEq g1 ([.int .i64]) && ctsEq g2 ([.int .i64, .int .i64]) then some (q64 a0_0 a0_1 a0_2, AV.bool (v64_0 a0_0 a0_1 a0_2)) else none
  | _ => none
theorem k64 : Known Tryd.prog 64 := ⟨Tryd.f64, Tryd.func64, by kernel_rfl, by kernel_rfl⟩
theorem meets64 : Meets Tryd.prog 64 m64 := by
  refine meet (f := Tryd.f64) (l := [(0, sub [1, 1, 0, 1, 0, 0] (body Tryd.f64))]) (hs := [(64, 0, [1, 3]), (64, 999, [2]), (64, 1000, [1]), (64, 1001, [1, 3])]) (ts := [(42, m42), (86, m86), (87, m87), (88, m88)]) (ws := []) (is := []) (ls := [(64, 0, l64_0)]) (lvl := 0) mixed k64 Tryd.func64 (by kernel_rfl) (loops_cons ok64_0 noLoop) (allT_cons meets42 (allT_cons meets86 (allT_cons meets87 (allT_cons meets88 allT_nil)))) allM_nil noI fun w xs us r hl hv h => ?_
  unfold m64 at h
  split at h
  · rename_i g0 a0_0 g1 a0_1 g2 a0_2
    obtain ⟨hg, h⟩ := bif_pair h
    simp only [Bool.and_eq_true] at hg
    obtain ⟨⟨q0, q1⟩, q2⟩ := hg
    obtain rfl := ctsEq_eq _ _ q0
    obtain rfl := ctsEq_eq _ _ q1
    obtain rfl := ctsEq_eq _ _ q2
    obtain ⟨h1, rfl⟩ := pair_inj h
    exact r64 a0_0 a0_1 a0_2 h1
  · cases h

/-! ### 43 loop.example/g01984/spec.FormatInt -/
def F43_0 (t4 : Bool) (t0 : Int) (t3 : ByteArray) : Out ((Int × ByteArray)) (ByteArray) := (bif !decide (t0 = 0) then (bif !decide (10 = 0) then (bif decide (Int.tmod t0 10 < 0) then (bif decide ((bytesA ([AV.int .u8 (IntKind.u8.wrap (IntKind.i64.wrap (48 + IntKind.i64.wrap (0 - (Int.tmod t0 10)))))])).size + t3.size ≤ 4611686018427387904) then (bif !decide (10 = 0) then .next (IntKind.i64.wrap (Int.tdiv t0 10), (bytesA ([AV.int .u8 (IntKind.u8.wrap (IntKind.i64.wrap (48 + IntKind.i64.wrap (0 - (Int.tmod t0 10)))))])) ++ t3)
  else .fail)
  else .fail)
  else (bif decide ((bytesA ([AV.int .u8 (IntKind.u8.wrap (IntKind.i64.wrap (48 + Int.tmod t0 10)))])).size + t3.size ≤ 4611686018427387904) then (bif !decide (10 = 0) then .next (IntKind.i64.wrap (Int.tdiv t0 10), (bytesA ([AV.int .u8 (IntKind.u8.wrap (IntKind.i64.wrap (48 + Int.tmod t0 10)))])) ++ t3)
  else .fail)
  else .fail))
  else .fail)
  else .stop t3)
def R43_0 (t4 : Bool) : ((Int × ByteArray)) → Out ((Int × ByteArray)) (ByteArray) := fun s : Int × ByteArray => F43_0 t4 s.1 s.2
def l43_0 : LModel := fun _ _ st k => match st with
  | ⟨[(0, .int .i64 t0), (3, .str t3), (4, .bool t4)], []⟩ => ro (runW (R43_0 t4) (t0.natAbs + 1) (t0, t3)) none (fun p : ByteArray => k (.exit 0) ⟨[(3, AV.str p), (4, AV.bool t4)], []⟩)
  | _ => none
noncomputable def c43 : Cfg := cfg Tryd.prog [(43, 0, [0, 3, 4]), (43, 999, [2]), (43, 1000, [3, 4]), (43, 1001, [0, 3, 4])] [] [] [] [(43, 0, l43_0)]
theorem s43_0 (ce : CallE) (t0 : Int) (t3 : ByteArray) (t4 : Bool) (next : St → Option AV) (k : Kont) : stepA (codeA c43 ce [] 43 0 (sub [1, 1, 1, 1, 0, 0, 0] (body Tryd.f43))) (normA [] [0, 3, 4]) next ⟨[(0, AV.int .i64 t0), (3, AV.str t3), (4, AV.bool t4)], []⟩ k = (bif !decide (t0 = 0) then (bif !decide (10 = 0) then (bif decide (Int.tmod t0 10 < 0) then (bif decide ((bytesA ([AV.int .u8 (IntKind.u8.wrap (IntKind.i64.wrap (48 + IntKind.i64.wrap (0 - (Int.tmod t0 10)))))])).size + t3.size ≤ 4611686018427387904) then (bif !decide (10 = 0) then next ⟨[(0, AV.int .i64 (IntKind.i64.wrap (Int.tdiv t0 10))), (3, AV.str ((bytesA ([AV.int .u8 (IntKind.u8.wrap (IntKind.i64.wrap (48 + IntKind.i64.wrap (0 - (Int.tmod t0 10)))))])) ++ t3)), (4, AV.bool t4)], []⟩
  else none)
  else none)
  else (bif decide ((bytesA ([AV.int .u8 (IntKind.u8.wrap (IntKind.i64.wrap (48 + Int.tmod t0 10)))])).size + t3.size ≤ 4611686018427387904) then (bif !decide (10 = 0) then next ⟨[(0, AV.int .i64 (IntKind.i64.wrap (Int.tdiv t0 10))), (3, AV.str ((bytesA ([AV.int .u8 (IntKind.u8.wrap (IntKind.i64.wrap (48 + Int.tmod t0 10)))])) ++ t3)), (4, AV.bool t4)], []⟩
  else none)
  else none))
  else none)
  else k (.exit 0) ⟨[(3, AV.str t3), (4, AV.bool t4)], []⟩) := by kernel_rfl
theorem st43_0 (t4 : Bool) (ce : CallE) (k : Kont) (s : (Int × ByteArray)) (next : St → Option AV) : stepA (codeA c43 ce [] 43 0 (sub [1, 1, 1, 1, 0, 0, 0] (body Tryd.f43))) (normA [] [0, 3, 4]) next ((fun s : Int × ByteArray => ⟨[(0, AV.int .i64 s.1), (3, AV.str s.2), (4, AV.bool t4)], []⟩) s) k = (R43_0 t4 s).el none (fun s => next ((fun s : Int × ByteArray => ⟨[(0, AV.int .i64 s.1), (3, AV.str s.2), (4, AV.bool t4)], []⟩) s)) (fun p : ByteArray => k (.exit 0) ⟨[(3, AV.str p), (4, AV.bool t4)], []⟩) := (s43_0 ce s.1 s.2 t4 next k).trans (by unfold R43_0; unfold F43_0; simp only [el_cond, el_ro, el_sum, el_fail, el_next, el_stop] <;> rfl)
theorem ok43_0 {ce : CallE} : LoopOK c43 ce [] 43 0 (sub [1, 1, 1, 1, 0, 0, 0] (body Tryd.f43)) := by
  intro m hm st k r h
  obtain rfl : l43_0 = m := Option.some.inj hm
  unfold l43_0 at h
  split at h
  · rename_i t0 t3 t4
    refine ⟨(t0.natAbs + 1), ?_⟩
    rw [← h]
    exact loop_run (fun s : Int × ByteArray => ⟨[(0, AV.int .i64 s.1), (3, AV.str s.2), (4, AV.bool t4)], []⟩) (fun p : ByteArray => k (.exit 0) ⟨[(3, AV.str p), (4, AV.bool t4)], []⟩) (st43_0 t4 ce k) _ (t0, t3)
  · cases h
def q43 (a0 : Int) : Bool := (bif decide (a0 = 0) then true else (ro (runW (R43_0 (decide (a0 < 0))) (a0.natAbs + 1) (a0, ByteArray.empty)) false (fun p16 => (bif decide (a0 < 0) then decide ((ByteArray.mk #[45]).size + p16.size ≤ 4611686018427387904) else true))))
def v43_0 (a0 : Int) : ByteArray := (bif decide (a0 = 0) then (ByteArray.mk #[48]) else (ro (runW (R43_0 (decide (a0 < 0))) (a0.natAbs + 1) (a0, ByteArray.empty)) ByteArray.empty (fun p16 => (bif decide (a0 < 0) then (ByteArray.mk #[45]) ++ p16 else p16))))
theorem e43 (a0 : Int) : funA c43 0 43 [AV.int .i64 a0] = (bif decide (a0 = 0) then some (AV.str (ByteArray.mk #[48]))
  else (ro (runW (R43_0 (decide (a0 < 0))) (a0.natAbs + 1) (a0, ByteArray.empty)) none (fun p16 => (bif decide (a0 < 0) then (bif decide ((ByteArray.mk #[45]).size + p16.size ≤ 4611686018427387904) then some (AV.str ((ByteArray.mk #[45]) ++ p16))
  else none)
  else some (AV.str p16))))) := by kernel_rfl
theorem r43 (a0 : Int) (h : q43 a0 = true) : funA c43 0 43 [AV.int .i64 a0] = some (AV.str (v43_0 a0)) := (e43 a0).trans ((br (fun b => some (AV.str (bif b then (ByteArray.mk #[48]) else (ro (runW (R43_0 (decide (a0 < 0))) (a0.natAbs + 1) (a0, ByteArray.empty)) ByteArray.empty (fun p16 => (bif decide (a0 < 0) then (ByteArray.mk #[45]) ++ p16 else p16)))))) (fun _ => rfl) (brO (fun o : Option (ByteArray) => some (AV.str (ro o ByteArray.empty (fun p16 => (bif decide (a0 < 0) then (ByteArray.mk #[45]) ++ p16 else p16))))) (fun p16 => (br (fun b => some (AV.str (bif b then (ByteArray.mk #[45]) ++ p16 else p16))) (brL1 (fun _ => rfl)) (fun _ => rfl))))) h)
def m43 : TModel
  | [.int .i64 a0] => some (q43 a0, AV.str (v43_0 a0))
  | _ => none
theorem k43 : Known Tryd.prog 43 := ⟨Tryd.f43, Tryd.func43, by kernel_rfl, by kernel_rfl⟩
theorem meets43 : Meets Tryd.prog 43 m43 := by
  refine meet (f := Tryd.f43) (l := [(0, sub [1, 1, 1, 1, 0, 0, 0] (body Tryd.f43))]) (hs := [(43, 0, [0, 3, 4]), (43, 999, [2]), (43, 1000, [3, 4]), (43, 1001, [0, 3, 4])]) (ts := []) (ws := []) (is := []) (ls := [(43, 0, l43_0)]) (lvl := 0) mixed k43 Tryd.func43 (by kernel_rfl) (loops_cons ok43_0 noLoop) allT_nil allM_nil noI fun w xs us r hl hv h => ?_
  unfold m43 at h
  split at h
  · rename_i a0
    obtain ⟨h1, rfl⟩ := pair_inj h
    exact r43 a0 h1
  · cases h

/-! ### 35 loop.example/g01984/spec.PivotLine -/
def F35_0 (h0_0 : List AV) (h0_1 : List AV) (h0_2 : List AV) (t3 : ByteArray) (t4 : Int) : Out ((ByteArray × Int)) (ByteArray) := (bif decide (t4 < (h0_2.length : Int)) then (bif decide (t4 > 0) then (bif decide (t3.size + (ByteArray.mk #[32]).size ≤ 4611686018427387904) then (bif (decide (0 ≤ t4) && decide (t4 < (h0_2.length : Int))) then (bif q43 (fI (h0_2.getD t4.toNat AV.undef) 0) then (bif decide ((t3 ++ (ByteArray.mk #[32])).size + (v43_0 (fI (h0_2.getD t4.toNat AV.undef) 0)).size ≤ 4611686018427387904) then (bif decide (((t3 ++ (ByteArray.mk #[32])) ++ (v43_0 (fI (h0_2.getD t4.toNat AV.undef) 0))).size + (ByteArray.mk #[64]).size ≤ 4611686018427387904) then (bif (decide (0 ≤ t4) && decide (t4 < (h0_2.length : Int))) then (bif q43 (fI (h0_2.getD t4.toNat AV.undef) 1) then (bif decide ((((t3 ++ (ByteArray.mk #[32])) ++ (v43_0 (fI (h0_2.getD t4.toNat AV.undef) 0))) ++ (ByteArray.mk #[64])).size + (v43_0 (fI (h0_2.getD t4.toNat AV.undef) 1)).size ≤ 4611686018427387904) then .next ((((t3 ++ (ByteArray.mk #[32])) ++ (v43_0 (fI (h0_2.getD t4.toNat AV.undef) 0))) ++ (ByteArray.mk #[64])) ++ (v43_0 (fI (h0_2.getD t4.toNat AV.undef) 1)), IntKind.i64.wrap (t4 + 1))
  else .fail)
  else .fail)
  else .fail)
  else .fail)
  else .fail)
  else .fail)
  else .fail)
  else .fail)
  else (bif (decide (0 ≤ t4) && decide (t4 < (h0_2.length : Int))) then (bif q43 (fI (h0_2.getD t4.toNat AV.undef) 0) then (bif decide (t3.size + (v43_0 (fI (h0_2.getD t4.toNat AV.undef) 0)).size ≤ 4611686018427387904) then (bif decide ((t3 ++ (v43_0 (fI (h0_2.getD t4.toNat AV.undef) 0))).size + (ByteArray.mk #[64]).size ≤ 4611686018427387904) then (bif (decide (0 ≤ t4) && decide (t4 < (h0_2.length : Int))) then (bif q43 (fI (h0_2.getD t4.toNat AV.undef) 1) then (bif decide (((t3 ++ (v43_0 (fI (h0_2.getD t4.toNat AV.undef) 0))) ++ (ByteArray.mk #[64])).size + (v43_0 (fI (h0_2.getD t4.toNat AV.undef) 1)).size ≤ 4611686018427387904) then .next (((t3 ++ (v43_0 (fI (h0_2.getD t4.toNat AV.undef) 0))) ++ (ByteArray.mk #[64])) ++ (v43_0 (fI (h0_2.getD t4.toNat AV.undef) 1)), IntKind.i64.wrap (t4 + 1))
  else .fail)
  else .fail)
  else .fail)
  else .fail)
  else .fail)
  else .fail)
  else .fail))
  else .stop t3)
def R35_0 (h0_0 : List AV) (h0_1 : List AV) (h0_2 : List AV) : ((ByteArray × Int)) → Out ((ByteArray × Int)) (ByteArray) := fun s : ByteArray × Int => F35_0 h0_0 h0_1 h0_2 s.1 s.2
def l35_0 : LModel := fun _ _ st k => match st with
  | ⟨[(1, .ptr g0 g1 g2), (3, .str t3), (4, .int .i64 t4)], [(g3, ⟨true, [], [.agg [.sl g4 h0_0, .sl g5 h0_1, .sl g6 h0_2]]⟩)]⟩ => bif nmEq g0 ([0, 1]) && Nat.beq g1 0 && Nat.beq g2 0 && nmEq g3 ([0, 1]) && ctsEq g4 ([.int .i64]) && ctsEq g5 ([.int .i64]) && ctsEq g6 ([.int .i64, .int .i64]) then ro (runW (R35_0 h0_0 h0_1 h0_2) (((h0_2.length : Int) - t4).toNat + 1) (t3, t4)) none (fun p : ByteArray => k (.exit 0) ⟨[(3, AV.str p)], [([0, 1], ⟨true, [], [AV.agg [AV.sl [.int .i64] h0_0, AV.sl [.int .i64] h0_1, AV.sl [.int .i64, .int .i64] h0_2]]⟩)]⟩) else none
  | _ => none
noncomputable def c35 : Cfg := cfg Tryd.prog [(35, 0, [1, 3, 4]), (35, 999, [2]), (35, 1000, [3]), (35, 1001, [1, 3, 4])] [(43, m43), (64, m64)] [] [] [(35, 0, l35_0)]
theorem s35_0 (ce : CallE) (t3 : ByteArray) (t4 : Int) (h0_0 : List AV) (h0_1 : List AV) (h0_2 : List AV) (next : St → Option AV) (k : Kont) : stepA (codeA c35 ce [] 35 0 (sub [1, 1, 1, 1, 0, 1, 0, 0] (body Tryd.f35))) (normA [] [1, 3, 4]) next ⟨[(1, AV.ptr [0, 1] 0 0), (3, AV.str t3), (4, AV.int .i64 t4)], [([0, 1], ⟨true, [], [AV.agg [AV.sl [.int .i64] h0_0, AV.sl [.int .i64] h0_1, AV.sl [.int .i64, .int .i64] h0_2]]⟩)]⟩ k = (bif decide (t4 < (h0_2.length : Int)) then (bif decide (t4 > 0) then (bif decide (t3.size + (ByteArray.mk #[32]).size ≤ 4611686018427387904) then (bif (decide (0 ≤ t4) && decide (t4 < (h0_2.length : Int))) then (bif q43 (fI (h0_2.getD t4.toNat AV.undef) 0) then (bif decide ((t3 ++ (ByteArray.mk #[32])).size + (v43_0 (fI (h0_2.getD t4.toNat AV.undef) 0)).size ≤ 4611686018427387904) then (bif decide (((t3 ++ (ByteArray.mk #[32])) ++ (v43_0 (fI (h0_2.getD t4.toNat AV.undef) 0))).size + (ByteArray.mk #[64]).size ≤ 4611686018427387904) then (bif (decide (0 ≤ t4) && decide (t4 < (h0_2.length : Int))) then (bif q43 (fI (h0_2.getD t4.toNat AV.undef) 1) then (bif decide ((((t3 ++ (ByteArray.mk #[32])) ++ (v43_0 (fI (h0_2.getD t4.toNat AV.undef) 0))) ++ (ByteArray.mk #[64])).size + (v43_0 (fI (h0_2.getD t4.toNat AV.undef) 1)).size ≤ 4611686018427387904) then next ⟨[(1, AV.ptr [0, 1] 0 0), (3, AV.str ((((t3 ++ (ByteArray.mk #[32])) ++ (v43_0 (fI (h0_2.getD t4.toNat AV.undef) 0))) ++ (ByteArray.mk #[64])) ++ (v43_0 (fI (h0_2.getD t4.toNat AV.undef) 1)))), (4, AV.int .i64 (IntKind.i64.wrap (t4 + 1)))], [([0, 1], ⟨true, [], [AV.agg [AV.sl [.int .i64] h0_0, AV.sl [.int .i64] h0_1, AV.sl [.int .i64, .int .i64] h0_2]]⟩)]⟩
  else none)
  else none)
  else none)
  else none)
  else none)
  else none)
  else none)
  else none)
  else (bif (decide (0 ≤ t4) && decide (t4 < (h0_2.length : Int))) then (bif q43 (fI (h0_2.getD t4.toNat AV.undef) 0) then (bif decide (t3.size + (v43_0 (fI (h0_2.getD t4.toNat AV.undef) 0)).size ≤ 4611686018427387904) then (bif decide ((t3 ++ (v43_0 (fI (h0_2.getD t4.toNat AV.undef) 0))).size + (ByteArray.mk #[64]).size ≤ 4611686018427387904) then (bif (decide (0 ≤ t4) && decide (t4 < (h0_2.length : Int))) then (bif q43 (fI (h0_2.getD t4.toNat AV.undef) 1) then (bif decide (((t3 ++ (v43_0 (fI (h0_2.getD t4.toNat AV.undef) 0))) ++ (ByteArray.mk #[64])).size + (v43_0 (fI (h0_2.getD t4.toNat AV.undef) 1)).size ≤ 4611686018427387904) then next ⟨[(1, AV.ptr [0, 1] 0 0), (3, AV.str (((t3 ++ (v43_0 (fI (h0_2.getD t4.toNat AV.undef) 0))) ++ (ByteArray.mk #[64])) ++ (v43_0 (fI (h0_2.getD t4.toNat AV.undef) 1)))), (4, AV.int .i64 (IntKind.i64.wrap (t4 + 1)))], [([0, 1], ⟨true, [], [AV.agg [AV.sl [.int .i64] h0_0, AV.sl [.int .i64] h0_1, AV.sl [.int .i64, .int .i64] h0_2]]⟩)]⟩
  else none)
  else none)
  else none)
  else none)
  else none)
  else none)
  else none))
  else k (.exit 0) ⟨[(3, AV.str t3)], [([0, 1], ⟨true, [], [AV.agg [AV.sl [.int .i64] h0_0, AV.sl [.int .i64] h0_1, AV.sl [.int .i64, .int .i64] h0_2]]⟩)]⟩) := by kernel_rfl
theorem st35_0 (h0_0 : List AV) (h0_1 : List AV) (h0_2 : List AV) (ce : CallE) (k : Kont) (s : (ByteArray × Int)) (next : St → Option AV) : stepA (codeA c35 ce [] 35 0 (sub [1, 1, 1, 1, 0, 1, 0, 0] (body Tryd.f35))) (normA [] [1, 3, 4]) next ((fun s : ByteArray × Int => ⟨[(1, AV.ptr [0, 1] 0 0), (3, AV.str s.1), (4, AV.int .i64 s.2)], [([0, 1], ⟨true, [], [AV.agg [AV.sl [.int .i64] h0_0, AV.sl [.int .i64] h0_1, AV.sl [.int .i64, .int .i64] h0_2]]⟩)]⟩) s) k = (R35_0 h0_0 h0_1 h0_2 s).el none (fun s => next ((fun s : ByteArray × Int => ⟨[(1, AV.ptr [0, 1] 0 0), (3, AV.str s.1), (4, AV.int .i64 s.2)], [([0, 1], ⟨true, [], [AV.agg [AV.sl [.int .i64] h0_0, AV.sl [.int .i64] h0_1, AV.sl [.int .i64, .int .i64] h0_2]]⟩)]⟩) s)) (fun p : ByteArray => k (.exit 0) ⟨[(3, AV.str p)], [([0, 1], ⟨true, [], [AV.agg [AV.sl [.int .i64] h0_0, AV.sl [.int .i64] h0_1, AV.sl [.int .i64, .int .i64] h0_2]]⟩)]⟩) := (s35_0 ce s.1 s.2 h0_0 h0_1 h0_2 next k).trans (by unfold R35_0; unfold F35_0; simp only [el_cond, el_ro, el_sum, el_fail, el_next, el_stop] <;> rfl)
theorem ok35_0 {ce : CallE} : LoopOK c35 ce [] 35 0 (sub [1, 1, 1, 1, 0, 1, 0, 0] (body Tryd.f35)) := by
  intro m hm st k r h
  obtain rfl : l35_0 = m := Option.some.inj hm
  unfold l35_0 at h
  split at h
  · rename_i g0 g1 g2 t3 t4 g3 g4 h0_0 g5 h0_1 g6 h0_2
    obtain ⟨hg, h⟩ := bif_some h
    simp only [Bool.and_eq_true] at hg
    obtain ⟨⟨⟨⟨⟨⟨q0, q1⟩, q2⟩, q3⟩, q4⟩, q5⟩, q6⟩ := hg
    obtain rfl := (nmEq_iff _ _).1 q0
    obtain rfl := Nat.eq_of_beq_eq_true q1
    obtain rfl := Nat.eq_of_beq_eq_true q2
    obtain rfl := (nmEq_iff _ _).1 q3
    obtain rfl := ctsEq_eq _ _ q4
    obtain rfl := ctsEq_eq _ _ q5
    obtain rfl := ctsEq_eq _ _ q6
    refine ⟨(((h0_2.length : Int) - t4).toNat + 1), ?_⟩
    rw [← h]
    exact loop_run (fun s : ByteArray × Int => ⟨[(1, AV.ptr [0, 1] 0 0), (3, AV.str s.1), (4, AV.int .i64 s.2)], [([0, 1], ⟨true, [], [AV.agg [AV.sl [.int .i64] h0_0, AV.sl [.int .i64] h0_1, AV.sl [.int .i64, .int .i64] h0_2]]⟩)]⟩) (fun p : ByteArray => k (.exit 0) ⟨[(3, AV.str p)], [([0, 1], ⟨true, [], [AV.agg [AV.sl [.int .i64] h0_0, AV.sl [.int .i64] h0_1, AV.sl [.int .i64, .int .i64] h0_2]]⟩)]⟩) (st35_0 h0_0 h0_1 h0_2 ce k) _ (t3, t4)
  · cases h
def q35 (a0_0 : List AV) (a0_1 : List AV) (a0_2 : List AV) : Bool := (q64 a0_0 a0_1 a0_2 && (bif !(v64_0 a0_0 a0_1 a0_2) then true else (bif decide ((a0_2.length : Int) = 0) then true else (ro (runW (R35_0 a0_0 a0_1 a0_2) (((a0_2.length : Int) - 0).toNat + 1) (ByteArray.empty, 0)) false (fun p17 => true)))))
def v35_0 (a0_0 : List AV) (a0_1 : List AV) (a0_2 : List AV) : ByteArray := (bif !(v64_0 a0_0 a0_1 a0_2) then ByteArray.empty else (bif decide ((a0_2.length : Int) = 0) then (ByteArray.mk #[110, 111, 110, 101]) else (ro (runW (R35_0 a0_0 a0_1 a0_2) (((a0_2.length : Int) - 0).toNat + 1) (ByteArray.empty, 0)) ByteArray.empty (fun p17 => p17))))
theorem e35 (a0_0 : List AV) (a0_1 : List AV) (a0_2 : List AV) : funA c35 0 35 [AV.agg [AV.sl [.int .i64] a0_0, AV.sl [.int .i64] a0_1, AV.sl [.int .i64, .int .i64] a0_2]] = (bif q64 a0_0 a0_1 a0_2 then (bif !(v64_0 a0_0 a0_1 a0_2) then some (AV.str ByteArray.empty)
  else (bif decide ((a0_2.length : Int) = 0) then some (AV.str (ByteArray.mk #[110, 111, 110, 101]))
  else (ro (runW (R35_0 a0_0 a0_1 a0_2) (((a0_2.length : Int) - 0).toNat + 1) (ByteArray.empty, 0)) none (fun p17 => some (AV.str p17)))))
  else none) := by kernel_rfl
theorem r35 (a0_0 : List AV) (a0_1 : List AV) (a0_2 : List AV) (h : q35 a0_0 a0_1 a0_2 = true) : funA c35 0 35 [AV.agg [AV.sl [.int .i64] a0_0, AV.sl [.int .i64] a0_1, AV.sl [.int .i64, .int .i64] a0_2]] = some (AV.str (v35_0 a0_0 a0_1 a0_2)) := (e35 a0_0 a0_1 a0_2).trans ((brL (br (fun b => some (AV.str (bif b then ByteArray.empty else (bif decide ((a0_2.length : Int) = 0) then (ByteArray.mk #[110, 111, 110, 101]) else (ro (runW (R35_0 a0_0 a0_1 a0_2) (((a0_2.length : Int) - 0).toNat + 1) (ByteArray.empty, 0)) ByteArray.empty (fun p17 => p17)))))) (fun _ => rfl) (br (fun b => some (AV.str (bif b then (ByteArray.mk #[110, 111, 110, 101]) else (ro (runW (R35_0 a0_0 a0_1 a0_2) (((a0_2.length : Int) - 0).toNat + 1) (ByteArray.empty, 0)) ByteArray.empty (fun p17 => p17))))) (fun _ => rfl) (brO (fun o : Option (ByteArray) => some (AV.str (ro o ByteArray.empty (fun p17 => p17)))) (fun p17 => (fun _ => rfl)))))) h)
def m35 : TModel
  | [.agg [.sl g0 a0_0, .sl g1 a0_1, .sl g2 a0_2]] => bif ctsEq g0 ([.int .i64]) && ctsEq g1 ([.int .i64]) && ctsEq g2 ([.int .i64, .int .i64]) then some (q35 a0_0 a0_1 a0_2, AV.str (v35_0 a0_0 a0_1 a0_2)) else none
  | _ => none
theorem k35 : Known Tryd.prog 35 := ⟨Tryd.f35, Tryd.func35, by kernel_rfl, by kernel_rfl⟩
theorem meets35 : Meets Tryd.prog 35 m35 := by
  refine meet (f := Tryd.f35) (l := [(0, sub [1, 1, 1, 1, 0, 1, 0, 0] (body Tryd.f35))]) (hs := [(35, 0, [1, 3, 4]), (35, 999, [2]), (35, 1000, [3]), (35, 1001, [1, 3, 4])]) (ts := [(43, m43), (64, m64)]) (ws := []) (is := []) (ls := [(35, 0, l35_0)]) (lvl := 0) mixed k35 Tryd.func35 (by kernel_rfl) (loops_cons ok35_0 noLoop) (allT_cons meets43 (allT_cons meets64 allT_nil)) allM_nil noI fun w xs us r hl hv h => ?_
  unfold m35 at h
  split at h
  · rename_i g0 a0_0 g1 a0_1 g2 a0_2
    obtain ⟨hg, h⟩ := bif_pair h
    simp only [Bool.and_eq_true] at hg
    obtain ⟨⟨q0, q1⟩, q2⟩ := hg
    obtain rfl := ctsEq_eq _ _ q0
    obtain rfl := ctsEq_eq _ _ q1
    obtain rfl := ctsEq_eq _ _ q2
    obtain ⟨h1, rfl⟩ := pair_inj h
    exact r35 a0_0 a0_1 a0_2 h1
  · cases h

/-! ### 105 loop.example/g01984/impl.within$1 -/
noncomputable def c105 : Cfg := cfg Tryd.prog [(105, 999, [4])] [] [] [] []
def q105 (a0 : Int) (a1 : AV) (a2 : AV) : Bool := true
def v105_0 (a0 : Int) (a1 : AV) (a2 : AV) : Bool := (bif decide (a0 < fI a1 0) then true else decide (a0 > fI a2 0))
theorem e105 (a0 : Int) (a1 : AV) (a2 : AV) : funA c105 0 105 [AV.int .i64 a0, AV.rptr [.int .i64] a1 0, AV.rptr [.int .i64] a2 0] = (bif decide (a0 < fI a1 0) then some (AV.bool true)
  else some (AV.bool (decide (a0 > fI a2 0)))) := by kernel_rfl
theorem r105 (a0 : Int) (a1 : AV) (a2 : AV) : funA c105 0 105 [AV.int .i64 a0, AV.rptr [.int .i64] a1 0, AV.rptr [.int .i64] a2 0] = some (AV.bool (v105_0 a0 a1 a2)) := (e105 a0 a1 a2).trans (of_tt (brT (fun b => some (AV.bool (bif b then true else decide (a0 > fI a2 0)))) (fun _ => rfl) (fun _ => rfl)))
def m105 : TModel
  | [.int .i64 a0, .rptr g0 a1 g1, .rptr g2 a2 g3] => bif ctsEq g0 ([.int .i64]) && Nat.beq g1 0 && ctsEq g2 ([.int .i64]) && Nat.beq g3 0 then some (true, AV.bool (v105_0 a0 a1 a2)) else none
  | _ => none
theorem k105 : Known Tryd.prog 105 := ⟨Tryd.f105, Tryd.func105, by kernel_rfl, by kernel_rfl⟩
theorem meets105 : Meets Tryd.prog 105 m105 := by
  refine meet (f := Tryd.f105) (l := []) (hs := [(105, 999, [4])]) (ts := []) (ws := []) (is := []) (ls := []) (lvl := 0) mixed k105 Tryd.func105 (by kernel_rfl) noLoop allT_nil allM_nil noI fun w xs us r hl hv h => ?_
  unfold m105 at h
  split at h
  · rename_i a0 g0 a1 g1 g2 a2 g3
    obtain ⟨hg, h⟩ := bif_pair h
    simp only [Bool.and_eq_true] at hg
    obtain ⟨⟨⟨q0, q1⟩, q2⟩, q3⟩ := hg
    obtain rfl := ctsEq_eq _ _ q0
    obtain rfl := Nat.eq_of_beq_eq_true q1
    obtain rfl := ctsEq_eq _ _ q2
    obtain rfl := Nat.eq_of_beq_eq_true q3
    obtain ⟨h1, rfl⟩ := pair_inj h
    exact r105 a0 a1 a2
  · cases h

/-! ### 112 slices.IndexFunc[[]int,int] -/
def F112_0 (t0 : List AV) (t1_0 : AV) (t1_1 : AV) (t7 : Int) (t8 : Int) : Out (Int) (Unit ⊕ Int) := (bif decide (t8 < t7) then (bif (decide (0 ≤ t8) && decide (t8 < (t0.length : Int))) then (bif (v105_0 (fI (t0.getD t8.toNat AV.undef) 0) t1_0 t1_1) then .stop (.inr t8)
  else .next (IntKind.i64.wrap (t8 + 1)))
  else .fail)
  else .stop (.inl ()))
def R112_0 (t0 : List AV) (t1_0 : AV) (t1_1 : AV) (t7 : Int) : (Int) → Out (Int) (Unit ⊕ Int) := fun s : Int => F112_0 t0 t1_0 t1_1 t7 s
def l112_0 : LModel := fun _ _ st k => match st with
  | ⟨[(0, .sl g0 t0), (1, .fn g1 [.rptr g2 t1_0 g3, .rptr g4 t1_1 g5]), (7, .int .i64 t7), (8, .int .i64 t8)], []⟩ => bif ctsEq g0 ([.int .i64]) && Nat.beq g1 105 && ctsEq g2 ([.int .i64]) && Nat.beq g3 0 && ctsEq g4 ([.int .i64]) && Nat.beq g5 0 then ro (runW (R112_0 t0 t1_0 t1_1 t7) ((t7 - t8).toNat + 1) t8) none (sumE (fun _ : Unit => k (.exit 0) ⟨[], []⟩) (fun p : Int => k .ret ⟨[(4, AV.int .i64 p)], []⟩)) else none
  | _ => none
noncomputable def c112 : Cfg := cfg Tryd.prog [(112, 0, [0, 1, 7, 8]), (112, 999, [4]), (112, 1000, []), (112, 1001, [0, 1, 7, 8])] [(105, m105)] [] [] [(112, 0, l112_0)]
theorem s112_0 (ce : CallE) (t0 : List AV) (t1_0 : AV) (t1_1 : AV) (t7 : Int) (t8 : Int) (next : St → Option AV) (k : Kont) : stepA (codeA c112 ce [] 112 0 (sub [1, 0, 1, 0, 0] (body Tryd.f112))) (normA [] [0, 1, 7, 8]) next ⟨[(0, AV.sl [.int .i64] t0), (1, AV.fn 105 [AV.rptr [.int .i64] t1_0 0, AV.rptr [.int .i64] t1_1 0]), (7, AV.int .i64 t7), (8, AV.int .i64 t8)], []⟩ k = (bif decide (t8 < t7) then (bif (decide (0 ≤ t8) && decide (t8 < (t0.length : Int))) then (bif (v105_0 (fI (t0.getD t8.toNat AV.undef) 0) t1_0 t1_1) then k .ret ⟨[(4, AV.int .i64 t8)], []⟩
  else next ⟨[(0, AV.sl [.int .i64] t0), (1, AV.fn 105 [AV.rptr [.int .i64] t1_0 0, AV.rptr [.int .i64] t1_1 0]), (7, AV.int .i64 t7), (8, AV.int .i64 (IntKind.i64.wrap (t8 + 1)))], []⟩)
  else none)
  else k (.exit 0) ⟨[], []⟩) := by kernel_rfl
theorem st112_0 (t0 : List AV) (t1_0 : AV) (t1_1 : AV) (t7 : Int) (ce : CallE) (k : Kont) (s : Int) (next : St → Option AV) : stepA (codeA c112 ce [] 112 0 (sub [1, 0, 1, 0, 0] (body Tryd.f112))) (normA [] [0, 1, 7, 8]) next ((fun s : Int => ⟨[(0, AV.sl [.int .i64] t0), (1, AV.fn 105 [AV.rptr [.int .i64] t1_0 0, AV.rptr [.int .i64] t1_1 0]), (7, AV.int .i64 t7), (8, AV.int .i64 s)], []⟩) s) k = (R112_0 t0 t1_0 t1_1 t7 s).el none (fun s => next ((fun s : Int => ⟨[(0, AV.sl [.int .i64] t0), (1, AV.fn 105 [AV.rptr [.int .i64] t1_0 0, AV.rptr [.int .i64] t1_1 0]), (7, AV.int .i64 t7), (8, AV.int .i64 s)], []⟩) s)) (sumE (fun _ : Unit => k (.exit 0) ⟨[], []⟩) (fun p : Int => k .ret ⟨[(4, AV.int .i64 p)], []⟩)) := (s112_0 ce t0 t1_0 t1_1 t7 s next k).trans (by unfold R112_0; unfold F112_0; simp only [el_cond, el_ro, el_sum, el_fail, el_next, el_stop] <;> rfl)
theorem ok112_0 {ce : CallE} : LoopOK c112 ce [] 112 0 (sub [1, 0, 1, 0, 0] (body Tryd.f112)) := by
  intro m hm st k r h
  obtain rfl : l112_0 = m := Option.some.inj hm
  unfold l112_0 at h
  split at h
  · rename_i g0 t0 g1 g2 t1_0 g3 g4 t1_1 g5 t7 t8
    obtain ⟨hg, h⟩ := bif_some h
    simp only [Bool.and_eq_true] at hg
    obtain ⟨⟨⟨⟨⟨q0, q1⟩, q2⟩, q3⟩, q4⟩, q5⟩ := hg
    obtain rfl := ctsEq_eq _ _ q0
    obtain rfl := Nat.eq_of_beq_eq_true q1
    obtain rfl := ctsEq_eq _ _ q2
    obtain rfl := Nat.eq_of_beq_eq_true q3
    obtain rfl := ctsEq_eq _ _ q4
    obtain rfl := Nat.eq_of_beq_eq_true q5
    refine ⟨((t7 - t8).toNat + 1), ?_⟩
    rw [← h]
    exact loop_run (fun s : Int => ⟨[(0, AV.sl [.int .i64] t0), (1, AV.fn 105 [AV.rptr [.int .i64] t1_0 0, AV.rptr [.int .i64] t1_1 0]), (7, AV.int .i64 t7), (8, AV.int .i64 s)], []⟩) (sumE (fun _ : Unit => k (.exit 0) ⟨[], []⟩) (fun p : Int => k .ret ⟨[(4, AV.int .i64 p)], []⟩)) (st112_0 t0 t1_0 t1_1 t7 ce k) _ t8
  · cases h
def q112 (a0 : List AV) (a1_0 : AV) (a1_1 : AV) : Bool := (ro (runW (R112_0 a0 a1_0 a1_1 (a0.length : Int)) (((a0.length : Int) - 0).toNat + 1) 0) false (sumE (fun _ => true) (fun p19 => true)))
def v112_0 (a0 : List AV) (a1_0 : AV) (a1_1 : AV) : Int := (ro (runW (R112_0 a0 a1_0 a1_1 (a0.length : Int)) (((a0.length : Int) - 0).toNat + 1) 0) 0 (sumE (fun _ => (-1)) (fun p19 => p19)))
theorem e112 (a0 : List AV) (a1_0 : AV) (a1_1 : AV) : funA c112 0 112 [AV.sl [.int .i64] a0, AV.fn 105 [AV.rptr [.int .i64] a1_0 0, AV.rptr [.int .i64] a1_1 0]] = (ro (runW (R112_0 a0 a1_0 a1_1 (a0.length : Int)) (((a0.length : Int) - 0).toNat + 1) 0) none (sumE (fun _ => some (AV.int .i64 (-1))) (fun p19 => some (AV.int .i64 p19)))) := by kernel_rfl
theorem r112 (a0 : List AV) (a1_0 : AV) (a1_1 : AV) (h : q112 a0 a1_0 a1_1 = true) : funA c112 0 112 [AV.sl [.int .i64] a0, AV.fn 105 [AV.rptr [.int .i64] a1_0 0, AV.rptr [.int .i64] a1_1 0]] = some (AV.int .i64 (v112_0 a0 a1_0 a1_1)) := (e112 a0 a1_0 a1_1).trans ((brO (fun o : Option (Unit ⊕ Int) => some (AV.int .i64 (ro o 0 (sumE (fun _ => (-1)) (fun p19 => p19))))) (brS (fun o : Unit ⊕ Int => some (AV.int .i64 ((sumE (fun _ => (-1)) (fun p19 => p19)) o))) (fun _ => (fun _ => rfl)) (fun p19 => (fun _ => rfl)))) h)
def m112 : TModel
  | [.sl g0 a0, .fn g1 [.rptr g2 a1_0 g3, .rptr g4 a1_1 g5]] => bif ctsEq g0 ([.int .i64]) && Nat.beq g1 105 && ctsEq g2 ([.int .i64]) && Nat.beq g3 0 && ctsEq g4 ([.int .i64]) && Nat.beq g5 0 then some (q112 a0 a1_0 a1_1, AV.int .i64 (v112_0 a0 a1_0 a1_1)) else none
  | _ => none
theorem k112 : Known Tryd.prog 112 := ⟨Tryd.f112, Tryd.func112, by kernel_rfl, by kernel_rfl⟩
theorem meets112 : Meets Tryd.prog 112 m112 := by
  refine meet (f := Tryd.f112) (l := [(0, sub [1, 0, 1, 0, 0] (body Tryd.f112))]) (hs := [(112, 0, [0, 1, 7, 8]), (112, 999, [4]), (112, 1000, []), (112, 1001, [0, 1, 7, 8])]) (ts := [(105, m105)]) (ws := []) (is := []) (ls := [(112, 0, l112_0)]) (lvl := 0) mixed k112 Tryd.func112 (by kernel_rfl) (loops_cons ok112_0 noLoop) (allT_cons meets105 allT_nil) allM_nil noI fun w xs us r hl hv h => ?_
  unfold m112 at h
  split at h
  · rename_i g0 a0 g1 g2 a1_0 g3 g4 a1_1 g5
    obtain ⟨hg, h⟩ := bif_pair h
    simp only [Bool.and_eq_true] at hg
    obtain ⟨⟨⟨⟨⟨q0, q1⟩, q2⟩, q3⟩, q4⟩, q5⟩ := hg
    obtain rfl := ctsEq_eq _ _ q0
    obtain rfl := Nat.eq_of_beq_eq_true q1
    obtain rfl := ctsEq_eq _ _ q2
    obtain rfl := Nat.eq_of_beq_eq_true q3
    obtain rfl := ctsEq_eq _ _ q4
    obtain rfl := Nat.eq_of_beq_eq_true q5
    obtain ⟨h1, rfl⟩ := pair_inj h
    exact r112 a0 a1_0 a1_1 h1
  · cases h

/-! ### 104 slices.ContainsFunc[[]int,int] -/
noncomputable def c104 : Cfg := cfg Tryd.prog [(104, 999, [4])] [(112, m112)] [] [] []
def q104 (a0 : List AV) (a1_0 : AV) (a1_1 : AV) : Bool := q112 a0 a1_0 a1_1
def v104_0 (a0 : List AV) (a1_0 : AV) (a1_1 : AV) : Bool := decide ((v112_0 a0 a1_0 a1_1) ≥ 0)
theorem e104 (a0 : List AV) (a1_0 : AV) (a1_1 : AV) : funA c104 0 104 [AV.sl [.int .i64] a0, AV.fn 105 [AV.rptr [.int .i64] a1_0 0, AV.rptr [.int .i64] a1_1 0]] = (bif q112 a0 a1_0 a1_1 then some (AV.bool (decide ((v112_0 a0 a1_0 a1_1) ≥ 0)))
  else none) := by kernel_rfl
theorem r104 (a0 : List AV) (a1_0 : AV) (a1_1 : AV) (h : q104 a0 a1_0 a1_1 = true) : funA c104 0 104 [AV.sl [.int .i64] a0, AV.fn 105 [AV.rptr [.int .i64] a1_0 0, AV.rptr [.int .i64] a1_1 0]] = some (AV.bool (v104_0 a0 a1_0 a1_1)) := (e104 a0 a1_0 a1_1).trans ((brL1 (fun _ => rfl)) h)
def m104 : TModel
  | [.sl g0 a0, .fn g1 [.rptr g2 a1_0 g3, .rptr g4 a1_1 g5]] => bif ctsEq g0 ([.int .i64]) && Nat.beq g1 105 && ctsEq g2 ([.int .i64]) && Nat.beq g3 0 && ctsEq g4 ([.int .i64]) && Nat.beq g5 0 then some (q104 a0 a1_0 a1_1, AV.bool (v104_0 a0 a1_0 a1_1)) else none
  | _ => none
theorem k104 : Known Tryd.prog 104 := ⟨Tryd.f104, Tryd.func104, by kernel_rfl, by kernel_rfl⟩
theorem meets104 : Meets Tryd.prog 104 m104 := by
  refine meet (f := Tryd.f104) (l := []) (hs := [(104, 999, [4])]) (ts := [(112, m112)]) (ws := []) (is := []) (ls := []) (lvl := 0) mixed k104 Tryd.func104 (by kernel_rfl) noLoop (allT_cons meets112 allT_nil) allM_nil noI fun w xs us r hl hv h => ?_
  unfold m104 at h
  split at h
  · rename_i g0 a0 g1 g2 a1_0 g3 g4 a1_1 g5
    obtain ⟨hg, h⟩ := bif_pair h
    simp only [Bool.and_eq_true] at hg
    obtain ⟨⟨⟨⟨⟨q0, q1⟩, q2⟩, q3⟩, q4⟩, q5⟩ := hg
    obtain rfl := ctsEq_eq _ _ q0
    obtain rfl := Nat.eq_of_beq_eq_true q1
    obtain rfl := ctsEq_eq _ _ q2
    obtain rfl := Nat.eq_of_beq_eq_true q3
    obtain rfl := ctsEq_eq _ _ q4
    obtain rfl := Nat.eq_of_beq_eq_true q5
    obtain ⟨h1, rfl⟩ := pair_inj h
    exact r104 a0 a1_0 a1_1 h1
  · cases h

/-! ### 91 loop.example/g01984/impl.within -/
noncomputable def c91 : Cfg := cfg Tryd.prog [(91, 999, [6])] [(104, m104)] [] [] []
def q91 (a0 : List AV) (a1 : Int) (a2 : Int) : Bool := q104 a0 (AV.int .i64 a1) (AV.int .i64 a2)
def v91_0 (a0 : List AV) (a1 : Int) (a2 : Int) : Bool := !(v104_0 a0 (AV.int .i64 a1) (AV.int .i64 a2))
theorem e91 (a0 : List AV) (a1 : Int) (a2 : Int) : funA c91 0 91 [AV.sl [.int .i64] a0, AV.int .i64 a1, AV.int .i64 a2] = (bif q104 a0 (AV.int .i64 a1) (AV.int .i64 a2) then some (AV.bool (!(v104_0 a0 (AV.int .i64 a1) (AV.int .i64 a2))))
  else none) := by kernel_rfl
theorem r91 (a0 : List AV) (a1 : Int) (a2 : Int) (h : q91 a0 a1 a2 = true) : funA c91 0 91 [AV.sl [.int .i64] a0, AV.int .i64 a1, AV.int .i64 a2] = some (AV.bool (v91_0 a0 a1 a2)) := (e91 a0 a1 a2).trans ((brL1 (fun _ => rfl)) h)
def m91 : TModel
  | [.sl g0 a0, .int .i64 a1, .int .i64 a2] => bif ctsEq g0 ([.int .i64]) then some (q91 a0 a1 a2, AV.bool (v91_0 a0 a1 a2)) else none
  | _ => none
theorem k91 : Known Tryd.prog 91 := ⟨Tryd.f91, Tryd.func91, by kernel_rfl, by kernel_rfl⟩
theorem meets91 : Meets Tryd.prog 91 m91 := by
  refine meet (f := Tryd.f91) (l := []) (hs := [(91, 999, [6])]) (ts := [(104, m104)]) (ws := []) (is := []) (ls := []) (lvl := 0) mixed k91 Tryd.func91 (by kernel_rfl) noLoop (allT_cons meets104 allT_nil) allM_nil noI fun w xs us r hl hv h => ?_
  unfold m91 at h
  split at h
  · rename_i g0 a0 a1 a2
    obtain ⟨hg, h⟩ := bif_pair h
    have q0 := hg
    obtain rfl := ctsEq_eq _ _ q0
    obtain ⟨h1, rfl⟩ := pair_inj h
    exact r91 a0 a1 a2 h1
  · cases h

/-! ### 90 loop.example/g01984/impl.AreValues -/
noncomputable def c90 : Cfg := cfg Tryd.prog [(90, 999, [2])] [(91, m91)] [] [] []
def q90 (a0 : List AV) : Bool := (bif decide ((a0.length : Int) ≤ 64) then q91 a0 (-999) 999 else true)
def v90_0 (a0 : List AV) : Bool := (bif decide ((a0.length : Int) ≤ 64) then (v91_0 a0 (-999) 999) else false)
theorem e90 (a0 : List AV) : funA c90 0 90 [AV.sl [.int .i64] a0] = (bif decide ((a0.length : Int) ≤ 64) then (bif q91 a0 (-999) 999 then some (AV.bool (v91_0 a0 (-999) 999))
  else none)
  else some (AV.bool false)) := by kernel_rfl
theorem r90 (a0 : List AV) (h : q90 a0 = true) : funA c90 0 90 [AV.sl [.int .i64] a0] = some (AV.bool (v90_0 a0)) := (e90 a0).trans ((br (fun b => some (AV.bool (bif b then (v91_0 a0 (-999) 999) else false))) (brL1 (fun _ => rfl)) (fun _ => rfl)) h)
def m90 : TModel
  | [.sl g0 a0] => bif ctsEq g0 ([.int .i64]) then some (q90 a0, AV.bool (v90_0 a0)) else none
  | _ => none
theorem k90 : Known Tryd.prog 90 := ⟨Tryd.f90, Tryd.func90, by kernel_rfl, by kernel_rfl⟩
theorem meets90 : Meets Tryd.prog 90 m90 := by
  refine meet (f := Tryd.f90) (l := []) (hs := [(90, 999, [2])]) (ts := [(91, m91)]) (ws := []) (is := []) (ls := []) (lvl := 0) mixed k90 Tryd.func90 (by kernel_rfl) noLoop (allT_cons meets91 allT_nil) allM_nil noI fun w xs us r hl hv h => ?_
  unfold m90 at h
  split at h
  · rename_i g0 a0
    obtain ⟨hg, h⟩ := bif_pair h
    have q0 := hg
    obtain rfl := ctsEq_eq _ _ q0
    obtain ⟨h1, rfl⟩ := pair_inj h
    exact r90 a0 h1
  · cases h

/-! ### 106 slices.Index[[]int,int] -/
def F106_0 (t0 : List AV) (t1 : Int) (t7 : Int) (t8 : Int) : Out (Int) (Unit ⊕ Int) := (bif decide (t8 < t7) then (bif (decide (0 ≤ t8) && decide (t8 < (t0.length : Int))) then (bif decide (t1 = fI (t0.getD t8.toNat AV.undef) 0) then .stop (.inr t8)
  else .next (IntKind.i64.wrap (t8 + 1)))
  else .fail)
  else .stop (.inl ()))
def R106_0 (t0 : List AV) (t1 : Int) (t7 : Int) : (Int) → Out (Int) (Unit ⊕ Int) := fun s : Int => F106_0 t0 t1 t7 s
def l106_0 : LModel := fun _ _ st k => match st with
  | ⟨[(0, .sl g0 t0), (1, .int .i64 t1), (7, .int .i64 t7), (8, .int .i64 t8)], []⟩ => bif ctsEq g0 ([.int .i64]) then ro (runW (R106_0 t0 t1 t7) ((t7 - t8).toNat + 1) t8) none (sumE (fun _ : Unit => k (.exit 0) ⟨[], []⟩) (fun p : Int => k .ret ⟨[(4, AV.int .i64 p)], []⟩)) else none
  | _ => none
noncomputable def c106 : Cfg := cfg Tryd.prog [(106, 0, [0, 1, 7, 8]), (106, 999, [4]), (106, 1000, []), (106, 1001, [0, 1, 7, 8])] [] [] [] [(106, 0, l106_0)]
theorem s106_0 (ce : CallE) (t0 : List AV) (t1 : Int) (t7 : Int) (t8 : Int) (next : St → Option AV) (k : Kont) : stepA (codeA c106 ce [] 106 0 (sub [1, 0, 1, 0, 0] (body Tryd.f106))) (normA [] [0, 1, 7, 8]) next ⟨[(0, AV.sl [.int .i64] t0), (1, AV.int .i64 t1), (7, AV.int .i64 t7), (8, AV.int .i64 t8)], []⟩ k = (bif decide (t8 < t7) then (bif (decide (0 ≤ t8) && decide (t8 < (t0.length : Int))) then (bif decide (t1 = fI (t0.getD t8.toNat AV.undef) 0) then k .ret ⟨[(4, AV.int .i64 t8)], []⟩
  else next ⟨[(0, AV.sl [.int .i64] t0), (1, AV.int .i64 t1), (7, AV.int .i64 t7), (8, AV.int .i64 (IntKind.i64.wrap (t8 + 1)))], []⟩)
  else none)
  else k (.exit 0) ⟨[], []⟩) := by kernel_rfl
theorem st106_0 (t0 : List AV) (t1 : Int) (t7 : Int) (ce : CallE) (k : Kont) (s : Int) (next : St → Option AV) : stepA (codeA c106 ce [] 106 0 (sub [1, 0, 1, 0, 0] (body Tryd.f106))) (normA [] [0, 1, 7, 8]) next ((fun s : Int => ⟨[(0, AV.sl [.int .i64] t0), (1, AV.int .i64 t1), (7, AV.int .i64 t7), (8, AV.int .i64 s)], []⟩) s) k = (R106_0 t0 t1 t7 s).el none (fun s => next ((fun s : Int => ⟨[(0, AV.sl [.int .i64] t0), (1, AV.int .i64 t1), (7, AV.int .i64 t7), (8, AV.int .i64 s)], []⟩) s)) (sumE (fun _ : Unit => k (.exit 0) ⟨[], []⟩) (fun p : Int => k .ret ⟨[(4, AV.int .i64 p)], []⟩)) := (s106_0 ce t0 t1 t7 s next k).trans (by unfold R106_0; unfold F106_0; simp only [el_cond, el_ro, el_sum, el_fail, el_next, el_stop] <;> rfl)
theorem ok106_0 {ce : CallE} : LoopOK c106 ce [] 106 0 (sub [1, 0, 1, 0, 0] (body Tryd.f106)) := by
  intro m hm st k r h
  obtain rfl : l106_0 = m := Option.some.inj hm
  unfold l106_0 at h
  split at h
  · rename_i g0 t0 t1 t7 t8
    obtain ⟨hg, h⟩ := bif_some h
    have q0 := hg
    obtain rfl := ctsEq_eq _ _ q0
    refine ⟨((t7 - t8).toNat + 1), ?_⟩
    rw [← h]
    exact loop_run (fun s : Int => ⟨[(0, AV.sl [.int .i64] t0), (1, AV.int .i64 t1), (7, AV.int .i64 t7), (8, AV.int .i64 s)], []⟩) (sumE (fun _ : Unit => k (.exit 0) ⟨[], []⟩) (fun p : Int => k .ret ⟨[(4, AV.int .i64 p)], []⟩)) (st106_0 t0 t1 t7 ce k) _ t8
  · cases h
def q106 (a0 : List AV) (a1 : Int) : Bool := (ro (runW (R106_0 a0 a1 (a0.length : Int)) (((a0.length : Int) - 0).toNat + 1) 0) false (sumE (fun _ => true) (fun p21 => true)))
def v106_0 (a0 : List AV) (a1 : Int) : Int := (ro (runW (R106_0 a0 a1 (a0.length : Int)) (((a0.length : Int) - 0).toNat + 1) 0) 0 (sumE (fun _ => (-1)) (fun p21 => p21)))
theorem e106 (a0 : List AV) (a1 : Int) : funA c106 0 106 [AV.sl [.int .i64] a0, AV.int .i64 a1] = (ro (runW (R106_0 a0 a1 (a0.length : Int)) (((a0.length : Int) - 0).toNat + 1) 0) none (sumE (fun _ => some (AV.int .i64 (-1))) (fun p21 => some (AV.int .i64 p21)))) := by kernel_rfl
theorem r106 (a0 : List AV) (a1 : Int) (h : q106 a0 a1 = true) : funA c106 0 106 [AV.sl [.int .i64] a0, AV.int .i64 a1] = some (AV.int .i64 (v106_0 a0 a1)) := (e106 a0 a1).trans ((brO (fun o : Option (Unit ⊕ Int) => some (AV.int .i64 (ro o 0 (sumE (fun _ => (-1)) (fun p21 => p21))))) (brS (fun o : Unit ⊕ Int => some (AV.int .i64 ((sumE (fun _ => (-1)) (fun p21 => p21)) o))) (fun _ => (fun _ => rfl)) (fun p21 => (fun _ => rfl)))) h)
def m106 : TModel
  | [.sl g0 a0, .int .i64 a1] => bif ctsEq g0 ([.int .i64]) then some (q106 a0 a1, AV.int .i64 (v106_0 a0 a1)) else none
  | _ => none
theorem k106 : Known Tryd.prog 106 := ⟨Tryd.f106, Tryd.func106, by kernel_rfl, by kernel_rfl⟩
theorem meets106 : Meets Tryd.prog 106 m106 := by
  refine meet (f := Tryd.f106) (l := [(0, sub [1, 0, 1, 0, 0] (body Tryd.f106))]) (hs := [(106, 0, [0, 1, 7, 8]), (106, 999, [4]), (106, 1000, []), (106, 1001, [0, 1, 7, 8])]) (ts := []) (ws := []) (is := []) (ls := [(106, 0, l106_0)]) (lvl := 0) mixed k106 Tryd.func106 (by kernel_rfl) (loops_cons ok106_0 noLoop) allT_nil allM_nil noI fun w xs us r hl hv h => ?_
  unfold m106 at h
  split at h
  · rename_i g0 a0 a1
    obtain ⟨hg, h⟩ := bif_pair h
    have q0 := hg
    obtain rfl := ctsEq_eq _ _ q0
    obtain ⟨h1, rfl⟩ := pair_inj h
    exact r106 a0 a1 h1
  · cases h

/-! ### 92 slices.Contains[[]int,int] -/
noncomputable def c92 : Cfg := cfg Tryd.prog [(92, 999, [4])] [(106, m106)] [] [] []
def q92 (a0 : List AV) (a1 : Int) : Bool := q106 a0 a1
def v92_0 (a0 : List AV) (a1 : Int) : Bool := decide ((v106_0 a0 a1) ≥ 0)
theorem e92 (a0 : List AV) (a1 : Int) : funA c92 0 92 [AV.sl [.int .i64] a0, AV.int .i64 a1] = (bif q106 a0 a1 then some (AV.bool (decide ((v106_0 a0 a1) ≥ 0)))
  else none) := by kernel_rfl
theorem r92 (a0 : List AV) (a1 : Int) (h : q92 a0 a1 = true) : funA c92 0 92 [AV.sl [.int .i64] a0, AV.int .i64 a1] = some (AV.bool (v92_0 a0 a1)) := (e92 a0 a1).trans ((brL1 (fun _ => rfl)) h)
def m92 : TModel
  | [.sl g0 a0, .int .i64 a1] => bif ctsEq g0 ([.int .i64]) then some (q92 a0 a1, AV.bool (v92_0 a0 a1)) else none
  | _ => none
theorem k92 : Known Tryd.prog 92 := ⟨Tryd.f92, Tryd.func92, by kernel_rfl, by kernel_rfl⟩
theorem meets92 : Meets Tryd.prog 92 m92 := by
  refine meet (f := Tryd.f92) (l := []) (hs := [(92, 999, [4])]) (ts := [(106, m106)]) (ws := []) (is := []) (ls := []) (lvl := 0) mixed k92 Tryd.func92 (by kernel_rfl) noLoop (allT_cons meets106 allT_nil) allM_nil noI fun w xs us r hl hv h => ?_
  unfold m92 at h
  split at h
  · rename_i g0 a0 a1
    obtain ⟨hg, h⟩ := bif_pair h
    have q0 := hg
    obtain rfl := ctsEq_eq _ _ q0
    obtain ⟨h1, rfl⟩ := pair_inj h
    exact r92 a0 a1 h1
  · cases h

/-! ### 45 loop.example/g01984/impl.bound -/
noncomputable def c45 : Cfg := cfg Tryd.prog [(45, 999, [2])] [] [] [] []
def q45 (a0 : Int) : Bool := true
def v45_0 (a0 : Int) : Bool := (bif decide (a0 ≥ (-1000)) then decide (a0 ≤ 1000) else false)
theorem e45 (a0 : Int) : funA c45 0 45 [AV.int .i64 a0] = (bif decide (a0 ≥ (-1000)) then some (AV.bool (decide (a0 ≤ 1000)))
  else some (AV.bool false)) := by kernel_rfl
theorem r45 (a0 : Int) : funA c45 0 45 [AV.int .i64 a0] = some (AV.bool (v45_0 a0)) := (e45 a0).trans (of_tt (brT (fun b => some (AV.bool (bif b then decide (a0 ≤ 1000) else false))) (fun _ => rfl) (fun _ => rfl)))
def m45 : TModel
  | [.int .i64 a0] => some (true, AV.bool (v45_0 a0))
  | _ => none
theorem k45 : Known Tryd.prog 45 := ⟨Tryd.f45, Tryd.func45, by kernel_rfl, by kernel_rfl⟩
theorem meets45 : Meets Tryd.prog 45 m45 := by
  refine meet (f := Tryd.f45) (l := []) (hs := [(45, 999, [2])]) (ts := []) (ws := []) (is := []) (ls := []) (lvl := 0) mixed k45 Tryd.func45 (by kernel_rfl) noLoop allT_nil allM_nil noI fun w xs us r hl hv h => ?_
  unfold m45 at h
  split at h
  · rename_i a0
    obtain ⟨h1, rfl⟩ := pair_inj h
    exact r45 a0
  · cases h

/-! ### 66 loop.example/g01984/impl.IsCracker -/
def F66_4 (t50 : List AV) (t51 : Int) (t52 : Int) (t103 : List AV) (t104 : Int) (h0_0 : List AV) (h0_1 : List AV) (h0_2 : List AV) (h1_0 : Int) (h1_1 : Int) (t105 : Int) : Out (Int) (Unit ⊕ Unit) := (bif decide (t105 < t104) then (bif (decide (0 ≤ t105) && decide (t105 < (t103.length : Int))) then (bif !(decide (fI (t103.getD t105.toNat AV.undef) 0 < h1_0) == decide (t105 < h1_1)) then .stop (.inr ())
  else .next (IntKind.i64.wrap (t105 + 1)))
  else .fail)
  else .stop (.inl ()))
def R66_4 (t50 : List AV) (t51 : Int) (t52 : Int) (t103 : List AV) (t104 : Int) (h0_0 : List AV) (h0_1 : List AV) (h0_2 : List AV) (h1_0 : Int) (h1_1 : Int) : (Int) → Out (Int) (Unit ⊕ Unit) := fun s : Int => F66_4 t50 t51 t52 t103 t104 h0_0 h0_1 h0_2 h1_0 h1_1 s
def l66_4 : LModel := fun _ _ st k => match st with
  | ⟨[(1, .ptr g0 g1 g2), (6, .ptr g3 g4 g5), (50, .sl g6 t50), (51, .int .i64 t51), (52, .int .i64 t52), (103, .sl g7 t103), (104, .int .i64 t104), (105, .int .i64 t105)], [(g8, ⟨true, [], [.agg [.sl g9 h0_0, .sl g10 h0_1, .sl g11 h0_2]]⟩), (g12, ⟨true, [], [.agg [.int .i64 h1_0, .int .i64 h1_1]]⟩)]⟩ => bif nmEq g0 ([0, 1]) && Nat.beq g1 0 && Nat.beq g2 0 && nmEq g3 ([0, 6]) && Nat.beq g4 0 && Nat.beq g5 0 && ctsEq g6 ([.int .i64, .int .i64]) && ctsEq g7 ([.int .i64]) && nmEq g8 ([0, 1]) && ctsEq g9 ([.int .i64]) && ctsEq g10 ([.int .i64]) && ctsEq g11 ([.int .i64, .int .i64]) && nmEq g12 ([0, 6]) then ro (runW (R66_4 t50 t51 t52 t103 t104 h0_0 h0_1 h0_2 h1_0 h1_1) ((t104 - t105).toNat + 1) t105) none (sumE (fun _ : Unit => k (.exit 4) ⟨[(1, AV.ptr [0, 1] 0 0), (50, AV.sl [.int .i64, .int .i64] t50), (51, AV.int .i64 t51), (52, AV.int .i64 t52)], [([0, 1], ⟨true, [], [AV.agg [AV.sl [.int .i64] h0_0, AV.sl [.int .i64] h0_1, AV.sl [.int .i64, .int .i64] h0_2]]⟩), ([0, 6], ⟨true, [], [AV.agg [AV.int .i64 h1_0, AV.int .i64 h1_1]]⟩)]⟩) (fun _ : Unit => k .ret ⟨[(2, AV.bool false)], [([0, 1], ⟨true, [], [AV.agg [AV.sl [.int .i64] h0_0, AV.sl [.int .i64] h0_1, AV.sl [.int .i64, .int .i64] h0_2]]⟩), ([0, 6], ⟨true, [], [AV.agg [AV.int .i64 h1_0, AV.int .i64 h1_1]]⟩)]⟩)) else none
  | _ => none
def F66_2 (t50 : List AV) (t51 : Int) (h0_0 : List AV) (h0_1 : List AV) (h0_2 : List AV) (t52 : Int) : Out (Int) (Unit ⊕ (Int × Int) ⊕ (Int × Int)) := (bif decide (t52 < t51) then (bif (decide (0 ≤ t52) && decide (t52 < (t50.length : Int))) then (bif !(v45_0 (fI (t50.getD t52.toNat AV.undef) 0)) then .stop (.inr (.inl (fI (t50.getD t52.toNat AV.undef) 0, fI (t50.getD t52.toNat AV.undef) 1)))
  else (bif decide (fI (t50.getD t52.toNat AV.undef) 1 < 0) then .stop (.inr (.inl (fI (t50.getD t52.toNat AV.undef) 0, fI (t50.getD t52.toNat AV.undef) 1)))
  else (bif decide (fI (t50.getD t52.toNat AV.undef) 1 > (h0_0.length : Int)) then .stop (.inr (.inl (fI (t50.getD t52.toNat AV.undef) 0, fI (t50.getD t52.toNat AV.undef) 1)))
  else (bif decide (t52 > 0) then (bif (decide (0 ≤ IntKind.i64.wrap (t52 - 1)) && decide (IntKind.i64.wrap (t52 - 1) < (h0_2.length : Int))) then (bif decide (fI (t50.getD t52.toNat AV.undef) 0 ≤ fI (h0_2.getD (IntKind.i64.wrap (t52 - 1)).toNat AV.undef) 0) then .stop (.inr (.inl (fI (t50.getD t52.toNat AV.undef) 0, fI (t50.getD t52.toNat AV.undef) 1)))
  else (bif (decide (0 ≤ IntKind.i64.wrap (t52 - 1)) && decide (IntKind.i64.wrap (t52 - 1) < (h0_2.length : Int))) then (bif decide (fI (t50.getD t52.toNat AV.undef) 1 < fI (h0_2.getD (IntKind.i64.wrap (t52 - 1)).toNat AV.undef) 1) then .stop (.inr (.inl (fI (t50.getD t52.toNat AV.undef) 0, fI (t50.getD t52.toNat AV.undef) 1)))
  else (ro (runW (R66_4 t50 t51 t52 h0_0 (h0_0.length : Int) h0_0 h0_1 h0_2 (fI (t50.getD t52.toNat AV.undef) 0) (fI (t50.getD t52.toNat AV.undef) 1)) (((h0_0.length : Int) - 0).toNat + 1) 0) .fail (sumE (fun _ => .next (IntKind.i64.wrap (t52 + 1))) (fun _ => .stop (.inr (.inr (fI (t50.getD t52.toNat AV.undef) 0, fI (t50.getD t52.toNat AV.undef) 1)))))))
  else .fail))
  else .fail)
  else (ro (runW (R66_4 t50 t51 t52 h0_0 (h0_0.length : Int) h0_0 h0_1 h0_2 (fI (t50.getD t52.toNat AV.undef) 0) (fI (t50.getD t52.toNat AV.undef) 1)) (((h0_0.length : Int) - 0).toNat + 1) 0) .fail (sumE (fun _ => .next (IntKind.i64.wrap (t52 + 1))) (fun _ => .stop (.inr (.inr (fI (t50.getD t52.toNat AV.undef) 0, fI (t50.getD t52.toNat AV.undef) 1))))))))))
  else .fail)
  else .stop (.inl ()))
def R66_2 (t50 : List AV) (t51 : Int) (h0_0 : List AV) (h0_1 : List AV) (h0_2 : List AV) : (Int) → Out (Int) (Unit ⊕ (Int × Int) ⊕ (Int × Int)) := fun s : Int => F66_2 t50 t51 h0_0 h0_1 h0_2 s
def l66_2 : LModel := fun _ _ st k => match st with
  | ⟨[(1, .ptr g0 g1 g2), (50, .sl g3 t50), (51, .int .i64 t51), (52, .int .i64 t52)], [(g4, ⟨true, [], [.agg [.sl g5 h0_0, .sl g6 h0_1, .sl g7 h0_2]]⟩)]⟩ => bif nmEq g0 ([0, 1]) && Nat.beq g1 0 && Nat.beq g2 0 && ctsEq g3 ([.int .i64, .int .i64]) && nmEq g4 ([0, 1]) && ctsEq g5 ([.int .i64]) && ctsEq g6 ([.int .i64]) && ctsEq g7 ([.int .i64, .int .i64]) then ro (runW (R66_2 t50 t51 h0_0 h0_1 h0_2) ((t51 - t52).toNat + 1) t52) none (sumE (fun _ : Unit => k (.exit 2) ⟨[], [([0, 1], ⟨true, [], [AV.agg [AV.sl [.int .i64] h0_0, AV.sl [.int .i64] h0_1, AV.sl [.int .i64, .int .i64] h0_2]]⟩)]⟩) (sumE (fun p : Int × Int => k .ret ⟨[(2, AV.bool false)], [([0, 1], ⟨true, [], [AV.agg [AV.sl [.int .i64] h0_0, AV.sl [.int .i64] h0_1, AV.sl [.int .i64, .int .i64] h0_2]]⟩), ([1, 6], ⟨true, [], [AV.agg [AV.int .i64 p.1, AV.int .i64 p.2]]⟩)]⟩) (fun p : Int × Int => k .ret ⟨[(2, AV.bool false)], [([0, 1], ⟨true, [], [AV.agg [AV.sl [.int .i64] h0_0, AV.sl [.int .i64] h0_1, AV.sl [.int .i64, .int .i64] h0_2]]⟩), ([0, 6], ⟨true, [], [AV.agg [AV.int .i64 p.1, AV.int .i64 p.2]]⟩)]⟩))) else none
  | _ => none
def F66_0 (t35 : List AV) (t36 : Int) (h0_0 : List AV) (h0_1 : List AV) (h0_2 : List AV) (t37 : Int) : Out (Int) (Unit ⊕ Unit) := (bif decide (t37 < t36) then (bif (decide (0 ≤ t37) && decide (t37 < (t35.length : Int))) then (bif (decide (0 ≤ 0) && decide (0 ≤ t37) && decide (t37 ≤ (h0_1.length : Int))) then (bif q92 ((h0_1.take (Int.toNat t37)).drop (Int.toNat 0)) (fI (t35.getD t37.toNat AV.undef) 0) then (bif (v92_0 ((h0_1.take (Int.toNat t37)).drop (Int.toNat 0)) (fI (t35.getD t37.toNat AV.undef) 0)) then .stop (.inr ())
  else .next (IntKind.i64.wrap (t37 + 1)))
  else .fail)
  else .fail)
  else .fail)
  else .stop (.inl ()))
def R66_0 (t35 : List AV) (t36 : Int) (h0_0 : List AV) (h0_1 : List AV) (h0_2 : List AV) : (Int) → Out (Int) (Unit ⊕ Unit) := fun s : Int => F66_0 t35 t36 h0_0 h0_1 h0_2 s
def l66_0 : LModel := fun _ _ st k => match st with
  | ⟨[(1, .ptr g0 g1 g2), (35, .sl g3 t35), (36, .int .i64 t36), (37, .int .i64 t37)], [(g4, ⟨true, [], [.agg [.sl g5 h0_0, .sl g6 h0_1, .sl g7 h0_2]]⟩)]⟩ => bif nmEq g0 ([0, 1]) && Nat.beq g1 0 && Nat.beq g2 0 && ctsEq g3 ([.int .i64]) && nmEq g4 ([0, 1]) && ctsEq g5 ([.int .i64]) && ctsEq g6 ([.int .i64]) && ctsEq g7 ([.int .i64, .int .i64]) then ro (runW (R66_0 t35 t36 h0_0 h0_1 h0_2) ((t36 - t37).toNat + 1) t37) none (sumE (fun _ : Unit => k (.exit 0) ⟨[(1, AV.ptr [0, 1] 0 0)], [([0, 1], ⟨true, [], [AV.agg [AV.sl [.int .i64] h0_0, AV.sl [.int .i64] h0_1, AV.sl [.int .i64, .int .i64] h0_2]]⟩)]⟩) (fun _ : Unit => k .ret ⟨[(2, AV.bool false)], [([0, 1], ⟨true, [], [AV.agg [AV.sl [.int .i64] h0_0, AV.sl [.int .i64] h0_1, AV.sl [.int .i64, .int .i64] h0_2]]⟩)]⟩)) else none
  | _ => none
noncomputable def c66 : Cfg := cfg Tryd.prog [(66, 0, [1, 35, 36, 37]), (66, 2, [1, 50, 51, 52]), (66, 4, [1, 6, 50, 51, 52, 103, 104, 105]), (66, 999, [2]), (66, 1000, [1]), (66, 1001, [1, 35, 36, 37]), (66, 1002, []), (66, 1003, [1, 50, 51, 52]), (66, 1004, [1, 50, 51, 52]), (66, 1005, [1, 6, 50, 51, 52, 103, 104, 105])] [(45, m45), (90, m90), (91, m91), (92, m92)] [] [] [(66, 0, l66_0), (66, 2, l66_2), (66, 4, l66_4)]
theorem s66_4 (ce : CallE) (t50 : List AV) (t51 : Int) (t52 : Int) (t103 : List AV) (t104 : Int) (t105 : Int) (h0_0 : List AV) (h0_1 : List AV) (h0_2 : List AV) (h1_0 : Int) (h1_1 : Int) (next : St → Option AV) (k : Kont) : stepA (codeA c66 ce [] 66 4 (sub [1, 1, 1, 0, 1, 0, 0, 1, 1, 0, 0, 1, 1, 1, 0, 0] (body Tryd.f66))) (normA [] [1, 6, 50, 51, 52, 103, 104, 105]) next ⟨[(1, AV.ptr [0, 1] 0 0), (6, AV.ptr [0, 6] 0 0), (50, AV.sl [.int .i64, .int .i64] t50), (51, AV.int .i64 t51), (52, AV.int .i64 t52), (103, AV.sl [.int .i64] t103), (104, AV.int .i64 t104), (105, AV.int .i64 t105)], [([0, 1], ⟨true, [], [AV.agg [AV.sl [.int .i64] h0_0, AV.sl [.int .i64] h0_1, AV.sl [.int .i64, .int .i64] h0_2]]⟩), ([0, 6], ⟨true, [], [AV.agg [AV.int .i64 h1_0, AV.int .i64 h1_1]]⟩)]⟩ k = (bif decide (t105 < t104) then (bif (decide (0 ≤ t105) && decide (t105 < (t103.length : Int))) then (bif !(decide (fI (t103.getD t105.toNat AV.undef) 0 < h1_0) == decide (t105 < h1_1)) then k .ret ⟨[(2, AV.bool false)], [([0, 1], ⟨true, [], [AV.agg [AV.sl [.int .i64] h0_0, AV.sl [.int .i64] h0_1, AV.sl [.int .i64, .int .i64] h0_2]]⟩), ([0, 6], ⟨true, [], [AV.agg [AV.int .i64 h1_0, AV.int .i64 h1_1]]⟩)]⟩
  else next ⟨[(1, AV.ptr [0, 1] 0 0), (6, AV.ptr [0, 6] 0 0), (50, AV.sl [.int .i64, .int .i64] t50), (51, AV.int .i64 t51), (52, AV.int .i64 t52), (103, AV.sl [.int .i64] t103), (104, AV.int .i64 t104), (105, AV.int .i64 (IntKind.i64.wrap (t105 + 1)))], [([0, 1], ⟨true, [], [AV.agg [AV.sl [.int .i64] h0_0, AV.sl [.int .i64] h0_1, AV.sl [.int .i64, .int .i64] h0_2]]⟩), ([0, 6], ⟨true, [], [AV.agg [AV.int .i64 h1_0, AV.int .i64 h1_1]]⟩)]⟩)
  else none)
  else k (.exit 4) ⟨[(1, AV.ptr [0, 1] 0 0), (50, AV.sl [.int .i64, .int .i64] t50), (51, AV.int .i64 t51), (52, AV.int .i64 t52)], [([0, 1], ⟨true, [], [AV.agg [AV.sl [.int .i64] h0_0, AV.sl [.int .i64] h0_1, AV.sl [.int .i64, .int .i64] h0_2]]⟩), ([0, 6], ⟨true, [], [AV.agg [AV.int .i64 h1_0, AV.int .i64 h1_1]]⟩)]⟩) := by kernel_rfl
theorem st66_4 (t50 : List AV) (t51 : Int) (t52 : Int) (t103 : List AV) (t104 : Int) (h0_0 : List AV) (h0_1 : List AV) (h0_2 : List AV) (h1_0 : Int) (h1_1 : Int) (ce : CallE) (k : Kont) (s : Int) (next : St → Option AV) : stepA (codeA c66 ce [] 66 4 (sub [1, 1, 1, 0, 1, 0, 0, 1, 1, 0, 0, 1, 1, 1, 0, 0] (body Tryd.f66))) (normA [] [1, 6, 50, 51, 52, 103, 104, 105]) next ((fun s : Int => ⟨[(1, AV.ptr [0, 1] 0 0), (6, AV.ptr [0, 6] 0 0), (50, AV.sl [.int .i64, .int .i64] t50), (51, AV.int .i64 t51), (52, AV.int .i64 t52), (103, AV.sl [.int .i64] t103), (104, AV.int .i64 t104), (105, AV.int .i64 s)], [([0, 1], ⟨true, [], [AV.agg [AV.sl [.int .i64] h0_0, AV.sl [.int .i64] h0_1, AV.sl [.int .i64, .int .i64] h0_2]]⟩), ([0, 6], ⟨true, [], [AV.agg [AV.int .i64 h1_0, AV.int .i64 h1_1]]⟩)]⟩) s) k = (R66_4 t50 t51 t52 t103 t104 h0_0 h0_1 h0_2 h1_0 h1_1 s).el none (fun s => next ((fun s : Int => ⟨[(1, AV.ptr [0, 1] 0 0), (6, AV.ptr [0, 6] 0 0), (50, AV.sl [.int .i64, .int .i64] t50), (51, AV.int .i64 t51), (52, AV.int .i64 t52), (103, AV.sl [.int .i64] t103), (104, AV.int .i64 t104), (105, AV.int .i64 s)], [([0, 1], ⟨true, [], [AV.agg [AV.sl [.int .i64] h0_0, AV.sl [.int .i64] h0_1, AV.sl [.int .i64, .int .i64] h0_2]]⟩), ([0, 6], ⟨true, [], [AV.agg [AV.int .i64 h1_0, AV.int .i64 h1_1]]⟩)]⟩) s)) (sumE (fun _ : Unit => k (.exit 4) ⟨[(1, AV.ptr [0, 1] 0 0), (50, AV.sl [.int .i64, .int .i64] t50), (51, AV.int .i64 t51), (52, AV.int .i64 t52)], [([0, 1], ⟨true, [], [AV.agg [AV.sl [.int .i64] h0_0, AV.sl [.int .i64] h0_1, AV.sl [.int .i64, .int .i64] h0_2]]⟩), ([0, 6], ⟨true, [], [AV.agg [AV.int .i64 h1_0, AV.int .i64 h1_1]]⟩)]⟩) (fun _ : Unit => k .ret ⟨[(2, AV.bool false)], [([0, 1], ⟨true, [], [AV.agg [AV.sl [.int .i64] h0_0, AV.sl [.int .i64] h0_1, AV.sl [.int .i64, .int .i64] h0_2]]⟩), ([0, 6], ⟨true, [], [AV.agg [AV.int .i64 h1_0, AV.int .i64 h1_1]]⟩)]⟩)) := (s66_4 ce t50 t51 t52 t103 t104 s h0_0 h0_1 h0_2 h1_0 h1_1 next k).trans (by unfold R66_4; unfold F66_4; simp only [el_cond, el_ro, el_sum, el_fail, el_next, el_stop] <;> rfl)
theorem ok66_4 {ce : CallE} : LoopOK c66 ce [] 66 4 (sub [1, 1, 1, 0, 1, 0, 0, 1, 1, 0, 0, 1, 1, 1, 0, 0] (body Tryd.f66)) := by
  intro m hm st k r h
  obtain rfl : l66_4 = m := Option.some.inj hm
  unfold l66_4 at h
  split at h
  · rename_i g0 g1 g2 g3 g4 g5 g6 t50 t51 t52 g7 t103 t104 t105 g8 g9 h0_0 g10 h0_1 g11 h0_2 g12 h1_0 h1_1
    obtain ⟨hg, h⟩ := bif_some h
    simp only [Bool.and_eq_true] at hg
    obtain ⟨⟨⟨⟨⟨⟨⟨⟨⟨⟨⟨⟨q0, q1⟩, q2⟩, q3⟩, q4⟩, q5⟩, q6⟩, q7⟩, q8⟩, q9⟩, q10⟩, q11⟩, q12⟩ := hg
    obtain rfl := (nmEq_iff _ _).1 q0
    obtain rfl := Nat.eq_of_beq_eq_true q1
    obtain rfl := Nat.eq_of_beq_eq_true q2
    obtain rfl := (nmEq_iff _ _).1 q3
    obtain rfl := Nat.eq_of_beq_eq_true q4
    obtain rfl := Nat.eq_of_beq_eq_true q5
    obtain rfl := ctsEq_eq _ _ q6
    obtain rfl := ctsEq_eq _ _ q7
    obtain rfl := (nmEq_iff _ _).1 q8
    obtain rfl := ctsEq_eq _ _ q9
    obtain rfl := ctsEq_eq _ _ q10
    obtain rfl := ctsEq_eq _ _ q11
    obtain rfl := (nmEq_iff _ _).1 q12
    refine ⟨((t104 - t105).toNat + 1), ?_⟩
    rw [← h]
    exact loop_run (fun s : Int => ⟨[(1, AV.ptr [0, 1] 0 0), (6, AV.ptr [0, 6] 0 0), (50, AV.sl [.int .i64, .int .i64] t50), (51, AV.int .i64 t51), (52, AV.int .i64 t52), (103, AV.sl [.int .i64] t103), (104, AV.int .i64 t104), (105, AV.int .i64 s)], [([0, 1], ⟨true, [], [AV.agg [AV.sl [.int .i64] h0_0, AV.sl [.int .i64] h0_1, AV.sl [.int .i64, .int .i64] h0_2]]⟩), ([0, 6], ⟨true, [], [AV.agg [AV.int .i64 h1_0, AV.int .i64 h1_1]]⟩)]⟩) (sumE (fun _ : Unit => k (.exit 4) ⟨[(1, AV.ptr [0, 1] 0 0), (50, AV.sl [.int .i64, .int .i64] t50), (51, AV.int .i64 t51), (52, AV.int .i64 t52)], [([0, 1], ⟨true, [], [AV.agg [AV.sl [.int .i64] h0_0, AV.sl [.int .i64] h0_1, AV.sl [.int .i64, .int .i64] h0_2]]⟩), ([0, 6], ⟨true, [], [AV.agg [AV.int .i64 h1_0, AV.int .i64 h1_1]]⟩)]⟩) (fun _ : Unit => k .ret ⟨[(2, AV.bool false)], [([0, 1], ⟨true, [], [AV.agg [AV.sl [.int .i64] h0_0, AV.sl [.int .i64] h0_1, AV.sl [.int .i64, .int .i64] h0_2]]⟩), ([0, 6], ⟨true, [], [AV.agg [AV.int .i64 h1_0, AV.int .i64 h1_1]]⟩)]⟩)) (st66_4 t50 t51 t52 t103 t104 h0_0 h0_1 h0_2 h1_0 h1_1 ce k) _ t105
  · cases h
theorem s66_2 (ce : CallE) (t50 : List AV) (t51 : Int) (t52 : Int) (h0_0 : List AV) (h0_1 : List AV) (h0_2 : List AV) (next : St → Option AV) (k : Kont) : stepA (codeA c66 ce [] 66 2 (sub [1, 1, 1, 0, 1, 0, 0] (body Tryd.f66))) (normA [] [1, 50, 51, 52]) next ⟨[(1, AV.ptr [0, 1] 0 0), (50, AV.sl [.int .i64, .int .i64] t50), (51, AV.int .i64 t51), (52, AV.int .i64 t52)], [([0, 1], ⟨true, [], [AV.agg [AV.sl [.int .i64] h0_0, AV.sl [.int .i64] h0_1, AV.sl [.int .i64, .int .i64] h0_2]]⟩)]⟩ k = (bif decide (t52 < t51) then (bif (decide (0 ≤ t52) && decide (t52 < (t50.length : Int))) then (bif !(v45_0 (fI (t50.getD t52.toNat AV.undef) 0)) then k .ret ⟨[(2, AV.bool false)], [([0, 1], ⟨true, [], [AV.agg [AV.sl [.int .i64] h0_0, AV.sl [.int .i64] h0_1, AV.sl [.int .i64, .int .i64] h0_2]]⟩), ([1, 6], ⟨true, [], [AV.agg [AV.int .i64 (fI (t50.getD t52.toNat AV.undef) 0), AV.int .i64 (fI (t50.getD t52.toNat AV.undef) 1)]]⟩)]⟩
  else (bif decide (fI (t50.getD t52.toNat AV.undef) 1 < 0) then k .ret ⟨[(2, AV.bool false)], [([0, 1], ⟨true, [], [AV.agg [AV.sl [.int .i64] h0_0, AV.sl [.int .i64] h0_1, AV.sl [.int .i64, .int .i64] h0_2]]⟩), ([1, 6], ⟨true, [], [AV.agg [AV.int .i64 (fI (t50.getD t52.toNat AV.undef) 0), AV.int .i64 (fI (t50.getD t52.toNat AV.undef) 1)]]⟩)]⟩
  else (bif decide (fI (t50.getD t52.toNat AV.undef) 1 > (h0_0.length : Int)) then k .ret ⟨[(2, AV.bool false)], [([0, 1], ⟨true, [], [AV.agg [AV.sl [.int .i64] h0_0, AV.sl [.int .i64] h0_1, AV.sl [.int .i64, .int .i64] h0_2]]⟩), ([1, 6], ⟨true, [], [AV.agg [AV.int .i64 (fI (t50.getD t52.toNat AV.undef) 0), AV.int .i64 (fI (t50.getD t52.toNat AV.undef) 1)]]⟩)]⟩
  else (bif decide (t52 > 0) then (bif (decide (0 ≤ IntKind.i64.wrap (t52 - 1)) && decide (IntKind.i64.wrap (t52 - 1) < (h0_2.length : Int))) then (bif decide (fI (t50.getD t52.toNat AV.undef) 0 ≤ fI (h0_2.getD (IntKind.i64.wrap (t52 - 1)).toNat AV.undef) 0) then k .ret ⟨[(2, AV.bool false)], [([0, 1], ⟨true, [], [AV.agg [AV.sl [.int .i64] h0_0, AV.sl [.int .i64] h0_1, AV.sl [.int .i64, .int .i64] h0_2]]⟩), ([1, 6], ⟨true, [], [AV.agg [AV.int .i64 (fI (t50.getD t52.toNat AV.undef) 0), AV.int .i64 (fI (t50.getD t52.toNat AV.undef) 1)]]⟩)]⟩
  else (bif (decide (0 ≤ IntKind.i64.wrap (t52 - 1)) && decide (IntKind.i64.wrap (t52 - 1) < (h0_2.length : Int))) then (bif decide (fI (t50.getD t52.toNat AV.undef) 1 < fI (h0_2.getD (IntKind.i64.wrap (t52 - 1)).toNat AV.undef) 1) then k .ret ⟨[(2, AV.bool false)], [([0, 1], ⟨true, [], [AV.agg [AV.sl [.int .i64] h0_0, AV.sl [.int .i64] h0_1, AV.sl [.int .i64, .int .i64] h0_2]]⟩), ([1, 6], ⟨true, [], [AV.agg [AV.int .i64 (fI (t50.getD t52.toNat AV.undef) 0), AV.int .i64 (fI (t50.getD t52.toNat AV.undef) 1)]]⟩)]⟩
  else (ro (runW (R66_4 t50 t51 t52 h0_0 (h0_0.length : Int) h0_0 h0_1 h0_2 (fI (t50.getD t52.toNat AV.undef) 0) (fI (t50.getD t52.toNat AV.undef) 1)) (((h0_0.length : Int) - 0).toNat + 1) 0) none (sumE (fun _ => next ⟨[(1, AV.ptr [0, 1] 0 0), (50, AV.sl [.int .i64, .int .i64] t50), (51, AV.int .i64 t51), (52, AV.int .i64 (IntKind.i64.wrap (t52 + 1)))], [([0, 1], ⟨true, [], [AV.agg [AV.sl [.int .i64] h0_0, AV.sl [.int .i64] h0_1, AV.sl [.int .i64, .int .i64] h0_2]]⟩)]⟩) (fun _ => k .ret ⟨[(2, AV.bool false)], [([0, 1], ⟨true, [], [AV.agg [AV.sl [.int .i64] h0_0, AV.sl [.int .i64] h0_1, AV.sl [.int .i64, .int .i64] h0_2]]⟩), ([0, 6], ⟨true, [], [AV.agg [AV.int .i64 (fI (t50.getD t52.toNat AV.undef) 0), AV.int .i64 (fI (t50.getD t52.toNat AV.undef) 1)]]⟩)]⟩))))
  else none))
  else none)
  else (ro (runW (R66_4 t50 t51 t52 h0_0 (h0_0.length : Int) h0_0 h0_1 h0_2 (fI (t50.getD t52.toNat AV.undef) 0) (fI (t50.getD t52.toNat AV.undef) 1)) (((h0_0.length : Int) - 0).toNat + 1) 0) none (sumE (fun _ => next ⟨[(1, AV.ptr [0, 1] 0 0), (50, AV.sl [.int .i64, .int .i64] t50), (51, AV.int .i64 t51), (52, AV.int .i64 (IntKind.i64.wrap (t52 + 1)))], [([0, 1], ⟨true, [], [AV.agg [AV.sl [.int .i64] h0_0, AV.sl [.int .i64] h0_1, AV.sl [.int .i64, .int .i64] h0_2]]⟩)]⟩) (fun _ => k .ret ⟨[(2, AV.bool false)], [([0, 1], ⟨true, [], [AV.agg [AV.sl [.int .i64] h0_0, AV.sl [.int .i64] h0_1, AV.sl [.int .i64, .int .i64] h0_2]]⟩), ([0, 6], ⟨true, [], [AV.agg [AV.int .i64 (fI (t50.getD t52.toNat AV.undef) 0), AV.int .i64 (fI (t50.getD t52.toNat AV.undef) 1)]]⟩)]⟩)))))))
  else none)
  else k (.exit 2) ⟨[], [([0, 1], ⟨true, [], [AV.agg [AV.sl [.int .i64] h0_0, AV.sl [.int .i64] h0_1, AV.sl [.int .i64, .int .i64] h0_2]]⟩)]⟩) := by kernel_rfl
theorem st66_2 (t50 : List AV) (t51 : Int) (h0_0 : List AV) (h0_1 : List AV) (h0_2 : List AV) (ce : CallE) (k : Kont) (s : Int) (next : St → Option AV) : stepA (codeA c66 ce [] 66 2 (sub [1, 1, 1, 0, 1, 0, 0] (body Tryd.f66))) (normA [] [1, 50, 51, 52]) next ((fun s : Int => ⟨[(1, AV.ptr [0, 1] 0 0), (50, AV.sl [.int .i64, .int .i64] t50), (51, AV.int .i64 t51), (52, AV.int .i64 s)], [([0, 1], ⟨true, [], [AV.agg [AV.sl [.int .i64] h0_0, AV.sl [.int .i64] h0_1, AV.sl [.int .i64, .int .i64] h0_2]]⟩)]⟩) s) k = (R66_2 t50 t51 h0_0 h0_1 h0_2 s).el none (fun s => next ((fun s : Int => ⟨[(1, AV.ptr [0, 1] 0 0), (50, AV.sl [.int .i64, .int .i64] t50), (51, AV.int .i64 t51), (52, AV.int .i64 s)], [([0, 1], ⟨true, [], [AV.agg [AV.sl [.int .i64] h0_0, AV.sl [.int .i64] h0_1, AV.sl [.int .i64, .int .i64] h0_2]]⟩)]⟩) s)) (sumE (fun _ : Unit => k (.exit 2) ⟨[], [([0, 1], ⟨true, [], [AV.agg [AV.sl [.int .i64] h0_0, AV.sl [.int .i64] h0_1, AV.sl [.int .i64, .int .i64] h0_2]]⟩)]⟩) (sumE (fun p : Int × Int => k .ret ⟨[(2, AV.bool false)], [([0, 1], ⟨true, [], [AV.agg [AV.sl [.int .i64] h0_0, AV.sl [.int .i64] h0_1, AV.sl [.int .i64, .int .i64] h0_2]]⟩), ([1, 6], ⟨true, [], [AV.agg [AV.int .i64 p.1, AV.int .i64 p.2]]⟩)]⟩) (fun p : Int × Int => k .ret ⟨[(2, AV.bool false)], [([0, 1], ⟨true, [], [AV.agg [AV.sl [.int .i64] h0_0, AV.sl [.int .i64] h0_1, AV.sl [.int .i64, .int .i64] h0_2]]⟩), ([0, 6], ⟨true, [], [AV.agg [AV.int .i64 p.1, AV.int .i64 p.2]]⟩)]⟩))) := (s66_2 ce t50 t51 s h0_0 h0_1 h0_2 next k).trans (by unfold R66_2; unfold F66_2; simp only [el_cond, el_ro, el_sum, el_fail, el_next, el_stop] <;> rfl)
theorem ok66_2 {ce : CallE} : LoopOK c66 ce [] 66 2 (sub [1, 1, 1, 0, 1, 0, 0] (body Tryd.f66)) := by
  intro m hm st k r h
  obtain rfl : l66_2 = m := Option.some.inj hm
  unfold l66_2 at h
  split at h
  · rename_i g0 g1 g2 g3 t50 t51 t52 g4 g5 h0_0 g6 h0_1 g7 h0_2
    obtain ⟨hg, h⟩ := bif_some h
    simp only [Bool.and_eq_true] at hg
    obtain ⟨⟨⟨⟨⟨⟨⟨q0, q1⟩, q2⟩, q3⟩, q4⟩, q5⟩, q6⟩, q7⟩ := hg
    obtain rfl := (nmEq_iff _ _).1 q0
    obtain rfl := Nat.eq_of_beq_eq_true q1
    obtain rfl := Nat.eq_of_beq_eq_true q2
    obtain rfl := ctsEq_eq _ _ q3
    obtain rfl := (nmEq_iff _ _).1 q4
    obtain rfl := ctsEq_eq _ _ q5
    obtain rfl := ctsEq_eq _ _ q6
    obtain rfl := ctsEq_eq _ _ q7
    refine ⟨((t51 - t52).toNat + 1), ?_⟩
    rw [← h]
    exact loop_run (fun s : Int => ⟨[(1, AV.ptr [0, 1] 0 0), (50, AV.sl [.int .i64, .int .i64] t50), (51, AV.int .i64 t51), (52, AV.int .i64 s)], [([0, 1], ⟨true, [], [AV.agg [AV.sl [.int .i64] h0_0, AV.sl [.int .i64] h0_1, AV.sl [.int .i64, .int .i64] h0_2]]⟩)]⟩) (sumE (fun _ : Unit => k (.exit 2) ⟨[], [([0, 1], ⟨true, [], [AV.agg [AV.sl [.int .i64] h0_0, AV.sl [.int .i64] h0_1, AV.sl [.int .i64, .int .i64] h0_2]]⟩)]⟩) (sumE (fun p : Int × Int => k .ret ⟨[(2, AV.bool false)], [([0, 1], ⟨true, [], [AV.agg [AV.sl [.int .i64] h0_0, AV.sl [.int .i64] h0_1, AV.sl [.int .i64, .int .i64] h0_2]]⟩), ([1, 6], ⟨true, [], [AV.agg [AV.int .i64 p.1, AV.int .i64 p.2]]⟩)]⟩) (fun p : Int × Int => k .ret ⟨[(2, AV.bool false)], [([0, 1], ⟨true, [], [AV.agg [AV.sl [.int .i64] h0_0, AV.sl [.int .i64] h0_1, AV.sl [.int .i64, .int .i64] h0_2]]⟩), ([0, 6], ⟨true, [], [AV.agg [AV.int .i64 p.1, AV.int .i64 p.2]]⟩)]⟩))) (st66_2 t50 t51 h0_0 h0_1 h0_2 ce k) _ t52
  · cases h
theorem s66_0 (ce : CallE) (t35 : List AV) (t36 : Int) (t37 : Int) (h0_0 : List AV) (h0_1 : List AV) (h0_2 : List AV) (next : St → Option AV) (k : Kont) : stepA (codeA c66 ce [] 66 0 (sub [1, 1, 0, 1, 0, 0] (body Tryd.f66))) (normA [] [1, 35, 36, 37]) next ⟨[(1, AV.ptr [0, 1] 0 0), (35, AV.sl [.int .i64] t35), (36, AV.int .i64 t36), (37, AV.int .i64 t37)], [([0, 1], ⟨true, [], [AV.agg [AV.sl [.int .i64] h0_0, AV.sl [.int .i64] h0_1, AV.sl [.int .i64, .int .i64] h0_2]]⟩)]⟩ k = (bif decide (t37 < t36) then (bif (decide (0 ≤ t37) && decide (t37 < (t35.length : Int))) then (bif (decide (0 ≤ 0) && decide (0 ≤ t37) && decide (t37 ≤ (h0_1.length : Int))) then (bif q92 ((h0_1.take (Int.toNat t37)).drop (Int.toNat 0)) (fI (t35.getD t37.toNat AV.undef) 0) then (bif (v92_0 ((h0_1.take (Int.toNat t37)).drop (Int.toNat 0)) (fI (t35.getD t37.toNat AV.undef) 0)) then k .ret ⟨[(2, AV.bool false)], [([0, 1], ⟨true, [], [AV.agg [AV.sl [.int .i64] h0_0, AV.sl [.int .i64] h0_1, AV.sl [.int .i64, .int .i64] h0_2]]⟩)]⟩
  else next ⟨[(1, AV.ptr [0, 1] 0 0), (35, AV.sl [.int .i64] t35), (36, AV.int .i64 t36), (37, AV.int .i64 (IntKind.i64.wrap (t37 + 1)))], [([0, 1], ⟨true, [], [AV.agg [AV.sl [.int .i64] h0_0, AV.sl [.int .i64] h0_1, AV.sl [.int .i64, .int .i64] h0_2]]⟩)]⟩)
  else none)
  else none)
  else none)
  else k (.exit 0) ⟨[(1, AV.ptr [0, 1] 0 0)], [([0, 1], ⟨true, [], [AV.agg [AV.sl [.int .i64] h0_0, AV.sl [.int .i64] h0_1, AV.sl [.int .i64, .int .i64] h0_2]]⟩)]⟩) := by kernel_rfl
theorem st66_0 (t35 : List AV) (t36 : Int) (h0_0 : List AV) (h0_1 : List AV) (h0_2 : List AV) (ce : CallE) (k : Kont) (s : Int) (next : St → Option AV) : stepA (codeA c66 ce [] 66 0 (sub [1, 1, 0, 1, 0, 0] (body Tryd.f66))) (normA [] [1, 35, 36, 37]) next ((fun s : Int => ⟨[(1, AV.ptr [0, 1] 0 0), (35, AV.sl [.int .i64] t35), (36, AV.int .i64 t36), (37, AV.int .i64 s)], [([0, 1], ⟨true, [], [AV.agg [AV.sl [.int .i64] h0_0, AV.sl [.int .i64] h0_1, AV.sl [.int .i64, .int .i64] h0_2]]⟩)]⟩) s) k = (R66_0 t35 t36 h0_0 h0_1 h0_2 s).el none (fun s => next ((fun s : Int => ⟨[(1, AV.ptr [0, 1] 0 0), (35, AV.sl [.int .i64] t35), (36, AV.int .i64 t36), (37, AV.int .i64 s)], [([0, 1], ⟨true, [], [AV.agg [AV.sl [.int .i64] h0_0, AV.sl [.int .i64] h0_1, AV.sl [.int .i64, .int .i64] h0_2]]⟩)]⟩) s)) (sumE (fun _ : Unit => k (.exit 0) ⟨[(1, AV.ptr [0, 1] 0 0)], [([0, 1], ⟨true, [], [AV.agg [AV.sl [.int .i64] h0_0, AV.sl [.int .i64] h0_1, AV.sl [.int .i64, .int .i64] h0_2]]⟩)]⟩) (fun _ : Unit => k .ret ⟨[(2, AV.bool false)], [([0, 1], ⟨true, [], [AV.agg [AV.sl [.int .i64] h0_0, AV.sl [.int .i64] h0_1, AV.sl [.int .i64, .int .i64] h0_2]]⟩)]⟩)) := (s66_0 ce t35 t36 s h0_0 h0_1 h0_2 next k).trans (by unfold R66_0; unfold F66_0; simp only [el_cond, el_ro, el_sum, el_fail, el_next, el_stop] <;> rfl)
theorem ok66_0 {ce : CallE} : LoopOK c66 ce [] 66 0 (sub [1, 1, 0, 1, 0, 0] (body Tryd.f66)) := by
  intro m hm st k r h
  obtain rfl : l66_0 = m := Option.some.inj hm
  unfold l66_0 at h
  split at h
  · rename_i g0 g1 g2 g3 t35 t36 t37 g4 g5 h0_0 g6 h0_1 g7 h0_2
    obtain ⟨hg, h⟩ := bif_some h
    simp only [Bool.and_eq_true] at hg
    obtain ⟨⟨⟨⟨⟨⟨⟨q0, q1⟩, q2⟩, q3⟩, q4⟩, q5⟩, q6⟩, q7⟩ := hg
    obtain rfl := (nmEq_iff _ _).1 q0
    obtain rfl := Nat.eq_of_beq_eq_true q1
    obtain rfl := Nat.eq_of_beq_eq_true q2
    obtain rfl := ctsEq_eq _ _ q3
    obtain rfl := (nmEq_iff _ _).1 q4
    obtain rfl := ctsEq_eq _ _ q5
    obtain rfl := ctsEq_eq _ _ q6
    obtain rfl := ctsEq_eq _ _ q7
    refine ⟨((t36 - t37).toNat + 1), ?_⟩
    rw [← h]
    exact loop_run (fun s : Int => ⟨[(1, AV.ptr [0, 1] 0 0), (35, AV.sl [.int .i64] t35), (36, AV.int .i64 t36), (37, AV.int .i64 s)], [([0, 1], ⟨true, [], [AV.agg [AV.sl [.int .i64] h0_0, AV.sl [.int .i64] h0_1, AV.sl [.int .i64, .int .i64] h0_2]]⟩)]⟩) (sumE (fun _ : Unit => k (.exit 0) ⟨[(1, AV.ptr [0, 1] 0 0)], [([0, 1], ⟨true, [], [AV.agg [AV.sl [.int .i64] h0_0, AV.sl [.int .i64] h0_1, AV.sl [.int .i64, .int .i64] h0_2]]⟩)]⟩) (fun _ : Unit => k .ret ⟨[(2, AV.bool false)], [([0, 1], ⟨true, [], [AV.agg [AV.sl [.int .i64] h0_0, AV.sl [.int .i64] h0_1, AV.sl [.int .i64, .int .i64] h0_2]]⟩)]⟩)) (st66_0 t35 t36 h0_0 h0_1 h0_2 ce k) _ t37
  · cases h
def q66 (a0_0 : List AV) (a0_1 : List AV) (a0_2 : List AV) : Bool := (q90 a0_0 && (bif !(v90_0 a0_0) then true else (bif !decide ((a0_1.length : Int) = (a0_0.length : Int)) then true else (q91 a0_1 0 999 && (bif !(v91_0 a0_1 0 999) then true else (bif decide ((a0_2.length : Int) > 2001) then true else (ro (runW (R66_0 a0_1 (a0_1.length : Int) a0_0 a0_1 a0_2) (((a0_1.length : Int) - 0).toNat + 1) 0) false (sumE (fun _ => (ro (runW (R66_2 a0_2 (a0_2.length : Int) a0_0 a0_1 a0_2) (((a0_2.length : Int) - 0).toNat + 1) 0) false (sumE (fun _ => true) (sumE (fun p28 => true) (fun p29 => true))))) (fun _ => true)))))))))
def v66_0 (a0_0 : List AV) (a0_1 : List AV) (a0_2 : List AV) : Bool := (bif !(v90_0 a0_0) then false else (bif !decide ((a0_1.length : Int) = (a0_0.length : Int)) then false else (bif !(v91_0 a0_1 0 999) then false else (bif decide ((a0_2.length : Int) > 2001) then false else (ro (runW (R66_0 a0_1 (a0_1.length : Int) a0_0 a0_1 a0_2) (((a0_1.length : Int) - 0).toNat + 1) 0) false (sumE (fun _ => (ro (runW (R66_2 a0_2 (a0_2.length : Int) a0_0 a0_1 a0_2) (((a0_2.length : Int) - 0).toNat + 1) 0) false (sumE (fun _ => true) (sumE (fun p28 => false) (fun p29 => false))))) (fun _ => false)))))))
theorem e66 (a0_0 : List AV) (a0_1 : List AV) (a0_2 : List AV) : funA c66 0 66 [AV.agg [AV.sl [.int .i64] a0_0, AV.sl [.int .i64] a0_1, AV.sl [.int .i64, .int .i64] a0_2]] = (bif q90 a0_0 then (bif !(v90_0 a0_0) then some (AV.bool false)
  else (bif !decide ((a0_1.length : Int) = (a0_0.length : Int)) then some (AV.bool false)
  else (bif q91 a0_1 0 999 then (bif !(v91_0 a0_1 0 999) then some (AV.bool false)
  else (bif decide ((a0_2.length : Int) > 2001) then some (AV.bool false)
  else (ro (runW (R66_0 a0_1 (a0_1.length : Int) a0_0 a0_1 a0_2) (((a0_1.length : Int) - 0).toNat + 1) 0) none (sumE (fun _ => (ro (runW (R66_2 a0_2 (a0_2.length : Int) a0_0 a0_1 a0_2) (((a0_2.length : Int) - 0).toNat + 1) 0) none (sumE (fun _ => some (AV.bool true)) (sumE (fun p28 => some (AV.bool false)) (fun p29 => some (AV.bool false)))))) (fun _ => some (AV.bool false))))))
  else none)))
  else none) := by kernel_rfl
theorem r66 (a0_0 : List AV) (a0_1 : List AV) (a0_2 : List AV) (h : q66 a0_0 a0_1 a0_2 = true) : funA c66 0 66 [AV.agg [AV.sl [.int .i64] a0_0, AV.sl [.int .i64] a0_1, AV.sl [.int .i64, .int .i64] a0_2]] = some (AV.bool (v66_0 a0_0 a0_1 a0_2)) := (e66 a0_0 a0_1 a0_2).trans ((brL (br (fun b => some (AV.bool (bif b then false else (bif !decide ((a0_1.length : Int) = (a0_0.length : Int)) then false else (bif !(v91_0 a0_1 0 999) then false else (bif decide ((a0_2.length : Int) > 2001) then false else (ro (runW (R66_0 a0_1 (a0_1.length : Int) a0_0 a0_1 a0_2) (((a0_1.length : Int) - 0).toNat + 1) 0) false (sumE (fun _ => (ro (runW (R66_2 a0_2 (a0_2.length : Int) a0_0 a0_1 a0_2) (((a0_2.length : Int) - 0).toNat + 1) 0) false (sumE (fun _ => true) (sumE (fun p28 => false) (fun p29 => false))))) (fun _ => false))))))))) (fun _ => rfl) (br (fun b => some (AV.bool (bif b then false else (bif !(v91_0 a0_1 0 999) then false else (bif decide ((a0_2.length : Int) > 2001) then false else (ro (runW (R66_0 a0_1 (a0_1.length : Int) a0_0 a0_1 a0_2) (((a0_1.length : Int) - 0).toNat + 1) 0) false (sumE (fun _ => (ro (runW (R66_2 a0_2 (a0_2.length : Int) a0_0 a0_1 a0_2) (((a0_2.length : Int) - 0).toNat + 1) 0) false (sumE (fun _ => true) (sumE (fun p28 => false) (fun p29 => false))))) (fun _ => false)))))))) (fun _ => rfl) (brL (br (fun b => some (AV.bool (bif b then false else (bif decide ((a0_2.length : Int) > 2001) then false else (ro (runW (R66_0 a0_1 (a0_1.length : Int) a0_0 a0_1 a0_2) (((a0_1.length : Int) - 0).toNat + 1) 0) false (sumE (fun _ => (ro (runW (R66_2 a0_2 (a0_2.length : Int) a0_0 a0_1 a0_2) (((a0_2.length : Int) - 0).toNat + 1) 0) false (sumE (fun _ => true) (sumE (fun p28 => false) (fun p29 => false))))) (fun _ => false))))))) (fun _ => rfl) (br (fun b => some (AV.bool (bif b then false else (ro (runW (R66_0 a0_1 (a0_1.length : Int) a0_0 a0_1 a0_2) (((a0_1.length : Int) - 0).toNat + 1) 0) false (sumE (fun _ => (ro (runW (R66_2 a0_2 (a0_2.length : Int) a0_0 a0_1 a0_2) (((a0_2.length : Int) - 0).toNat + 1) 0) false (sumE (fun _ => true) (sumE (fun p28 => false) (fun p29 => false))))) (fun _ => false)))))) (fun _ => rfl) (brO (fun o : Option (Unit ⊕ Unit) => some (AV.bool (ro o false (sumE (fun _ => (ro (runW (R66_2 a0_2 (a0_2.length : Int) a0_0 a0_1 a0_2) (((a0_2.length : Int) - 0).toNat + 1) 0) false (sumE (fun _ => true) (sumE (fun p28 => false) (fun p29 => false))))) (fun _ => false))))) (brS (fun o : Unit ⊕ Unit => some (AV.bool ((sumE (fun _ => (ro (runW (R66_2 a0_2 (a0_2.length : Int) a0_0 a0_1 a0_2) (((a0_2.length : Int) - 0).toNat + 1) 0) false (sumE (fun _ => true) (sumE (fun p28 => false) (fun p29 => false))))) (fun _ => false)) o))) (fun _ => (brO (fun o : Option (Unit ⊕ (Int × Int) ⊕ (Int × Int)) => some (AV.bool (ro o false (sumE (fun _ => true) (sumE (fun p28 => false) (fun p29 => false)))))) (brS (fun o : Unit ⊕ (Int × Int) ⊕ (Int × Int) => some (AV.bool ((sumE (fun _ => true) (sumE (fun p28 => false) (fun p29 => false))) o))) (fun _ => (fun _ => rfl)) (brS (fun o : (Int × Int) ⊕ (Int × Int) => some (AV.bool ((sumE (fun p28 => false) (fun p29 => false)) o))) (fun p28 => (fun _ => rfl)) (fun p29 => (fun _ => rfl)))))) (fun _ => (fun _ => rfl)))))))))) h)
def m66 : TModel
  | [.agg [.sl g0 a0_0, .sl g1 a0_1, .sl g2 a0_2]] => bif ctsEq g0 ([.int .i64]) && ctsEq g1 ([.int .i64]) && ctsEq g2 ([.int .i64, .int .i64]) then some (q66 a0_0 a0_1 a0_2, AV.bool (v66_0 a0_0 a0_1 a0_2)) else none
  | _ => none
theorem k66 : Known Tryd.prog 66 := ⟨Tryd.f66, Tryd.func66, by kernel_rfl, by kernel_rfl⟩
theorem meets66 : Meets Tryd.prog 66 m66 := by
  refine meet (f := Tryd.f66) (l := [(0, sub [1, 1, 0, 1, 0, 0] (body Tryd.f66)), (2, sub [1, 1, 1, 0, 1, 0, 0] (body Tryd.f66)), (4, sub [1, 1, 1, 0, 1, 0, 0, 1, 1, 0, 0, 1, 1, 1, 0, 0] (body Tryd.f66))]) (hs := [(66, 0, [1, 35, 36, 37]), (66, 2, [1, 50, 51, 52]), (66, 4, [1, 6, 50, 51, 52, 103, 104, 105]), (66, 999, [2]), (66, 1000, [1]), (66, 1001, [1, 35, 36, 37]), (66, 1002, []), (66, 1003, [1, 50, 51, 52]), (66, 1004, [1, 50, 51, 52]), (66, 1005, [1, 6, 50, 51, 52, 103, 104, 105])]) (ts := [(45, m45), (90, m90), (91, m91), (92, m92)]) (ws := []) (is := []) (ls := [(66, 0, l66_0), (66, 2, l66_2), (66, 4, l66_4)]) (lvl := 0) mixed k66 Tryd.func66 (by kernel_rfl) (loops_cons ok66_0 (loops_cons ok66_2 (loops_cons ok66_4 noLoop))) (allT_cons meets45 (allT_cons meets90 (allT_cons meets91 (allT_cons meets92 allT_nil)))) allM_nil noI fun w xs us r hl hv h => ?_
  unfold m66 at h
  split at h
  · rename_i g0 a0_0 g1 a0_1 g2 a0_2
    obtain ⟨hg, h⟩ := bif_pair h
    simp only [Bool.and_eq_true] at hg
    obtain ⟨⟨q0, q1⟩, q2⟩ := hg
    obtain rfl := ctsEq_eq _ _ q0
    obtain rfl := ctsEq_eq _ _ q1
    obtain rfl := ctsEq_eq _ _ q2
    obtain ⟨h1, rfl⟩ := pair_inj h
    exact r66 a0_0 a0_1 a0_2 h1
  · cases h

/-! ### 78 strconv.Itoa -/
def q78 (a0 : Int) : Bool := decide (-9223372036854775808 ≤ a0) && decide (a0 ≤ 9223372036854775807)
def v78_0 (a0 : Int) : ByteArray := itoaB a0
def m78 : TModel := itoaM
theorem k78 : Known Tryd.prog 78 := ⟨Tryd.f78, Tryd.func78, by kernel_rfl, by kernel_rfl⟩
theorem meets78 : Meets Tryd.prog 78 m78 := itoa_meets ⟨k78, fun n w h0 h1 hG => Any.strconv_Itoa lays171 n h0 h1 w hG⟩

/-! ### 44 loop.example/g01984/impl.FormatInt -/
noncomputable def c44 : Cfg := cfg Tryd.prog [(44, 999, [2])] [(78, m78)] [] [] []
def q44 (a0 : Int) : Bool := q78 a0
def v44_0 (a0 : Int) : ByteArray := (v78_0 a0)
theorem e44 (a0 : Int) : funA c44 0 44 [AV.int .i64 a0] = (bif q78 a0 then some (AV.str (v78_0 a0))
  else none) := by kernel_rfl
theorem r44 (a0 : Int) (h : q44 a0 = true) : funA c44 0 44 [AV.int .i64 a0] = some (AV.str (v44_0 a0)) := (e44 a0).trans ((brL1 (fun _ => rfl)) h)
def m44 : TModel
  | [.int .i64 a0] => some (q44 a0, AV.str (v44_0 a0))
  | _ => none
theorem k44 : Known Tryd.prog 44 := ⟨Tryd.f44, Tryd.func44, by kernel_rfl, by kernel_rfl⟩
theorem meets44 : Meets Tryd.prog 44 m44 := by
  refine meet (f := Tryd.f44) (l := []) (hs := [(44, 999, [2])]) (ts := [(78, m78)]) (ws := []) (is := []) (ls := []) (lvl := 0) mixed k44 Tryd.func44 (by kernel_rfl) noLoop (allT_cons meets78 allT_nil) allM_nil noI fun w xs us r hl hv h => ?_
  unfold m44 at h
  split at h
  · rename_i a0
    obtain ⟨h1, rfl⟩ := pair_inj h
    exact r44 a0 h1
  · cases h

/-! ### 50 strings.Join -/
def q50 (a0 : List AV) (a1 : ByteArray) : Bool := decide (a0.length ≤ 140737488355328) && decide ((joinB a0 a1).size ≤ 140737488355328)
def v50_0 (a0 : List AV) (a1 : ByteArray) : ByteArray := joinB a0 a1
def m50 : TModel := joinM
theorem k50 : Known Tryd.prog 50 := ⟨Tryd.f50, Tryd.func50, by kernel_rfl, by kernel_rfl⟩
theorem meets50 : Meets Tryd.prog 50 m50 := join_meets ⟨k50, fun a c sep w => Any.strings_Join_none lays156 extra156 a c sep w, fun bk o c xs sep w h1 h2 h3 h4 h5 => Any.strings_Join lays156 extra156 bk o c xs sep w h1 h2 h3 h4 h5⟩

/-! ### 37 loop.example/g01984/impl.PivotLine -/
def F37_0 (t11 : List AV) (t12 : Int) (t13 : Int) (h0 : List AV) : Out ((Int × (List AV))) (((List AV))) := (bif decide (t13 < t12) then (bif (decide (0 ≤ t13) && decide (t13 < (t11.length : Int))) then (bif q44 (fI (t11.getD t13.toNat AV.undef) 0) then (bif decide ((v44_0 (fI (t11.getD t13.toNat AV.undef) 0)).size + (ByteArray.mk #[64]).size ≤ 4611686018427387904) then (bif q44 (fI (t11.getD t13.toNat AV.undef) 1) then (bif decide (((v44_0 (fI (t11.getD t13.toNat AV.undef) 0)) ++ (ByteArray.mk #[64])).size + (v44_0 (fI (t11.getD t13.toNat AV.undef) 1)).size ≤ 4611686018427387904) then (bif (decide ((h0.length + ([AV.str (((v44_0 (fI (t11.getD t13.toNat AV.undef) 0)) ++ (ByteArray.mk #[64])) ++ (v44_0 (fI (t11.getD t13.toNat AV.undef) 1)))]).length) * 16 ≤ 140737488355328) && decide ((h0.length + ([AV.str (((v44_0 (fI (t11.getD t13.toNat AV.undef) 0)) ++ (ByteArray.mk #[64])) ++ (v44_0 (fI (t11.getD t13.toNat AV.undef) 1)))]).length) ≤ 140737488355328)) then .next (IntKind.i64.wrap (t13 + 1), h0 ++ ([AV.str (((v44_0 (fI (t11.getD t13.toNat AV.undef) 0)) ++ (ByteArray.mk #[64])) ++ (v44_0 (fI (t11.getD t13.toNat AV.undef) 1)))]))
  else .fail)
  else .fail)
  else .fail)
  else .fail)
  else .fail)
  else .fail)
  else .stop h0)
def R37_0 (t11 : List AV) (t12 : Int) : ((Int × (List AV))) → Out ((Int × (List AV))) (((List AV))) := fun s : Int × (List AV) => F37_0 t11 t12 s.1 s.2
def l37_0 : LModel := fun _ _ st k => match st with
  | ⟨[(3, .own g0), (11, .sl g1 t11), (12, .int .i64 t12), (13, .int .i64 t13)], [(g2, ⟨false, g3, h0⟩)]⟩ => bif nmEq g0 ([0, 3]) && ctsEq g1 ([.int .i64, .int .i64]) && nmEq g2 ([0, 3]) && ctsEq g3 ([.str]) then ro (runW (R37_0 t11 t12) ((t12 - t13).toNat + 1) (t13, h0)) none (fun p : (List AV) => k (.exit 0) ⟨[(3, AV.own [0, 3])], [([0, 3], ⟨false, [.str], p⟩)]⟩) else none
  | _ => none
noncomputable def c37 : Cfg := cfg Tryd.prog [(37, 0, [3, 11, 12, 13]), (37, 999, [2]), (37, 1000, [3]), (37, 1001, [3, 11, 12, 13])] [(44, m44), (50, m50), (66, m66)] [] [] [(37, 0, l37_0)]
theorem s37_0 (ce : CallE) (t11 : List AV) (t12 : Int) (t13 : Int) (h0 : List AV) (next : St → Option AV) (k : Kont) : stepA (codeA c37 ce [] 37 0 (sub [1, 1, 1, 0, 1, 0, 0] (body Tryd.f37))) (normA [] [3, 11, 12, 13]) next ⟨[(3, AV.own [0, 3]), (11, AV.sl [.int .i64, .int .i64] t11), (12, AV.int .i64 t12), (13, AV.int .i64 t13)], [([0, 3], ⟨false, [.str], h0⟩)]⟩ k = (bif decide (t13 < t12) then (bif (decide (0 ≤ t13) && decide (t13 < (t11.length : Int))) then (bif q44 (fI (t11.getD t13.toNat AV.undef) 0) then (bif decide ((v44_0 (fI (t11.getD t13.toNat AV.undef) 0)).size + (ByteArray.mk #[64]).size ≤ 4611686018427387904) then (bif q44 (fI (t11.getD t13.toNat AV.undef) 1) then (bif decide (((v44_0 (fI (t11.getD t13.toNat AV.undef) 0)) ++ (ByteArray.mk #[64])).size + (v44_0 (fI (t11.getD t13.toNat AV.undef) 1)).size ≤ 4611686018427387904) then (bif (decide ((h0.length + ([AV.str (((v44_0 (fI (t11.getD t13.toNat AV.undef) 0)) ++ (ByteArray.mk #[64])) ++ (v44_0 (fI (t11.getD t13.toNat AV.undef) 1)))]).length) * 16 ≤ 140737488355328) && decide ((h0.length + ([AV.str (((v44_0 (fI (t11.getD t13.toNat AV.undef) 0)) ++ (ByteArray.mk #[64])) ++ (v44_0 (fI (t11.getD t13.toNat AV.undef) 1)))]).length) ≤ 140737488355328)) then next ⟨[(3, AV.own [0, 3]), (11, AV.sl [.int .i64, .int .i64] t11), (12, AV.int .i64 t12), (13, AV.int .i64 (IntKind.i64.wrap (t13 + 1)))], [([0, 3], ⟨false, [.str], h0 ++ ([AV.str (((v44_0 (fI (t11.getD t13.toNat AV.undef) 0)) ++ (ByteArray.mk #[64])) ++ (v44_0 (fI (t11.getD t13.toNat AV.undef) 1)))])⟩)]⟩
  else none)
  else none)
  else none)
  else none)
  else none)
  else none)
  else k (.exit 0) ⟨[(3, AV.own [0, 3])], [([0, 3], ⟨false, [.str], h0⟩)]⟩) := by kernel_rfl
theorem st37_0 (t11 : List AV) (t12 : Int) (ce : CallE) (k : Kont) (s : (Int × (List AV))) (next : St → Option AV) : stepA (codeA c37 ce [] 37 0 (sub [1, 1, 1, 0, 1, 0, 0] (body Tryd.f37))) (normA [] [3, 11, 12, 13]) next ((fun s : Int × (List AV) => ⟨[(3, AV.own [0, 3]), (11, AV.sl [.int .i64, .int .i64] t11), (12, AV.int .i64 t12), (13, AV.int .i64 s.1)], [([0, 3], ⟨false, [.str], s.2⟩)]⟩) s) k = (R37_0 t11 t12 s).el none (fun s => next ((fun s : Int × (List AV) => ⟨[(3, AV.own [0, 3]), (11, AV.sl [.int .i64, .int .i64] t11), (12, AV.int .i64 t12), (13, AV.int .i64 s.1)], [([0, 3], ⟨false, [.str], s.2⟩)]⟩) s)) (fun p : (List AV) => k (.exit 0) ⟨[(3, AV.own [0, 3])], [([0, 3], ⟨false, [.str], p⟩)]⟩) := (s37_0 ce t11 t12 s.1 s.2 next k).trans (by unfold R37_0; unfold F37_0; simp only [el_cond, el_ro, el_sum, el_fail, el_next, el_stop] <;> rfl)
theorem ok37_0 {ce : CallE} : LoopOK c37 ce [] 37 0 (sub [1, 1, 1, 0, 1, 0, 0] (body Tryd.f37)) := by
  intro m hm st k r h
  obtain rfl : l37_0 = m := Option.some.inj hm
  unfold l37_0 at h
  split at h
  · rename_i g0 g1 t11 t12 t13 g2 g3 h0
    obtain ⟨hg, h⟩ := bif_some h
    simp only [Bool.and_eq_true] at hg
    obtain ⟨⟨⟨q0, q1⟩, q2⟩, q3⟩ := hg
    obtain rfl := (nmEq_iff _ _).1 q0
    obtain rfl := ctsEq_eq _ _ q1
    obtain rfl := (nmEq_iff _ _).1 q2
    obtain rfl := ctsEq_eq _ _ q3
    refine ⟨((t12 - t13).toNat + 1), ?_⟩
    rw [← h]
    exact loop_run (fun s : Int × (List AV) => ⟨[(3, AV.own [0, 3]), (11, AV.sl [.int .i64, .int .i64] t11), (12, AV.int .i64 t12), (13, AV.int .i64 s.1)], [([0, 3], ⟨false, [.str], s.2⟩)]⟩) (fun p : (List AV) => k (.exit 0) ⟨[(3, AV.own [0, 3])], [([0, 3], ⟨false, [.str], p⟩)]⟩) (st37_0 t11 t12 ce k) _ (t13, h0)
  · cases h
def q37 (a0_0 : List AV) (a0_1 : List AV) (a0_2 : List AV) : Bool := (q66 a0_0 a0_1 a0_2 && (bif !(v66_0 a0_0 a0_1 a0_2) then true else (ro (runW (R37_0 a0_2 (a0_2.length : Int)) (((a0_2.length : Int) - 0).toNat + 1) (0, ([] : List AV))) false (fun p31 => (bif decide ((p31.length : Int) = 0) then true else q50 p31 (ByteArray.mk #[32]))))))
def v37_0 (a0_0 : List AV) (a0_1 : List AV) (a0_2 : List AV) : ByteArray := (bif !(v66_0 a0_0 a0_1 a0_2) then ByteArray.empty else (ro (runW (R37_0 a0_2 (a0_2.length : Int)) (((a0_2.length : Int) - 0).toNat + 1) (0, ([] : List AV))) ByteArray.empty (fun p31 => (bif decide ((p31.length : Int) = 0) then (ByteArray.mk #[110, 111, 110, 101]) else (v50_0 p31 (ByteArray.mk #[32]))))))
theorem e37 (a0_0 : List AV) (a0_1 : List AV) (a0_2 : List AV) : funA c37 0 37 [AV.agg [AV.sl [.int .i64] a0_0, AV.sl [.int .i64] a0_1, AV.sl [.int .i64, .int .i64] a0_2]] = (bif q66 a0_0 a0_1 a0_2 then (bif !(v66_0 a0_0 a0_1 a0_2) then some (AV.str ByteArray.empty)
  else (ro (runW (R37_0 a0_2 (a0_2.length : Int)) (((a0_2.length : Int) - 0).toNat + 1) (0, ([] : List AV))) none (fun p31 => (bif decide ((p31.length : Int) = 0) then some (AV.str (ByteArray.mk #[110, 111, 110, 101]))
  else (bif q50 p31 (ByteArray.mk #[32]) then some (AV.str (v50_0 p31 (ByteArray.mk #[32])))
  else none)))))
  else none) := by kernel_rfl
theorem r37 (a0_0 : List AV) (a0_1 : List AV) (a0_2 : List AV) (h : q37 a0_0 a0_1 a0_2 = true) : funA c37 0 37 [AV.agg [AV.sl [.int .i64] a0_0, AV.sl [.int .i64] a0_1, AV.sl [.int .i64, .int .i64] a0_2]] = some (AV.str (v37_0 a0_0 a0_1 a0_2)) := (e37 a0_0 a0_1 a0_2).trans ((brL (br (fun b => some (AV.str (bif b then ByteArray.empty else (ro (runW (R37_0 a0_2 (a0_2.length : Int)) (((a0_2.length : Int) - 0).toNat + 1) (0, ([] : List AV))) ByteArray.empty (fun p31 => (bif decide ((p31.length : Int) = 0) then (ByteArray.mk #[110, 111, 110, 101]) else (v50_0 p31 (ByteArray.mk #[32])))))))) (fun _ => rfl) (brO (fun o : Option (((List AV))) => some (AV.str (ro o ByteArray.empty (fun p31 => (bif decide ((p31.length : Int) = 0) then (ByteArray.mk #[110, 111, 110, 101]) else (v50_0 p31 (ByteArray.mk #[32]))))))) (fun p31 => (br (fun b => some (AV.str (bif b then (ByteArray.mk #[110, 111, 110, 101]) else (v50_0 p31 (ByteArray.mk #[32]))))) (fun _ => rfl) (brL1 (fun _ => rfl))))))) h)
def m37 : TModel
  | [.agg [.sl g0 a0_0, .sl g1 a0_1, .sl g2 a0_2]] => bif ctsEq g0 ([.int .i64]) && ctsEq g1 ([.int .i64]) && ctsEq g2 ([.int .i64, .int .i64]) then some (q37 a0_0 a0_1 a0_2, AV.str (v37_0 a0_0 a0_1 a0_2)) else none
  | _ => none
theorem k37 : Known Tryd.prog 37 := ⟨Tryd.f37, Tryd.func37, by kernel_rfl, by kernel_rfl⟩
theorem meets37 : Meets Tryd.prog 37 m37 := by
  refine meet (f := Tryd.f37) (l := [(0, sub [1, 1, 1, 0, 1, 0, 0] (body Tryd.f37))]) (hs := [(37, 0, [3, 11, 12, 13]), (37, 999, [2]), (37, 1000, [3]), (37, 1001, [3, 11, 12, 13])]) (ts := [(44, m44), (50, m50), (66, m66)]) (ws := []) (is := []) (ls := [(37, 0, l37_0)]) (lvl := 0) mixed k37 Tryd.func37 (by kernel_rfl) (loops_cons ok37_0 noLoop) (allT_cons meets44 (allT_cons meets50 (allT_cons meets66 allT_nil))) allM_nil noI fun w xs us r hl hv h => ?_
  unfold m37 at h
  split at h
  · rename_i g0 a0_0 g1 a0_1 g2 a0_2
    obtain ⟨hg, h⟩ := bif_pair h
    simp only [Bool.and_eq_true] at hg
    obtain ⟨⟨q0, q1⟩, q2⟩ := hg
    obtain rfl := ctsEq_eq _ _ q0
    obtain rfl := ctsEq_eq _ _ q1
    obtain rfl := ctsEq_eq _ _ q2
    obtain ⟨h1, rfl⟩ := pair_inj h
    exact r37 a0_0 a0_1 a0_2 h1
  · cases h

/-! ### 16 loop.example/g01984/laws.eqIntS -/
def F16_0 (t0 : List AV) (t1 : List AV) (t5 : Int) : Out (Int) (Unit ⊕ Unit) := (bif decide (t5 < (t0.length : Int)) then (bif (decide (0 ≤ t5) && decide (t5 < (t0.length : Int))) then (bif (decide (0 ≤ t5) && decide (t5 < (t1.length : Int))) then (bif !decide (fI (t0.getD t5.toNat AV.undef) 0 = fI (t1.getD t5.toNat AV.undef) 0) then .stop (.inr ())
  else .next (IntKind.i64.wrap (t5 + 1)))
  else .fail)
  else .fail)
  else .stop (.inl ()))
def R16_0 (t0 : List AV) (t1 : List AV) : (Int) → Out (Int) (Unit ⊕ Unit) := fun s : Int => F16_0 t0 t1 s
def l16_0 : LModel := fun _ _ st k => match st with
  | ⟨[(0, .sl g0 t0), (1, .sl g1 t1), (5, .int .i64 t5)], []⟩ => bif ctsEq g0 ([.int .i64]) && ctsEq g1 ([.int .i64]) then ro (runW (R16_0 t0 t1) (((t0.length : Int) - t5).toNat + 1) t5) none (sumE (fun _ : Unit => k (.exit 0) ⟨[], []⟩) (fun _ : Unit => k .ret ⟨[(4, AV.bool false)], []⟩)) else none
  | _ => none
noncomputable def c16 : Cfg := cfg Tryd.prog [(16, 0, [0, 1, 5]), (16, 999, [4]), (16, 1000, []), (16, 1001, [0, 1, 5])] [] [] [] [(16, 0, l16_0)]
theorem s16_0 (ce : CallE) (t0 : List AV) (t1 : List AV) (t5 : Int) (next : St → Option AV) (k : Kont) : stepA (codeA c16 ce [] 16 0 (sub [1, 1, 0, 1, 0, 0] (body Tryd.f16))) (normA [] [0, 1, 5]) next ⟨[(0, AV.sl [.int .i64] t0), (1, AV.sl [.int .i64] t1), (5, AV.int .i64 t5)], []⟩ k = (bif decide (t5 < (t0.length : Int)) then (bif (decide (0 ≤ t5) && decide (t5 < (t0.length : Int))) then (bif (decide (0 ≤ t5) && decide (t5 < (t1.length : Int))) then (bif !decide (fI (t0.getD t5.toNat AV.undef) 0 = fI (t1.getD t5.toNat AV.undef) 0) then k .ret ⟨[(4, AV.bool false)], []⟩
  else next ⟨[(0, AV.sl [.int .i64] t0), (1, AV.sl [.int .i64] t1), (5, AV.int .i64 (IntKind.i64.wrap (t5 + 1)))], []⟩)
  else none)
  else none)
  else k (.exit 0) ⟨[], []⟩) := by kernel_rfl
theorem st16_0 (t0 : List AV) (t1 : List AV) (ce : CallE) (k : Kont) (s : Int) (next : St → Option AV) : stepA (codeA c16 ce [] 16 0 (sub [1, 1, 0, 1, 0, 0] (body Tryd.f16))) (normA [] [0, 1, 5]) next ((fun s : Int => ⟨[(0, AV.sl [.int .i64] t0), (1, AV.sl [.int .i64] t1), (5, AV.int .i64 s)], []⟩) s) k = (R16_0 t0 t1 s).el none (fun s => next ((fun s : Int => ⟨[(0, AV.sl [.int .i64] t0), (1, AV.sl [.int .i64] t1), (5, AV.int .i64 s)], []⟩) s)) (sumE (fun _ : Unit => k (.exit 0) ⟨[], []⟩) (fun _ : Unit => k .ret ⟨[(4, AV.bool false)], []⟩)) := (s16_0 ce t0 t1 s next k).trans (by unfold R16_0; unfold F16_0; simp only [el_cond, el_ro, el_sum, el_fail, el_next, el_stop] <;> rfl)
theorem ok16_0 {ce : CallE} : LoopOK c16 ce [] 16 0 (sub [1, 1, 0, 1, 0, 0] (body Tryd.f16)) := by
  intro m hm st k r h
  obtain rfl : l16_0 = m := Option.some.inj hm
  unfold l16_0 at h
  split at h
  · rename_i g0 t0 g1 t1 t5
    obtain ⟨hg, h⟩ := bif_some h
    simp only [Bool.and_eq_true] at hg
    obtain ⟨q0, q1⟩ := hg
    obtain rfl := ctsEq_eq _ _ q0
    obtain rfl := ctsEq_eq _ _ q1
    refine ⟨(((t0.length : Int) - t5).toNat + 1), ?_⟩
    rw [← h]
    exact loop_run (fun s : Int => ⟨[(0, AV.sl [.int .i64] t0), (1, AV.sl [.int .i64] t1), (5, AV.int .i64 s)], []⟩) (sumE (fun _ : Unit => k (.exit 0) ⟨[], []⟩) (fun _ : Unit => k .ret ⟨[(4, AV.bool false)], []⟩)) (st16_0 t0 t1 ce k) _ t5
  · cases h
def q16 (a0 : List AV) (a1 : List AV) : Bool := (bif !decide ((a0.length : Int) = (a1.length : Int)) then true else (ro (runW (R16_0 a0 a1) (((a0.length : Int) - 0).toNat + 1) 0) false (sumE (fun _ => true) (fun _ => true))))
def v16_0 (a0 : List AV) (a1 : List AV) : Bool := (bif !decide ((a0.length : Int) = (a1.length : Int)) then false else (ro (runW (R16_0 a0 a1) (((a0.length : Int) - 0).toNat + 1) 0) false (sumE (fun _ => true) (fun _ => false))))
theorem e16 (a0 : List AV) (a1 : List AV) : funA c16 0 16 [AV.sl [.int .i64] a0, AV.sl [.int .i64] a1] = (bif !decide ((a0.length : Int) = (a1.length : Int)) then some (AV.bool false)
  else (ro (runW (R16_0 a0 a1) (((a0.length : Int) - 0).toNat + 1) 0) none (sumE (fun _ => some (AV.bool true)) (fun _ => some (AV.bool false))))) := by kernel_rfl
theorem r16 (a0 : List AV) (a1 : List AV) (h : q16 a0 a1 = true) : funA c16 0 16 [AV.sl [.int .i64] a0, AV.sl [.int .i64] a1] = some (AV.bool (v16_0 a0 a1)) := (e16 a0 a1).trans ((br (fun b => some (AV.bool (bif b then false else (ro (runW (R16_0 a0 a1) (((a0.length : Int) - 0).toNat + 1) 0) false (sumE (fun _ => true) (fun _ => false)))))) (fun _ => rfl) (brO (fun o : Option (Unit ⊕ Unit) => some (AV.bool (ro o false (sumE (fun _ => true) (fun _ => false))))) (brS (fun o : Unit ⊕ Unit => some (AV.bool ((sumE (fun _ => true) (fun _ => false)) o))) (fun _ => (fun _ => rfl)) (fun _ => (fun _ => rfl))))) h)
def m16 : TModel
  | [.sl g0 a0, .sl g1 a1] => bif ctsEq g0 ([.int .i64]) && ctsEq g1 ([.int .i64]) then some (q16 a0 a1, AV.bool (v16_0 a0 a1)) else none
  | _ => none
theorem k16 : Known Tryd.prog 16 := ⟨Tryd.f16, Tryd.func16, by kernel_rfl, by kernel_rfl⟩
theorem meets16 : Meets Tryd.prog 16 m16 := by
  refine meet (f := Tryd.f16) (l := [(0, sub [1, 1, 0, 1, 0, 0] (body Tryd.f16))]) (hs := [(16, 0, [0, 1, 5]), (16, 999, [4]), (16, 1000, []), (16, 1001, [0, 1, 5])]) (ts := []) (ws := []) (is := []) (ls := [(16, 0, l16_0)]) (lvl := 0) mixed k16 Tryd.func16 (by kernel_rfl) (loops_cons ok16_0 noLoop) allT_nil allM_nil noI fun w xs us r hl hv h => ?_
  unfold m16 at h
  split at h
  · rename_i g0 a0 g1 a1
    obtain ⟨hg, h⟩ := bif_pair h
    simp only [Bool.and_eq_true] at hg
    obtain ⟨q0, q1⟩ := hg
    obtain rfl := ctsEq_eq _ _ q0
    obtain rfl := ctsEq_eq _ _ q1
    obtain ⟨h1, rfl⟩ := pair_inj h
    exact r16 a0 a1 h1
  · cases h

/-! ### 93 loop.example/g01984/laws.eqPivot -/
noncomputable def c93 : Cfg := cfg Tryd.prog [(93, 999, [4])] [] [] [] []
def q93 (a0_0 : Int) (a0_1 : Int) (a1_0 : Int) (a1_1 : Int) : Bool := true
def v93_0 (a0_0 : Int) (a0_1 : Int) (a1_0 : Int) (a1_1 : Int) : Bool := (bif !decide (a0_0 = a1_0) then false else (bif !decide (a0_1 = a1_1) then false else true))
theorem e93 (a0_0 : Int) (a0_1 : Int) (a1_0 : Int) (a1_1 : Int) : funA c93 0 93 [AV.agg [AV.int .i64 a0_0, AV.int .i64 a0_1], AV.agg [AV.int .i64 a1_0, AV.int .i64 a1_1]] = (bif !decide (a0_0 = a1_0) then some (AV.bool false)
  else (bif !decide (a0_1 = a1_1) then some (AV.bool false)
  else some (AV.bool true))) := by kernel_rfl
theorem r93 (a0_0 : Int) (a0_1 : Int) (a1_0 : Int) (a1_1 : Int) : funA c93 0 93 [AV.agg [AV.int .i64 a0_0, AV.int .i64 a0_1], AV.agg [AV.int .i64 a1_0, AV.int .i64 a1_1]] = some (AV.bool (v93_0 a0_0 a0_1 a1_0 a1_1)) := (e93 a0_0 a0_1 a1_0 a1_1).trans (of_tt (brT (fun b => some (AV.bool (bif b then false else (bif !decide (a0_1 = a1_1) then false else true)))) (fun _ => rfl) (brT (fun b => some (AV.bool (bif b then false else true))) (fun _ => rfl) (fun _ => rfl))))
def m93 : TModel
  | [.agg [.int .i64 a0_0, .int .i64 a0_1], .agg [.int .i64 a1_0, .int .i64 a1_1]] => some (true, AV.bool (v93_0 a0_0 a0_1 a1_0 a1_1))
  | _ => none
theorem k93 : Known Tryd.prog 93 := ⟨Tryd.f93, Tryd.func93, by kernel_rfl, by kernel_rfl⟩
theorem meets93 : Meets Tryd.prog 93 m93 := by
  refine meet (f := Tryd.f93) (l := []) (hs := [(93, 999, [4])]) (ts := []) (ws := []) (is := []) (ls := []) (lvl := 0) mixed k93 Tryd.func93 (by kernel_rfl) noLoop allT_nil allM_nil noI fun w xs us r hl hv h => ?_
  unfold m93 at h
  split at h
  · rename_i a0_0 a0_1 a1_0 a1_1
    obtain ⟨h1, rfl⟩ := pair_inj h
    exact r93 a0_0 a0_1 a1_0 a1_1
  · cases h

/-! ### 67 loop.example/g01984/laws.eqPivotS -/
def F67_0 (t0 : List AV) (t1 : List AV) (t5 : Int) : Out (Int) (Unit ⊕ Unit) := (bif decide (t5 < (t0.length : Int)) then (bif (decide (0 ≤ t5) && decide (t5 < (t0.length : Int))) then (bif (decide (0 ≤ t5) && decide (t5 < (t1.length : Int))) then (bif !(v93_0 (fI (t0.getD t5.toNat AV.undef) 0) (fI (t0.getD t5.toNat AV.undef) 1) (fI (t1.getD t5.toNat AV.undef) 0) (fI (t1.getD t5.toNat AV.undef) 1)) then .stop (.inr ())
  else .next (IntKind.i64.wrap (t5 + 1)))
  else .fail)
  else .fail)
  else .stop (.inl ()))
def R67_0 (t0 : List AV) (t1 : List AV) : (Int) → Out (Int) (Unit ⊕ Unit) := fun s : Int => F67_0 t0 t1 s
def l67_0 : LModel := fun _ _ st k => match st with
  | ⟨[(0, .sl g0 t0), (1, .sl g1 t1), (5, .int .i64 t5)], []⟩ => bif ctsEq g0 ([.int .i64, .int .i64]) && ctsEq g1 ([.int .i64, .int .i64]) then ro (runW (R67_0 t0 t1) (((t0.length : Int) - t5).toNat + 1) t5) none (sumE (fun _ : Unit => k (.exit 0) ⟨[], []⟩) (fun _ : Unit => k .ret ⟨[(4, AV.bool false)], []⟩)) else none
  | _ => none
noncomputable def c67 : Cfg := cfg Tryd.prog [(67, 0, [0, 1, 5]), (67, 999, [4]), (67, 1000, []), (67, 1001, [0, 1, 5])] [(93, m93)] [] [] [(67, 0, l67_0)]
theorem s67_0 (ce : CallE) (t0 : List AV) (t1 : List AV) (t5 : Int) (next : St → Option AV) (k : Kont) : stepA (codeA c67 ce [] 67 0 (sub [1, 1, 0, 1, 0, 0] (body Tryd.f67))) (normA [] [0, 1, 5]) next ⟨[(0, AV.sl [.int .i64, .int .i64] t0), (1, AV.sl [.int .i64, .int .i64] t1), (5, AV.int .i64 t5)], []⟩ k = (bif decide (t5 < (t0.length : Int)) then (bif (decide (0 ≤ t5) && decide (t5 < (t0.length : Int))) then (bif (decide (0 ≤ t5) && decide (t5 < (t1.length : Int))) then (bif !(v93_0 (fI (t0.getD t5.toNat AV.undef) 0) (fI (t0.getD t5.toNat AV.undef) 1) (fI (t1.getD t5.toNat AV.undef) 0) (fI (t1.getD t5.toNat AV.undef) 1)) then k .ret ⟨[(4, AV.bool false)], []⟩
  else next ⟨[(0, AV.sl [.int .i64, .int .i64] t0), (1, AV.sl [.int .i64, .int .i64] t1), (5, AV.int .i64 (IntKind.i64.wrap (t5 + 1)))], []⟩)
  else none)
  else none)
  else k (.exit 0) ⟨[], []⟩) := by kernel_rfl
theorem st67_0 (t0 : List AV) (t1 : List AV) (ce : CallE) (k : Kont) (s : Int) (next : St → Option AV) : stepA (codeA c67 ce [] 67 0 (sub [1, 1, 0, 1, 0, 0] (body Tryd.f67))) (normA [] [0, 1, 5]) next ((fun s : Int => ⟨[(0, AV.sl [.int .i64, .int .i64] t0), (1, AV.sl [.int .i64, .int .i64] t1), (5, AV.int .i64 s)], []⟩) s) k = (R67_0 t0 t1 s).el none (fun s => next ((fun s : Int => ⟨[(0, AV.sl [.int .i64, .int .i64] t0), (1, AV.sl [.int .i64, .int .i64] t1), (5, AV.int .i64 s)], []⟩) s)) (sumE (fun _ : Unit => k (.exit 0) ⟨[], []⟩) (fun _ : Unit => k .ret ⟨[(4, AV.bool false)], []⟩)) := (s67_0 ce t0 t1 s next k).trans (by unfold R67_0; unfold F67_0; simp only [el_cond, el_ro, el_sum, el_fail, el_next, el_stop] <;> rfl)
theorem ok67_0 {ce : CallE} : LoopOK c67 ce [] 67 0 (sub [1, 1, 0, 1, 0, 0] (body Tryd.f67)) := by
  intro m hm st k r h
  obtain rfl : l67_0 = m := Option.some.inj hm
  unfold l67_0 at h
  split at h
  · rename_i g0 t0 g1 t1 t5
    obtain ⟨hg, h⟩ := bif_some h
    simp only [Bool.and_eq_true] at hg
    obtain ⟨q0, q1⟩ := hg
    obtain rfl := ctsEq_eq _ _ q0
    obtain rfl := ctsEq_eq _ _ q1
    refine ⟨(((t0.length : Int) - t5).toNat + 1), ?_⟩
    rw [← h]
    exact loop_run (fun s : Int => ⟨[(0, AV.sl [.int .i64, .int .i64] t0), (1, AV.sl [.int .i64, .int .i64] t1), (5, AV.int .i64 s)], []⟩) (sumE (fun _ : Unit => k (.exit 0) ⟨[], []⟩) (fun _ : Unit => k .ret ⟨[(4, AV.bool false)], []⟩)) (st67_0 t0 t1 ce k) _ t5
  · cases h
def q67 (a0 : List AV) (a1 : List AV) : Bool := (bif !decide ((a0.length : Int) = (a1.length : Int)) then true else (ro (runW (R67_0 a0 a1) (((a0.length : Int) - 0).toNat + 1) 0) false (sumE (fun _ => true) (fun _ => true))))
def v67_0 (a0 : List AV) (a1 : List AV) : Bool := (bif !decide ((a0.length : Int) = (a1.length : Int)) then false else (ro (runW (R67_0 a0 a1) (((a0.length : Int) - 0).toNat + 1) 0) false (sumE (fun _ => true) (fun _ => false))))
theorem e67 (a0 : List AV) (a1 : List AV) : funA c67 0 67 [AV.sl [.int .i64, .int .i64] a0, AV.sl [.int .i64, .int .i64] a1] = (bif !decide ((a0.length : Int) = (a1.length : Int)) then some (AV.bool false)
  else (ro (runW (R67_0 a0 a1) (((a0.length : Int) - 0).toNat + 1) 0) none (sumE (fun _ => some (AV.bool true)) (fun _ => some (AV.bool false))))) := by kernel_rfl
theorem r67 (a0 : List AV) (a1 : List AV) (h : q67 a0 a1 = true) : funA c67 0 67 [AV.sl [.int .i64, .int .i64] a0, AV.sl [.int .i64, .int .i64] a1] = some (AV.bool (v67_0 a0 a1)) := (e67 a0 a1).trans ((br (fun b => some (AV.bool (bif b then false else (ro (runW (R67_0 a0 a1) (((a0.length : Int) - 0).toNat + 1) 0) false (sumE (fun _ => true) (fun _ => false)))))) (fun _ => rfl) (brO (fun o : Option (Unit ⊕ Unit) => some (AV.bool (ro o false (sumE (fun _ => true) (fun _ => false))))) (brS (fun o : Unit ⊕ Unit => some (AV.bool ((sumE (fun _ => true) (fun _ => false)) o))) (fun _ => (fun _ => rfl)) (fun _ => (fun _ => rfl))))) h)
def m67 : TModel
  | [.sl g0 a0, .sl g1 a1] => bif ctsEq g0 ([.int .i64, .int .i64]) && ctsEq g1 ([.int .i64, .int .i64]) then some (q67 a0 a1, AV.bool (v67_0 a0 a1)) else none
  | _ => none
theorem k67 : Known Tryd.prog 67 := ⟨Tryd.f67, Tryd.func67, by kernel_rfl, by kernel_rfl⟩
theorem meets67 : Meets Tryd.prog 67 m67 := by
  refine meet (f := Tryd.f67) (l := [(0, sub [1, 1, 0, 1, 0, 0] (body Tryd.f67))]) (hs := [(67, 0, [0, 1, 5]), (67, 999, [4]), (67, 1000, []), (67, 1001, [0, 1, 5])]) (ts := [(93, m93)]) (ws := []) (is := []) (ls := [(67, 0, l67_0)]) (lvl := 0) mixed k67 Tryd.func67 (by kernel_rfl) (loops_cons ok67_0 noLoop) (allT_cons meets93 allT_nil) allM_nil noI fun w xs us r hl hv h => ?_
  unfold m67 at h
  split at h
  · rename_i g0 a0 g1 a1
    obtain ⟨hg, h⟩ := bif_pair h
    simp only [Bool.and_eq_true] at hg
    obtain ⟨q0, q1⟩ := hg
    obtain rfl := ctsEq_eq _ _ q0
    obtain rfl := ctsEq_eq _ _ q1
    obtain ⟨h1, rfl⟩ := pair_inj h
    exact r67 a0 a1 h1
  · cases h

/-! ### 38 loop.example/g01984/laws.eqCracker -/
noncomputable def c38 : Cfg := cfg Tryd.prog [(38, 999, [4])] [(16, m16), (67, m67)] [] [] []
def q38 (a0_0 : List AV) (a0_1 : List AV) (a0_2 : List AV) (a1_0 : List AV) (a1_1 : List AV) (a1_2 : List AV) : Bool := (q16 a0_0 a1_0 && (bif !(v16_0 a0_0 a1_0) then true else (q16 a0_1 a1_1 && (bif !(v16_0 a0_1 a1_1) then true else q67 a0_2 a1_2))))
def v38_0 (a0_0 : List AV) (a0_1 : List AV) (a0_2 : List AV) (a1_0 : List AV) (a1_1 : List AV) (a1_2 : List AV) : Bool := (bif !(v16_0 a0_0 a1_0) then false else (bif !(v16_0 a0_1 a1_1) then false else (bif !(v67_0 a0_2 a1_2) then false else true)))
theorem e38 (a0_0 : List AV) (a0_1 : List AV) (a0_2 : List AV) (a1_0 : List AV) (a1_1 : List AV) (a1_2 : List AV) : funA c38 0 38 [AV.agg [AV.sl [.int .i64] a0_0, AV.sl [.int .i64] a0_1, AV.sl [.int .i64, .int .i64] a0_2], AV.agg [AV.sl [.int .i64] a1_0, AV.sl [.int .i64] a1_1, AV.sl [.int .i64, .int .i64] a1_2]] = (bif q16 a0_0 a1_0 then (bif !(v16_0 a0_0 a1_0) then some (AV.bool false)
  else (bif q16 a0_1 a1_1 then (bif !(v16_0 a0_1 a1_1) then some (AV.bool false)
  else (bif q67 a0_2 a1_2 then (bif !(v67_0 a0_2 a1_2) then some (AV.bool false)
  else some (AV.bool true))
  else none))
  else none))
  else none) := by kernel_rfl
theorem r38 (a0_0 : List AV) (a0_1 : List AV) (a0_2 : List AV) (a1_0 : List AV) (a1_1 : List AV) (a1_2 : List AV) (h : q38 a0_0 a0_1 a0_2 a1_0 a1_1 a1_2 = true) : funA c38 0 38 [AV.agg [AV.sl [.int .i64] a0_0, AV.sl [.int .i64] a0_1, AV.sl [.int .i64, .int .i64] a0_2], AV.agg [AV.sl [.int .i64] a1_0, AV.sl [.int .i64] a1_1, AV.sl [.int .i64, .int .i64] a1_2]] = some (AV.bool (v38_0 a0_0 a0_1 a0_2 a1_0 a1_1 a1_2)) := (e38 a0_0 a0_1 a0_2 a1_0 a1_1 a1_2).trans ((brL (br (fun b => some (AV.bool (bif b then false else (bif !(v16_0 a0_1 a1_1) then false else (bif !(v67_0 a0_2 a1_2) then false else true))))) (fun _ => rfl) (brL (br (fun b => some (AV.bool (bif b then false else (bif !(v67_0 a0_2 a1_2) then false else true)))) (fun _ => rfl) (brL1 (brT (fun b => some (AV.bool (bif b then false else true))) (fun _ => rfl) (fun _ => rfl))))))) h)
def m38 : TModel
  | [.agg [.sl g0 a0_0, .sl g1 a0_1, .sl g2 a0_2], .agg [.sl g3 a1_0, .sl g4 a1_1, .sl g5 a1_2]] => bif ctsEq g0 ([.int .i64]) && ctsEq g1 ([.int .i64]) && ctsEq g2 ([.int .i64, .int .i64]) && ctsEq g3 ([.int .i64]) && ctsEq g4 ([.int .i64]) && ctsEq g5 ([.int .i64, .int .i64]) then some (q38 a0_0 a0_1 a0_2 a1_0 a1_1 a1_2, AV.bool (v38_0 a0_0 a0_1 a0_2 a1_0 a1_1 a1_2)) else none
  | _ => none
theorem k38 : Known Tryd.prog 38 := ⟨Tryd.f38, Tryd.func38, by kernel_rfl, by kernel_rfl⟩
theorem meets38 : Meets Tryd.prog 38 m38 := by
  refine meet (f := Tryd.f38) (l := []) (hs := [(38, 999, [4])]) (ts := [(16, m16), (67, m67)]) (ws := []) (is := []) (ls := []) (lvl := 0) mixed k38 Tryd.func38 (by kernel_rfl) noLoop (allT_cons meets16 (allT_cons meets67 allT_nil)) allM_nil noI fun w xs us r hl hv h => ?_
  unfold m38 at h
  split at h
  · rename_i g0 a0_0 g1 a0_1 g2 a0_2 g3 a1_0 g4 a1_1 g5 a1_2
    obtain ⟨hg, h⟩ := bif_pair h
    simp only [Bool.and_eq_true] at hg
    obtain ⟨⟨⟨⟨⟨q0, q1⟩, q2⟩, q3⟩, q4⟩, q5⟩ := hg
    obtain rfl := ctsEq_eq _ _ q0
    obtain rfl := ctsEq_eq _ _ q1
    obtain rfl := ctsEq_eq _ _ q2
    obtain rfl := ctsEq_eq _ _ q3
    obtain rfl := ctsEq_eq _ _ q4
    obtain rfl := ctsEq_eq _ _ q5
    obtain ⟨h1, rfl⟩ := pair_inj h
    exact r38 a0_0 a0_1 a0_2 a1_0 a1_1 a1_2 h1
  · cases h

/-! ### 8 loop.example/g01984/laws.FnExactPivotLine -/
noncomputable def c8 : Cfg := cfg Tryd.prog [(8, 999, [2])] [(34, m34), (35, m35), (36, m36), (37, m37), (38, m38)] [] [] []
def raw8 (a0_0 : List AV) (a0_1 : List AV) (a0_2 : List AV) : Option AV := (bif decide ((v34_0 a0_0 a0_1 a0_2 1048576) < 0) then some (AV.bool true)
  else (bif q36 a0_0 a0_1 a0_2 then (bif q35 (v36_0 a0_0 a0_1 a0_2) (v36_1 a0_0 a0_1 a0_2) (v36_2 a0_0 a0_1 a0_2) then (bif q36 a0_0 a0_1 a0_2 then (bif q37 (v36_0 a0_0 a0_1 a0_2) (v36_1 a0_0 a0_1 a0_2) (v36_2 a0_0 a0_1 a0_2) then (bif !((v37_0 (v36_0 a0_0 a0_1 a0_2) (v36_1 a0_0 a0_1 a0_2) (v36_2 a0_0 a0_1 a0_2)).toList == (v35_0 (v36_0 a0_0 a0_1 a0_2) (v36_1 a0_0 a0_1 a0_2) (v36_2 a0_0 a0_1 a0_2)).toList) then some (AV.bool false)
  else (bif q36 a0_0 a0_1 a0_2 then (bif q38 (v36_0 a0_0 a0_1 a0_2) (v36_1 a0_0 a0_1 a0_2) (v36_2 a0_0 a0_1 a0_2) (v36_0 a0_0 a0_1 a0_2) (v36_1 a0_0 a0_1 a0_2) (v36_2 a0_0 a0_1 a0_2) then (bif !(v38_0 (v36_0 a0_0 a0_1 a0_2) (v36_1 a0_0 a0_1 a0_2) (v36_2 a0_0 a0_1 a0_2) (v36_0 a0_0 a0_1 a0_2) (v36_1 a0_0 a0_1 a0_2) (v36_2 a0_0 a0_1 a0_2)) then some (AV.bool false)
  else some (AV.bool true))
  else none)
  else none))
  else none)
  else none)
  else none)
  else none))
theorem e8 (a0_0 : List AV) (a0_1 : List AV) (a0_2 : List AV) : funA c8 0 8 [AV.agg [AV.sl [.int .i64] a0_0, AV.sl [.int .i64] a0_1, AV.sl [.int .i64, .int .i64] a0_2]] = raw8 a0_0 a0_1 a0_2 := by kernel_rfl
def m8 : TModel
  | [.agg [.sl g0 a0_0, .sl g1 a0_1, .sl g2 a0_2]] => bif ctsEq g0 ([.int .i64]) && ctsEq g1 ([.int .i64]) && ctsEq g2 ([.int .i64, .int .i64]) then (raw8 a0_0 a0_1 a0_2).map fun r => (true, r) else none
  | _ => none
theorem k8 : Known Tryd.prog 8 := ⟨Tryd.f8, Tryd.func8, by kernel_rfl, by kernel_rfl⟩
theorem meets8 : Meets Tryd.prog 8 m8 := by
  refine meet (f := Tryd.f8) (l := []) (hs := [(8, 999, [2])]) (ts := [(34, m34), (35, m35), (36, m36), (37, m37), (38, m38)]) (ws := []) (is := []) (ls := []) (lvl := 0) mixed k8 Tryd.func8 (by kernel_rfl) noLoop (allT_cons meets34 (allT_cons meets35 (allT_cons meets36 (allT_cons meets37 (allT_cons meets38 allT_nil))))) allM_nil noI fun w xs us r hl hv h => ?_
  unfold m8 at h
  split at h
  · rename_i g0 a0_0 g1 a0_1 g2 a0_2
    obtain ⟨hg, h⟩ := bif_pair h
    simp only [Bool.and_eq_true] at hg
    obtain ⟨⟨q0, q1⟩, q2⟩ := hg
    obtain rfl := ctsEq_eq _ _ q0
    obtain rfl := ctsEq_eq _ _ q1
    obtain rfl := ctsEq_eq _ _ q2
    obtain ⟨r', h1, h2⟩ := Option.map_eq_some_iff.1 h
    obtain ⟨_, rfl⟩ := Prod.mk.inj h2
    exact (e8 a0_0 a0_1 a0_2).trans h1
  · cases h
end Go.Proofs.YtiokajbmckcklaaDoor
