/- The walk of what this claim reaches: printed by a program, each equation checked by the kernel. -/
import Derived.Test.YtiokajbmckcklaaDoorVEzc
import Derived.Test.YtiokajbmckcklaaDoorLAY4a
import Derived.Test.YtiokajbmckcklaaDoorGL4
import Derived.Test.YtiokajbmckcklaaDoorProg
import Derived.KernelRfl
namespace Go.Proofs.YtiokajbmckcklaaDoor
open Go Go.Proofs.VE
set_option linter.unusedVariables false
set_option linter.unusedSimpArgs false
set_option maxRecDepth 100000
set_option maxHeartbeats 4000000
theorem mixed : Tryd.prog.follows .mixedOrders = true := by kernel_rfl
/-! ### 62 loop.example/g01984/laws.szIntS -/
noncomputable def c62 : Cfg := cfg Tryd.prog [(62, 999, [4])] [] [] [] []
def q62 (a0 : List AV) (a1 : Int) : Bool := true
def v62_0 (a0 : List AV) (a1 : Int) : Int := (bif decide (IntKind.i64.wrap (a1 - (a0.length : Int)) < 0) then (-1) else IntKind.i64.wrap (a1 - (a0.length : Int)))
theorem e62 (a0 : List AV) (a1 : Int) : funA c62 0 62 [AV.sl [.int .i64] a0, AV.int .i64 a1] = (bif decide (IntKind.i64.wrap (a1 - (a0.length : Int)) < 0) then some (AV.int .i64 (-1))
  else some (AV.int .i64 (IntKind.i64.wrap (a1 - (a0.length : Int))))) := by kernel_rfl
theorem r62 (a0 : List AV) (a1 : Int) : funA c62 0 62 [AV.sl [.int .i64] a0, AV.int .i64 a1] = some (AV.int .i64 (v62_0 a0 a1)) := (e62 a0 a1).trans (of_tt (brT (fun b => some (AV.int .i64 (bif b then (-1) else IntKind.i64.wrap (a1 - (a0.length : Int))))) (fun _ => rfl) (fun _ => rfl)))
def m62 : TModel
  | [.sl g0 a0, .int .i64 a1] => bif ctsEq g0 ([.int .i64]) then some (true, AV.int .i64 (v62_0 a0 a1)) else none
  | _ => none
theorem k62 : Known Tryd.prog 62 := ⟨Tryd.f62, Tryd.func62, by kernel_rfl, by kernel_rfl⟩
theorem meets62 : Meets Tryd.prog 62 m62 := by
  refine meet (f := Tryd.f62) (l := []) (hs := [(62, 999, [4])]) (ts := []) (ws := []) (is := []) (ls := []) (lvl := 0) mixed k62 Tryd.func62 (by kernel_rfl) noLoop allT_nil allM_nil noI fun w xs us r hl hv h => ?_
  unfold m62 at h
  split at h
  · rename_i g0 a0 a1
    obtain ⟨hg, h⟩ := bif_pair h
    have q0 := hg
    obtain rfl := ctsEq_eq _ _ q0
    obtain ⟨h1, rfl⟩ := pair_inj h
    exact r62 a0 a1
  · cases h

/-! ### 63 loop.example/g01984/laws.szPivotS -/
noncomputable def c63 : Cfg := cfg Tryd.prog [(63, 999, [4])] [] [] [] []
def q63 (a0 : List AV) (a1 : Int) : Bool := true
def v63_0 (a0 : List AV) (a1 : Int) : Int := (bif decide (IntKind.i64.wrap (a1 - (a0.length : Int)) < 0) then (-1) else IntKind.i64.wrap (a1 - (a0.length : Int)))
theorem e63 (a0 : List AV) (a1 : Int) : funA c63 0 63 [AV.sl [.int .i64, .int .i64] a0, AV.int .i64 a1] = (bif decide (IntKind.i64.wrap (a1 - (a0.length : Int)) < 0) then some (AV.int .i64 (-1))
  else some (AV.int .i64 (IntKind.i64.wrap (a1 - (a0.length : Int))))) := by kernel_rfl
theorem r63 (a0 : List AV) (a1 : Int) : funA c63 0 63 [AV.sl [.int .i64, .int .i64] a0, AV.int .i64 a1] = some (AV.int .i64 (v63_0 a0 a1)) := (e63 a0 a1).trans (of_tt (brT (fun b => some (AV.int .i64 (bif b then (-1) else IntKind.i64.wrap (a1 - (a0.length : Int))))) (fun _ => rfl) (fun _ => rfl)))
def m63 : TModel
  | [.sl g0 a0, .int .i64 a1] => bif ctsEq g0 ([.int .i64, .int .i64]) then some (true, AV.int .i64 (v63_0 a0 a1)) else none
  | _ => none
theorem k63 : Known Tryd.prog 63 := ⟨Tryd.f63, Tryd.func63, by kernel_rfl, by kernel_rfl⟩
theorem meets63 : Meets Tryd.prog 63 m63 := by
  refine meet (f := Tryd.f63) (l := []) (hs := [(63, 999, [4])]) (ts := []) (ws := []) (is := []) (ls := []) (lvl := 0) mixed k63 Tryd.func63 (by kernel_rfl) noLoop allT_nil allM_nil noI fun w xs us r hl hv h => ?_
  unfold m63 at h
  split at h
  · rename_i g0 a0 a1
    obtain ⟨hg, h⟩ := bif_pair h
    have q0 := hg
    obtain rfl := ctsEq_eq _ _ q0
    obtain ⟨h1, rfl⟩ := pair_inj h
    exact r63 a0 a1
  · cases h

/-! ### 34 loop.example/g01984/laws.szCracker -/
noncomputable def c34 : Cfg := cfg Tryd.prog [(34, 999, [4])] [(62, m62), (63, m63)] [] [] []
def q34 (a0_0 : List AV) (a0_1 : List AV) (a0_2 : List AV) (a1 : Int) : Bool := true
def v34_0 (a0_0 : List AV) (a0_1 : List AV) (a0_2 : List AV) (a1 : Int) : Int := (bif decide ((v62_0 a0_0 a1) < 0) then (-1) else (bif decide ((v62_0 a0_1 (v62_0 a0_0 a1)) < 0) then (-1) else (bif decide ((v63_0 a0_2 (v62_0 a0_1 (v62_0 a0_0 a1))) < 0) then (-1) else (v63_0 a0_2 (v62_0 a0_1 (v62_0 a0_0 a1))))))
theorem e34 (a0_0 : List AV) (a0_1 : List AV) (a0_2 : List AV) (a1 : Int) : funA c34 0 34 [AV.agg [AV.sl [.int .i64] a0_0, AV.sl [.int .i64] a0_1, AV.sl [.int .i64, .int .i64] a0_2], AV.int .i64 a1] = (bif decide ((v62_0 a0_0 a1) < 0) then some (AV.int .i64 (-1))
  else (bif decide ((v62_0 a0_1 (v62_0 a0_0 a1)) < 0) then some (AV.int .i64 (-1))
  else (bif decide ((v63_0 a0_2 (v62_0 a0_1 (v62_0 a0_0 a1))) < 0) then some (AV.int .i64 (-1))
  else some (AV.int .i64 (v63_0 a0_2 (v62_0 a0_1 (v62_0 a0_0 a1))))))) := by kernel_rfl
theorem r34 (a0_0 : List AV) (a0_1 : List AV) (a0_2 : List AV) (a1 : Int) : funA c34 0 34 [AV.agg [AV.sl [.int .i64] a0_0, AV.sl [.int .i64] a0_1, AV.sl [.int .i64, .int .i64] a0_2], AV.int .i64 a1] = some (AV.int .i64 (v34_0 a0_0 a0_1 a0_2 a1)) := (e34 a0_0 a0_1 a0_2 a1).trans (of_tt (brT (fun b => some (AV.int .i64 (bif b then (-1) else (bif decide ((v62_0 a0_1 (v62_0 a0_0 a1)) < 0) then (-1) else (bif decide ((v63_0 a0_2 (v62_0 a0_1 (v62_0 a0_0 a1))) < 0) then (-1) else (v63_0 a0_2 (v62_0 a0_1 (v62_0 a0_0 a1)))))))) (fun _ => rfl) (brT (fun b => some (AV.int .i64 (bif b then (-1) else (bif decide ((v63_0 a0_2 (v62_0 a0_1 (v62_0 a0_0 a1))) < 0) then (-1) else (v63_0 a0_2 (v62_0 a0_1 (v62_0 a0_0 a1))))))) (fun _ => rfl) (brT (fun b => some (AV.int .i64 (bif b then (-1) else (v63_0 a0_2 (v62_0 a0_1 (v62_0 a0_0 a1)))))) (fun _ => rfl) (fun _ => rfl)))))
def m34 : TModel
  | [.agg [.sl g0 a0_0, .sl g1 a0_1, .sl g2 a0_2], .int .i64 a1] => bif ctsEq g0 ([.int .i64]) && ctsEq g1 ([.int .i64]) && ctsEq g2 ([.int .i64, .int .i64]) then some (true, AV.int .i64 (v34_0 a0_0 a0_1 a0_2 a1)) else none
  | _ => none
theorem k34 : Known Tryd.prog 34 := ⟨Tryd.f34, Tryd.func34, by kernel_rfl, by kernel_rfl⟩
theorem meets34 : Meets Tryd.prog 34 m34 := by
  refine meet (f := Tryd.f34) (l := []) (hs := [(34, 999, [4])]) (ts := [(62, m62), (63, m63)]) (ws := []) (is := []) (ls := []) (lvl := 0) mixed k34 Tryd.func34 (by kernel_rfl) noLoop (allT_cons meets62 (allT_cons meets63 allT_nil)) allM_nil noI fun w xs us r hl hv h => ?_
  unfold m34 at h
  split at h
  · rename_i g0 a0_0 g1 a0_1 g2 a0_2 a1
    obtain ⟨hg, h⟩ := bif_pair h
    simp only [Bool.and_eq_true] at hg
    obtain ⟨⟨q0, q1⟩, q2⟩ := hg
    obtain rfl := ctsEq_eq _ _ q0
    obtain rfl := ctsEq_eq _ _ q1
    obtain rfl := ctsEq_eq _ _ q2
    obtain ⟨h1, rfl⟩ := pair_inj h
    exact r34 a0_0 a0_1 a0_2 a1
  · cases h

/-! ### 14 loop.example/g01984/laws.toIntS -/
def F14_0 (t0 : List AV) (t4 : Int) (h0 : List AV) : Out ((Int × (List AV))) (((List AV))) := (bif decide (t4 < (t0.length : Int)) then (bif (decide (0 ≤ t4) && decide (t4 < (t0.length : Int))) then (bif (decide (0 ≤ t4) && decide (t4 < (h0.length : Int))) then .next (IntKind.i64.wrap (t4 + 1), h0.set t4.toNat (AV.agg [AV.int .i64 (fI (t0.getD t4.toNat AV.undef) 0)]))
  else .fail)
  else .fail)
  else .stop h0)
def R14_0 (t0 : List AV) : ((Int × (List AV))) → Out ((Int × (List AV))) (((List AV))) := fun s : Int × (List AV) => F14_0 t0 s.1 s.2
def l14_0 : LModel := fun _ _ st k => match st with
  | ⟨[(0, .sl g0 t0), (3, .own g1), (4, .int .i64 t4)], [(g2, ⟨false, g3, h0⟩)]⟩ => bif ctsEq g0 ([.int .i64]) && nmEq g1 ([0, 3]) && nmEq g2 ([0, 3]) && ctsEq g3 ([.int .i64]) then ro (runW (R14_0 t0) (((t0.length : Int) - t4).toNat + 1) (t4, h0)) none (fun p : (List AV) => k (.exit 0) ⟨[(3, AV.own [0, 3])], [([0, 3], ⟨false, [.int .i64], p⟩)]⟩) else none
  | _ => none
noncomputable def c14 : Cfg := cfg Tryd.prog [(14, 0, [0, 3, 4]), (14, 999, [2]), (14, 1000, [3]), (14, 1001, [0, 3, 4])] [] [] [] [(14, 0, l14_0)]
theorem s14_0 (ce : CallE) (t0 : List AV) (t4 : Int) (h0 : List AV) (next : St → Option AV) (k : Kont) : stepA (codeA c14 ce [] 14 0 (sub [1, 1, 0, 1, 0, 0] (body Tryd.f14))) (normA [] [0, 3, 4]) next ⟨[(0, AV.sl [.int .i64] t0), (3, AV.own [0, 3]), (4, AV.int .i64 t4)], [([0, 3], ⟨false, [.int .i64], h0⟩)]⟩ k = (bif decide (t4 < (t0.length : Int)) then (bif (decide (0 ≤ t4) && decide (t4 < (t0.length : Int))) then (bif (decide (0 ≤ t4) && decide (t4 < (h0.length : Int))) then next ⟨[(0, AV.sl [.int .i64] t0), (3, AV.own [0, 3]), (4, AV.int .i64 (IntKind.i64.wrap (t4 + 1)))], [([0, 3], ⟨false, [.int .i64], h0.set t4.toNat (AV.agg [AV.int .i64 (fI (t0.getD t4.toNat AV.undef) 0)])⟩)]⟩
  else none)
  else none)
  else k (.exit 0) ⟨[(3, AV.own [0, 3])], [([0, 3], ⟨false, [.int .i64], h0⟩)]⟩) := by kernel_rfl
theorem st14_0 (t0 : List AV) (ce : CallE) (k : Kont) (s : (Int × (List AV))) (next : St → Option AV) : stepA (codeA c14 ce [] 14 0 (sub [1, 1, 0, 1, 0, 0] (body Tryd.f14))) (normA [] [0, 3, 4]) next ((fun s : Int × (List AV) => ⟨[(0, AV.sl [.int .i64] t0), (3, AV.own [0, 3]), (4, AV.int .i64 s.1)], [([0, 3], ⟨false, [.int .i64], s.2⟩)]⟩) s) k = (R14_0 t0 s).el none (fun s => next ((fun s : Int × (List AV) => ⟨[(0, AV.sl [.int .i64] t0), (3, AV.own [0, 3]), (4, AV.int .i64 s.1)], [([0, 3], ⟨false, [.int .i64], s.2⟩)]⟩) s)) (fun p : (List AV) => k (.exit 0) ⟨[(3, AV.own [0, 3])], [([0, 3], ⟨false, [.int .i64], p⟩)]⟩) := (s14_0 ce t0 s.1 s.2 next k).trans (by unfold R14_0; unfold F14_0; simp only [el_cond, el_ro, el_sum, el_fail, el_next, el_stop] <;> rfl)
theorem ok14_0 {ce : CallE} : LoopOK c14 ce [] 14 0 (sub [1, 1, 0, 1, 0, 0] (body Tryd.f14)) := by
  intro m hm st k r h
  obtain rfl : l14_0 = m := Option.some.inj hm
  unfold l14_0 at h
  split at h
  · rename_i g0 t0 g1 t4 g2 g3 h0
    obtain ⟨hg, h⟩ := bif_some h
    simp only [Bool.and_eq_true] at hg
    obtain ⟨⟨⟨q0, q1⟩, q2⟩, q3⟩ := hg
    obtain rfl := ctsEq_eq _ _ q0
    obtain rfl := (nmEq_iff _ _).1 q1
    obtain rfl := (nmEq_iff _ _).1 q2
    obtain rfl := ctsEq_eq _ _ q3
    refine ⟨(((t0.length : Int) - t4).toNat + 1), ?_⟩
    rw [← h]
    exact loop_run (fun s : Int × (List AV) => ⟨[(0, AV.sl [.int .i64] t0), (3, AV.own [0, 3]), (4, AV.int .i64 s.1)], [([0, 3], ⟨false, [.int .i64], s.2⟩)]⟩) (fun p : (List AV) => k (.exit 0) ⟨[(3, AV.own [0, 3])], [([0, 3], ⟨false, [.int .i64], p⟩)]⟩) (st14_0 t0 ce k) _ (t4, h0)
  · cases h
def q14 (a0 : List AV) : Bool := ((decide (0 ≤ (a0.length : Int)) && decide ((a0.length : Int) ≤ (a0.length : Int)) && decide ((a0.length : Int) * 8 ≤ 140737488355328) && decide ((a0.length : Int) ≤ 140737488355328)) && (ro (runW (R14_0 a0) (((a0.length : Int) - 0).toNat + 1) (0, List.replicate (Int.toNat (a0.length : Int)) (AV.int .i64 0))) false (fun p1 => true)))
def v14_0 (a0 : List AV) : List AV := (ro (runW (R14_0 a0) (((a0.length : Int) - 0).toNat + 1) (0, List.replicate (Int.toNat (a0.length : Int)) (AV.int .i64 0))) [] (fun p1 => p1))
theorem e14 (a0 : List AV) : funA c14 0 14 [AV.sl [.int .i64] a0] = (bif (decide (0 ≤ (a0.length : Int)) && decide ((a0.length : Int) ≤ (a0.length : Int)) && decide ((a0.length : Int) * 8 ≤ 140737488355328) && decide ((a0.length : Int) ≤ 140737488355328)) then (ro (runW (R14_0 a0) (((a0.length : Int) - 0).toNat + 1) (0, List.replicate (Int.toNat (a0.length : Int)) (AV.int .i64 0))) none (fun p1 => some (AV.fl [.int .i64] p1)))
  else none) := by kernel_rfl
theorem r14 (a0 : List AV) (h : q14 a0 = true) : funA c14 0 14 [AV.sl [.int .i64] a0] = some (AV.fl [.int .i64] (v14_0 a0)) := (e14 a0).trans ((brL (brO (fun o : Option (((List AV))) => some (AV.fl [.int .i64] (ro o [] (fun p1 => p1)))) (fun p1 => (fun _ => rfl)))) h)
def m14 : TModel
  | [.sl g0 a0] => bif ctsEq g0 ([.int .i64]) then some (q14 a0, AV.fl [.int .i64] (v14_0 a0)) else none
  | _ => none
theorem k14 : Known Tryd.prog 14 := ⟨Tryd.f14, Tryd.func14, by kernel_rfl, by kernel_rfl⟩
theorem meets14 : Meets Tryd.prog 14 m14 := by
  refine meet (f := Tryd.f14) (l := [(0, sub [1, 1, 0, 1, 0, 0] (body Tryd.f14))]) (hs := [(14, 0, [0, 3, 4]), (14, 999, [2]), (14, 1000, [3]), (14, 1001, [0, 3, 4])]) (ts := []) (ws := []) (is := []) (ls := [(14, 0, l14_0)]) (lvl := 0) mixed k14 Tryd.func14 (by kernel_rfl) (loops_cons ok14_0 noLoop) allT_nil allM_nil noI fun w xs us r hl hv h => ?_
  unfold m14 at h
  split at h
  · rename_i g0 a0
    obtain ⟨hg, h⟩ := bif_pair h
    have q0 := hg
    obtain rfl := ctsEq_eq _ _ q0
    obtain ⟨h1, rfl⟩ := pair_inj h
    exact r14 a0 h1
  · cases h

/-! ### 89 loop.example/g01984/laws.toPivot -/
noncomputable def c89 : Cfg := cfg Tryd.prog [(89, 999, [2])] [] [] [] []
def q89 (a0_0 : Int) (a0_1 : Int) : Bool := true
def v89_0 (a0_0 : Int) (a0_1 : Int) : Int := a0_0
def v89_1 (a0_0 : Int) (a0_1 : Int) : Int := a0_1
theorem e89 (a0_0 : Int) (a0_1 : Int) : funA c89 0 89 [AV.agg [AV.int .i64 a0_0, AV.int .i64 a0_1]] = some (AV.agg [AV.int .i64 a0_0, AV.int .i64 a0_1]) := by kernel_rfl
theorem r89 (a0_0 : Int) (a0_1 : Int) : funA c89 0 89 [AV.agg [AV.int .i64 a0_0, AV.int .i64 a0_1]] = some (AV.agg [AV.int .i64 (v89_0 a0_0 a0_1), AV.int .i64 (v89_1 a0_0 a0_1)]) := (e89 a0_0 a0_1).trans (of_tt (fun _ => rfl))
def m89 : TModel
  | [.agg [.int .i64 a0_0, .int .i64 a0_1]] => some (true, AV.agg [AV.int .i64 (v89_0 a0_0 a0_1), AV.int .i64 (v89_1 a0_0 a0_1)])
  | _ => none
theorem k89 : Known Tryd.prog 89 := ⟨Tryd.f89, Tryd.func89, by kernel_rfl, by kernel_rfl⟩
theorem meets89 : Meets Tryd.prog 89 m89 := by
  refine meet (f := Tryd.f89) (l := []) (hs := [(89, 999, [2])]) (ts := []) (ws := []) (is := []) (ls := []) (lvl := 0) mixed k89 Tryd.func89 (by kernel_rfl) noLoop allT_nil allM_nil noI fun w xs us r hl hv h => ?_
  unfold m89 at h
  split at h
  · rename_i a0_0 a0_1
    obtain ⟨h1, rfl⟩ := pair_inj h
    exact r89 a0_0 a0_1
  · cases h

/-! ### 65 loop.example/g01984/laws.toPivotS -/
def F65_0 (t0 : List AV) (t4 : Int) (h0 : List AV) : Out ((Int × (List AV))) (((List AV))) := (bif decide (t4 < (t0.length : Int)) then (bif (decide (0 ≤ t4) && decide (t4 < (t0.length : Int))) then (bif (decide (0 ≤ t4) && decide (t4 < (h0.length : Int))) then .next (IntKind.i64.wrap (t4 + 1), h0.set t4.toNat (AV.agg [AV.int .i64 (v89_0 (fI (t0.getD t4.toNat AV.undef) 0) (fI (t0.getD t4.toNat AV.undef) 1)), AV.int .i64 (v89_1 (fI (t0.getD t4.toNat AV.undef) 0) (fI (t0.getD t4.toNat AV.undef) 1))]))
  else .fail)
  else .fail)
  else .stop h0)
def R65_0 (t0 : List AV) : ((Int × (List AV))) → Out ((Int × (List AV))) (((List AV))) := fun s : Int × (List AV) => F65_0 t0 s.1 s.2
def l65_0 : LModel := fun _ _ st k => match st with
  | ⟨[(0, .sl g0 t0), (3, .own g1), (4, .int .i64 t4)], [(g2, ⟨false, g3, h0⟩)]⟩ => bif ctsEq g0 ([.int .i64, .int .i64]) && nmEq g1 ([0, 3]) && nmEq g2 ([0, 3]) && ctsEq g3 ([.int .i64, .int .i64]) then ro (runW (R65_0 t0) (((t0.length : Int) - t4).toNat + 1) (t4, h0)) none (fun p : (List AV) => k (.exit 0) ⟨[(3, AV.own [0, 3])], [([0, 3], ⟨false, [.int .i64, .int .i64], p⟩)]⟩) else none
  | _ => none
noncomputable def c65 : Cfg := cfg Tryd.prog [(65, 0, [0, 3, 4]), (65, 999, [2]), (65, 1000, [3]), (65, 1001, [0, 3, 4])] [(89, m89)] [] [] [(65, 0, l65_0)]
theorem s65_0 (ce : CallE) (t0 : List AV) (t4 : Int) (h0 : List AV) (next : St → Option AV) (k : Kont) : stepA (codeA c65 ce [] 65 0 (sub [1, 1, 0, 1, 0, 0] (body Tryd.f65))) (normA [] [0, 3, 4]) next ⟨[(0, AV.sl [.int .i64, .int .i64] t0), (3, AV.own [0, 3]), (4, AV.int .i64 t4)], [([0, 3], ⟨false, [.int .i64, .int .i64], h0⟩)]⟩ k = (bif decide (t4 < (t0.length : Int)) then (bif (decide (0 ≤ t4) && decide (t4 < (t0.length : Int))) then (bif (decide (0 ≤ t4) && decide (t4 < (h0.length : Int))) then next ⟨[(0, AV.sl [.int .i64, .int .i64] t0), (3, AV.own [0, 3]), (4, AV.int .i64 (IntKind.i64.wrap (t4 + 1)))], [([0, 3], ⟨false, [.int .i64, .int .i64], h0.set t4.toNat (AV.agg [AV.int .i64 (v89_0 (fI (t0.getD t4.toNat AV.undef) 0) (fI (t0.getD t4.toNat AV.undef) 1)), AV.int .i64 (v89_1 (fI (t0.getD t4.toNat AV.undef) 0) (fI (t0.getD t4.toNat AV.undef) 1))])⟩)]⟩
  else none)
  else none)
  else k (.exit 0) ⟨[(3, AV.own [0, 3])], [([0, 3], ⟨false, [.int .i64, .int .i64], h0⟩)]⟩) := by kernel_rfl
theorem st65_0 (t0 : List AV) (ce : CallE) (k : Kont) (s : (Int × (List AV))) (next : St → Option AV) : stepA (codeA c65 ce [] 65 0 (sub [1, 1, 0, 1, 0, 0] (body Tryd.f65))) (normA [] [0, 3, 4]) next ((fun s : Int × (List AV) => ⟨[(0, AV.sl [.int .i64, .int .i64] t0), (3, AV.own [0, 3]), (4, AV.int .i64 s.1)], [([0, 3], ⟨false, [.int .i64, .int .i64], s.2⟩)]⟩) s) k = (R65_0 t0 s).el none (fun s => next ((fun s : Int × (List AV) => ⟨[(0, AV.sl [.int .i64, .int .i64] t0), (3, AV.own [0, 3]), (4, AV.int .i64 s.1)], [([0, 3], ⟨false, [.int .i64, .int .i64], s.2⟩)]⟩) s)) (fun p : (List AV) => k (.exit 0) ⟨[(3, AV.own [0, 3])], [([0, 3], ⟨false, [.int .i64, .int .i64], p⟩)]⟩) := (s65_0 ce t0 s.1 s.2 next k).trans (by unfold R65_0; unfold F65_0; simp only [el_cond, el_ro, el_sum, el_fail, el_next, el_stop] <;> rfl)
theorem ok65_0 {ce : CallE} : LoopOK c65 ce [] 65 0 (sub [1, 1, 0, 1, 0, 0] (body Tryd.f65)) := by
  intro m hm st k r h
  obtain rfl : l65_0 = m := Option.some.inj hm
  unfold l65_0 at h
  split at h
  · rename_i g0 t0 g1 t4 g2 g3 h0
    obtain ⟨hg, h⟩ := bif_some h
    simp only [Bool.and_eq_true] at hg
    obtain ⟨⟨⟨q0, q1⟩, q2⟩, q3⟩ := hg
    obtain rfl := ctsEq_eq _ _ q0
    obtain rfl := (nmEq_iff _ _).1 q1
    obtain rfl := (nmEq_iff _ _).1 q2
    obtain rfl := ctsEq_eq _ _ q3
    refine ⟨(((t0.length : Int) - t4).toNat + 1), ?_⟩
    rw [← h]
    exact loop_run (fun s : Int × (List AV) => ⟨[(0, AV.sl [.int .i64, .int .i64] t0), (3, AV.own [0, 3]), (4, AV.int .i64 s.1)], [([0, 3], ⟨false, [.int .i64, .int .i64], s.2⟩)]⟩) (fun p : (List AV) => k (.exit 0) ⟨[(3, AV.own [0, 3])], [([0, 3], ⟨false, [.int .i64, .int .i64], p⟩)]⟩) (st65_0 t0 ce k) _ (t4, h0)
  · cases h
def q65 (a0 : List AV) : Bool := ((decide (0 ≤ (a0.length : Int)) && decide ((a0.length : Int) ≤ (a0.length : Int)) && decide ((a0.length : Int) * 16 ≤ 140737488355328) && decide ((a0.length : Int) ≤ 140737488355328)) && (ro (runW (R65_0 a0) (((a0.length : Int) - 0).toNat + 1) (0, List.replicate (Int.toNat (a0.length : Int)) (AV.agg [AV.int .i64 0, AV.int .i64 0]))) false (fun p2 => true)))
def v65_0 (a0 : List AV) : List AV := (ro (runW (R65_0 a0) (((a0.length : Int) - 0).toNat + 1) (0, List.replicate (Int.toNat (a0.length : Int)) (AV.agg [AV.int .i64 0, AV.int .i64 0]))) [] (fun p2 => p2))
theorem e65 (a0 : List AV) : funA c65 0 65 [AV.sl [.int .i64, .int .i64] a0] = (bif (decide (0 ≤ (a0.length : Int)) && decide ((a0.length : Int) ≤ (a0.length : Int)) && decide ((a0.length : Int) * 16 ≤ 140737488355328) && decide ((a0.length : Int) ≤ 140737488355328)) then (ro (runW (R65_0 a0) (((a0.length : Int) - 0).toNat + 1) (0, List.replicate (Int.toNat (a0.length : Int)) (AV.agg [AV.int .i64 0, AV.int .i64 0]))) none (fun p2 => some (AV.fl [.int .i64, .int .i64] p2)))
  else none) := by kernel_rfl
theorem r65 (a0 : List AV) (h : q65 a0 = true) : funA c65 0 65 [AV.sl [.int .i64, .int .i64] a0] = some (AV.fl [.int .i64, .int .i64] (v65_0 a0)) := (e65 a0).trans ((brL (brO (fun o : Option (((List AV))) => some (AV.fl [.int .i64, .int .i64] (ro o [] (fun p2 => p2)))) (fun p2 => (fun _ => rfl)))) h)
def m65 : TModel
  | [.sl g0 a0] => bif ctsEq g0 ([.int .i64, .int .i64]) then some (q65 a0, AV.fl [.int .i64, .int .i64] (v65_0 a0)) else none
  | _ => none
theorem k65 : Known Tryd.prog 65 := ⟨Tryd.f65, Tryd.func65, by kernel_rfl, by kernel_rfl⟩
theorem meets65 : Meets Tryd.prog 65 m65 := by
  refine meet (f := Tryd.f65) (l := [(0, sub [1, 1, 0, 1, 0, 0] (body Tryd.f65))]) (hs := [(65, 0, [0, 3, 4]), (65, 999, [2]), (65, 1000, [3]), (65, 1001, [0, 3, 4])]) (ts := [(89, m89)]) (ws := []) (is := []) (ls := [(65, 0, l65_0)]) (lvl := 0) mixed k65 Tryd.func65 (by kernel_rfl) (loops_cons ok65_0 noLoop) (allT_cons meets89 allT_nil) allM_nil noI fun w xs us r hl hv h => ?_
  unfold m65 at h
  split at h
  · rename_i g0 a0
    obtain ⟨hg, h⟩ := bif_pair h
    have q0 := hg
    obtain rfl := ctsEq_eq _ _ q0
    obtain ⟨h1, rfl⟩ := pair_inj h
    exact r65 a0 h1
  · cases h

/-! ### 36 loop.example/g01984/laws.toCracker -/
noncomputable def c36 : Cfg := cfg Tryd.prog [(36, 999, [2])] [(14, m14), (65, m65)] [] [] []
def q36 (a0_0 : List AV) (a0_1 : List AV) (a0_2 : List AV) : Bool := (q14 a0_0 && (q14 a0_1 && q65 a0_2))
def v36_0 (a0_0 : List AV) (a0_1 : List AV) (a0_2 : List AV) : List AV := (v14_0 a0_0)
def v36_1 (a0_0 : List AV) (a0_1 : List AV) (a0_2 : List AV) : List AV := (v14_0 a0_1)
def v36_2 (a0_0 : List AV) (a0_1 : List AV) (a0_2 : List AV) : List AV := (v65_0 a0_2)
theorem e36 (a0_0 : List AV) (a0_1 : List AV) (a0_2 : List AV) : funA c36 0 36 [AV.agg [AV.sl [.int .i64] a0_0, AV.sl [.int .i64] a0_1, AV.sl [.int .i64, .int .i64] a0_2]] = (bif q14 a0_0 then (bif q14 a0_1 then (bif q65 a0_2 then some (AV.agg [AV.fl [.int .i64] (v14_0 a0_0), AV.fl [.int .i64] (v14_0 a0_1), AV.fl [.int .i64, .int .i64] (v65_0 a0_2)])
  else none)
  else none)
  else none) := by kernel_rfl
theorem r36 (a0_0 : List AV) (a0_1 : List AV) (a0_2 : List AV) (h : q36 a0_0 a0_1 a0_2 = true) : funA c36 0 36 [AV.agg [AV.sl [.int .i64] a0_0, AV.sl [.int .i64] a0_1, AV.sl [.int .i64, .int .i64] a0_2]] = some (AV.agg [AV.fl [.int .i64] (v36_0 a0_0 a0_1 a0_2), AV.fl [.int .i64] (v36_1 a0_0 a0_1 a0_2), AV.fl [.int .i64, .int .i64] (v36_2 a0_0 a0_1 a0_2)]) := (e36 a0_0 a0_1 a0_2).trans ((brL (brL (brL1 (fun _ => rfl)))) h)
def m36 : TModel
  | [.agg [.sl g0 a0_0, .sl g1 a0_1, .sl g2 a0_2]] => bif ctsEq g0 ([.int .i64]) && ctsEq g1 ([.int .i64]) && ctsEq g2 ([.int .i64, .int .i64]) then some (q36 a0_0 a0_1 a0_2, AV.agg [AV.fl [.int .i64] (v36_0 a0_0 a0_1 a0_2), AV.fl [.int .i64] (v36_1 a0_0 a0_1 a0_2), AV.fl [.int .i64, .int .i64] (v36_2 a0_0 a0_1 a0_2)]) else none
  | _ => none
theorem k36 : Known Tryd.prog 36 := ⟨Tryd.f36, Tryd.func36, by kernel_rfl, by kernel_rfl⟩
theorem meets36 : Meets Tryd.prog 36 m36 := by
  refine meet (f := Tryd.f36) (l := []) (hs := [(36, 999, [2])]) (ts := [(14, m14), (65, m65)]) (ws := []) (is := []) (ls := []) (lvl := 0) mixed k36 Tryd.func36 (by kernel_rfl) noLoop (allT_cons meets14 (allT_cons meets65 allT_nil)) allM_nil noI fun w xs us r hl hv h => ?_
  unfold m36 at h
  split at h
  · rename_i g0 a0_0 g1 a0_1 g2 a0_2
    obtain ⟨hg, h⟩ := bif_pair h
    simp only [Bool.and_eq_true] at hg
    obtain ⟨⟨q0, q1⟩, q2⟩ := hg
    obtain rfl := ctsEq_eq _ _ q0
    obtain rfl := ctsEq_eq _ _ q1
    obtain rfl := ctsEq_eq _ _ q2
    obtain ⟨h1, rfl⟩ := pair_inj h
    exact r36 a0_0 a0_1 a0_2 h1
  · cases h

/-! ### 68 loop.example/g01984/spec.l4Ends -/
def F68_0 (h0_0 : List AV) (h0_1 : List AV) (h0_2 : List AV) (t4 : Int) (h1 : List AV) : Out ((Int × (List AV))) (((List AV))) := (bif decide (t4 < (h0_2.length : Int)) then (bif (decide (0 ≤ t4) && decide (t4 < (h0_2.length : Int))) then (bif (decide ((h1.length + ([AV.int .i64 (fI (h0_2.getD t4.toNat AV.undef) 1)]).length) * 8 ≤ 140737488355328) && decide ((h1.length + ([AV.int .i64 (fI (h0_2.getD t4.toNat AV.undef) 1)]).length) ≤ 140737488355328)) then .next (IntKind.i64.wrap (t4 + 1), h1 ++ ([AV.int .i64 (fI (h0_2.getD t4.toNat AV.undef) 1)]))
  else .fail)
  else .fail)
  else .stop h1)
def R68_0 (h0_0 : List AV) (h0_1 : List AV) (h0_2 : List AV) : ((Int × (List AV))) → Out ((Int × (List AV))) (((List AV))) := fun s : Int × (List AV) => F68_0 h0_0 h0_1 h0_2 s.1 s.2
def l68_0 : LModel := fun _ _ st k => match st with
  | ⟨[(1, .ptr g0 g1 g2), (3, .own g3), (4, .int .i64 t4)], [(g4, ⟨true, [], [.agg [.sl g5 h0_0, .sl g6 h0_1, .sl g7 h0_2]]⟩), (g8, ⟨false, g9, h1⟩)]⟩ => bif nmEq g0 ([0, 1]) && Nat.beq g1 0 && Nat.beq g2 0 && nmEq g3 ([0, 3]) && nmEq g4 ([0, 1]) && ctsEq g5 ([.int .i64]) && ctsEq g6 ([.int .i64]) && ctsEq g7 ([.int .i64, .int .i64]) && nmEq g8 ([0, 3]) && ctsEq g9 ([.int .i64]) then ro (runW (R68_0 h0_0 h0_1 h0_2) (((h0_2.length : Int) - t4).toNat + 1) (t4, h1)) none (fun p : (List AV) => k (.exit 0) ⟨[(1, AV.ptr [0, 1] 0 0), (3, AV.own [0, 3])], [([0, 1], ⟨true, [], [AV.agg [AV.sl [.int .i64] h0_0, AV.sl [.int .i64] h0_1, AV.sl [.int .i64, .int .i64] h0_2]]⟩), ([0, 3], ⟨false, [.int .i64], p⟩)]⟩) else none
  | _ => none
noncomputable def c68 : Cfg := cfg Tryd.prog [(68, 0, [1, 3, 4]), (68, 999, [2]), (68, 1000, [1, 3]), (68, 1001, [1, 3, 4])] [] [] [] [(68, 0, l68_0)]
theorem s68_0 (ce : CallE) (t4 : Int) (h0_0 : List AV) (h0_1 : List AV) (h0_2 : List AV) (h1 : List AV) (next : St → Option AV) (k : Kont) : stepA (codeA c68 ce [] 68 0 (sub [1, 1, 0, 1, 0, 0] (body Tryd.f68))) (normA [] [1, 3, 4]) next ⟨[(1, AV.ptr [0, 1] 0 0), (3, AV.own [0, 3]), (4, AV.int .i64 t4)], [([0, 1], ⟨true, [], [AV.agg [AV.sl [.int .i64] h0_0, AV.sl [.int .i64] h0_1, AV.sl [.int .i64, .int .i64] h0_2]]⟩), ([0, 3], ⟨false, [.int .i64], h1⟩)]⟩ k = (bif decide (t4 < (h0_2.length : Int)) then (bif (decide (0 ≤ t4) && decide (t4 < (h0_2.length : Int))) then (bif (decide ((h1.length + ([AV.int .i64 (fI (h0_2.getD t4.toNat AV.undef) 1)]).length) * 8 ≤ 140737488355328) && decide ((h1.length + ([AV.int .i64 (fI (h0_2.getD t4.toNat AV.undef) 1)]).length) ≤ 140737488355328)) then next ⟨[(1, AV.ptr [0, 1] 0 0), (3, AV.own [0, 3]), (4, AV.int .i64 (IntKind.i64.wrap (t4 + 1)))], [([0, 1], ⟨true, [], [AV.agg [AV.sl [.int .i64] h0_0, AV.sl [.int .i64] h0_1, AV.sl [.int .i64, .int .i64] h0_2]]⟩), ([0, 3], ⟨false, [.int .i64], h1 ++ ([AV.int .i64 (fI (h0_2.getD t4.toNat AV.undef) 1)])⟩)]⟩
  else none)
  else none)
  else k (.exit 0) ⟨[(1, AV.ptr [0, 1] 0 0), (3, AV.own [0, 3])], [([0, 1], ⟨true, [], [AV.agg [AV.sl [.int .i64] h0_0, AV.sl [.int .i64] h0_1, AV.sl [.int .i64, .int .i64] h0_2]]⟩), ([0, 3], ⟨false, [.int .i64], h1⟩)]⟩) := by kernel_rfl
theorem st68_0 (h0_0 : List AV) (h0_1 : List AV) (h0_2 : List AV) (ce : CallE) (k : Kont) (s : (Int × (List AV))) (next : St → Option AV) : stepA (codeA c68 ce [] 68 0 (sub [1, 1, 0, 1, 0, 0] (body Tryd.f68))) (normA [] [1, 3, 4]) next ((fun s : Int × (List AV) => ⟨[(1, AV.ptr [0, 1] 0 0), (3, AV.own [0, 3]), (4, AV.int .i64 s.1)], [([0, 1], ⟨true, [], [AV.agg [AV.sl [.int .i64] h0_0, AV.sl [.int .i64] h0_1, AV.sl [.int .i64, .int .i64] h0_2]]⟩), ([0, 3], ⟨false, [.int .i64], s.2⟩)]⟩) s) k = (R68_0 h0_0 h0_1 h0_2 s).el none (fun s => next ((fun s : Int × (List AV) => ⟨[(1, AV.ptr [0, 1] 0 0), (3, AV.own [0, 3]), (4, AV.int .i64 s.1)], [([0, 1], ⟨true, [], [AV.agg [AV.sl [.int .i64] h0_0, AV.sl [.int .i64] h0_1, AV.sl [.int .i64, .int .i64] h0_2]]⟩), ([0, 3], ⟨false, [.int .i64], s.2⟩)]⟩) s)) (fun p : (List AV) => k (.exit 0) ⟨[(1, AV.ptr [0, 1] 0 0), (3, AV.own [0, 3])], [([0, 1], ⟨true, [], [AV.agg [AV.sl [.int .i64] h0_0, AV.sl [.int .i64] h0_1, AV.sl [.int .i64, .int .i64] h0_2]]⟩), ([0, 3], ⟨false, [.int .i64], p⟩)]⟩) := (s68_0 ce s.1 h0_0 h0_1 h0_2 s.2 next k).trans (by unfold R68_0; unfold F68_0; simp only [el_cond, el_ro, el_sum, el_fail, el_next, el_stop] <;> rfl)
theorem ok68_0 {ce : CallE} : LoopOK c68 ce [] 68 0 (sub [1, 1, 0, 1, 0, 0] (body Tryd.f68)) := by
  intro m hm st k r h
  obtain rfl : l68_0 = m := Option.some.inj hm
  unfold l68_0 at h
  split at h
  · rename_i g0 g1 g2 g3 t4 g4 g5 h0_0 g6 h0_1 g7 h0_2 g8 g9 h1
    obtain ⟨hg, h⟩ := bif_some h
    simp only [Bool.and_eq_true] at hg
    obtain ⟨⟨⟨⟨⟨⟨⟨⟨⟨q0, q1⟩, q2⟩, q3⟩, q4⟩, q5⟩, q6⟩, q7⟩, q8⟩, q9⟩ := hg
    obtain rfl := (nmEq_iff _ _).1 q0
    obtain rfl := Nat.eq_of_beq_eq_true q1
    obtain rfl := Nat.eq_of_beq_eq_true q2
    obtain rfl := (nmEq_iff _ _).1 q3
    obtain rfl := (nmEq_iff _ _).1 q4
    obtain rfl := ctsEq_eq _ _ q5
    obtain rfl := ctsEq_eq _ _ q6
    obtain rfl := ctsEq_eq _ _ q7
    obtain rfl := (nmEq_iff _ _).1 q8
    obtain rfl := ctsEq_eq _ _ q9
    refine ⟨(((h0_2.length : Int) - t4).toNat + 1), ?_⟩
    rw [← h]
    exact loop_run (fun s : Int × (List AV) => ⟨[(1, AV.ptr [0, 1] 0 0), (3, AV.own [0, 3]), (4, AV.int .i64 s.1)], [([0, 1], ⟨true, [], [AV.agg [AV.sl [.int .i64] h0_0, AV.sl [.int .i64] h0_1, AV.sl [.int .i64, .int .i64] h0_2]]⟩), ([0, 3], ⟨false, [.int .i64], s.2⟩)]⟩) (fun p : (List AV) => k (.exit 0) ⟨[(1, AV.ptr [0, 1] 0 0), (3, AV.own [0, 3])], [([0, 1], ⟨true, [], [AV.agg [AV.sl [.int .i64] h0_0, AV.sl [.int .i64] h0_1, AV.sl [.int .i64, .int .i64] h0_2]]⟩), ([0, 3], ⟨false, [.int .i64], p⟩)]⟩) (st68_0 h0_0 h0_1 h0_2 ce k) _ (t4, h1)
  · cases h
def q68 (a0_0 : List AV) (a0_1 : List AV) (a0_2 : List AV) : Bool := (ro (runW (R68_0 a0_0 a0_1 a0_2) (((a0_2.length : Int) - 0).toNat + 1) (0, ([] : List AV))) false (fun p3 => (decide ((p3.length + ([AV.int .i64 (a0_0.length : Int)]).length) * 8 ≤ 140737488355328) && decide ((p3.length + ([AV.int .i64 (a0_0.length : Int)]).length) ≤ 140737488355328))))
def v68_0 (a0_0 : List AV) (a0_1 : List AV) (a0_2 : List AV) : List AV := (ro (runW (R68_0 a0_0 a0_1 a0_2) (((a0_2.length : Int) - 0).toNat + 1) (0, ([] : List AV))) [] (fun p3 => p3 ++ ([AV.int .i64 (a0_0.length : Int)])))
theorem e68 (a0_0 : List AV) (a0_1 : List AV) (a0_2 : List AV) : funA c68 0 68 [AV.agg [AV.sl [.int .i64] a0_0, AV.sl [.int .i64] a0_1, AV.sl [.int .i64, .int .i64] a0_2]] = (ro (runW (R68_0 a0_0 a0_1 a0_2) (((a0_2.length : Int) - 0).toNat + 1) (0, ([] : List AV))) none (fun p3 => (bif (decide ((p3.length + ([AV.int .i64 (a0_0.length : Int)]).length) * 8 ≤ 140737488355328) && decide ((p3.length + ([AV.int .i64 (a0_0.length : Int)]).length) ≤ 140737488355328)) then some (AV.fl [.int .i64] (p3 ++ ([AV.int .i64 (a0_0.length : Int)])))
  else none))) := by kernel_rfl
theorem r68 (a0_0 : List AV) (a0_1 : List AV) (a0_2 : List AV) (h : q68 a0_0 a0_1 a0_2 = true) : funA c68 0 68 [AV.agg [AV.sl [.int .i64] a0_0, AV.sl [.int .i64] a0_1, AV.sl [.int .i64, .int .i64] a0_2]] = some (AV.fl [.int .i64] (v68_0 a0_0 a0_1 a0_2)) := (e68 a0_0 a0_1 a0_2).trans ((brO (fun o : Option (((List AV))) => some (AV.fl [.int .i64] (ro o [] (fun p3 => p3 ++ ([AV.int .i64 (a0_0.length : Int)]))))) (fun p3 => (brL1 (fun _ => rfl)))) h)
def m68 : TModel
  | [.agg [.sl g0 a0_0, .sl g1 a0_1, .sl g2 a0_2]] => bif ctsEq g0 ([.int .i64]) && ctsEq g1 ([.int .i64]) && ctsEq g2 ([.int .i64, .int .i64]) then some (q68 a0_0 a0_1 a0_2, AV.fl [.int .i64] (v68_0 a0_0 a0_1 a0_2)) else none
  | _ => none
theorem k68 : Known Tryd.prog 68 := ⟨Tryd.f68, Tryd.func68, by kernel_rfl, by kernel_rfl⟩
theorem meets68 : Meets Tryd.prog 68 m68 := by
  refine meet (f := Tryd.f68) (l := [(0, sub [1, 1, 0, 1, 0, 0] (body Tryd.f68))]) (hs := [(68, 0, [1, 3, 4]), (68, 999, [2]), (68, 1000, [1, 3]), (68, 1001, [1, 3, 4])]) (ts := []) (ws := []) (is := []) (ls := [(68, 0, l68_0)]) (lvl := 0) mixed k68 Tryd.func68 (by kernel_rfl) (loops_cons ok68_0 noLoop) allT_nil allM_nil noI fun w xs us r hl hv h => ?_
  unfold m68 at h
  split at h
  · rename_i g0 a0_0 g1 a0_1 g2 a0_2
    obtain ⟨hg, h⟩ := bif_pair h
    simp only [Bool.and_eq_true] at hg
    obtain ⟨⟨q0, q1⟩, q2⟩ := hg
    obtain rfl := ctsEq_eq _ _ q0
    obtain rfl := ctsEq_eq _ _ q1
    obtain rfl := ctsEq_eq _ _ q2
    obtain ⟨h1, rfl⟩ := pair_inj h
    exact r68 a0_0 a0_1 a0_2 h1
  · cases h

/-! ### 42 loop.example/g01984/spec.l1In -/
noncomputable def c42 : Cfg := cfg Tryd.prog [(42, 999, [6])] [] [] [] []
def q42 (a0 : Int) (a1 : Int) (a2 : Int) : Bool := true
def v42_0 (a0 : Int) (a1 : Int) (a2 : Int) : Bool := (bif decide (a0 ≥ a1) then decide (a0 ≤ a2) else false)
theorem e42 (a0 : Int) (a1 : Int) (a2 : Int) : funA c42 0 42 [AV.int .i64 a0, AV.int .i64 a1, AV.int .i64 a2] = (bif decide (a0 ≥ a1) then some (AV.bool (decide (a0 ≤ a2)))
  else some (AV.bool false)) := by kernel_rfl
theorem r42 (a0 : Int) (a1 : Int) (a2 : Int) : funA c42 0 42 [AV.int .i64 a0, AV.int .i64 a1, AV.int .i64 a2] = some (AV.bool (v42_0 a0 a1 a2)) := (e42 a0 a1 a2).trans (of_tt (brT (fun b => some (AV.bool (bif b then decide (a0 ≤ a2) else false))) (fun _ => rfl) (fun _ => rfl)))
def m42 : TModel
  | [.int .i64 a0, .int .i64 a1, .int .i64 a2] => some (true, AV.bool (v42_0 a0 a1 a2))
  | _ => none
theorem k42 : Known Tryd.prog 42 := ⟨Tryd.f42, Tryd.func42, by kernel_rfl, by kernel_rfl⟩
theorem meets42 : Meets Tryd.prog 42 m42 := by
  refine meet (f := Tryd.f42) (l := []) (hs := [(42, 999, [6])]) (ts := []) (ws := []) (is := []) (ls := []) (lvl := 0) mixed k42 Tryd.func42 (by kernel_rfl) noLoop allT_nil allM_nil noI fun w xs us r hl hv h => ?_
  unfold m42 at h
  split at h
  · rename_i a0 a1 a2
    obtain ⟨h1, rfl⟩ := pair_inj h
    exact r42 a0 a1 a2
  · cases h

/-! ### 86 loop.example/g01984/spec.AreValues -/
def F86_0 (t0 : List AV) (t3 : Int) : Out (Int) (Unit ⊕ Unit) := (bif decide (t3 < (t0.length : Int)) then (bif (decide (0 ≤ t3) && decide (t3 < (t0.length : Int))) then (bif !(v42_0 (fI (t0.getD t3.toNat AV.undef) 0) (-999) 999) then .stop (.inr ())
  else .next (IntKind.i64.wrap (t3 + 1)))
  else .fail)
  else .stop (.inl ()))
def R86_0 (t0 : List AV) : (Int) → Out (Int) (Unit ⊕ Unit) := fun s : Int => F86_0 t0 s
def l86_0 : LModel := fun _ _ st k => match st with
  | ⟨[(0, .sl g0 t0), (3, .int .i64 t3)], []⟩ => bif ctsEq g0 ([.int .i64]) then ro (runW (R86_0 t0) (((t0.length : Int) - t3).toNat + 1) t3) none (sumE (fun _ : Unit => k (.exit 0) ⟨[(0, AV.sl [.int .i64] t0)], []⟩) (fun _ : Unit => k .ret ⟨[(2, AV.bool false)], []⟩)) else none
  | _ => none
noncomputable def c86 : Cfg := cfg Tryd.prog [(86, 0, [0, 3]), (86, 999, [2]), (86, 1000, [0]), (86, 1001, [0, 3])] [(42, m42)] [] [] [(86, 0, l86_0)]
theorem s86_0 (ce : CallE) (t0 : List AV) (t3 : Int) (next : St → Option AV) (k : Kont) : stepA (codeA c86 ce [] 86 0 (sub [1, 0, 1, 0, 0] (body Tryd.f86))) (normA [] [0, 3]) next ⟨[(0, AV.sl [.int .i64] t0), (3, AV.int .i64 t3)], []⟩ k = (bif decide (t3 < (t0.length : Int)) then (bif (decide (0 ≤ t3) && decide (t3 < (t0.length : Int))) then (bif !(v42_0 (fI (t0.getD t3.toNat AV.undef) 0) (-999) 999) then k .ret ⟨[(2, AV.bool false)], []⟩
  else next ⟨[(0, AV.sl [.int .i64] t0), (3, AV.int .i64 (IntKind.i64.wrap (t3 + 1)))], []⟩)
  else none)
  else k (.exit 0) ⟨[(0, AV.sl [.int .i64] t0)], []⟩) := by kernel_rfl
theorem st86_0 (t0 : List AV) (ce : CallE) (k : Kont) (s : Int) (next : St → Option AV) : stepA (codeA c86 ce [] 86 0 (sub [1, 0, 1, 0, 0] (body Tryd.f86))) (normA [] [0, 3]) next ((fun s : Int => ⟨[(0, AV.sl [.int .i64] t0), (3, AV.int .i64 s)], []⟩) s) k = (R86_0 t0 s).el none (fun s => next ((fun s : Int => ⟨[(0, AV.sl [.int .i64] t0), (3, AV.int .i64 s)], []⟩) s)) (sumE (fun _ : Unit => k (.exit 0) ⟨[(0, AV.sl [.int .i64] t0)], []⟩) (fun _ : Unit => k .ret ⟨[(2, AV.bool false)], []⟩)) := (s86_0 ce t0 s next k).trans (by unfold R86_0; unfold F86_0; simp only [el_cond, el_ro, el_sum, el_fail, el_next, el_stop] <;> rfl)
theorem ok86_0 {ce : CallE} : LoopOK c86 ce [] 86 0 (sub [1, 0, 1, 0, 0] (body Tryd.f86)) := by
  intro m hm st k r h
  obtain rfl : l86_0 = m := Option.some.inj hm
  unfold l86_0 at h
  split at h
  · rename_i g0 t0 t3
    obtain ⟨hg, h⟩ := bif_some h
    have q0 := hg
    obtain rfl := ctsEq_eq _ _ q0
    refine ⟨(((t0.length : Int) - t3).toNat + 1), ?_⟩
    rw [← h]
    exact loop_run (fun s : Int => ⟨[(0, AV.sl [.int .i64] t0), (3, AV.int .i64 s)], []⟩) (sumE (fun _ : Unit => k (.exit 0) ⟨[(0, AV.sl [.int .i64] t0)], []⟩) (fun _ : Unit => k .ret ⟨[(2, AV.bool false)], []⟩)) (st86_0 t0 ce k) _ t3
  · cases h
def q86 (a0 : List AV) : Bool := (ro (runW (R86_0 a0) (((a0.length : Int) - 0).toNat + 1) 0) false (sumE (fun _ => true) (fun _ => true)))
def v86_0 (a0 : List AV) : Bool := (ro (runW (R86_0 a0) (((a0.length : Int) - 0).toNat + 1) 0) false (sumE (fun _ => decide ((a0.length : Int) ≤ 64)) (fun _ => false)))
theorem e86 (a0 : List AV) : funA c86 0 86 [AV.sl [.int .i64] a0] = (ro (runW (R86_0 a0) (((a0.length : Int) - 0).toNat + 1) 0) none (sumE (fun _ => some (AV.bool (decide ((a0.length : Int) ≤ 64)))) (fun _ => some (AV.bool false)))) := by kernel_rfl
theorem r86 (a0 : List AV) (h : q86 a0 = true) : funA c86 0 86 [AV.sl [.int .i64] a0] = some (AV.bool (v86_0 a0)) := (e86 a0).trans ((brO (fun o : Option (Unit ⊕ Unit) => some (AV.bool (ro o false (sumE (fun _ => decide ((a0.length : Int) ≤ 64)) (fun _ => false))))) (brS (fun o : Unit ⊕ Unit => some (AV.bool ((sumE (fun _ => decide ((a0.length : Int) ≤ 64)) (fun _ => false)) o))) (fun _ => (fun _ => rfl)) (fun _ => (fun _ => rfl)))) h)
def m86 : TModel
  | [.sl g0 a0] => bif ctsEq g0 ([.int .i64]) then some (q86 a0, AV.bool (v86_0 a0)) else none
  | _ => none
theorem k86 : Known Tryd.prog 86 := ⟨Tryd.f86, Tryd.func86, by kernel_rfl, by kernel_rfl⟩
theorem meets86 : Meets Tryd.prog 86 m86 := by
  refine meet (f := Tryd.f86) (l := [(0, sub [1, 0, 1, 0, 0] (body Tryd.f86))]) (hs := [(86, 0, [0, 3]), (86, 999, [2]), (86, 1000, [0]), (86, 1001, [0, 3])]) (ts := [(42, m42)]) (ws := []) (is := []) (ls := [(86, 0, l86_0)]) (lvl := 0) mixed k86 Tryd.func86 (by kernel_rfl) (loops_cons ok86_0 noLoop) (allT_cons meets42 allT_nil) allM_nil noI fun w xs us r hl hv h => ?_
  unfold m86 at h
  split at h
  · rename_i g0 a0
    obtain ⟨hg, h⟩ := bif_pair h
    have q0 := hg
    obtain rfl := ctsEq_eq _ _ q0
    obtain ⟨h1, rfl⟩ := pair_inj h
    exact r86 a0 h1
  · cases h

/-! ### 87 loop.example/g01984/spec.l4Has -/
def F87_0 (t0 : List AV) (t1 : Int) (t5 : Int) : Out (Int) (Unit ⊕ Unit) := (bif decide (t5 < (t0.length : Int)) then (bif (decide (0 ≤ t5) && decide (t5 < (t0.length : Int))) then (bif decide (fI (t0.getD t5.toNat AV.undef) 0 = t1) then .stop (.inr ())
  else .next (IntKind.i64.wrap (t5 + 1)))
  else .fail)
  else .stop (.inl ()))
def R87_0 (t0 : List AV) (t1 : Int) : (Int) → Out (Int) (Unit ⊕ Unit) := fun s : Int => F87_0 t0 t1 s
def l87_0 : LModel := fun _ _ st k => match st with
  | ⟨[(0, .sl g0 t0), (1, .int .i64 t1), (5, .int .i64 t5)], []⟩ => bif ctsEq g0 ([.int .i64]) then ro (runW (R87_0 t0 t1) (((t0.length : Int) - t5).toNat + 1) t5) none (sumE (fun _ : Unit => k (.exit 0) ⟨[], []⟩) (fun _ : Unit => k .ret ⟨[(4, AV.bool true)], []⟩)) else none
  | _ => none
noncomputable def c87 : Cfg := cfg Tryd.prog [(87, 0, [0, 1, 5]), (87, 999, [4]), (87, 1000, []), (87, 1001, [0, 1, 5])] [] [] [] [(87, 0, l87_0)]
theorem s87_0 (ce : CallE) (t0 : List AV) (t1 : Int) (t5 : Int) (next : St → Option AV) (k : Kont) : stepA (codeA c87 ce [] 87 0 (sub [1, 0, 1, 0, 0] (body Tryd.f87))) (normA [] [0, 1, 5]) next ⟨[(0, AV.sl [.int .i64] t0), (1, AV.int .i64 t1), (5, AV.int .i64 t5)], []⟩ k = (bif decide (t5 < (t0.length : Int)) then (bif (decide (0 ≤ t5) && decide (t5 < (t0.length : Int))) then (bif decide (fI (t0.getD t5.toNat AV.undef) 0 = t1) then k .ret ⟨[(4, AV.bool true)], []⟩
  else next ⟨[(0, AV.sl [.int .i64] t0), (1, AV.int .i64 t1), (5, AV.int .i64 (IntKind.i64.wrap (t5 + 1)))], []⟩)
  else none)
  else k (.exit 0) ⟨[], []⟩) := by kernel_rfl
theorem st87_0 (t0 : List AV) (t1 : Int) (ce : CallE) (k : Kont) (s : Int) (next : St → Option AV) : stepA (codeA c87 ce [] 87 0 (sub [1, 0, 1, 0, 0] (body Tryd.f87))) (normA [] [0, 1, 5]) next ((fun s : Int => ⟨[(0, AV.sl [.int .i64] t0), (1, AV.int .i64 t1), (5, AV.int .i64 s)], []⟩) s) k = (R87_0 t0 t1 s).el none (fun s => next ((fun s : Int => ⟨[(0, AV.sl [.int .i64] t0), (1, AV.int .i64 t1), (5, AV.int .i64 s)], []⟩) s)) (sumE (fun _ : Unit => k (.exit 0) ⟨[], []⟩) (fun _ : Unit => k .ret ⟨[(4, AV.bool true)], []⟩)) := (s87_0 ce t0 t1 s next k).trans (by unfold R87_0; unfold F87_0; simp only [el_cond, el_ro, el_sum, el_fail, el_next, el_stop] <;> rfl)
theorem ok87_0 {ce : CallE} : LoopOK c87 ce [] 87 0 (sub [1, 0, 1, 0, 0] (body Tryd.f87)) := by
  intro m hm st k r h
  obtain rfl : l87_0 = m := Option.some.inj hm
  unfold l87_0 at h
  split at h
  · rename_i g0 t0 t1 t5
    obtain ⟨hg, h⟩ := bif_some h
    have q0 := hg
    obtain rfl := ctsEq_eq _ _ q0
    refine ⟨(((t0.length : Int) - t5).toNat + 1), ?_⟩
    rw [← h]
    exact loop_run (fun s : Int => ⟨[(0, AV.sl [.int .i64] t0), (1, AV.int .i64 t1), (5, AV.int .i64 s)], []⟩) (sumE (fun _ : Unit => k (.exit 0) ⟨[], []⟩) (fun _ : Unit => k .ret ⟨[(4, AV.bool true)], []⟩)) (st87_0 t0 t1 ce k) _ t5
  · cases h
def q87 (a0 : List AV) (a1 : Int) : Bool := (ro (runW (R87_0 a0 a1) (((a0.length : Int) - 0).toNat + 1) 0) false (sumE (fun _ => true) (fun _ => true)))
def v87_0 (a0 : List AV) (a1 : Int) : Bool := (ro (runW (R87_0 a0 a1) (((a0.length : Int) - 0).toNat + 1) 0) false (sumE (fun _ => false) (fun _ => true)))
theorem e87 (a0 : List AV) (a1 : Int) : funA c87 0 87 [AV.sl [.int .i64] a0, AV.int .i64 a1] = (ro (runW (R87_0 a0 a1) (((a0.length : Int) - 0).toNat + 1) 0) none (sumE (fun _ => some (AV.bool false)) (fun _ => some (AV.bool true)))) := by kernel_rfl
theorem r87 (a0 : List AV) (a1 : Int) (h : q87 a0 a1 = true) : funA c87 0 87 [AV.sl [.int .i64] a0, AV.int .i64 a1] = some (AV.bool (v87_0 a0 a1)) := (e87 a0 a1).trans ((brO (fun o : Option (Unit ⊕ Unit) => some (AV.bool (ro o false (sumE (fun _ => false) (fun _ => true))))) (brS (fun o : Unit ⊕ Unit => some (AV.bool ((sumE (fun _ => false) (fun _ => true)) o))) (fun _ => (fun _ => rfl)) (fun _ => (fun _ => rfl)))) h)
def m87 : TModel
  | [.sl g0 a0, .int .i64 a1] => bif ctsEq g0 ([.int .i64]) then some (q87 a0 a1, AV.bool (v87_0 a0 a1)) else none
  | _ => none
theorem k87 : Known Tryd.prog 87 := ⟨Tryd.f87, Tryd.func87, by kernel_rfl, by kernel_rfl⟩
theorem meets87 : Meets Tryd.prog 87 m87 := by
  refine meet (f := Tryd.f87) (l := [(0, sub [1, 0, 1, 0, 0] (body Tryd.f87))]) (hs := [(87, 0, [0, 1, 5]), (87, 999, [4]), (87, 1000, []), (87, 1001, [0, 1, 5])]) (ts := []) (ws := []) (is := []) (ls := [(87, 0, l87_0)]) (lvl := 0) mixed k87 Tryd.func87 (by kernel_rfl) (loops_cons ok87_0 noLoop) allT_nil allM_nil noI fun w xs us r hl hv h => ?_
  unfold m87 at h
  split at h
  · rename_i g0 a0 a1
    obtain ⟨hg, h⟩ := bif_pair h
    have q0 := hg
    obtain rfl := ctsEq_eq _ _ q0
    obtain ⟨h1, rfl⟩ := pair_inj h
    exact r87 a0 a1 h1
  · cases h

/-! ### 88 loop.example/g01984/spec.l4Pivots -/
def F88_2 (t0 : List AV) (t1 : List AV) (t5 : Int) (h0_0 : Int) (h0_1 : Int) (t7 : Int) : Out (Int) (Unit ⊕ Unit) := (bif decide (t7 < (t0.length : Int)) then (bif (decide (0 ≤ t7) && decide (t7 < (t0.length : Int))) then (bif !(decide (fI (t0.getD t7.toNat AV.undef) 0 < h0_0) == decide (t7 < h0_1)) then .stop (.inr ())
  else .next (IntKind.i64.wrap (t7 + 1)))
  else .fail)
  else .stop (.inl ()))
def R88_2 (t0 : List AV) (t1 : List AV) (t5 : Int) (h0_0 : Int) (h0_1 : Int) : (Int) → Out (Int) (Unit ⊕ Unit) := fun s : Int => F88_2 t0 t1 t5 h0_0 h0_1 s
def l88_2 : LModel := fun _ _ st k => match st with
  | ⟨[(0, .sl g0 t0), (1, .sl g1 t1), (5, .int .i64 t5), (6, .ptr g2 g3 g4), (7, .int .i64 t7)], [(g5, ⟨true, [], [.agg [.int .i64 h0_0, .int .i64 h0_1]]⟩)]⟩ => bif ctsEq g0 ([.int .i64]) && ctsEq g1 ([.int .i64, .int .i64]) && nmEq g2 ([0, 6]) && Nat.beq g3 0 && Nat.beq g4 0 && nmEq g5 ([0, 6]) then ro (runW (R88_2 t0 t1 t5 h0_0 h0_1) (((t0.length : Int) - t7).toNat + 1) t7) none (sumE (fun _ : Unit => k (.exit 2) ⟨[(0, AV.sl [.int .i64] t0), (1, AV.sl [.int .i64, .int .i64] t1), (5, AV.int .i64 t5)], [([0, 6], ⟨true, [], [AV.agg [AV.int .i64 h0_0, AV.int .i64 h0_1]]⟩)]⟩) (fun _ : Unit => k .ret ⟨[(4, AV.bool false)], [([0, 6], ⟨true, [], [AV.agg [AV.int .i64 h0_0, AV.int .i64 h0_1]]⟩)]⟩)) else none
  | _ => none
def F88_0 (t0 : List AV) (t1 : List AV) (t5 : Int) : Out (Int) (Unit ⊕ (Int × Int) ⊕ (Int × Int)) := (bif decide (t5 < (t1.length : Int)) then (bif (decide (0 ≤ t5) && decide (t5 < (t1.length : Int))) then (bif !(v42_0 (fI (t1.getD t5.toNat AV.undef) 0) (-1000) 1000) then .stop (.inr (.inl (fI (t1.getD t5.toNat AV.undef) 0, fI (t1.getD t5.toNat AV.undef) 1)))
  else (bif !(v42_0 (fI (t1.getD t5.toNat AV.undef) 1) 0 (t0.length : Int)) then .stop (.inr (.inl (fI (t1.getD t5.toNat AV.undef) 0, fI (t1.getD t5.toNat AV.undef) 1)))
  else (bif decide (t5 > 0) then (bif (decide (0 ≤ IntKind.i64.wrap (t5 - 1)) && decide (IntKind.i64.wrap (t5 - 1) < (t1.length : Int))) then (bif decide (fI (t1.getD t5.toNat AV.undef) 0 ≤ fI (t1.getD (IntKind.i64.wrap (t5 - 1)).toNat AV.undef) 0) then .stop (.inr (.inl (fI (t1.getD t5.toNat AV.undef) 0, fI (t1.getD t5.toNat AV.undef) 1)))
  else (bif (decide (0 ≤ IntKind.i64.wrap (t5 - 1)) && decide (IntKind.i64.wrap (t5 - 1) < (t1.length : Int))) then (bif decide (fI (t1.getD t5.toNat AV.undef) 1 < fI (t1.getD (IntKind.i64.wrap (t5 - 1)).toNat AV.undef) 1) then .stop (.inr (.inl (fI (t1.getD t5.toNat AV.undef) 0, fI (t1.getD t5.toNat AV.undef) 1)))
  else (ro (runW (R88_2 t0 t1 t5 (fI (t1.getD t5.toNat AV.undef) 0) (fI (t1.getD t5.toNat AV.undef) 1)) (((t0.length : Int) - 0).toNat + 1) 0) .fail (sumE (fun _ => .next (IntKind.i64.wrap (t5 + 1))) (fun _ => .stop (.inr (.inr (fI (t1.getD t5.toNat AV.undef) 0, fI (t1.getD t5.toNat AV.undef) 1)))))))
  else .fail))
  else .fail)
  else (ro (runW (R88_2 t0 t1 t5 (fI (t1.getD t5.toNat AV.undef) 0) (fI (t1.getD t5.toNat AV.undef) 1)) (((t0.length : Int) - 0).toNat + 1) 0) .fail (sumE (fun _ => .next (IntKind.i64.wrap (t5 + 1))) (fun _ => .stop (.inr (.inr (fI (t1.getD t5.toNat AV.undef) 0, fI (t1.getD t5.toNat AV.undef) 1)))))))))
  else .fail)
  else .stop (.inl ()))
def R88_0 (t0 : List AV) (t1 : List AV) : (Int) → Out (Int) (Unit ⊕ (Int × Int) ⊕ (Int × Int)) := fun s : Int => F88_0 t0 t1 s
def l88_0 : LModel := fun _ _ st k => match st with
  | ⟨[(0, .sl g0 t0), (1, .sl g1 t1), (5, .int .i64 t5)], []⟩ => bif ctsEq g0 ([.int .i64]) && ctsEq g1 ([.int .i64, .int .i64]) then ro (runW (R88_0 t0 t1) (((t1.length : Int) - t5).toNat + 1) t5) none (sumE (fun _ : Unit => k (.exit 0) ⟨[], []⟩) (sumE (fun p : Int × Int => k .ret ⟨[(4, AV.bool false)], [([1, 6], ⟨true, [], [AV.agg [AV.int .i64 p.1, AV.int .i64 p.2]]⟩)]⟩) (fun p : Int × Int => k .ret ⟨[(4, AV.bool false)], [([0, 6], ⟨true, [], [AV.agg [AV.int .i64 p.1, AV.int .i64 p.2]]⟩)]⟩))) else none
  | _ => none
noncomputable def c88 : Cfg := cfg Tryd.prog [(88, 0, [0, 1, 5]), (88, 2, [0, 1, 5, 6, 7]), (88, 999, [4]), (88, 1000, []), (88, 1001, [0, 1, 5]), (88, 1002, [0, 1, 5]), (88, 1003, [0, 1, 5, 6, 7])] [(42, m42)] [] [] [(88, 0, l88_0), (88, 2, l88_2)]
theorem s88_2 (ce : CallE) (t0 : List AV) (t1 : List AV) (t5 : Int) (t7 : Int) (h0_0 : Int) (h0_1 : Int) (next : St → Option AV) (k : Kont) : stepA (codeA c88 ce [] 88 2 (sub [1, 0, 1, 0, 0, 1, 0, 0, 1, 1, 1, 0, 0] (body Tryd.f88))) (normA [] [0, 1, 5, 6, 7]) next ⟨[(0, AV.sl [.int .i64] t0), (1, AV.sl [.int .i64, .int .i64] t1), (5, AV.int .i64 t5), (6, AV.ptr [0, 6] 0 0), (7, AV.int .i64 t7)], [([0, 6], ⟨true, [], [AV.agg [AV.int .i64 h0_0, AV.int .i64 h0_1]]⟩)]⟩ k = (bif decide (t7 < (t0.length : Int)) then (bif (decide (0 ≤ t7) && decide (t7 < (t0.length : Int))) then (bif !(decide (fI (t0.getD t7.toNat AV.undef) 0 < h0_0) == decide (t7 < h0_1)) then k .ret ⟨[(4, AV.bool false)], [([0, 6], ⟨true, [], [AV.agg [AV.int .i64 h0_0, AV.int .i64 h0_1]]⟩)]⟩
  else next ⟨[(0, AV.sl [.int .i64] t0), (1, AV.sl [.int .i64, .int .i64] t1), (5, AV.int .i64 t5), (6, AV.ptr [0, 6] 0 0), (7, AV.int .i64 (IntKind.i64.wrap (t7 + 1)))], [([0, 6], ⟨true, [], [AV.agg [AV.int .i64 h0_0, AV.int .i64 h0_1]]⟩)]⟩)
  else none)
  else k (.exit 2) ⟨[(0, AV.sl [.int .i64] t0), (1, AV.sl [.int .i64, .int .i64] t1), (5, AV.int .i64 t5)], [([0, 6], ⟨true, [], [AV.agg [AV.int .i64 h0_0, AV.int .i64 h0_1]]⟩)]⟩) := by kernel_rfl
theorem st88_2 (t0 : List AV) (t1 : List AV) (t5 : Int) (h0_0 : Int) (h0_1 : Int) (ce : CallE) (k : Kont) (s : Int) (next : St → Option AV) : stepA (codeA c88 ce [] 88 2 (sub [1, 0, 1, 0, 0, 1, 0, 0, 1, 1, 1, 0, 0] (body Tryd.f88))) (normA [] [0, 1, 5, 6, 7]) next ((fun s : Int => ⟨[(0, AV.sl [.int .i64] t0), (1, AV.sl [.int .i64, .int .i64] t1), (5, AV.int .i64 t5), (6, AV.ptr [0, 6] 0 0), (7, AV.int .i64 s)], [([0, 6], ⟨true, [], [AV.agg [AV.int .i64 h0_0, AV.int .i64 h0_1]]⟩)]⟩) s) k = (R88_2 t0 t1 t5 h0_0 h0_1 s).el none (fun s => next ((fun s : Int => ⟨[(0, AV.sl [.int .i64] t0), (1, AV.sl [.int .i64, .int .i64] t1), (5, AV.int .i64 t5), (6, AV.ptr [0, 6] 0 0), (7, AV.int .i64 s)], [([0, 6], ⟨true, [], [AV.agg [AV.int .i64 h0_0, AV.int .i64 h0_1]]⟩)]⟩) s)) (sumE (fun _ : Unit => k (.exit 2) ⟨[(0, AV.sl [.int .i64] t0), (1, AV.sl [.int .i64, .int .i64] t1), (5, AV.int .i64 t5)], [([0, 6], ⟨true, [], [AV.agg [AV.int .i64 h0_0, AV.int .i64 h0_1]]⟩)]⟩) (fun _ : Unit => k .ret ⟨[(4, AV.bool false)], [([0, 6], ⟨true, [], [AV.agg [AV.int .i64 h0_0, AV.int .i64 h0_1]]⟩)]⟩)) := (s88_2 ce t0 t1 t5 s h0_0 h0_1 next k).trans (by unfold R88_2; unfold F88_2; simp only [el_cond, el_ro, el_sum, el_fail, el_next, el_stop] <;> rfl)
theorem ok88_2 {ce : CallE} : LoopOK c88 ce [] 88 2 (sub [1, 0, 1, 0, 0, 1, 0, 0, 1, 1, 1, 0, 0] (body Tryd.f88)) := by
  intro m hm st k r h
  obtain rfl : l88_2 = m := Option.some.inj hm
  unfold l88_2 at h
  split at h
  · rename_i g0 t0 g1 t1 t5 g2 g3 g4 t7 g5 h0_0 h0_1
    obtain ⟨hg, h⟩ := bif_some h
    simp only [Bool.and_eq_true] at hg
    obtain ⟨⟨⟨⟨⟨q0, q1⟩, q2⟩, q3⟩, q4⟩, q5⟩ := hg
    obtain rfl := ctsEq_eq _ _ q0
    obtain rfl := ctsEq_eq _ _ q1
    obtain rfl := (nmEq_iff _ _).1 q2
    obtain rfl := Nat.eq_of_beq_eq_true q3
    obtain rfl := Nat.eq_of_beq_eq_true q4
    obtain rfl := (nmEq_iff _ _).1 q5
    refine ⟨(((t0.length : Int) - t7).toNat + 1), ?_⟩
    rw [← h]
    exact loop_run (fun s : Int => ⟨[(0, AV.sl [.int .i64] t0), (1, AV.sl [.int .i64, .int .i64] t1), (5, AV.int .i64 t5), (6, AV.ptr [0, 6] 0 0), (7, AV.int .i64 s)], [([0, 6], ⟨true, [], [AV.agg [AV.int .i64 h0_0, AV.int .i64 h0_1]]⟩)]⟩) (sumE (fun _ : Unit => k (.exit 2) ⟨[(0, AV.sl [.int .i64] t0), (1, AV.sl [.int .i64, .int .i64] t1), (5, AV.int .i64 t5)], [([0, 6], ⟨true, [], [AV.agg [AV.int .i64 h0_0, AV.int .i64 h0_1]]⟩)]⟩) (fun _ : Unit => k .ret ⟨[(4, AV.bool false)], [([0, 6], ⟨true, [], [AV.agg [AV.int .i64 h0_0, AV.int .i64 h0_1]]⟩)]⟩)) (st88_2 t0 t1 t5 h0_0 h0_1 ce k) _ t7
  · cases h
theorem s88_0 (ce : CallE) (t0 : List AV) (t1 : List AV) (t5 : Int) (next : St → Option AV) (k : Kont) : stepA (codeA c88 ce [] 88 0 (sub [1, 0, 1, 0, 0] (body Tryd.f88))) (normA [] [0, 1, 5]) next ⟨[(0, AV.sl [.int .i64] t0), (1, AV.sl [.int .i64, .int .i64] t1), (5, AV.int .i64 t5)], []⟩ k = (bif decide (t5 < (t1.length : Int)) then (bif (decide (0 ≤ t5) && decide (t5 < (t1.length : Int))) then (bif !(v42_0 (fI (t1.getD t5.toNat AV.undef) 0) (-1000) 1000) then k .ret ⟨[(4, AV.bool false)], [([1, 6], ⟨true, [], [AV.agg [AV.int .i64 (fI (t1.getD t5.toNat AV.undef) 0), AV.int .i64 (fI (t1.getD t5.toNat AV.undef) 1)]]⟩)]⟩
  else (bif !(v42_0 (fI (t1.getD t5.toNat AV.undef) 1) 0 (t0.length : Int)) then k .ret ⟨[(4, AV.bool false)], [([1, 6], ⟨true, [], [AV.agg [AV.int .i64 (fI (t1.getD t5.toNat AV.undef) 0), AV.int .i64 (fI (t1.getD t5.toNat AV.undef) 1)]]⟩)]⟩
  else (bif decide (t5 > 0) then (bif (decide (0 ≤ IntKind.i64.wrap (t5 - 1)) && decide (IntKind.i64.wrap (t5 - 1) < (t1.length : Int))) then (bif decide (fI (t1.getD t5.toNat AV.undef) 0 ≤ fI (t1.getD (IntKind.i64.wrap (t5 - 1)).toNat AV.undef) 0) then k .ret ⟨[(4, AV.bool false)], [([1, 6], ⟨true, [], [AV.agg [AV.int .i64 (fI (t1.getD t5.toNat AV.undef) 0), AV.int .i64 (fI (t1.getD t5.toNat AV.undef) 1)]]⟩)]⟩
  else (bif (decide (0 ≤ IntKind.i64.wrap (t5 - 1)) && decide (IntKind.i64.wrap (t5 - 1) < (t1.length : Int))) then (bif decide (fI (t1.getD t5.toNat AV.undef) 1 < fI (t1.getD (IntKind.i64.wrap (t5 - 1)).toNat AV.undef) 1) then k .ret ⟨[(4, AV.bool false)], [([1, 6], ⟨true, [], [AV.agg [AV.int .i64 (fI (t1.getD t5.toNat AV.undef) 0), AV.int .i64 (fI (t1.getD t5.toNat AV.undef) 1)]]⟩)]⟩
  else (ro (runW (R88_2 t0 t1 t5 (fI (t1.getD t5.toNat AV.undef) 0) (fI (t1.getD t5.toNat AV.undef) 1)) (((t0.length : Int) - 0).toNat + 1) 0) none (sumE (fun _ => next ⟨[(0, AV.sl [.int .i64] t0), (1, AV.sl [.int .i64, .int .i64] t1), (5, AV.int .i64 (IntKind.i64.wrap (t5 + 1)))], []⟩) (fun _ => k .ret ⟨[(4, AV.bool false)], [([0, 6], ⟨true, [], [AV.agg [AV.int .i64 (fI (t1.getD t5.toNat AV.undef) 0), AV.int .i64 (fI (t1.getD t5.toNat AV.undef) 1)]]⟩)]⟩))))
  else none))
  else none)
  else (ro (runW (R88_2 t0 t1 t5 (fI (t1.getD t5.toNat AV.undef) 0) (fI (t1.getD t5.toNat AV.undef) 1)) (((t0.length : Int) - 0).toNat + 1) 0) none (sumE (fun _ => next ⟨[(0, AV.sl [.int .i64] t0), (1, AV.sl [.int .i64, .int .i64] t1), (5, AV.int .i64 (IntKind.i64.wrap (t5 + 1)))], []⟩) (fun _ => k .ret ⟨[(4, AV.bool false)], [([0, 6], ⟨true, [], [AV.agg [AV.int .i64 (fI (t1.getD t5.toNat AV.undef) 0), AV.int .i64 (fI (t1.getD t5.toNat AV.undef) 1)]]⟩)]⟩))))))
  else none)
  else k (.exit 0) ⟨[], []⟩) := by kernel_rfl
theorem st88_0 (t0 : List AV) (t1 : List AV) (ce : CallE) (k : Kont) (s : Int) (next : St → Option AV) : stepA (codeA c88 ce [] 88 0 (sub [1, 0, 1, 0, 0] (body Tryd.f88))) (normA [] [0, 1, 5]) next ((fun s : Int => ⟨[(0, AV.sl [.int .i64] t0), (1, AV.sl [.int .i64, .int .i64] t1), (5, AV.int .i64 s)], []⟩) s) k = (R88_0 t0 t1 s).el none (fun s => next ((fun s : Int => ⟨[(0, AV.sl [.int .i64] t0), (1, AV.sl [.int .i64, .int .i64] t1), (5, AV.int .i64 s)], []⟩) s)) (sumE (fun _ : Unit => k (.exit 0) ⟨[], []⟩) (sumE (fun p : Int × Int => k .ret ⟨[(4, AV.bool false)], [([1, 6], ⟨true, [], [AV.agg [AV.int .i64 p.1, AV.int .i64 p.2]]⟩)]⟩) (fun p : Int × Int => k .ret ⟨[(4, AV.bool false)], [([0, 6], ⟨true, [], [AV.agg [AV.int .i64 p.1, AV.int .i64 p.2]]⟩)]⟩))) := (s88_0 ce t0 t1 s next k).trans (by unfold R88_0; unfold F88_0; simp only [el_cond, el_ro, el_sum, el_fail, el_next, el_stop] <;> rfl)
theorem ok88_0 {ce : CallE} : LoopOK c88 ce [] 88 0 (sub [1, 0, 1, 0, 0] (body Tryd.f88)) := by
  intro m hm st k r h
  obtain rfl : l88_0 = m := Option.some.inj hm
  unfold l88_0 at h
  split at h
  · rename_i g0 t0 g1 t1 t5
    obtain ⟨hg, h⟩ := bif_some h
    simp only [Bool.and_eq_true] at hg
    obtain ⟨q0, q1⟩ := hg
    obtain rfl := ctsEq_eq _ _ q0
    obtain rfl := ctsEq_eq _ _ q1
    refine ⟨(((t1.length : Int) - t5).toNat + 1), ?_⟩
    rw [← h]
    exact loop_run (fun s : Int => ⟨[(0, AV.sl [.int .i64] t0), (1, AV.sl [.int .i64, .int .i64] t1), (5, AV.int .i64 s)], []⟩) (sumE (fun _ : Unit => k (.exit 0) ⟨[], []⟩) (sumE (fun p : Int × Int => k .ret ⟨[(4, AV.bool false)], [([1, 6], ⟨true, [], [AV.agg [AV.int .i64 p.1, AV.int .i64 p.2]]⟩)]⟩) (fun p : Int × Int => k .ret ⟨[(4, AV.bool false)], [([0, 6], ⟨true, [], [AV.agg [AV.int .i64 p.1, AV.int .i64 p.2]]⟩)]⟩))) (st88_0 t0 t1 ce k) _ t5
  · cases h
def q88 (a0 : List AV) (a1 : List AV) : Bool := (ro (runW (R88_0 a0 a1) (((a1.length : Int) - 0).toNat + 1) 0) false (sumE (fun _ => true) (sumE (fun p14 => true) (fun p15 => true))))
def v88_0 (a0 : List AV) (a1 : List AV) : Bool := (ro (runW (R88_0 a0 a1) (((a1.length : Int) - 0).toNat + 1) 0) false (sumE (fun _ => true) (sumE (fun p14 => false) (fun p15 => false))))
theorem e88 (a0 : List AV) (a1 : List AV) : funA c88 0 88 [AV.sl [.int .i64] a0, AV.sl [.int .i64, .int .i64] a1] = (ro (runW (R88_0 a0 a1) (((a1.length : Int) - 0).toNat + 1) 0) none (sumE (fun _ => some (AV.bool true)) (sumE (fun p14 => some (AV.bool false)) (fun p15 => some (AV.bool false))))) := by kernel_rfl
theorem r88 (a0 : List AV) (a1 : List AV) (h : q88 a0 a1 = true) : funA c88 0 88 [AV.sl [.int .i64] a0, AV.sl [.int .i64, .int .i64] a1] = some (AV.bool (v88_0 a0 a1)) := (e88 a0 a1).trans ((brO (fun o : Option (Unit ⊕ (Int × Int) ⊕ (Int × Int)) => some (AV.bool (ro o false (sumE (fun _ => true) (sumE (fun p14 => false) (fun p15 => false)))))) (brS (fun o : Unit ⊕ (Int × Int) ⊕ (Int × Int) => some (AV.bool ((sumE (fun _ => true) (sumE (fun p14 => false) (fun p15 => false))) o))) (fun _ => (fun _ => rfl)) (brS (fun o : (Int × Int) ⊕ (Int × Int) => some (AV.bool ((sumE (fun p14 => false) (fun p15 => false)) o))) (fun p14 => (fun _ => rfl)) (fun p15 => (fun _ => rfl))))) h)
def m88 : TModel
  | [.sl g0 a0, .sl g1 a1] => bif ctsEq g0 ([.int .i64]) && ctsEq g1 ([.int .i64, .int .i64]) then some (q88 a0 a1, AV.bool (v88_0 a0 a1)) else none
  | _ => none
theorem k88 : Known Tryd.prog 88 := ⟨Tryd.f88, Tryd.func88, by kernel_rfl, by kernel_rfl⟩
theorem meets88 : Meets Tryd.prog 88 m88 := by
  refine meet (f := Tryd.f88) (l := [(0, sub [1, 0, 1, 0, 0] (body Tryd.f88)), (2, sub [1, 0, 1, 0, 0, 1, 0, 0, 1, 1, 1, 0, 0] (body Tryd.f88))]) (hs := [(88, 0, [0, 1, 5]), (88, 2, [0, 1, 5, 6, 7]), (88, 999, [4]), (88, 1000, []), (88, 1001, [0, 1, 5]), (88, 1002, [0, 1, 5]), (88, 1003, [0, 1, 5, 6, 7])]) (ts := [(42, m42)]) (ws := []) (is := []) (ls := [(88, 0, l88_0), (88, 2, l88_2)]) (lvl := 0) mixed k88 Tryd.func88 (by kernel_rfl) (loops_cons ok88_0 (loops_cons ok88_2 noLoop)) (allT_cons meets42 allT_nil) allM_nil noI fun w xs us r hl hv h => ?_
  unfold m88 at h
  split at h
  · rename_i g0 a0 g1 a1
    obtain ⟨hg, h⟩ := bif_pair h
    simp only [Bool.and_eq_true] at hg
    obtain ⟨q0, q1⟩ := hg
    obtain rfl := ctsEq_eq _ _ q0
    obtain rfl := ctsEq_eq _ _ q1
    obtain ⟨h1, rfl⟩ := pair_inj h
    exact r88 a0 a1 h1
  · cases h

/-! ### 64 loop.example/g01984/spec.IsCracker -/
def F64_0 (h0_0 : List AV) (h0_1 : List AV) (h0_2 : List AV) (t3 : Int) : Out (Int) (Unit ⊕ Unit) := (bif decide (t3 < (h0_1.length : Int)) then (bif (decide (0 ≤ t3) && decide (t3 < (h0_1.length : Int))) then (bif !(v42_0 (fI (h0_1.getD t3.toNat AV.undef) 0) 0 999) then .stop (.inr ())
  else (bif (decide (0 ≤ 0) && decide (0 ≤ t3) && decide (t3 ≤ (h0_1.length : Int))) then (bif (decide (0 ≤ t3) && decide (t3 < (h0_1.length : Int))) then (bif q87 ((h0_1.take (Int.toNat t3)).drop (Int.toNat 0)) (fI (h0_1.getD t3.toNat AV.undef) 0) then (bif (v87_0 ((h0_1.take (Int.toNat t3)).drop (Int.toNat 0)) (fI (h0_1.getD t3.toNat AV.undef) 0)) then .stop (.inr ())
  else .next (IntKind.i64.wrap (t3 + 1)))
  else .fail)
  else .fail)
  else .fail))
  else .fail)
  else .stop (.inl ()))
def R64_0 (h0_0 : List AV) (h0_1 : List AV) (h0_2 : List AV) : (Int) → Out (Int) (Unit ⊕ Unit) := fun s : Int => F64_0 h0_0 h0_1 h0_2 s
def l64_0 : LModel := fun _ _ st k => match st with
  | ⟨[(1, .ptr g0 g1 g2), (3, .int .i64 t3)], [(g3, ⟨true, [], [.agg [.sl g4 h0_0, .sl g5 h0_1, .sl g6 h0_2]]⟩)]⟩ => bif nmEq g0 ([0, 1]) && Nat.beq g1 0 && Nat.beq g2 0 && nmEq g3 ([0, 1]) && ctsEq g4 ([.int .i64]) && ctsEq g5 ([.int .i64]) && ctsEq g6 ([.int .i64, .int .i64]) then ro (runW (R64_0 h0_0 h0_1 h0_2) (((h0_1.length : Int) - t3).toNat + 1) t3) none (sumE (fun _ : Unit => k (.exit 0) ⟨[(1, AV.ptr [0, 1] 0 0)], [([0, 1], ⟨true, [], [AV.agg [AV.sl [.int .i64] h0_0, AV.sl [.int .i64] h0_1, AV.sl [.int .i64, .int .i64] h0_2]]⟩)]⟩) (fun _ : Unit => k .ret ⟨[(2, AV.bool false)], [([0, 1], ⟨true, [], [AV.agg [AV.sl [.int .i64] h0_0, AV.sl [.int .i64] h0_1, AV.sl [.int .i64, .int .i64] h0_2]]⟩)]⟩)) else none
  | _ => none
noncomputable def c64 : Cfg := cfg Tryd.prog [(64, 0, [1, 3]), (64, 999, [2]), (64, 1000, [1]), (64, 1001, [1, 3])] [(42, m42), (86, m86), (87, m87), (88, m88)] [] [] [(64, 0, l64_0)]
theorem s64_0 (ce : CallE) (t3 : Int) (h0_0 : List AV) (h0_1 : List AV) (h0_2 : List AV) (next : St → Option AV) (k : Kont) : stepA (codeA c64 ce [] 64 0 (sub [1, 1, 0, 1, 0, 0] (body Tryd.f64))) (normA [] [1, 3]) next ⟨[(1, AV.ptr [0, 1] 0 0), (3, AV.int .i64 t3)], [([0, 1], ⟨true, [], [AV.agg [AV.sl [.int .i64] h0_0, AV.sl [.int .i64] h0_1, AV.sl [.int .i64, .int .i64] h0_2]]⟩)]⟩ k = (bif decide (t3 < (h0_1.length : Int)) then (bif (decide (0 ≤ t3) && decide (t3 < (h0_1.length : Int))) then (bif !(v42_0 (fI (h0_1.getD t3.toNat AV.undef) 0) 0 999) then k .ret ⟨[(2, AV.bool false)], [([0, 1], ⟨true, [], [AV.agg [AV.sl [.int .i64] h0_0, AV.sl [.int .i64] h0_1, AV.sl [.int .i64, .int .i64] h0_2]]⟩)]⟩
  else (bif (decide (0 ≤ 0) && decide (0 ≤ t3) && decide (t3 ≤ (h0_1.length : Int))) then (bif (decide (0 ≤ t3) && decide (t3 < (h0_1.length : Int))) then (bif q87 ((h0_1.take (Int.toNat t3)).drop (Int.toNat 0)) (fI (h0_1.getD t3.toNat AV.undef) 0) then (bif (v87_0 ((h0_1.take (Int.toNat t3)).drop (Int.toNat 0)) (fI (h0_1.getD t3.toNat AV.undef) 0)) then k .ret ⟨[(2, AV.bool false)], [([0, 1], ⟨true, [], [AV.agg [AV.sl [.int .i64] h0_0, AV.sl [.int .i64] h0_1, AV.sl [.int .i64, .int .i64] h0_2]]⟩)]⟩
  else next ⟨[(1, AV.ptr [0, 1] 0 0), (3, AV.int .i64 (IntKind.i64.wrap (t3 + 1)))], [([0, 1], ⟨true, [], [AV.agg [AV.sl [.int .i64] h0_0, AV.sl [.int .i64] h0_1, AV.sl [.int .i64, .int .i64] h0_2]]⟩)]⟩)
  else none)
  else none)
  else none))
  else none)
  else k (.exit 0) ⟨[(1, AV.ptr [0, 1] 0 0)], [([0, 1], ⟨true, [], [AV.agg [AV.sl [.int .i64] h0_0, AV.sl [.int .i64] h0_1, AV.sl [.int .i64, .int .i64] h0_2]]⟩)]⟩) := by kernel_rfl
theorem st64_0 (h0_0 : List AV) (h0_1 : List AV) (h0_2 : List AV) (ce : CallE) (k : Kont) (s : Int) (next : St → Option AV) : stepA (codeA c64 ce [] 64 0 (sub [1, 1, 0, 1, 0, 0] (body Tryd.f64))) (normA [] [1, 3]) next ((fun s : Int => ⟨[(1, AV.ptr [0, 1] 0 0), (3, AV.int .i64 s)], [([0, 1], ⟨true, [], [AV.agg [AV.sl [.int .i64] h0_0, AV.sl [.int .i64] h0_1, AV.sl [.int .i64, .int .i64] h0_2]]⟩)]⟩) s) k = (R64_0 h0_0 h0_1 h0_2 s).el none (fun s => next ((fun s : Int => ⟨[(1, AV.ptr [0, 1] 0 0), (3, AV.int .i64 s)], [([0, 1], ⟨true, [], [AV.agg [AV.sl [.int .i64] h0_0, AV.sl [.int .i64] h0_1, AV.sl [.int .i64, .int .i64] h0_2]]⟩)]⟩) s)) (sumE (fun _ : Unit => k (.exit 0) ⟨[(1, AV.ptr [0, 1] 0 0)], [([0, 1], ⟨true, [], [AV.agg [AV.sl [.int .i64] h0_0, AV.sl [.int .i64] h0_1, AV.sl [.int .i64, .int .i64] h0_2]]⟩)]⟩) (fun _ : Unit => k .ret ⟨[(2, AV.bool false)], [([0, 1], ⟨true, [], [AV.agg [AV.sl [.int .i64] h0_0, AV.sl [.int .i64] h0_1, AV.sl [.int .i64, .int .i64] h0_2]]⟩)]⟩)) := (s64_0 ce s h0_0 h0_1 h0_2 next k).trans (by unfold R64_0; unfold F64_0; simp only [el_cond, el_ro, el_sum, el_fail, el_next, el_stop] <;> rfl)
theorem ok64_0 {ce : CallE} : LoopOK c64 ce [] 64 0 (sub [1, 1, 0, 1, 0, 0] (body Tryd.f64)) := by
  intro m hm st k r h
  obtain rfl : l64_0 = m := Option.some.inj hm
  unfold l64_0 at h
  split at h
  · rename_i g0 g1 g2 t3 g3 g4 h0_0 g5 h0_1 g6 h0_2
    obtain ⟨hg, h⟩ := bif_some h
    simp only [Bool.and_eq_true] at hg
    obtain ⟨⟨⟨⟨⟨⟨q0, q1⟩, q2⟩, q3⟩, q4⟩, q5⟩, q6⟩ := hg
    obtain rfl := (nmEq_iff _ _).1 q0
    obtain rfl := Nat.eq_of_beq_eq_true q1
    obtain rfl := Nat.eq_of_beq_eq_true q2
    obtain rfl := (nmEq_iff _ _).1 q3
    obtain rfl := ctsEq_eq _ _ q4
    obtain rfl := ctsEq_eq _ _ q5
    obtain rfl := ctsEq_eq _ _ q6
    refine ⟨(((h0_1.length : Int) - t3).toNat + 1), ?_⟩
    rw [← h]
    exact loop_run (fun s : Int => ⟨[(1, AV.ptr [0, 1] 0 0), (3, AV.int .i64 s)], [([0, 1], ⟨true, [], [AV.agg [AV.sl [.int .i64] h0_0, AV.sl [.int .i64] h0_1, AV.sl [.int .i64, .int .i64] h0_2]]⟩)]⟩) (sumE (fun _ : Unit => k (.exit 0) ⟨[(1, AV.ptr [0, 1] 0 0)], [([0, 1], ⟨true, [], [AV.agg [AV.sl [.int .i64] h0_0, AV.sl [.int .i64] h0_1, AV.sl [.int .i64, .int .i64] h0_2]]⟩)]⟩) (fun _ : Unit => k .ret ⟨[(2, AV.bool false)], [([0, 1], ⟨true, [], [AV.agg [AV.sl [.int .i64] h0_0, AV.sl [.int .i64] h0_1, AV.sl [.int .i64, .int .i64] h0_2]]⟩)]⟩)) (st64_0 h0_0 h0_1 h0_2 ce k) _ t3
  · cases h
def q64 (a0_0 : List AV) (a0_1 : List AV) (a0_2 : List AV) : Bool := (q86 a0_0 && (bif !(v86_0 a0_0) then true else (bif !decide ((a0_1.length : Int) = (a0_0.length : Int)) then true else (ro (runW (R64_0 a0_0 a0_1 a0_2) (((a0_1.length : Int) - 0).toNat + 1) 0) false (sumE (fun _ => q88 a0_0 a0_2) (fun _ => true))))))
def v64_0 (a0_0 : List AV) (a0_1 : List AV) (a0_2 : List AV) : Bool := (bif !(v86_0 a0_0) then false else (bif !decide ((a0_1.length : Int) = (a0_0.length : Int)) then false else (ro (runW (R64_0 a0_0 a0_1 a0_2) (((a0_1.length : Int) - 0).toNat + 1) 0) false (sumE (fun _ => (v88_0 a0_0 a0_2)) (fun _ => false)))))
theorem e64 (a0_0 : List AV) (a0_1 : List AV) (a0_2 : List AV) : funA c64 0 64 [AV.agg [AV.sl [.int .i64] a0_0, AV.sl [.int .i64] a0_1, AV.sl [.int .i64, .int .i64] a0_2]] = (bif q86 a0_0 then (bif !(v86_0 a0_0) then some (AV.bool false)
  else (bif !decide ((a0_1.length : Int) = (a0_0.length : Int)) then some (AV.bool false)
  else (ro (runW (R64_0 a0_0 a0_1 a0_2) (((a0_1.length : Int) - 0).toNat + 1) 0) none (sumE (fun _ => (bif q88 a0_0 a0_2 then some (AV.bool (v88_0 a0_0 a0_2))
  else none)) (fun _ => some (AV.bool false))))))
  else none) := by kernel_rfl
theorem r64 (a0_0 : List AV) (a0_1 : List AV) (a0_2 : List AV) (h : q64 a0_0 a0_1 a0_2 = true) : funA c64 0 64 [AV.agg [AV.sl [.int .i64] a0_0, AV.sl [.int .i64] a0_1, AV.sl [.int .i64, .int .i64] a0_2]] = some (AV.bool (v64_0 a0_0 a0_1 a0_2)) := (e64 a0_0 a0_1 a0_2).trans ((brL (br (fun b => some (AV.bool (bif b then false else (bif !decide ((a0_1.length : Int) = (a0_0.length : Int)) then false else (ro (runW (R64_0 a0_0 a0_1 a0_2) (((a0_1.length : Int) - 0).toNat + 1) 0) false (sumE (fun _ => (v88_0 a0_0 a0_2)) (fun _ => false))))))) (fun _ => rfl) (br (fun b => some (AV.bool (bif b then false else (ro (runW (R64_0 a0_0 a0_1 a0_2) (((a0_1.length : Int) - 0).toNat + 1) 0) false (sumE (fun _ => (v88_0 a0_0 a0_2)) (fun _ => false)))))) (fun _ => rfl) (brO (fun o : Option (Unit ⊕ Unit) => some (AV.bool (ro o false (sumE (fun _ => (v88_0 a0_0 a0_2)) (fun _ => false))))) (brS (fun o : Unit ⊕ Unit => some (AV.bool ((sumE (fun _ => (v88_0 a0_0 a0_2)) (fun _ => false)) o))) (fun _ => (brL1 (fun _ => rfl))) (fun _ => (fun _ => rfl))))))) h)
def m64 : TModel
  | [.agg [.sl g0 a0_0, .sl g1 a0_1, .sl g2 a0_2]] => bif ctsEq g0 ([.int .i64]) && ctsEq g1 ([.int .i64]) && ctsEq g2 ([.int .i64, .int .i64]) then some (q64 a0_0 a0_1 a0_2, AV.bool (v64_0 a0_0 a0_1 a0_2)) else none
  | _ => none
theorem k64 : Known Tryd.prog 64 := ⟨Tryd.f64, Tryd.func64, by kernel_rfl, by kernel_rfl⟩
theorem meets64 : Meets Tryd.prog 64 m64 := by
  refine meet (f := Tryd.f64) (l := [(0, sub [1, 1, 0, 1, 0, 0] (body Tryd.f64))]) (hs := [(64, 0, [1, 3]), (64, 999, [2]), (64, 1000, [1]), (64, 1001, [1, 3])]) (ts := [(42, m42), (86, m86), (87, m87), (88, m88)]) (ws := []) (is := []) (ls := [(64, 0, l64_0)]) (lvl := 0) mixed k64 Tryd.func64 (by kernel_rfl) (loops_cons ok64_0 noLoop) (allT_cons meets42 (allT_cons meets86 (allT_cons meets87 (allT_cons meets88 allT_nil)))) allM_nil noI fun w xs us r hl hv h => ?_
  unfold m64 at h
  split at h
  · rename_i g0 a0_0 g1 a0_1 g2 a0_2
    obtain ⟨hg, h⟩ := bif_pair h
    simp only [Bool.and_eq_true] at hg
    obtain ⟨⟨q0, q1⟩, q2⟩ := hg
    obtain rfl := ctsEq_eq _ _ q0
    obtain rfl := ctsEq_eq _ _ q1
    obtain rfl := ctsEq_eq _ _ q2
    obtain ⟨h1, rfl⟩ := pair_inj h
    exact r64 a0_0 a0_1 a0_2 h1
  · cases h

/-! ### 43 loop.example/g01984/spec.FormatInt -/
def F43_0 (t4 : Bool) (t0 : Int) (t3 : ByteArray) : Out ((Int × ByteArray)) (ByteArray) := (bif !decide (t0 = 0) then (bif !decide (10 = 0) then (bif decide (Int.tmod t0 10 < 0) then (bif decide ((bytesA ([AV.int .u8 (IntKind.u8.wrap (IntKind.i64.wrap (48 + IntKind.i64.wrap (0 - (Int.tmod t0 10)))))])).size + t3.size ≤ 4611686018427387904) then (bif !decide (10 = 0) then .next (IntKind.i64.wrap (Int.tdiv t0 10), (bytesA ([AV.int .u8 (IntKind.u8.wrap (IntKind.i64.wrap (48 + IntKind.i64.wrap (0 - (Int.tmod t0 10)))))])) ++ t3)
  else .fail)
  else .fail)
  else (bif decide ((bytesA ([AV.int .u8 (IntKind.u8.wrap (IntKind.i64.wrap (48 + Int.tmod t0 10)))])).size + t3.size ≤ 4611686018427387904) then (bif !decide (10 = 0) then .next (IntKind.i64.wrap (Int.tdiv t0 10), (bytesA ([AV.int .u8 (IntKind.u8.wrap (IntKind.i64.wrap (48 + Int.tmod t0 10)))])) ++ t3)
  else .fail)
  else .fail))
  else .fail)
  else .stop t3)
def R43_0 (t4 : Bool) : ((Int × ByteArray)) → Out ((Int × ByteArray)) (ByteArray) := fun s : Int × ByteArray => F43_0 t4 s.1 s.2
def l43_0 : LModel := fun _ _ st k => match st with
  | ⟨[(0, .int .i64 t0), (3, .str t3), (4, .bool t4)], []⟩ => ro (runW (R43_0 t4) (t0.natAbs + 1) (t0, t3)) none (fun p : ByteArray => k (.exit 0) ⟨[(3, AV.str p), (4, AV.bool t4)], []⟩)
  | _ => none
noncomputable def c43 : Cfg := cfg Tryd.prog [(43, 0, [0, 3, 4]), (43, 999, [2]), (43, 1000, [3, 4]), (43, 1001, [0, 3, 4])] [] [] [] [(43, 0, l43_0)]
theorem s43_0 (ce : CallE) (t0 : Int) (t3 : ByteArray) (t4 : Bool) (next : St → Option AV) (k : Kont) : stepA (codeA c43 ce [] 43 0 (sub [1, 1, 1, 1, 0, 0, 0] (body Tryd.f43))) (normA [] [0, 3, 4]) next ⟨[(0, AV.int .i64 t0), (3, AV.str t3), (4, AV.bool t4)], []⟩ k = (bif !decide (t0 = 0) then (bif !decide (10 = 0) then (bif decide (Int.tmod t0 10 < 0) then (bif decide ((bytesA ([AV.int .u8 (IntKind.u8.wrap (IntKind.i64.wrap (48 + IntKind.i64.wrap (0 - (Int.tmod t0 10)))))])).size + t3.size ≤ 4611686018427387904) then (bif !decide (10 = 0) then next ⟨[(0, AV.int .i64 (IntKind.i64.wrap (Int.tdiv t0 10))), (3, AV.str ((bytesA ([AV.int .u8 (IntKind.u8.wrap (IntKind.i64.wrap (48 + IntKind.i64.wrap (0 - (Int.tmod t0 10)))))])) ++ t3)), (4, AV.bool t4)], []⟩
  else none)
  else none)
  else (bif decide ((bytesA ([AV.int .u8 (IntKind.u8.wrap (IntKind.i64.wrap (48 + Int.tmod t0 10)))])).size + t3.size ≤ 4611686018427387904) then (bif !decide (10 = 0) then next ⟨[(0, AV.int .i64 (IntKind.i64.wrap (Int.tdiv t0 10))), (3, AV.str ((bytesA ([AV.int .u8 (IntKind.u8.wrap (IntKind.i64.wrap (48 + Int.tmod t0 10)))])) ++ t3)), (4, AV.bool t4)], []⟩
  else none)
  else none))
  else none)
  else k (.exit 0) ⟨[(3, AV.str t3), (4, AV.bool t4)], []⟩) := by kernel_rfl
theorem st43_0 (t4 : Bool) (ce : CallE) (k : Kont) (s : (Int × ByteArray)) (next : St → Option AV) : stepA (codeA c43 ce [] 43 0 (sub [1, 1, 1, 1, 0, 0, 0] (body Tryd.f43))) (normA [] [0, 3, 4]) next ((fun s : Int × ByteArray => ⟨[(0, AV.int .i64 s.1), (3, AV.str s.2), (4, AV.bool t4)], []⟩) s) k = (R43_0 t4 s).el none (fun s => next ((fun s : Int × ByteArray => ⟨[(0, AV.int .i64 s.1), (3, AV.str s.2), (4, AV.bool t4)], []⟩) s)) (fun p : ByteArray => k (.exit 0) ⟨[(3, AV.str p), (4, AV.bool t4)], []⟩) := (s43_0 ce s.1 s.2 t4 next k).trans (by unfold R43_0; unfold F43_0; simp only [el_cond, el_ro, el_sum, el_fail, el_next, el_stop] <;> rfl)
theorem ok43_0 {ce : CallE} : LoopOK c43 ce [] 43 0 (sub [1, 1, 1, 1, 0, 0, 0] (body Tryd.f43)) := by
  intro m hm st k r h
  obtain rfl : l43_0 = m := Option.some.inj hm
  unfold l43_0 at h
  split at h
  · rename_i t0 t3 t4
    refine ⟨(t0.natAbs + 1), ?_⟩
    rw [← h]
    exact loop_run (fun s : Int × ByteArray => ⟨[(0, AV.int .i64 s.1), (3, AV.str s.2), (4, AV.bool t4)], []⟩) (fun p : ByteArray => k (.exit 0) ⟨[(3, AV.str p), (4, AV.bool t4)], []⟩) (st43_0 t4 ce k) _ (t0, t3)
  · cases h
def q43 (a0 : Int) : Bool := (bif decide (a0 = 0) then true else (ro (runW (R43_0 (decide (a0 < 0))) (a0.natAbs + 1) (a0, ByteArray.empty)) false (fun p17 => (bif decide (a0 < 0) then decide ((ByteArray.mk #[45]).size + p17.size ≤ 4611686018427387904) else true))))
def v43_0 (a0 : Int) : ByteArray := (bif decide (a0 = 0) then (ByteArray.mk #[48]) else (ro (runW (R43_0 (decide (a0 < 0))) (a0.natAbs + 1) (a0, ByteArray.empty)) ByteArray.empty (fun p17 => (bif decide (a0 < 0) then (ByteArray.mk #[45]) ++ p17 else p17))))
theorem e43 (a0 : Int) : funA c43 0 43 [AV.int .i64 a0] = (bif decide (a0 = 0) then some (AV.str (ByteArray.mk #[48]))
  else (ro (runW (R43_0 (decide (a0 < 0))) (a0.natAbs + 1) (a0, ByteArray.empty)) none (fun p17 => (bif decide (a0 < 0) then (bif decide ((ByteArray.mk #[45]).size + p17.size ≤ 4611686018427387904) then some (AV.str ((ByteArray.mk #[45]) ++ p17))
  else none)
  else some (AV.str p17))))) := by kernel_rfl
theorem r43 (a0 : Int) (h : q43 a0 = true) : funA c43 0 43 [AV.int .i64 a0] = some (AV.str (v43_0 a0)) := (e43 a0).trans ((br (fun b => some (AV.str (bif b then (ByteArray.mk #[48]) else (ro (runW (R43_0 (decide (a0 < 0))) (a0.natAbs + 1) (a0, ByteArray.empty)) ByteArray.empty (fun p17 => (bif decide (a0 < 0) then (ByteArray.mk #[45]) ++ p17 else p17)))))) (fun _ => rfl) (brO (fun o : Option (ByteArray) => some (AV.str (ro o ByteArray.empty (fun p17 => (bif decide (a0 < 0) then (ByteArray.mk #[45]) ++ p17 else p17))))) (fun p17 => (br (fun b => some (AV.str (bif b then (ByteArray.mk #[45]) ++ p17 else p17))) (brL1 (fun _ => rfl)) (fun _ => rfl))))) h)
def m43 : TModel
  | [.int .i64 a0] => some (q43 a0, AV.str (v43_0 a0))
  | _ => none
theorem k43 : Known Tryd.prog 43 := ⟨Tryd.f43, Tryd.func43, by kernel_rfl, by kernel_rfl⟩
theorem meets43 : Meets Tryd.prog 43 m43 := by
  refine meet (f := Tryd.f43) (l := [(0, sub [1, 1, 1, 1, 0, 0, 0] (body Tryd.f43))]) (hs := [(43, 0, [0, 3, 4]), (43, 999, [2]), (43, 1000, [3, 4]), (43, 1001, [0, 3, 4])]) (ts := []) (ws := []) (is := []) (ls := [(43, 0, l43_0)]) (lvl := 0) mixed k43 Tryd.func43 (by kernel_rfl) (loops_cons ok43_0 noLoop) allT_nil allM_nil noI fun w xs us r hl hv h => ?_
  unfold m43 at h
  split at h
  · rename_i a0
    obtain ⟨h1, rfl⟩ := pair_inj h
    exact r43 a0 h1
  · cases h

/-! ### 70 loop.example/g01984/spec.AggregateOf -/
def F70_0 (t0 : List AV) (h0_0 : Int) (h0_1 : Int) (h0_2 : Int) (h0_3 : Int) (t4 : Int) (h1_0 : Int) (h1_1 : Int) (h1_2 : Int) (h1_3 : Int) : Out ((Int × Int × Int × Int × Int)) ((Int × Int × Int × Int)) := (bif decide (t4 < (t0.length : Int)) then (bif (decide (0 ≤ t4) && decide (t4 < (t0.length : Int))) then (bif decide (h1_0 = 0) then .next (IntKind.i64.wrap (t4 + 1), IntKind.i64.wrap (h1_0 + 1), IntKind.i64.wrap (h1_1 + fI (t0.getD t4.toNat AV.undef) 0), (if fI (t0.getD t4.toNat AV.undef) 0 < fI (t0.getD t4.toNat AV.undef) 0 then fI (t0.getD t4.toNat AV.undef) 0 else fI (t0.getD t4.toNat AV.undef) 0), (if fI (t0.getD t4.toNat AV.undef) 0 > fI (t0.getD t4.toNat AV.undef) 0 then fI (t0.getD t4.toNat AV.undef) 0 else fI (t0.getD t4.toNat AV.undef) 0))
  else .next (IntKind.i64.wrap (t4 + 1), IntKind.i64.wrap (h1_0 + 1), IntKind.i64.wrap (h1_1 + fI (t0.getD t4.toNat AV.undef) 0), (if fI (t0.getD t4.toNat AV.undef) 0 < h1_2 then fI (t0.getD t4.toNat AV.undef) 0 else h1_2), (if fI (t0.getD t4.toNat AV.undef) 0 > h1_3 then fI (t0.getD t4.toNat AV.undef) 0 else h1_3)))
  else .fail)
  else .stop (h1_0, h1_1, h1_2, h1_3))
def R70_0 (t0 : List AV) (h0_0 : Int) (h0_1 : Int) (h0_2 : Int) (h0_3 : Int) : ((Int × Int × Int × Int × Int)) → Out ((Int × Int × Int × Int × Int)) ((Int × Int × Int × Int)) := fun s : Int × Int × Int × Int × Int => F70_0 t0 h0_0 h0_1 h0_2 h0_3 s.1 s.2.1 s.2.2.1 s.2.2.2.1 s.2.2.2.2
def l70_0 : LModel := fun _ _ st k => match st with
  | ⟨[(0, .sl g0 t0), (2, .ptr g1 g2 g3), (3, .ptr g4 g5 g6), (4, .int .i64 t4)], [(g7, ⟨true, [], [.agg [.int .i64 h0_0, .int .i64 h0_1, .int .i64 h0_2, .int .i64 h0_3]]⟩), (g8, ⟨true, [], [.agg [.int .i64 h1_0, .int .i64 h1_1, .int .i64 h1_2, .int .i64 h1_3]]⟩)]⟩ => bif ctsEq g0 ([.int .i64]) && nmEq g1 ([0, 2]) && Nat.beq g2 0 && Nat.beq g3 0 && nmEq g4 ([0, 3]) && Nat.beq g5 0 && Nat.beq g6 0 && nmEq g7 ([0, 2]) && nmEq g8 ([0, 3]) then ro (runW (R70_0 t0 h0_0 h0_1 h0_2 h0_3) (((t0.length : Int) - t4).toNat + 1) (t4, h1_0, h1_1, h1_2, h1_3)) none (fun p : Int × Int × Int × Int => k (.exit 0) ⟨[(2, AV.ptr [0, 2] 0 0), (3, AV.ptr [0, 3] 0 0)], [([0, 2], ⟨true, [], [AV.agg [AV.int .i64 h0_0, AV.int .i64 h0_1, AV.int .i64 h0_2, AV.int .i64 h0_3]]⟩), ([0, 3], ⟨true, [], [AV.agg [AV.int .i64 p.1, AV.int .i64 p.2.1, AV.int .i64 p.2.2.1, AV.int .i64 p.2.2.2]]⟩)]⟩) else none
  | _ => none
noncomputable def c70 : Cfg := cfg Tryd.prog [(70, 0, [0, 2, 3, 4]), (70, 999, [2]), (70, 1000, [2, 3]), (70, 1001, [0, 2, 3, 4])] [(86, m86)] [] [] [(70, 0, l70_0)]
theorem s70_0 (ce : CallE) (t0 : List AV) (t4 : Int) (h0_0 : Int) (h0_1 : Int) (h0_2 : Int) (h0_3 : Int) (h1_0 : Int) (h1_1 : Int) (h1_2 : Int) (h1_3 : Int) (next : St → Option AV) (k : Kont) : stepA (codeA c70 ce [] 70 0 (sub [1, 1, 1, 0, 1, 0, 0] (body Tryd.f70))) (normA [] [0, 2, 3, 4]) next ⟨[(0, AV.sl [.int .i64] t0), (2, AV.ptr [0, 2] 0 0), (3, AV.ptr [0, 3] 0 0), (4, AV.int .i64 t4)], [([0, 2], ⟨true, [], [AV.agg [AV.int .i64 h0_0, AV.int .i64 h0_1, AV.int .i64 h0_2, AV.int .i64 h0_3]]⟩), ([0, 3], ⟨true, [], [AV.agg [AV.int .i64 h1_0, AV.int .i64 h1_1, AV.int .i64 h1_2, AV.int .i64 h1_3]]⟩)]⟩ k = (bif decide (t4 < (t0.length : Int)) then (bif (decide (0 ≤ t4) && decide (t4 < (t0.length : Int))) then (bif decide (h1_0 = 0) then next ⟨[(0, AV.sl [.int .i64] t0), (2, AV.ptr [0, 2] 0 0), (3, AV.ptr [0, 3] 0 0), (4, AV.int .i64 (IntKind.i64.wrap (t4 + 1)))], [([0, 2], ⟨true, [], [AV.agg [AV.int .i64 h0_0, AV.int .i64 h0_1, AV.int .i64 h0_2, AV.int .i64 h0_3]]⟩), ([0, 3], ⟨true, [], [AV.agg [AV.int .i64 (IntKind.i64.wrap (h1_0 + 1)), AV.int .i64 (IntKind.i64.wrap (h1_1 + fI (t0.getD t4.toNat AV.undef) 0)), AV.int .i64 (if fI (t0.getD t4.toNat AV.undef) 0 < fI (t0.getD t4.toNat AV.undef) 0 then fI (t0.getD t4.toNat AV.undef) 0 else fI (t0.getD t4.toNat AV.undef) 0), AV.int .i64 (if fI (t0.getD t4.toNat AV.undef) 0 > fI (t0.getD t4.toNat AV.undef) 0 then fI (t0.getD t4.toNat AV.undef) 0 else fI (t0.getD t4.toNat AV.undef) 0)]]⟩)]⟩
  else next ⟨[(0, AV.sl [.int .i64] t0), (2, AV.ptr [0, 2] 0 0), (3, AV.ptr [0, 3] 0 0), (4, AV.int .i64 (IntKind.i64.wrap (t4 + 1)))], [([0, 2], ⟨true, [], [AV.agg [AV.int .i64 h0_0, AV.int .i64 h0_1, AV.int .i64 h0_2, AV.int .i64 h0_3]]⟩), ([0, 3], ⟨true, [], [AV.agg [AV.int .i64 (IntKind.i64.wrap (h1_0 + 1)), AV.int .i64 (IntKind.i64.wrap (h1_1 + fI (t0.getD t4.toNat AV.undef) 0)), AV.int .i64 (if fI (t0.getD t4.toNat AV.undef) 0 < h1_2 then fI (t0.getD t4.toNat AV.undef) 0 else h1_2), AV.int .i64 (if fI (t0.getD t4.toNat AV.undef) 0 > h1_3 then fI (t0.getD t4.toNat AV.undef) 0 else h1_3)]]⟩)]⟩)
  else none)
  else k (.exit 0) ⟨[(2, AV.ptr [0, 2] 0 0), (3, AV.ptr [0, 3] 0 0)], [([0, 2], ⟨true, [], [AV.agg [AV.int .i64 h0_0, AV.int .i64 h0_1, AV.int .i64 h0_2, AV.int .i64 h0_3]]⟩), ([0, 3], ⟨true, [], [AV.agg [AV.int .i64 h1_0, AV.int .i64 h1_1, AV.int .i64 h1_2, AV.int .i64 h1_3]]⟩)]⟩) := by kernel_rfl
theorem st70_0 (t0 : List AV) (h0_0 : Int) (h0_1 : Int) (h0_2 : Int) (h0_3 : Int) (ce : CallE) (k : Kont) (s : (Int × Int × Int × Int × Int)) (next : St → Option AV) : stepA (codeA c70 ce [] 70 0 (sub [1, 1, 1, 0, 1, 0, 0] (body Tryd.f70))) (normA [] [0, 2, 3, 4]) next ((fun s : Int × Int × Int × Int × Int => ⟨[(0, AV.sl [.int .i64] t0), (2, AV.ptr [0, 2] 0 0), (3, AV.ptr [0, 3] 0 0), (4, AV.int .i64 s.1)], [([0, 2], ⟨true, [], [AV.agg [AV.int .i64 h0_0, AV.int .i64 h0_1, AV.int .i64 h0_2, AV.int .i64 h0_3]]⟩), ([0, 3], ⟨true, [], [AV.agg [AV.int .i64 s.2.1, AV.int .i64 s.2.2.1, AV.int .i64 s.2.2.2.1, AV.int .i64 s.2.2.2.2]]⟩)]⟩) s) k = (R70_0 t0 h0_0 h0_1 h0_2 h0_3 s).el none (fun s => next ((fun s : Int × Int × Int × Int × Int => ⟨[(0, AV.sl [.int .i64] t0), (2, AV.ptr [0, 2] 0 0), (3, AV.ptr [0, 3] 0 0), (4, AV.int .i64 s.1)], [([0, 2], ⟨true, [], [AV.agg [AV.int .i64 h0_0, AV.int .i64 h0_1, AV.int .i64 h0_2, AV.int .i64 h0_3]]⟩), ([0, 3], ⟨true, [], [AV.agg [AV.int .i64 s.2.1, AV.int .i64 s.2.2.1, AV.int .i64 s.2.2.2.1, AV.int .i64 s.2.2.2.2]]⟩)]⟩) s)) (fun p : Int × Int × Int × Int => k (.exit 0) ⟨[(2, AV.ptr [0, 2] 0 0), (3, AV.ptr [0, 3] 0 0)], [([0, 2], ⟨true, [], [AV.agg [AV.int .i64 h0_0, AV.int .i64 h0_1, AV.int .i64 h0_2, AV.int .i64 h0_3]]⟩), ([0, 3], ⟨true, [], [AV.agg [AV.int .i64 p.1, AV.int .i64 p.2.1, AV.int .i64 p.2.2.1, AV.int .i64 p.2.2.2]]⟩)]⟩) := (s70_0 ce t0 s.1 h0_0 h0_1 h0_2 h0_3 s.2.1 s.2.2.1 s.2.2.2.1 s.2.2.2.2 next k).trans (by unfold R70_0; unfold F70_0; simp only [el_cond, el_ro, el_sum, el_fail, el_next, el_stop] <;> rfl)
theorem ok70_0 {ce : CallE} : LoopOK c70 ce [] 70 0 (sub [1, 1, 1, 0, 1, 0, 0] (body Tryd.f70)) := by
  intro m hm st k r h
  obtain rfl : l70_0 = m := Option.some.inj hm
  unfold l70_0 at h
  split at h
  · rename_i g0 t0 g1 g2 g3 g4 g5 g6 t4 g7 h0_0 h0_1 h0_2 h0_3 g8 h1_0 h1_1 h1_2 h1_3
    obtain ⟨hg, h⟩ := bif_some h
    simp only [Bool.and_eq_true] at hg
    obtain ⟨⟨⟨⟨⟨⟨⟨⟨q0, q1⟩, q2⟩, q3⟩, q4⟩, q5⟩, q6⟩, q7⟩, q8⟩ := hg
    obtain rfl := ctsEq_eq _ _ q0
    obtain rfl := (nmEq_iff _ _).1 q1
    obtain rfl := Nat.eq_of_beq_eq_true q2
    obtain rfl := Nat.eq_of_beq_eq_true q3
    obtain rfl := (nmEq_iff _ _).1 q4
    obtain rfl := Nat.eq_of_beq_eq_true q5
    obtain rfl := Nat.eq_of_beq_eq_true q6
    obtain rfl := (nmEq_iff _ _).1 q7
    obtain rfl := (nmEq_iff _ _).1 q8
    refine ⟨(((t0.length : Int) - t4).toNat + 1), ?_⟩
    rw [← h]
    exact loop_run (fun s : Int × Int × Int × Int × Int => ⟨[(0, AV.sl [.int .i64] t0), (2, AV.ptr [0, 2] 0 0), (3, AV.ptr [0, 3] 0 0), (4, AV.int .i64 s.1)], [([0, 2], ⟨true, [], [AV.agg [AV.int .i64 h0_0, AV.int .i64 h0_1, AV.int .i64 h0_2, AV.int .i64 h0_3]]⟩), ([0, 3], ⟨true, [], [AV.agg [AV.int .i64 s.2.1, AV.int .i64 s.2.2.1, AV.int .i64 s.2.2.2.1, AV.int .i64 s.2.2.2.2]]⟩)]⟩) (fun p : Int × Int × Int × Int => k (.exit 0) ⟨[(2, AV.ptr [0, 2] 0 0), (3, AV.ptr [0, 3] 0 0)], [([0, 2], ⟨true, [], [AV.agg [AV.int .i64 h0_0, AV.int .i64 h0_1, AV.int .i64 h0_2, AV.int .i64 h0_3]]⟩), ([0, 3], ⟨true, [], [AV.agg [AV.int .i64 p.1, AV.int .i64 p.2.1, AV.int .i64 p.2.2.1, AV.int .i64 p.2.2.2]]⟩)]⟩) (st70_0 t0 h0_0 h0_1 h0_2 h0_3 ce k) _ (t4, h1_0, h1_1, h1_2, h1_3)
  · cases h
def q70 (a0 : List AV) : Bool := (q86 a0 && (bif !(v86_0 a0) then true else (ro (runW (R70_0 a0 0 0 0 0) (((a0.length : Int) - 0).toNat + 1) (0, 0, 0, 0, 0)) false (fun p18 => true))))
def v70_0 (a0 : List AV) : Int := (bif !(v86_0 a0) then 0 else (ro (runW (R70_0 a0 0 0 0 0) (((a0.length : Int) - 0).toNat + 1) (0, 0, 0, 0, 0)) 0 (fun p18 => p18.1)))
def v70_1 (a0 : List AV) : Int := (bif !(v86_0 a0) then 0 else (ro (runW (R70_0 a0 0 0 0 0) (((a0.length : Int) - 0).toNat + 1) (0, 0, 0, 0, 0)) 0 (fun p18 => p18.2.1)))
def v70_2 (a0 : List AV) : Int := (bif !(v86_0 a0) then 0 else (ro (runW (R70_0 a0 0 0 0 0) (((a0.length : Int) - 0).toNat + 1) (0, 0, 0, 0, 0)) 0 (fun p18 => p18.2.2.1)))
def v70_3 (a0 : List AV) : Int := (bif !(v86_0 a0) then 0 else (ro (runW (R70_0 a0 0 0 0 0) (((a0.length : Int) - 0).toNat + 1) (0, 0, 0, 0, 0)) 0 (fun p18 => p18.2.2.2)))
theorem e70 (a0 : List AV) : funA c70 0 70 [AV.sl [.int .i64] a0] = (bif q86 a0 then (bif !(v86_0 a0) then some (AV.agg [AV.int .i64 0, AV.int .i64 0, AV.int .i64 0, AV.int .i64 0])
  else (ro (runW (R70_0 a0 0 0 0 0) (((a0.length : Int) - 0).toNat + 1) (0, 0, 0, 0, 0)) none (fun p18 => some (AV.agg [AV.int .i64 p18.1, AV.int .i64 p18.2.1, AV.int .i64 p18.2.2.1, AV.int .i64 p18.2.2.2]))))
  else none) := by kernel_rfl
theorem r70 (a0 : List AV) (h : q70 a0 = true) : funA c70 0 70 [AV.sl [.int .i64] a0] = some (AV.agg [AV.int .i64 (v70_0 a0), AV.int .i64 (v70_1 a0), AV.int .i64 (v70_2 a0), AV.int .i64 (v70_3 a0)]) := (e70 a0).trans ((brL (br (fun b => some (AV.agg [AV.int .i64 (bif b then 0 else (ro (runW (R70_0 a0 0 0 0 0) (((a0.length : Int) - 0).toNat + 1) (0, 0, 0, 0, 0)) 0 (fun p18 => p18.1))), AV.int .i64 (bif b then 0 else (ro (runW (R70_0 a0 0 0 0 0) (((a0.length : Int) - 0).toNat + 1) (0, 0, 0, 0, 0)) 0 (fun p18 => p18.2.1))), AV.int .i64 (bif b then 0 else (ro (runW (R70_0 a0 0 0 0 0) (((a0.length : Int) - 0).toNat + 1) (0, 0, 0, 0, 0)) 0 (fun p18 => p18.2.2.1))), AV.int .i64 (bif b then 0 else (ro (runW (R70_0 a0 0 0 0 0) (((a0.length : Int) - 0).toNat + 1) (0, 0, 0, 0, 0)) 0 (fun p18 => p18.2.2.2)))])) (fun _ => rfl) (brO (fun o : Option ((Int × Int × Int × Int)) => some (AV.agg [AV.int .i64 (ro o 0 (fun p18 => p18.1)), AV.int .i64 (ro o 0 (fun p18 => p18.2.1)), AV.int .i64 (ro o 0 (fun p18 => p18.2.2.1)), AV.int .i64 (ro o 0 (fun p18 => p18.2.2.2))])) (fun p18 => (fun _ => rfl))))) h)
def m70 : TModel
  | [.sl g0 a0] => bif ctsEq g0 ([.int .i64]) then some (q70 a0, AV.agg [AV.int .i64 (v70_0 a0), AV.int .i64 (v70_1 a0), AV.int .i64 (v70_2 a0), AV.int .i64 (v70_3 a0)]) else none
  | _ => none
theorem k70 : Known Tryd.prog 70 := ⟨Tryd.f70, Tryd.func70, by kernel_rfl, by kernel_rfl⟩
theorem meets70 : Meets Tryd.prog 70 m70 := by
  refine meet (f := Tryd.f70) (l := [(0, sub [1, 1, 1, 0, 1, 0, 0] (body Tryd.f70))]) (hs := [(70, 0, [0, 2, 3, 4]), (70, 999, [2]), (70, 1000, [2, 3]), (70, 1001, [0, 2, 3, 4])]) (ts := [(86, m86)]) (ws := []) (is := []) (ls := [(70, 0, l70_0)]) (lvl := 0) mixed k70 Tryd.func70 (by kernel_rfl) (loops_cons ok70_0 noLoop) (allT_cons meets86 allT_nil) allM_nil noI fun w xs us r hl hv h => ?_
  unfold m70 at h
  split at h
  · rename_i g0 a0
    obtain ⟨hg, h⟩ := bif_pair h
    have q0 := hg
    obtain rfl := ctsEq_eq _ _ q0
    obtain ⟨h1, rfl⟩ := pair_inj h
    exact r70 a0 h1
  · cases h

/-! ### 69 loop.example/g01984/spec.FormatAggregate -/
noncomputable def c69 : Cfg := cfg Tryd.prog [(69, 999, [2])] [(43, m43)] [] [] []
def q69 (a0_0 : Int) (a0_1 : Int) (a0_2 : Int) (a0_3 : Int) : Bool := (bif decide (a0_0 ≤ 0) then true else (q43 a0_0 && (decide ((v43_0 a0_0).size + (ByteArray.mk #[32, 115, 117, 109, 32]).size ≤ 4611686018427387904) && (q43 a0_1 && (decide (((v43_0 a0_0) ++ (ByteArray.mk #[32, 115, 117, 109, 32])).size + (v43_0 a0_1).size ≤ 4611686018427387904) && (decide ((((v43_0 a0_0) ++ (ByteArray.mk #[32, 115, 117, 109, 32])) ++ (v43_0 a0_1)).size + (ByteArray.mk #[32, 102, 114, 111, 109, 32]).size ≤ 4611686018427387904) && (q43 a0_2 && (decide (((((v43_0 a0_0) ++ (ByteArray.mk #[32, 115, 117, 109, 32])) ++ (v43_0 a0_1)) ++ (ByteArray.mk #[32, 102, 114, 111, 109, 32])).size + (v43_0 a0_2).size ≤ 4611686018427387904) && (decide ((((((v43_0 a0_0) ++ (ByteArray.mk #[32, 115, 117, 109, 32])) ++ (v43_0 a0_1)) ++ (ByteArray.mk #[32, 102, 114, 111, 109, 32])) ++ (v43_0 a0_2)).size + (ByteArray.mk #[32, 116, 111, 32]).size ≤ 4611686018427387904) && (q43 a0_3 && decide (((((((v43_0 a0_0) ++ (ByteArray.mk #[32, 115, 117, 109, 32])) ++ (v43_0 a0_1)) ++ (ByteArray.mk #[32, 102, 114, 111, 109, 32])) ++ (v43_0 a0_2)) ++ (ByteArray.mk #[32, 116, 111, 32])).size + (v43_0 a0_3).size ≤ 4611686018427387904)))))))))))
def v69_0 (a0_0 : Int) (a0_1 : Int) (a0_2 : Int) (a0_3 : Int) : ByteArray := (bif decide (a0_0 ≤ 0) then (ByteArray.mk #[110, 111, 110, 101]) else ((((((v43_0 a0_0) ++ (ByteArray.mk #[32, 115, 117, 109, 32])) ++ (v43_0 a0_1)) ++ (ByteArray.mk #[32, 102, 114, 111, 109, 32])) ++ (v43_0 a0_2)) ++ (ByteArray.mk #[32, 116, 111, 32])) ++ (v43_0 a0_3))
theorem e69 (a0_0 : Int) (a0_1 : Int) (a0_2 : Int) (a0_3 : Int) : funA c69 0 69 [AV.agg [AV.int .i64 a0_0, AV.int .i64 a0_1, AV.int .i64 a0_2, AV.int .i64 a0_3]] = (bif decide (a0_0 ≤ 0) then some (AV.str (ByteArray.mk #[110, 111, 110, 101]))
  else (bif q43 a0_0 then (bif decide ((v43_0 a0_0).size + (ByteArray.mk #[32, 115, 117, 109, 32]).size ≤ 4611686018427387904) then (bif q43 a0_1 then (bif decide (((v43_0 a0_0) ++ (ByteArray.mk #[32, 115, 117, 109, 32])).size + (v43_0 a0_1).size ≤ 4611686018427387904) then (bif decide ((((v43_0 a0_0) ++ (ByteArray.mk #[32, 115, 117, 109, 32])) ++ (v43_0 a0_1)).size + (ByteArray.mk #[32, 102, 114, 111, 109, 32]).size ≤ 4611686018427387904) then (bif q43 a0_2 then (bif decide (((((v43_0 a0_0) ++ (ByteArray.mk #[32, 115, 117, 109, 32])) ++ (v43_0 a0_1)) ++ (ByteArray.mk #[32, 102, 114, 111, 109, 32])).size + (v43_0 a0_2).size ≤ 4611686018427387904) then (bif decide ((((((v43_0 a0_0) ++ (ByteArray.mk #[32, 115, 117, 109, 32])) ++ (v43_0 a0_1)) ++ (ByteArray.mk #[32, 102, 114, 111, 109, 32])) ++ (v43_0 a0_2)).size + (ByteArray.mk #[32, 116, 111, 32]).size ≤ 4611686018427387904) then (bif q43 a0_3 then (bif decide (((((((v43_0 a0_0) ++ (ByteArray.mk #[32, 115, 117, 109, 32])) ++ (v43_0 a0_1)) ++ (ByteArray.mk #[32, 102, 114, 111, 109, 32])) ++ (v43_0 a0_2)) ++ (ByteArray.mk #[32, 116, 111, 32])).size + (v43_0 a0_3).size ≤ 4611686018427387904) then some (AV.str (((((((v43_0 a0_0) ++ (ByteArray.mk #[32, 115, 117, 109, 32])) ++ (v43_0 a0_1)) ++ (ByteArray.mk #[32, 102, 114, 111, 109, 32])) ++ (v43_0 a0_2)) ++ (ByteArray.mk #[32, 116, 111, 32])) ++ (v43_0 a0_3)))
  else none)
  else none)
  else none)
  else none)
  else none)
  else none)
  else none)
  else none)
  else none)
  else none)) := by kernel_rfl
theorem r69 (a0_0 : Int) (a0_1 : Int) (a0_2 : Int) (a0_3 : Int) (h : q69 a0_0 a0_1 a0_2 a0_3 = true) : funA c69 0 69 [AV.agg [AV.int .i64 a0_0, AV.int .i64 a0_1, AV.int .i64 a0_2, AV.int .i64 a0_3]] = some (AV.str (v69_0 a0_0 a0_1 a0_2 a0_3)) := (e69 a0_0 a0_1 a0_2 a0_3).trans ((br (fun b => some (AV.str (bif b then (ByteArray.mk #[110, 111, 110, 101]) else ((((((v43_0 a0_0) ++ (ByteArray.mk #[32, 115, 117, 109, 32])) ++ (v43_0 a0_1)) ++ (ByteArray.mk #[32, 102, 114, 111, 109, 32])) ++ (v43_0 a0_2)) ++ (ByteArray.mk #[32, 116, 111, 32])) ++ (v43_0 a0_3)))) (fun _ => rfl) (brL (brL (brL (brL (brL (brL (brL (brL (brL (brL1 (fun _ => rfl)))))))))))) h)
def m69 : TModel
  | [.agg [.int .i64 a0_0, .int .i64 a0_1, .int .i64 a0_2, .int .i64 a0_3]] => some (q69 a0_0 a0_1 a0_2 a0_3, AV.str (v69_0 a0_0 a0_1 a0_2 a0_3))
  | _ => none
theorem k69 : Known Tryd.prog 69 := ⟨Tryd.f69, Tryd.func69, by kernel_rfl, by kernel_rfl⟩
theorem meets69 : Meets Tryd.prog 69 m69 := by
  refine meet (f := Tryd.f69) (l := []) (hs := [(69, 999, [2])]) (ts := [(43, m43)]) (ws := []) (is := []) (ls := []) (lvl := 0) mixed k69 Tryd.func69 (by kernel_rfl) noLoop (allT_cons meets43 allT_nil) allM_nil noI fun w xs us r hl hv h => ?_
  unfold m69 at h
  split at h
  · rename_i a0_0 a0_1 a0_2 a0_3
    obtain ⟨h1, rfl⟩ := pair_inj h
    exact r69 a0_0 a0_1 a0_2 a0_3 h1
  · cases h

/-! ### 71 loop.example/g01984/spec.l15Sorted -/
def F71_0 (t2 : Int) (h0_0 : List AV) (h0_1 : List AV) (h0_2 : List AV) (t7 : Int) : Out (Int) (Unit ⊕ Unit) := (bif decide (t7 < t2) then (bif (decide (0 ≤ IntKind.i64.wrap (t7 - 1)) && decide (IntKind.i64.wrap (t7 - 1) < (h0_0.length : Int))) then (bif (decide (0 ≤ t7) && decide (t7 < (h0_0.length : Int))) then (bif decide (fI (h0_0.getD (IntKind.i64.wrap (t7 - 1)).toNat AV.undef) 0 > fI (h0_0.getD t7.toNat AV.undef) 0) then .stop (.inr ())
  else (bif (decide (0 ≤ IntKind.i64.wrap (t7 - 1)) && decide (IntKind.i64.wrap (t7 - 1) < (h0_0.length : Int))) then (bif (decide (0 ≤ t7) && decide (t7 < (h0_0.length : Int))) then (bif decide (fI (h0_0.getD (IntKind.i64.wrap (t7 - 1)).toNat AV.undef) 0 = fI (h0_0.getD t7.toNat AV.undef) 0) then (bif (decide (0 ≤ IntKind.i64.wrap (t7 - 1)) && decide (IntKind.i64.wrap (t7 - 1) < (h0_1.length : Int))) then (bif (decide (0 ≤ t7) && decide (t7 < (h0_1.length : Int))) then (bif decide (fI (h0_1.getD (IntKind.i64.wrap (t7 - 1)).toNat AV.undef) 0 > fI (h0_1.getD t7.toNat AV.undef) 0) then .stop (.inr ())
  else .next (IntKind.i64.wrap (t7 + 1)))
  else .fail)
  else .fail)
  else .next (IntKind.i64.wrap (t7 + 1)))
  else .fail)
  else .fail))
  else .fail)
  else .fail)
  else .stop (.inl ()))
def R71_0 (t2 : Int) (h0_0 : List AV) (h0_1 : List AV) (h0_2 : List AV) : (Int) → Out (Int) (Unit ⊕ Unit) := fun s : Int => F71_0 t2 h0_0 h0_1 h0_2 s
def l71_0 : LModel := fun _ _ st k => match st with
  | ⟨[(2, .int .i64 t2), (3, .ptr g0 g1 g2), (7, .int .i64 t7)], [(g3, ⟨true, [], [.agg [.sl g4 h0_0, .sl g5 h0_1, .sl g6 h0_2]]⟩)]⟩ => bif nmEq g0 ([0, 3]) && Nat.beq g1 0 && Nat.beq g2 0 && nmEq g3 ([0, 3]) && ctsEq g4 ([.int .i64]) && ctsEq g5 ([.int .i64]) && ctsEq g6 ([.int .i64, .int .i64]) then ro (runW (R71_0 t2 h0_0 h0_1 h0_2) ((t2 - t7).toNat + 1) t7) none (sumE (fun _ : Unit => k (.exit 0) ⟨[], [([0, 3], ⟨true, [], [AV.agg [AV.sl [.int .i64] h0_0, AV.sl [.int .i64] h0_1, AV.sl [.int .i64, .int .i64] h0_2]]⟩)]⟩) (fun _ : Unit => k .ret ⟨[(6, AV.bool false)], [([0, 3], ⟨true, [], [AV.agg [AV.sl [.int .i64] h0_0, AV.sl [.int .i64] h0_1, AV.sl [.int .i64, .int .i64] h0_2]]⟩)]⟩)) else none
  | _ => none
noncomputable def c71 : Cfg := cfg Tryd.prog [(71, 0, [2, 3, 7]), (71, 999, [6]), (71, 1000, []), (71, 1001, [2, 3, 7])] [] [] [] [(71, 0, l71_0)]
theorem s71_0 (ce : CallE) (t2 : Int) (t7 : Int) (h0_0 : List AV) (h0_1 : List AV) (h0_2 : List AV) (next : St → Option AV) (k : Kont) : stepA (codeA c71 ce [] 71 0 (sub [1, 0, 1, 0, 0] (body Tryd.f71))) (normA [] [2, 3, 7]) next ⟨[(2, AV.int .i64 t2), (3, AV.ptr [0, 3] 0 0), (7, AV.int .i64 t7)], [([0, 3], ⟨true, [], [AV.agg [AV.sl [.int .i64] h0_0, AV.sl [.int .i64] h0_1, AV.sl [.int .i64, .int .i64] h0_2]]⟩)]⟩ k = (bif decide (t7 < t2) then (bif (decide (0 ≤ IntKind.i64.wrap (t7 - 1)) && decide (IntKind.i64.wrap (t7 - 1) < (h0_0.length : Int))) then (bif (decide (0 ≤ t7) && decide (t7 < (h0_0.length : Int))) then (bif decide (fI (h0_0.getD (IntKind.i64.wrap (t7 - 1)).toNat AV.undef) 0 > fI (h0_0.getD t7.toNat AV.undef) 0) then k .ret ⟨[(6, AV.bool false)], [([0, 3], ⟨true, [], [AV.agg [AV.sl [.int .i64] h0_0, AV.sl [.int .i64] h0_1, AV.sl [.int .i64, .int .i64] h0_2]]⟩)]⟩
  else (bif (decide (0 ≤ IntKind.i64.wrap (t7 - 1)) && decide (IntKind.i64.wrap (t7 - 1) < (h0_0.length : Int))) then (bif (decide (0 ≤ t7) && decide (t7 < (h0_0.length : Int))) then (bif decide (fI (h0_0.getD (IntKind.i64.wrap (t7 - 1)).toNat AV.undef) 0 = fI (h0_0.getD t7.toNat AV.undef) 0) then (bif (decide (0 ≤ IntKind.i64.wrap (t7 - 1)) && decide (IntKind.i64.wrap (t7 - 1) < (h0_1.length : Int))) then (bif (decide (0 ≤ t7) && decide (t7 < (h0_1.length : Int))) then (bif decide (fI (h0_1.getD (IntKind.i64.wrap (t7 - 1)).toNat AV.undef) 0 > fI (h0_1.getD t7.toNat AV.undef) 0) then k .ret ⟨[(6, AV.bool false)], [([0, 3], ⟨true, [], [AV.agg [AV.sl [.int .i64] h0_0, AV.sl [.int .i64] h0_1, AV.sl [.int .i64, .int .i64] h0_2]]⟩)]⟩
  else next ⟨[(2, AV.int .i64 t2), (3, AV.ptr [0, 3] 0 0), (7, AV.int .i64 (IntKind.i64.wrap (t7 + 1)))], [([0, 3], ⟨true, [], [AV.agg [AV.sl [.int .i64] h0_0, AV.sl [.int .i64] h0_1, AV.sl [.int .i64, .int .i64] h0_2]]⟩)]⟩)
  else none)
  else none)
  else next ⟨[(2, AV.int .i64 t2), (3, AV.ptr [0, 3] 0 0), (7, AV.int .i64 (IntKind.i64.wrap (t7 + 1)))], [([0, 3], ⟨true, [], [AV.agg [AV.sl [.int .i64] h0_0, AV.sl [.int .i64] h0_1, AV.sl [.int .i64, .int .i64] h0_2]]⟩)]⟩)
  else none)
  else none))
  else none)
  else none)
  else k (.exit 0) ⟨[], [([0, 3], ⟨true, [], [AV.agg [AV.sl [.int .i64] h0_0, AV.sl [.int .i64] h0_1, AV.sl [.int .i64, .int .i64] h0_2]]⟩)]⟩) := by kernel_rfl
theorem st71_0 (t2 : Int) (h0_0 : List AV) (h0_1 : List AV) (h0_2 : List AV) (ce : CallE) (k : Kont) (s : Int) (next : St → Option AV) : stepA (codeA c71 ce [] 71 0 (sub [1, 0, 1, 0, 0] (body Tryd.f71))) (normA [] [2, 3, 7]) next ((fun s : Int => ⟨[(2, AV.int .i64 t2), (3, AV.ptr [0, 3] 0 0), (7, AV.int .i64 s)], [([0, 3], ⟨true, [], [AV.agg [AV.sl [.int .i64] h0_0, AV.sl [.int .i64] h0_1, AV.sl [.int .i64, .int .i64] h0_2]]⟩)]⟩) s) k = (R71_0 t2 h0_0 h0_1 h0_2 s).el none (fun s => next ((fun s : Int => ⟨[(2, AV.int .i64 t2), (3, AV.ptr [0, 3] 0 0), (7, AV.int .i64 s)], [([0, 3], ⟨true, [], [AV.agg [AV.sl [.int .i64] h0_0, AV.sl [.int .i64] h0_1, AV.sl [.int .i64, .int .i64] h0_2]]⟩)]⟩) s)) (sumE (fun _ : Unit => k (.exit 0) ⟨[], [([0, 3], ⟨true, [], [AV.agg [AV.sl [.int .i64] h0_0, AV.sl [.int .i64] h0_1, AV.sl [.int .i64, .int .i64] h0_2]]⟩)]⟩) (fun _ : Unit => k .ret ⟨[(6, AV.bool false)], [([0, 3], ⟨true, [], [AV.agg [AV.sl [.int .i64] h0_0, AV.sl [.int .i64] h0_1, AV.sl [.int .i64, .int .i64] h0_2]]⟩)]⟩)) := (s71_0 ce t2 s h0_0 h0_1 h0_2 next k).trans (by unfold R71_0; unfold F71_0; simp only [el_cond, el_ro, el_sum, el_fail, el_next, el_stop] <;> rfl)
theorem ok71_0 {ce : CallE} : LoopOK c71 ce [] 71 0 (sub [1, 0, 1, 0, 0] (body Tryd.f71)) := by
  intro m hm st k r h
  obtain rfl : l71_0 = m := Option.some.inj hm
  unfold l71_0 at h
  split at h
  · rename_i t2 g0 g1 g2 t7 g3 g4 h0_0 g5 h0_1 g6 h0_2
    obtain ⟨hg, h⟩ := bif_some h
    simp only [Bool.and_eq_true] at hg
    obtain ⟨⟨⟨⟨⟨⟨q0, q1⟩, q2⟩, q3⟩, q4⟩, q5⟩, q6⟩ := hg
    obtain rfl := (nmEq_iff _ _).1 q0
    obtain rfl := Nat.eq_of_beq_eq_true q1
    obtain rfl := Nat.eq_of_beq_eq_true q2
    obtain rfl := (nmEq_iff _ _).1 q3
    obtain rfl := ctsEq_eq _ _ q4
    obtain rfl := ctsEq_eq _ _ q5
    obtain rfl := ctsEq_eq _ _ q6
    refine ⟨((t2 - t7).toNat + 1), ?_⟩
    rw [← h]
    exact loop_run (fun s : Int => ⟨[(2, AV.int .i64 t2), (3, AV.ptr [0, 3] 0 0), (7, AV.int .i64 s)], [([0, 3], ⟨true, [], [AV.agg [AV.sl [.int .i64] h0_0, AV.sl [.int .i64] h0_1, AV.sl [.int .i64, .int .i64] h0_2]]⟩)]⟩) (sumE (fun _ : Unit => k (.exit 0) ⟨[], [([0, 3], ⟨true, [], [AV.agg [AV.sl [.int .i64] h0_0, AV.sl [.int .i64] h0_1, AV.sl [.int .i64, .int .i64] h0_2]]⟩)]⟩) (fun _ : Unit => k .ret ⟨[(6, AV.bool false)], [([0, 3], ⟨true, [], [AV.agg [AV.sl [.int .i64] h0_0, AV.sl [.int .i64] h0_1, AV.sl [.int .i64, .int .i64] h0_2]]⟩)]⟩)) (st71_0 t2 h0_0 h0_1 h0_2 ce k) _ t7
  · cases h
def q71 (a0_0 : List AV) (a0_1 : List AV) (a0_2 : List AV) (a1 : Int) (a2 : Int) : Bool := (ro (runW (R71_0 a2 a0_0 a0_1 a0_2) ((a2 - (IntKind.i64.wrap (a1 + 1))).toNat + 1) (IntKind.i64.wrap (a1 + 1))) false (sumE (fun _ => true) (fun _ => true)))
def v71_0 (a0_0 : List AV) (a0_1 : List AV) (a0_2 : List AV) (a1 : Int) (a2 : Int) : Bool := (ro (runW (R71_0 a2 a0_0 a0_1 a0_2) ((a2 - (IntKind.i64.wrap (a1 + 1))).toNat + 1) (IntKind.i64.wrap (a1 + 1))) false (sumE (fun _ => true) (fun _ => false)))
theorem e71 (a0_0 : List AV) (a0_1 : List AV) (a0_2 : List AV) (a1 : Int) (a2 : Int) : funA c71 0 71 [AV.agg [AV.sl [.int .i64] a0_0, AV.sl [.int .i64] a0_1, AV.sl [.int .i64, .int .i64] a0_2], AV.int .i64 a1, AV.int .i64 a2] = (ro (runW (R71_0 a2 a0_0 a0_1 a0_2) ((a2 - (IntKind.i64.wrap (a1 + 1))).toNat + 1) (IntKind.i64.wrap (a1 + 1))) none (sumE (fun _ => some (AV.bool true)) (fun _ => some (AV.bool false)))) := by kernel_rfl
theorem r71 (a0_0 : List AV) (a0_1 : List AV) (a0_2 : List AV) (a1 : Int) (a2 : Int) (h : q71 a0_0 a0_1 a0_2 a1 a2 = true) : funA c71 0 71 [AV.agg [AV.sl [.int .i64] a0_0, AV.sl [.int .i64] a0_1, AV.sl [.int .i64, .int .i64] a0_2], AV.int .i64 a1, AV.int .i64 a2] = some (AV.bool (v71_0 a0_0 a0_1 a0_2 a1 a2)) := (e71 a0_0 a0_1 a0_2 a1 a2).trans ((brO (fun o : Option (Unit ⊕ Unit) => some (AV.bool (ro o false (sumE (fun _ => true) (fun _ => false))))) (brS (fun o : Unit ⊕ Unit => some (AV.bool ((sumE (fun _ => true) (fun _ => false)) o))) (fun _ => (fun _ => rfl)) (fun _ => (fun _ => rfl)))) h)
def m71 : TModel
  | [.agg [.sl g0 a0_0, .sl g1 a0_1, .sl g2 a0_2], .int .i64 a1, .int .i64 a2] => bif ctsEq g0 ([.int .i64]) && ctsEq g1 ([.int .i64]) && ctsEq g2 ([.int .i64, .int .i64]) then some (q71 a0_0 a0_1 a0_2 a1 a2, AV.bool (v71_0 a0_0 a0_1 a0_2 a1 a2)) else none
  | _ => none
theorem k71 : Known Tryd.prog 71 := ⟨Tryd.f71, Tryd.func71, by kernel_rfl, by kernel_rfl⟩
theorem meets71 : Meets Tryd.prog 71 m71 := by
  refine meet (f := Tryd.f71) (l := [(0, sub [1, 0, 1, 0, 0] (body Tryd.f71))]) (hs := [(71, 0, [2, 3, 7]), (71, 999, [6]), (71, 1000, []), (71, 1001, [2, 3, 7])]) (ts := []) (ws := []) (is := []) (ls := [(71, 0, l71_0)]) (lvl := 0) mixed k71 Tryd.func71 (by kernel_rfl) (loops_cons ok71_0 noLoop) allT_nil allM_nil noI fun w xs us r hl hv h => ?_
  unfold m71 at h
  split at h
  · rename_i g0 a0_0 g1 a0_1 g2 a0_2 a1 a2
    obtain ⟨hg, h⟩ := bif_pair h
    simp only [Bool.and_eq_true] at hg
    obtain ⟨⟨q0, q1⟩, q2⟩ := hg
    obtain rfl := ctsEq_eq _ _ q0
    obtain rfl := ctsEq_eq _ _ q1
    obtain rfl := ctsEq_eq _ _ q2
    obtain ⟨h1, rfl⟩ := pair_inj h
    exact r71 a0_0 a0_1 a0_2 a1 a2 h1
  · cases h

/-! ### 39 loop.example/g01984/spec.PieceLines -/
def F39_0 (h0_0 : List AV) (h0_1 : List AV) (h0_2 : List AV) (h2 : List AV) (t4 : Int) (t6 : Int) (h1 : List AV) : Out ((Int × Int × (List AV))) (((List AV))) := (bif decide (t6 < (h2.length : Int)) then (bif q64 h0_0 h0_1 h0_2 then (bif (v64_0 h0_0 h0_1 h0_2) then (bif (decide (0 ≤ t6) && decide (t6 < (h2.length : Int))) then (bif decide (fI (h2.getD t6.toNat AV.undef) 0 > t4) then (bif q43 t4 then (bif decide ((v43_0 t4).size + (ByteArray.mk #[46, 46]).size ≤ 4611686018427387904) then (bif (decide (0 ≤ t6) && decide (t6 < (h2.length : Int))) then (bif q43 (fI (h2.getD t6.toNat AV.undef) 0) then (bif decide (((v43_0 t4) ++ (ByteArray.mk #[46, 46])).size + (v43_0 (fI (h2.getD t6.toNat AV.undef) 0)).size ≤ 4611686018427387904) then (bif decide ((((v43_0 t4) ++ (ByteArray.mk #[46, 46])) ++ (v43_0 (fI (h2.getD t6.toNat AV.undef) 0))).size + (ByteArray.mk #[32]).size ≤ 4611686018427387904) then (bif (decide (0 ≤ t6) && decide (t6 < (h2.length : Int))) then (bif (decide (0 ≤ t4) && decide (t4 ≤ fI (h2.getD t6.toNat AV.undef) 0) && decide (fI (h2.getD t6.toNat AV.undef) 0 ≤ (h0_0.length : Int))) then (bif q70 ((h0_0.take (Int.toNat (fI (h2.getD t6.toNat AV.undef) 0))).drop (Int.toNat t4)) then (bif q69 (v70_0 ((h0_0.take (Int.toNat (fI (h2.getD t6.toNat AV.undef) 0))).drop (Int.toNat t4))) (v70_1 ((h0_0.take (Int.toNat (fI (h2.getD t6.toNat AV.undef) 0))).drop (Int.toNat t4))) (v70_2 ((h0_0.take (Int.toNat (fI (h2.getD t6.toNat AV.undef) 0))).drop (Int.toNat t4))) (v70_3 ((h0_0.take (Int.toNat (fI (h2.getD t6.toNat AV.undef) 0))).drop (Int.toNat t4))) then (bif decide (((((v43_0 t4) ++ (ByteArray.mk #[46, 46])) ++ (v43_0 (fI (h2.getD t6.toNat AV.undef) 0))) ++ (ByteArray.mk #[32])).size + (v69_0 (v70_0 ((h0_0.take (Int.toNat (fI (h2.getD t6.toNat AV.undef) 0))).drop (Int.toNat t4))) (v70_1 ((h0_0.take (Int.toNat (fI (h2.getD t6.toNat AV.undef) 0))).drop (Int.toNat t4))) (v70_2 ((h0_0.take (Int.toNat (fI (h2.getD t6.toNat AV.undef) 0))).drop (Int.toNat t4))) (v70_3 ((h0_0.take (Int.toNat (fI (h2.getD t6.toNat AV.undef) 0))).drop (Int.toNat t4)))).size ≤ 4611686018427387904) then (bif (decide (0 ≤ t6) && decide (t6 < (h2.length : Int))) then (bif q71 h0_0 h0_1 h0_2 t4 (fI (h2.getD t6.toNat AV.undef) 0) then (bif (v71_0 h0_0 h0_1 h0_2 t4 (fI (h2.getD t6.toNat AV.undef) 0)) then (bif decide ((((((v43_0 t4) ++ (ByteArray.mk #[46, 46])) ++ (v43_0 (fI (h2.getD t6.toNat AV.undef) 0))) ++ (ByteArray.mk #[32])) ++ (v69_0 (v70_0 ((h0_0.take (Int.toNat (fI (h2.getD t6.toNat AV.undef) 0))).drop (Int.toNat t4))) (v70_1 ((h0_0.take (Int.toNat (fI (h2.getD t6.toNat AV.undef) 0))).drop (Int.toNat t4))) (v70_2 ((h0_0.take (Int.toNat (fI (h2.getD t6.toNat AV.undef) 0))).drop (Int.toNat t4))) (v70_3 ((h0_0.take (Int.toNat (fI (h2.getD t6.toNat AV.undef) 0))).drop (Int.toNat t4))))).size + (ByteArray.mk #[32, 115, 111, 114, 116, 101, 100]).size ≤ 4611686018427387904) then (bif (decide ((h1.length + ([AV.str ((((((v43_0 t4) ++ (ByteArray.mk #[46, 46])) ++ (v43_0 (fI (h2.getD t6.toNat AV.undef) 0))) ++ (ByteArray.mk #[32])) ++ (v69_0 (v70_0 ((h0_0.take (Int.toNat (fI (h2.getD t6.toNat AV.undef) 0))).drop (Int.toNat t4))) (v70_1 ((h0_0.take (Int.toNat (fI (h2.getD t6.toNat AV.undef) 0))).drop (Int.toNat t4))) (v70_2 ((h0_0.take (Int.toNat (fI (h2.getD t6.toNat AV.undef) 0))).drop (Int.toNat t4))) (v70_3 ((h0_0.take (Int.toNat (fI (h2.getD t6.toNat AV.undef) 0))).drop (Int.toNat t4))))) ++ (ByteArray.mk #[32, 115, 111, 114, 116, 101, 100]))]).length) * 16 ≤ 140737488355328) && decide ((h1.length + ([AV.str ((((((v43_0 t4) ++ (ByteArray.mk #[46, 46])) ++ (v43_0 (fI (h2.getD t6.toNat AV.undef) 0))) ++ (ByteArray.mk #[32])) ++ (v69_0 (v70_0 ((h0_0.take (Int.toNat (fI (h2.getD t6.toNat AV.undef) 0))).drop (Int.toNat t4))) (v70_1 ((h0_0.take (Int.toNat (fI (h2.getD t6.toNat AV.undef) 0))).drop (Int.toNat t4))) (v70_2 ((h0_0.take (Int.toNat (fI (h2.getD t6.toNat AV.undef) 0))).drop (Int.toNat t4))) (v70_3 ((h0_0.take (Int.toNat (fI (h2.getD t6.toNat AV.undef) 0))).drop (Int.toNat t4))))) ++ (ByteArray.mk #[32, 115, 111, 114, 116, 101, 100]))]).length) ≤ 140737488355328)) then (bif (decide (0 ≤ t6) && decide (t6 < (h2.length : Int))) then .next (fI (h2.getD t6.toNat AV.undef) 0, IntKind.i64.wrap (t6 + 1), h1 ++ ([AV.str ((((((v43_0 t4) ++ (ByteArray.mk #[46, 46])) ++ (v43_0 (fI (h2.getD t6.toNat AV.undef) 0))) ++ (ByteArray.mk #[32])) ++ (v69_0 (v70_0 ((h0_0.take (Int.toNat (fI (h2.getD t6.toNat AV.undef) 0))).drop (Int.toNat t4))) (v70_1 ((h0_0.take (Int.toNat (fI (h2.getD t6.toNat AV.undef) 0))).drop (Int.toNat t4))) (v70_2 ((h0_0.take (Int.toNat (fI (h2.getD t6.toNat AV.undef) 0))).drop (Int.toNat t4))) (v70_3 ((h0_0.take (Int.toNat (fI (h2.getD t6.toNat AV.undef) 0))).drop (Int.toNat t4))))) ++ (ByteArray.mk #[32, 115, 111, 114, 116, 101, 100]))]))
  else .fail)
  else .fail)
  else .fail)
  else (bif (decide ((h1.length + ([AV.str (((((v43_0 t4) ++ (ByteArray.mk #[46, 46])) ++ (v43_0 (fI (h2.getD t6.toNat AV.undef) 0))) ++ (ByteArray.mk #[32])) ++ (v69_0 (v70_0 ((h0_0.take (Int.toNat (fI (h2.getD t6.toNat AV.undef) 0))).drop (Int.toNat t4))) (v70_1 ((h0_0.take (Int.toNat (fI (h2.getD t6.toNat AV.undef) 0))).drop (Int.toNat t4))) (v70_2 ((h0_0.take (Int.toNat (fI (h2.getD t6.toNat AV.undef) 0))).drop (Int.toNat t4))) (v70_3 ((h0_0.take (Int.toNat (fI (h2.getD t6.toNat AV.undef) 0))).drop (Int.toNat t4)))))]).length) * 16 ≤ 140737488355328) && decide ((h1.length + ([AV.str (((((v43_0 t4) ++ (ByteArray.mk #[46, 46])) ++ (v43_0 (fI (h2.getD t6.toNat AV.undef) 0))) ++ (ByteArray.mk #[32])) ++ (v69_0 (v70_0 ((h0_0.take (Int.toNat (fI (h2.getD t6.toNat AV.undef) 0))).drop (Int.toNat t4))) (v70_1 ((h0_0.take (Int.toNat (fI (h2.getD t6.toNat AV.undef) 0))).drop (Int.toNat t4))) (v70_2 ((h0_0.take (Int.toNat (fI (h2.getD t6.toNat AV.undef) 0))).drop (Int.toNat t4))) (v70_3 ((h0_0.take (Int.toNat (fI (h2.getD t6.toNat AV.undef) 0))).drop (Int.toNat t4)))))]).length) ≤ 140737488355328)) then (bif (decide (0 ≤ t6) && decide (t6 < (h2.length : Int))) then .next (fI (h2.getD t6.toNat AV.undef) 0, IntKind.i64.wrap (t6 + 1), h1 ++ ([AV.str (((((v43_0 t4) ++ (ByteArray.mk #[46, 46])) ++ (v43_0 (fI (h2.getD t6.toNat AV.undef) 0))) ++ (ByteArray.mk #[32])) ++ (v69_0 (v70_0 ((h0_0.take (Int.toNat (fI (h2.getD t6.toNat AV.undef) 0))).drop (Int.toNat t4))) (v70_1 ((h0_0.take (Int.toNat (fI (h2.getD t6.toNat AV.undef) 0))).drop (Int.toNat t4))) (v70_2 ((h0_0.take (Int.toNat (fI (h2.getD t6.toNat AV.undef) 0))).drop (Int.toNat t4))) (v70_3 ((h0_0.take (Int.toNat (fI (h2.getD t6.toNat AV.undef) 0))).drop (Int.toNat t4)))))]))
  else .fail)
  else .fail))
  else .fail)
  else .fail)
  else .fail)
  else .fail)
  else .fail)
  else .fail)
  else .fail)
  else .fail)
  else .fail)
  else .fail)
  else .fail)
  else .fail)
  else .fail)
  else (bif (decide (0 ≤ t6) && decide (t6 < (h2.length : Int))) then .next (fI (h2.getD t6.toNat AV.undef) 0, IntKind.i64.wrap (t6 + 1), h1)
  else .fail))
  else .fail)
  else .stop h1)
  else .fail)
  else .stop h1)
def R39_0 (h0_0 : List AV) (h0_1 : List AV) (h0_2 : List AV) (h2 : List AV) : ((Int × Int × (List AV))) → Out ((Int × Int × (List AV))) (((List AV))) := fun s : Int × Int × (List AV) => F39_0 h0_0 h0_1 h0_2 h2 s.1 s.2.1 s.2.2
def l39_0 : LModel := fun _ _ st k => match st with
  | ⟨[(1, .ptr g0 g1 g2), (3, .own g3), (4, .int .i64 t4), (5, .own g4), (6, .int .i64 t6)], [(g5, ⟨true, [], [.agg [.sl g6 h0_0, .sl g7 h0_1, .sl g8 h0_2]]⟩), (g9, ⟨false, g10, h1⟩), (g11, ⟨false, g12, h2⟩)]⟩ => bif nmEq g0 ([0, 1]) && Nat.beq g1 0 && Nat.beq g2 0 && nmEq g3 ([0, 3]) && nmEq g4 ([0, 5]) && nmEq g5 ([0, 1]) && ctsEq g6 ([.int .i64]) && ctsEq g7 ([.int .i64]) && ctsEq g8 ([.int .i64, .int .i64]) && nmEq g9 ([0, 3]) && ctsEq g10 ([.str]) && nmEq g11 ([0, 5]) && ctsEq g12 ([.int .i64]) then ro (runW (R39_0 h0_0 h0_1 h0_2 h2) (((h2.length : Int) - t6).toNat + 1) (t4, t6, h1)) none (fun p : (List AV) => k (.exit 0) ⟨[(3, AV.own [0, 3])], [([0, 1], ⟨true, [], [AV.agg [AV.sl [.int .i64] h0_0, AV.sl [.int .i64] h0_1, AV.sl [.int .i64, .int .i64] h0_2]]⟩), ([0, 3], ⟨false, [.str], p⟩), ([0, 5], ⟨false, [.int .i64], h2⟩)]⟩) else none
  | _ => none
noncomputable def c39 : Cfg := cfg Tryd.prog [(39, 0, [1, 3, 4, 5, 6]), (39, 999, [2]), (39, 1000, [3]), (39, 1001, [1, 3, 4, 5, 6])] [(43, m43), (64, m64), (68, m68), (69, m69), (70, m70), (71, m71)] [] [] [(39, 0, l39_0)]
theorem s39_0 (ce : CallE) (t4 : Int) (t6 : Int) (h0_0 : List AV) (h0_1 : List AV) (h0_2 : List AV) (h1 : List AV) (h2 : List AV) (next : St → Option AV) (k : Kont) : stepA (codeA c39 ce [] 39 0 (sub [1, 1, 1, 1, 0, 1, 0, 0] (body Tryd.f39))) (normA [] [1, 3, 4, 5, 6]) next ⟨[(1, AV.ptr [0, 1] 0 0), (3, AV.own [0, 3]), (4, AV.int .i64 t4), (5, AV.own [0, 5]), (6, AV.int .i64 t6)], [([0, 1], ⟨true, [], [AV.agg [AV.sl [.int .i64] h0_0, AV.sl [.int .i64] h0_1, AV.sl [.int .i64, .int .i64] h0_2]]⟩), ([0, 3], ⟨false, [.str], h1⟩), ([0, 5], ⟨false, [.int .i64], h2⟩)]⟩ k = (bif decide (t6 < (h2.length : Int)) then (bif q64 h0_0 h0_1 h0_2 then (bif (v64_0 h0_0 h0_1 h0_2) then (bif (decide (0 ≤ t6) && decide (t6 < (h2.length : Int))) then (bif decide (fI (h2.getD t6.toNat AV.undef) 0 > t4) then (bif q43 t4 then (bif decide ((v43_0 t4).size + (ByteArray.mk #[46, 46]).size ≤ 4611686018427387904) then (bif (decide (0 ≤ t6) && decide (t6 < (h2.length : Int))) then (bif q43 (fI (h2.getD t6.toNat AV.undef) 0) then (bif decide (((v43_0 t4) ++ (ByteArray.mk #[46, 46])).size + (v43_0 (fI (h2.getD t6.toNat AV.undef) 0)).size ≤ 4611686018427387904) then (bif decide ((((v43_0 t4) ++ (ByteArray.mk #[46, 46])) ++ (v43_0 (fI (h2.getD t6.toNat AV.undef) 0))).size + (ByteArray.mk #[32]).size ≤ 4611686018427387904) then (bif (decide (0 ≤ t6) && decide (t6 < (h2.length : Int))) then (bif (decide (0 ≤ t4) && decide (t4 ≤ fI (h2.getD t6.toNat AV.undef) 0) && decide (fI (h2.getD t6.toNat AV.undef) 0 ≤ (h0_0.length : Int))) then (bif q70 ((h0_0.take (Int.toNat (fI (h2.getD t6.toNat AV.undef) 0))).drop (Int.toNat t4)) then (bif q69 (v70_0 ((h0_0.take (Int.toNat (fI (h2.getD t6.toNat AV.undef) 0))).drop (Int.toNat t4))) (v70_1 ((h0_0.take (Int.toNat (fI (h2.getD t6.toNat AV.undef) 0))).drop (Int.toNat t4))) (v70_2 ((h0_0.take (Int.toNat (fI (h2.getD t6.toNat AV.undef) 0))).drop (Int.toNat t4))) (v70_3 ((h0_0.take (Int.toNat (fI (h2.getD t6.toNat AV.undef) 0))).drop (Int.toNat t4))) then (bif decide (((((v43_0 t4) ++ (ByteArray.mk #[46, 46])) ++ (v43_0 (fI (h2.getD t6.toNat AV.undef) 0))) ++ (ByteArray.mk #[32])).size + (v69_0 (v70_0 ((h0_0.take (Int.toNat (fI (h2.getD t6.toNat AV.undef) 0))).drop (Int.toNat t4))) (v70_1 ((h0_0.take (Int.toNat (fI (h2.getD t6.toNat AV.undef) 0))).drop (Int.toNat t4))) (v70_2 ((h0_0.take (Int.toNat (fI (h2.getD t6.toNat AV.undef) 0))).drop (Int.toNat t4))) (v70_3 ((h0_0.take (Int.toNat (fI (h2.getD t6.toNat AV.undef) 0))).drop (Int.toNat t4)))).size ≤ 4611686018427387904) then (bif (decide (0 ≤ t6) && decide (t6 < (h2.length : Int))) then (bif q71 h0_0 h0_1 h0_2 t4 (fI (h2.getD t6.toNat AV.undef) 0) then (bif (v71_0 h0_0 h0_1 h0_2 t4 (fI (h2.getD t6.toNat AV.undef) 0)) then (bif decide ((((((v43_0 t4) ++ (ByteArray.mk #[46, 46])) ++ (v43_0 (fI (h2.getD t6.toNat AV.undef) 0))) ++ (ByteArray.mk #[32])) ++ (v69_0 (v70_0 ((h0_0.take (Int.toNat (fI (h2.getD t6.toNat AV.undef) 0))).drop (Int.toNat t4))) (v70_1 ((h0_0.take (Int.toNat (fI (h2.getD t6.toNat AV.undef) 0))).drop (Int.toNat t4))) (v70_2 ((h0_0.take (Int.toNat (fI (h2.getD t6.toNat AV.undef) 0))).drop (Int.toNat t4))) (v70_3 ((h0_0.take (Int.toNat (fI (h2.getD t6.toNat AV.undef) 0))).drop (Int.toNat t4))))).size + (ByteArray.mk #[32, 115, 111, 114, 116, 101, 100]).size ≤ 4611686018427387904) then (bif (decide ((h1.length + ([AV.str ((((((v43_0 t4) ++ (ByteArray.mk #[46, 46])) ++ (v43_0 (fI (h2.getD t6.toNat AV.undef) 0))) ++ (ByteArray.mk #[32])) ++ (v69_0 (v70_0 ((h0_0.take (Int.toNat (fI (h2.getD t6.toNat AV.undef) 0))).drop (Int.toNat t4))) (v70_1 ((h0_0.take (Int.toNat (fI (h2.getD t6.toNat AV.undef) 0))).drop (Int.toNat t4))) (v70_2 ((h0_0.take (Int.toNat (fI (h2.getD t6.toNat AV.undef) 0))).drop (Int.toNat t4))) (v70_3 ((h0_0.take (Int.toNat (fI (h2.getD t6.toNat AV.undef) 0))).drop (Int.toNat t4))))) ++ (ByteArray.mk #[32, 115, 111, 114, 116, 101, 100]))]).length) * 16 ≤ 140737488355328) && decide ((h1.length + ([AV.str ((((((v43_0 t4) ++ (ByteArray.mk #[46, 46])) ++ (v43_0 (fI (h2.getD t6.toNat AV.undef) 0))) ++ (ByteArray.mk #[32])) ++ (v69_0 (v70_0 ((h0_0.take (Int.toNat (fI (h2.getD t6.toNat AV.undef) 0))).drop (Int.toNat t4))) (v70_1 ((h0_0.take (Int.toNat (fI (h2.getD t6.toNat AV.undef) 0))).drop (Int.toNat t4))) (v70_2 ((h0_0.take (Int.toNat (fI (h2.getD t6.toNat AV.undef) 0))).drop (Int.toNat t4))) (v70_3 ((h0_0.take (Int.toNat (fI (h2.getD t6.toNat AV.undef) 0))).drop (Int.toNat t4))))) ++ (ByteArray.mk #[32, 115, 111, 114, 116, 101, 100]))]).length) ≤ 140737488355328)) then (bif (decide (0 ≤ t6) && decide (t6 < (h2.length : Int))) then next ⟨[(1, AV.ptr [0, 1] 0 0), (3, AV.own [0, 3]), (4, AV.int .i64 (fI (h2.getD t6.toNat AV.undef) 0)), (5, AV.own [0, 5]), (6, AV.int .i64 (IntKind.i64.wrap (t6 + 1)))], [([0, 1], ⟨true, [], [AV.agg [AV.sl [.int .i64] h0_0, AV.sl [.int .i64] h0_1, AV.sl [.int .i64, .int .i64] h0_2]]⟩), ([0, 3], ⟨false, [.str], h1 ++ ([AV.str ((((((v43_0 t4) ++ (ByteArray.mk #[46, 46])) ++ (v43_0 (fI (h2.getD t6.toNat AV.undef) 0))) ++ (ByteArray.mk #[32])) ++ (v69_0 (v70_0 ((h0_0.take (Int.toNat (fI (h2.getD t6.toNat AV.undef) 0))).drop (Int.toNat t4))) (v70_1 ((h0_0.take (Int.toNat (fI (h2.getD t6.toNat AV.undef) 0))).drop (Int.toNat t4))) (v70_2 ((h0_0.take (Int.toNat (fI (h2.getD t6.toNat AV.undef) 0))).drop (Int.toNat t4))) (v70_3 ((h0_0.take (Int.toNat (fI (h2.getD t6.toNat AV.undef) 0))).drop (Int.toNat t4))))) ++ (ByteArray.mk #[32, 115, 111, 114, 116, 101, 100]))])⟩), ([0, 5], ⟨false, [.int .i64], h2⟩)]⟩
  else none)
  else none)
  else none)
  else (bif (decide ((h1.length + ([AV.str (((((v43_0 t4) ++ (ByteArray.mk #[46, 46])) ++ (v43_0 (fI (h2.getD t6.toNat AV.undef) 0))) ++ (ByteArray.mk #[32])) ++ (v69_0 (v70_0 ((h0_0.take (Int.toNat (fI (h2.getD t6.toNat AV.undef) 0))).drop (Int.toNat t4))) (v70_1 ((h0_0.take (Int.toNat (fI (h2.getD t6.toNat AV.undef) 0))).drop (Int.toNat t4))) (v70_2 ((h0_0.take (Int.toNat (fI (h2.getD t6.toNat AV.undef) 0))).drop (Int.toNat t4))) (v70_3 ((h0_0.take (Int.toNat (fI (h2.getD t6.toNat AV.undef) 0))).drop (Int.toNat t4)))))]).length) * 16 ≤ 140737488355328) && decide ((h1.length + ([AV.str (((((v43_0 t4) ++ (ByteArray.mk #[46, 46])) ++ (v43_0 (fI (h2.getD t6.toNat AV.undef) 0))) ++ (ByteArray.mk #[32])) ++ (v69_0 (v70_0 ((h0_0.take (Int.toNat (fI (h2.getD t6.toNat AV.undef) 0))).drop (Int.toNat t4))) (v70_1 ((h0_0.take (Int.toNat (fI (h2.getD t6.toNat AV.undef) 0))).drop (Int.toNat t4))) (v70_2 ((h0_0.take (Int.toNat (fI (h2.getD t6.toNat AV.undef) 0))).drop (Int.toNat t4))) (v70_3 ((h0_0.take (Int.toNat (fI (h2.getD t6.toNat AV.undef) 0))).drop (Int.toNat t4)))))]).length) ≤ 140737488355328)) then (bif (decide (0 ≤ t6) && decide (t6 < (h2.length : Int))) then next ⟨[(1, AV.ptr [0, 1] 0 0), (3, AV.own [0, 3]), (4, AV.int .i64 (fI (h2.getD t6.toNat AV.undef) 0)), (5, AV.own [0, 5]), (6, AV.int .i64 (IntKind.i64.wrap (t6 + 1)))], [([0, 1], ⟨true, [], [AV.agg [AV.sl [.int .i64] h0_0, AV.sl [.int .i64] h0_1, AV.sl [.int .i64, .int .i64] h0_2]]⟩), ([0, 3], ⟨false, [.str], h1 ++ ([AV.str (((((v43_0 t4) ++ (ByteArray.mk #[46, 46])) ++ (v43_0 (fI (h2.getD t6.toNat AV.undef) 0))) ++ (ByteArray.mk #[32])) ++ (v69_0 (v70_0 ((h0_0.take (Int.toNat (fI (h2.getD t6.toNat AV.undef) 0))).drop (Int.toNat t4))) (v70_1 ((h0_0.take (Int.toNat (fI (h2.getD t6.toNat AV.undef) 0))).drop (Int.toNat t4))) (v70_2 ((h0_0.take (Int.toNat (fI (h2.getD t6.toNat AV.undef) 0))).drop (Int.toNat t4))) (v70_3 ((h0_0.take (Int.toNat (fI (h2.getD t6.toNat AV.undef) 0))).drop (Int.toNat t4)))))])⟩), ([0, 5], ⟨false, [.int .i64], h2⟩)]⟩
  else none)
  else none))
  else none)
  else none)
  else none)
  else none)
  else none)
  else none)
  else none)
  else none)
  else none)
  else none)
  else none)
  else none)
  else none)
  else (bif (decide (0 ≤ t6) && decide (t6 < (h2.length : Int))) then next ⟨[(1, AV.ptr [0, 1] 0 0), (3, AV.own [0, 3]), (4, AV.int .i64 (fI (h2.getD t6.toNat AV.undef) 0)), (5, AV.own [0, 5]), (6, AV.int .i64 (IntKind.i64.wrap (t6 + 1)))], [([0, 1], ⟨true, [], [AV.agg [AV.sl [.int .i64] h0_0, AV.sl [.int .i64] h0_1, AV.sl [.int .i64, .int .i64] h0_2]]⟩), ([0, 3], ⟨false, [.str], h1⟩), ([0, 5], ⟨false, [.int .i64], h2⟩)]⟩
  else none))
  else none)
  else k (.exit 0) ⟨[(3, AV.own [0, 3])], [([0, 1], ⟨true, [], [AV.agg [AV.sl [.int .i64] h0_0, AV.sl [.int .i64] h0_1, AV.sl [.int .i64, .int .i64] h0_2]]⟩), ([0, 3], ⟨false, [.str], h1⟩), ([0, 5], ⟨false, [.int .i64], h2⟩)]⟩)
  else none)
  else k (.exit 0) ⟨[(3, AV.own [0, 3])], [([0, 1], ⟨true, [], [AV.agg [AV.sl [.int .i64] h0_0, AV.sl [.int .i64] h0_1, AV.sl [.int .i64, .int .i64] h0_2]]⟩), ([0, 3], ⟨false, [.str], h1⟩), ([0, 5], ⟨false, [.int .i64], h2⟩)]⟩) := by kernel_rfl
theorem st39_0 (h0_0 : List AV) (h0_1 : List AV) (h0_2 : List AV) (h2 : List AV) (ce : CallE) (k : Kont) (s : (Int × Int × (List AV))) (next : St → Option AV) : stepA (codeA c39 ce [] 39 0 (sub [1, 1, 1, 1, 0, 1, 0, 0] (body Tryd.f39))) (normA [] [1, 3, 4, 5, 6]) next ((fun s : Int × Int × (List AV) => ⟨[(1, AV.ptr [0, 1] 0 0), (3, AV.own [0, 3]), (4, AV.int .i64 s.1), (5, AV.own [0, 5]), (6, AV.int .i64 s.2.1)], [([0, 1], ⟨true, [], [AV.agg [AV.sl [.int .i64] h0_0, AV.sl [.int .i64] h0_1, AV.sl [.int .i64, .int .i64] h0_2]]⟩), ([0, 3], ⟨false, [.str], s.2.2⟩), ([0, 5], ⟨false, [.int .i64], h2⟩)]⟩) s) k = (R39_0 h0_0 h0_1 h0_2 h2 s).el none (fun s => next ((fun s : Int × Int × (List AV) => ⟨[(1, AV.ptr [0, 1] 0 0), (3, AV.own [0, 3]), (4, AV.int .i64 s.1), (5, AV.own [0, 5]), (6, AV.int .i64 s.2.1)], [([0, 1], ⟨true, [], [AV.agg [AV.sl [.int .i64] h0_0, AV.sl [.int .i64] h0_1, AV.sl [.int .i64, .int .i64] h0_2]]⟩), ([0, 3], ⟨false, [.str], s.2.2⟩), ([0, 5], ⟨false, [.int .i64], h2⟩)]⟩) s)) (fun p : (List AV) => k (.exit 0) ⟨[(3, AV.own [0, 3])], [([0, 1], ⟨true, [], [AV.agg [AV.sl [.int .i64] h0_0, AV.sl [.int .i64] h0_1, AV.sl [.int .i64, .int .i64] h0_2]]⟩), ([0, 3], ⟨false, [.str], p⟩), ([0, 5], ⟨false, [.int .i64], h2⟩)]⟩) := (s39_0 ce s.1 s.2.1 h0_0 h0_1 h0_2 s.2.2 h2 next k).trans (by unfold R39_0; unfold F39_0; simp only [el_cond, el_ro, el_sum, el_fail, el_next, el_stop] <;> rfl)
theorem ok39_0 {ce : CallE} : LoopOK c39 ce [] 39 0 (sub [1, 1, 1, 1, 0, 1, 0, 0] (body Tryd.f39)) := by
  intro m hm st k r h
  obtain rfl : l39_0 = m := Option.some.inj hm
  unfold l39_0 at h
  split at h
  · rename_i g0 g1 g2 g3 t4 g4 t6 g5 g6 h0_0 g7 h0_1 g8 h0_2 g9 g10 h1 g11 g12 h2
    obtain ⟨hg, h⟩ := bif_some h
    simp only [Bool.and_eq_true] at hg
    obtain ⟨⟨⟨⟨⟨⟨⟨⟨⟨⟨⟨⟨q0, q1⟩, q2⟩, q3⟩, q4⟩, q5⟩, q6⟩, q7⟩, q8⟩, q9⟩, q10⟩, q11⟩, q12⟩ := hg
    obtain rfl := (nmEq_iff _ _).1 q0
    obtain rfl := Nat.eq_of_beq_eq_true q1
    obtain rfl := Nat.eq_of_beq_eq_true q2
    obtain rfl := (nmEq_iff _ _).1 q3
    obtain rfl := (nmEq_iff _ _).1 q4
    obtain rfl := (nmEq_iff _ _).1 q5
    obtain rfl := ctsEq_eq _ _ q6
    obtain rfl := ctsEq_eq _ _ q7
    obtain rfl := ctsEq_eq _ _ q8
    obtain rfl := (nmEq_iff _ _).1 q9
    obtain rfl := ctsEq_eq _ _ q10
    obtain rfl := (nmEq_iff _ _).1 q11
    obtain rfl := ctsEq_eq _ _ q12
    refine ⟨(((h2.length : Int) - t6).toNat + 1), ?_⟩
    rw [← h]
    exact loop_run (fun s : Int × Int × (List AV) => ⟨[(1, AV.ptr [0, 1] 0 0), (3, AV.own [0, 3]), (4, AV.int .i64 s.1), (5, AV.own [0, 5]), (6, AV.int .i64 s.2.1)], [([0, 1], ⟨true, [], [AV.agg [AV.sl [.int .i64] h0_0, AV.sl [.int .i64] h0_1, AV.sl [.int .i64, .int .i64] h0_2]]⟩), ([0, 3], ⟨false, [.str], s.2.2⟩), ([0, 5], ⟨false, [.int .i64], h2⟩)]⟩) (fun p : (List AV) => k (.exit 0) ⟨[(3, AV.own [0, 3])], [([0, 1], ⟨true, [], [AV.agg [AV.sl [.int .i64] h0_0, AV.sl [.int .i64] h0_1, AV.sl [.int .i64, .int .i64] h0_2]]⟩), ([0, 3], ⟨false, [.str], p⟩), ([0, 5], ⟨false, [.int .i64], h2⟩)]⟩) (st39_0 h0_0 h0_1 h0_2 h2 ce k) _ (t4, t6, h1)
  · cases h
def q39 (a0_0 : List AV) (a0_1 : List AV) (a0_2 : List AV) : Bool := (q68 a0_0 a0_1 a0_2 && (ro (runW (R39_0 a0_0 a0_1 a0_2 (v68_0 a0_0 a0_1 a0_2)) ((((v68_0 a0_0 a0_1 a0_2).length : Int) - 0).toNat + 1) (0, 0, ([] : List AV))) false (fun p21 => true)))
def v39_0 (a0_0 : List AV) (a0_1 : List AV) (a0_2 : List AV) : List AV := (ro (runW (R39_0 a0_0 a0_1 a0_2 (v68_0 a0_0 a0_1 a0_2)) ((((v68_0 a0_0 a0_1 a0_2).length : Int) - 0).toNat + 1) (0, 0, ([] : List AV))) [] (fun p21 => p21))
theorem e39 (a0_0 : List AV) (a0_1 : List AV) (a0_2 : List AV) : funA c39 0 39 [AV.agg [AV.sl [.int .i64] a0_0, AV.sl [.int .i64] a0_1, AV.sl [.int .i64, .int .i64] a0_2]] = (bif q68 a0_0 a0_1 a0_2 then (ro (runW (R39_0 a0_0 a0_1 a0_2 (v68_0 a0_0 a0_1 a0_2)) ((((v68_0 a0_0 a0_1 a0_2).length : Int) - 0).toNat + 1) (0, 0, ([] : List AV))) none (fun p21 => some (AV.fl [.str] p21)))
  else none) := by kernel_rfl
theorem r39 (a0_0 : List AV) (a0_1 : List AV) (a0_2 : List AV) (h : q39 a0_0 a0_1 a0_2 = true) : funA c39 0 39 [AV.agg [AV.sl [.int .i64] a0_0, AV.sl [.int .i64] a0_1, AV.sl [.int .i64, .int .i64] a0_2]] = some (AV.fl [.str] (v39_0 a0_0 a0_1 a0_2)) := (e39 a0_0 a0_1 a0_2).trans ((brL (brO (fun o : Option (((List AV))) => some (AV.fl [.str] (ro o [] (fun p21 => p21)))) (fun p21 => (fun _ => rfl)))) h)
def m39 : TModel
  | [.agg [.sl g0 a0_0, .sl g1 a0_1, .sl g2 a0_2]] => bif ctsEq g0 ([.int .i64]) && ctsEq g1 ([.int .i64]) && ctsEq g2 ([.int .i64, .int .i64]) then some (q39 a0_0 a0_1 a0_2, AV.fl [.str] (v39_0 a0_0 a0_1 a0_2)) else none
  | _ => none
theorem k39 : Known Tryd.prog 39 := ⟨Tryd.f39, Tryd.func39, by kernel_rfl, by kernel_rfl⟩
theorem meets39 : Meets Tryd.prog 39 m39 := by
  refine meet (f := Tryd.f39) (l := [(0, sub [1, 1, 1, 1, 0, 1, 0, 0] (body Tryd.f39))]) (hs := [(39, 0, [1, 3, 4, 5, 6]), (39, 999, [2]), (39, 1000, [3]), (39, 1001, [1, 3, 4, 5, 6])]) (ts := [(43, m43), (64, m64), (68, m68), (69, m69), (70, m70), (71, m71)]) (ws := []) (is := []) (ls := [(39, 0, l39_0)]) (lvl := 0) mixed k39 Tryd.func39 (by kernel_rfl) (loops_cons ok39_0 noLoop) (allT_cons meets43 (allT_cons meets64 (allT_cons meets68 (allT_cons meets69 (allT_cons meets70 (allT_cons meets71 allT_nil)))))) allM_nil noI fun w xs us r hl hv h => ?_
  unfold m39 at h
  split at h
  · rename_i g0 a0_0 g1 a0_1 g2 a0_2
    obtain ⟨hg, h⟩ := bif_pair h
    simp only [Bool.and_eq_true] at hg
    obtain ⟨⟨q0, q1⟩, q2⟩ := hg
    obtain rfl := ctsEq_eq _ _ q0
    obtain rfl := ctsEq_eq _ _ q1
    obtain rfl := ctsEq_eq _ _ q2
    obtain ⟨h1, rfl⟩ := pair_inj h
    exact r39 a0_0 a0_1 a0_2 h1
  · cases h

/-! ### 105 loop.example/g01984/impl.within$1 -/
noncomputable def c105 : Cfg := cfg Tryd.prog [(105, 999, [4])] [] [] [] []
def q105 (a0 : Int) (a1 : AV) (a2 : AV) : Bool := true
def v105_0 (a0 : Int) (a1 : AV) (a2 : AV) : Bool := (bif decide (a0 < fI a1 0) then true else decide (a0 > fI a2 0))
theorem e105 (a0 : Int) (a1 : AV) (a2 : AV) : funA c105 0 105 [AV.int .i64 a0, AV.rptr [.int .i64] a1 0, AV.rptr [.int .i64] a2 0] = (bif decide (a0 < fI a1 0) then some (AV.bool true)
  else some (AV.bool (decide (a0 > fI a2 0)))) := by kernel_rfl
theorem r105 (a0 : Int) (a1 : AV) (a2 : AV) : funA c105 0 105 [AV.int .i64 a0, AV.rptr [.int .i64] a1 0, AV.rptr [.int .i64] a2 0] = some (AV.bool (v105_0 a0 a1 a2)) := (e105 a0 a1 a2).trans (of_tt (brT (fun b => some (AV.bool (bif b then true else decide (a0 > fI a2 0)))) (fun _ => rfl) (fun _ => rfl)))
def m105 : TModel
  | [.int .i64 a0, .rptr g0 a1 g1, .rptr g2 a2 g3] => bif ctsEq g0 ([.int .i64]) && Nat.beq g1 0 && ctsEq g2 ([.int .i64]) && Nat.beq g3 0 then some (true, AV.bool (v105_0 a0 a1 a2)) else none
  | _ => none
theorem k105 : Known Tryd.prog 105 := ⟨Tryd.f105, Tryd.func105, by kernel_rfl, by kernel_rfl⟩
theorem meets105 : Meets Tryd.prog 105 m105 := by
  refine meet (f := Tryd.f105) (l := []) (hs := [(105, 999, [4])]) (ts := []) (ws := []) (is := []) (ls := []) (lvl := 0) mixed k105 Tryd.func105 (by kernel_rfl) noLoop allT_nil allM_nil noI fun w xs us r hl hv h => ?_
  unfold m105 at h
  split at h
  · rename_i a0 g0 a1 g1 g2 a2 g3
    obtain ⟨hg, h⟩ := bif_pair h
    simp only [Bool.and_eq_true] at hg
    obtain ⟨⟨⟨q0, q1⟩, q2⟩, q3⟩ := hg
    obtain rfl := ctsEq_eq _ _ q0
    obtain rfl := Nat.eq_of_beq_eq_true q1
    obtain rfl := ctsEq_eq _ _ q2
    obtain rfl := Nat.eq_of_beq_eq_true q3
    obtain ⟨h1, rfl⟩ := pair_inj h
    exact r105 a0 a1 a2
  · cases h

/-! ### 112 slices.IndexFunc[[]int,int] -/
def F112_0 (t0 : List AV) (t1_0 : AV) (t1_1 : AV) (t7 : Int) (t8 : Int) : Out (Int) (Unit ⊕ Int) := (bif decide (t8 < t7) then (bif (decide (0 ≤ t8) && decide (t8 < (t0.length : Int))) then (bif (v105_0 (fI (t0.getD t8.toNat AV.undef) 0) t1_0 t1_1) then .stop (.inr t8)
  else .next (IntKind.i64.wrap (t8 + 1)))
  else .fail)
  else .stop (.inl ()))
def R112_0 (t0 : List AV) (t1_0 : AV) (t1_1 : AV) (t7 : Int) : (Int) → Out (Int) (Unit ⊕ Int) := fun s : Int => F112_0 t0 t1_0 t1_1 t7 s
def l112_0 : LModel := fun _ _ st k => match st with
  | ⟨[(0, .sl g0 t0), (1, .fn g1 [.rptr g2 t1_0 g3, .rptr g4 t1_1 g5]), (7, .int .i64 t7), (8, .int .i64 t8)], []⟩ => bif ctsEq g0 ([.int .i64]) && Nat.beq g1 105 && ctsEq g2 ([.int .i64]) && Nat.beq g3 0 && ctsEq g4 ([.int .i64]) && Nat.beq g5 0 then ro (runW (R112_0 t0 t1_0 t1_1 t7) ((t7 - t8).toNat + 1) t8) none (sumE (fun _ : Unit => k (.exit 0) ⟨[], []⟩) (fun p : Int => k .ret ⟨[(4, AV.int .i64 p)], []⟩)) else none
  | _ => none
noncomputable def c112 : Cfg := cfg Tryd.prog [(112, 0, [0, 1, 7, 8]), (112, 999, [4]), (112, 1000, []), (112, 1001, [0, 1, 7, 8])] [(105, m105)] [] [] [(112, 0, l112_0)]
theorem s112_0 (ce : CallE) (t0 : List AV) (t1_0 : AV) (t1_1 : AV) (t7 : Int) (t8 : Int) (next : St → Option AV) (k : Kont) : stepA (codeA c112 ce [] 112 0 (sub [1, 0, 1, 0, 0] (body Tryd.f112))) (normA [] [0, 1, 7, 8]) next ⟨[(0, AV.sl [.int .i64] t0), (1, AV.fn 105 [AV.rptr [.int .i64] t1_0 0, AV.rptr [.int .i64] t1_1 0]), (7, AV.int .i64 t7), (8, AV.int .i64 t8)], []⟩ k = (bif decide (t8 < t7) then (bif (decide (0 ≤ t8) && decide (t8 < (t0.length : Int))) then (bif (v105_0 (fI (t0.getD t8.toNat AV.undef) 0) t1_0 t1_1) then k .ret ⟨[(4, AV.int .i64 t8)], []⟩
  else next ⟨[(0, AV.sl [.int .i64] t0), (1, AV.fn 105 [AV.rptr [.int .i64] t1_0 0, AV.rptr [.int .i64] t1_1 0]), (7, AV.int .i64 t7), (8, AV.int .i64 (IntKind.i64.wrap (t8 + 1)))], []⟩)
  else none)
  else k (.exit 0) ⟨[], []⟩) := by kernel_rfl
theorem st112_0 (t0 : List AV) (t1_0 : AV) (t1_1 : AV) (t7 : Int) (ce : CallE) (k : Kont) (s : Int) (next : St → Option AV) : stepA (codeA c112 ce [] 112 0 (sub [1, 0, 1, 0, 0] (body Tryd.f112))) (normA [] [0, 1, 7, 8]) next ((fun s : Int => ⟨[(0, AV.sl [.int .i64] t0), (1, AV.fn 105 [AV.rptr [.int .i64] t1_0 0, AV.rptr [.int .i64] t1_1 0]), (7, AV.int .i64 t7), (8, AV.int .i64 s)], []⟩) s) k = (R112_0 t0 t1_0 t1_1 t7 s).el none (fun s => next ((fun s : Int => ⟨[(0, AV.sl [.int .i64] t0), (1, AV.fn 105 [AV.rptr [.int .i64] t1_0 0, AV.rptr [.int .i64] t1_1 0]), (7, AV.int .i64 t7), (8, AV.int .i64 s)], []⟩) s)) (sumE (fun _ : Unit => k (.exit 0) ⟨[], []⟩) (fun p : Int => k .ret ⟨[(4, AV.int .i64 p)], []⟩)) := (s112_0 ce t0 t1_0 t1_1 t7 s next k).trans (by unfold R112_0; unfold F112_0; simp only [el_cond, el_ro, el_sum, el_fail, el_next, el_stop] <;> rfl)
theorem ok112_0 {ce : CallE} : LoopOK c112 ce [] 112 0 (sub [1, 0, 1, 0, 0] (body Tryd.f112)) := by
  intro m hm st k r h
  obtain rfl : l112_0 = m := Option.some.inj hm
  unfold l112_0 at h
  split at h
  · rename_i g0 t0 g1 g2 t1_0 g3 g4 t1_1 g5 t7 t8
    obtain ⟨hg, h⟩ := bif_some h
    simp only [Bool.and_eq_true] at hg
    obtain ⟨⟨⟨⟨⟨q0, q1⟩, q2⟩, q3⟩, q4⟩, q5⟩ := hg
    obtain rfl := ctsEq_eq _ _ q0
    obtain rfl := Nat.eq_of_beq_eq_true q1
    obtain rfl := ctsEq_eq _ _ q2
    obtain rfl := Nat.eq_of_beq_eq_true q3
    obtain rfl := ctsEq_eq _ _ q4
    obtain rfl := Nat.eq_of_beq_eq_true q5
    refine ⟨((t7 - t8).toNat + 1), ?_⟩
    rw [← h]
    exact loop_run (fun s : Int => ⟨[(0, AV.sl [.int .i64] t0), (1, AV.fn 105 [AV.rptr [.int .i64] t1_0 0, AV.rptr [.int .i64] t1_1 0]), (7, AV.int .i64 t7), (8, AV.int .i64 s)], []⟩) (sumE (fun _ : Unit => k (.exit 0) ⟨[], []⟩) (fun p : Int => k .ret ⟨[(4, AV.int .i64 p)], []⟩)) (st112_0 t0 t1_0 t1_1 t7 ce k) _ t8
  · cases h
def q112 (a0 : List AV) (a1_0 : AV) (a1_1 : AV) : Bool := (ro (runW (R112_0 a0 a1_0 a1_1 (a0.length : Int)) (((a0.length : Int) - 0).toNat + 1) 0) false (sumE (fun _ => true) (fun p23 => true)))
def v112_0 (a0 : List AV) (a1_0 : AV) (a1_1 : AV) : Int := (ro (runW (R112_0 a0 a1_0 a1_1 (a0.length : Int)) (((a0.length : Int) - 0).toNat + 1) 0) 0 (sumE (fun _ => (-1)) (fun p23 => p23)))
theorem e112 (a0 : List AV) (a1_0 : AV) (a1_1 : AV) : funA c112 0 112 [AV.sl [.int .i64] a0, AV.fn 105 [AV.rptr [.int .i64] a1_0 0, AV.rptr [.int .i64] a1_1 0]] = (ro (runW (R112_0 a0 a1_0 a1_1 (a0.length : Int)) (((a0.length : Int) - 0).toNat + 1) 0) none (sumE (fun _ => some (AV.int .i64 (-1))) (fun p23 => some (AV.int .i64 p23)))) := by kernel_rfl
theorem r112 (a0 : List AV) (a1_0 : AV) (a1_1 : AV) (h : q112 a0 a1_0 a1_1 = true) : funA c112 0 112 [AV.sl [.int .i64] a0, AV.fn 105 [AV.rptr [.int .i64] a1_0 0, AV.rptr [.int .i64] a1_1 0]] = some (AV.int .i64 (v112_0 a0 a1_0 a1_1)) := (e112 a0 a1_0 a1_1).trans ((brO (fun o : Option (Unit ⊕ Int) => some (AV.int .i64 (ro o 0 (sumE (fun _ => (-1)) (fun p23 => p23))))) (brS (fun o : Unit ⊕ Int => some (AV.int .i64 ((sumE (fun _ => (-1)) (fun p23 => p23)) o))) (fun _ => (fun _ => rfl)) (fun p23 => (fun _ => rfl)))) h)
def m112 : TModel
  | [.sl g0 a0, .fn g1 [.rptr g2 a1_0 g3, .rptr g4 a1_1 g5]] => bif ctsEq g0 ([.int .i64]) && Nat.beq g1 105 && ctsEq g2 ([.int .i64]) && Nat.beq g3 0 && ctsEq g4 ([.int .i64]) && Nat.beq g5 0 then some (q112 a0 a1_0 a1_1, AV.int .i64 (v112_0 a0 a1_0 a1_1)) else none
  | _ => none
theorem k112 : Known Tryd.prog 112 := ⟨Tryd.f112, Tryd.func112, by kernel_rfl, by kernel_rfl⟩
theorem meets112 : Meets Tryd.prog 112 m112 := by
  refine meet (f := Tryd.f112) (l := [(0, sub [1, 0, 1, 0, 0] (body Tryd.f112))]) (hs := [(112, 0, [0, 1, 7, 8]), (112, 999, [4]), (112, 1000, []), (112, 1001, [0, 1, 7, 8])]) (ts := [(105, m105)]) (ws := []) (is := []) (ls := [(112, 0, l112_0)]) (lvl := 0) mixed k112 Tryd.func112 (by kernel_rfl) (loops_cons ok112_0 noLoop) (allT_cons meets105 allT_nil) allM_nil noI fun w xs us r hl hv h => ?_
  unfold m112 at h
  split at h
  · rename_i g0 a0 g1 g2 a1_0 g3 g4 a1_1 g5
    obtain ⟨hg, h⟩ := bif_pair h
    simp only [Bool.and_eq_true] at hg
    obtain ⟨⟨⟨⟨⟨q0, q1⟩, q2⟩, q3⟩, q4⟩, q5⟩ := hg
    obtain rfl := ctsEq_eq _ _ q0
    obtain rfl := Nat.eq_of_beq_eq_true q1
    obtain rfl := ctsEq_eq _ _ q2
    obtain rfl := Nat.eq_of_beq_eq_true q3
    obtain rfl := ctsEq_eq _ _ q4
    obtain rfl := Nat.eq_of_beq_eq_true q5
    obtain ⟨h1, rfl⟩ := pair_inj h
    exact r112 a0 a1_0 a1_1 h1
  · cases h

/-! ### 104 slices.ContainsFunc[[]int,int] -/
noncomputable def c104 : Cfg := cfg Tryd.prog [(104, 999, [4])] [(112, m112)] [] [] []
def q104 (a0 : List AV) (a1_0 : AV) (a1_1 : AV) : Bool := q112 a0 a1_0 a1_1
def v104_0 (a0 : List AV) (a1_0 : AV) (a1_1 : AV) : Bool := decide ((v112_0 a0 a1_0 a1_1) ≥ 0)
theorem e104 (a0 : List AV) (a1_0 : AV) (a1_1 : AV) : funA c104 0 104 [AV.sl [.int .i64] a0, AV.fn 105 [AV.rptr [.int .i64] a1_0 0, AV.rptr [.int .i64] a1_1 0]] = (bif q112 a0 a1_0 a1_1 then some (AV.bool (decide ((v112_0 a0 a1_0 a1_1) ≥ 0)))
  else none) := by kernel_rfl
theorem r104 (a0 : List AV) (a1_0 : AV) (a1_1 : AV) (h : q104 a0 a1_0 a1_1 = true) : funA c104 0 104 [AV.sl [.int .i64] a0, AV.fn 105 [AV.rptr [.int .i64] a1_0 0, AV.rptr [.int .i64] a1_1 0]] = some (AV.bool (v104_0 a0 a1_0 a1_1)) := (e104 a0 a1_0 a1_1).trans ((brL1 (fun _ => rfl)) h)
def m104 : TModel
  | [.sl g0 a0, .fn g1 [.rptr g2 a1_0 g3, .rptr g4 a1_1 g5]] => bif ctsEq g0 ([.int .i64]) && Nat.beq g1 105 && ctsEq g2 ([.int .i64]) && Nat.beq g3 0 && ctsEq g4 ([.int .i64]) && Nat.beq g5 0 then some (q104 a0 a1_0 a1_1, AV.bool (v104_0 a0 a1_0 a1_1)) else none
  | _ => none
theorem k104 : Known Tryd.prog 104 := ⟨Tryd.f104, Tryd.func104, by kernel_rfl, by kernel_rfl⟩
theorem meets104 : Meets Tryd.prog 104 m104 := by
  refine meet (f := Tryd.f104) (l := []) (hs := [(104, 999, [4])]) (ts := [(112, m112)]) (ws := []) (is := []) (ls := []) (lvl := 0) mixed k104 Tryd.func104 (by kernel_rfl) noLoop (allT_cons meets112 allT_nil) allM_nil noI fun w xs us r hl hv h => ?_
  unfold m104 at h
  split at h
  · rename_i g0 a0 g1 g2 a1_0 g3 g4 a1_1 g5
    obtain ⟨hg, h⟩ := bif_pair h
    simp only [Bool.and_eq_true] at hg
    obtain ⟨⟨⟨⟨⟨q0, q1⟩, q2⟩, q3⟩, q4⟩, q5⟩ := hg
    obtain rfl := ctsEq_eq _ _ q0
    obtain rfl := Nat.eq_of_beq_eq_true q1
    obtain rfl := ctsEq_eq _ _ q2
    obtain rfl := Nat.eq_of_beq_eq_true q3
    obtain rfl := ctsEq_eq _ _ q4
    obtain rfl := Nat.eq_of_beq_eq_true q5
    obtain ⟨h1, rfl⟩ := pair_inj h
    exact r104 a0 a1_0 a1_1 h1
  · cases h

/-! ### 91 loop.example/g01984/impl.within -/
noncomputable def c91 : Cfg := cfg Tryd.prog [(91, 999, [6])] [(104, m104)] [] [] []
def q91 (a0 : List AV) (a1 : Int) (a2 : Int) : Bool := q104 a0 (AV.int .i64 a1) (AV.int .i64 a2)
def v91_0 (a0 : List AV) (a1 : Int) (a2 : Int) : Bool := !(v104_0 a0 (AV.int .i64 a1) (AV.int .i64 a2))
theorem e91 (a0 : List AV) (a1 : Int) (a2 : Int) : funA c91 0 91 [AV.sl [.int .i64] a0, AV.int .i64 a1, AV.int .i64 a2] = (bif q104 a0 (AV.int .i64 a1) (AV.int .i64 a2) then some (AV.bool (!(v104_0 a0 (AV.int .i64 a1) (AV.int .i64 a2))))
  else none) := by kernel_rfl
theorem r91 (a0 : List AV) (a1 : Int) (a2 : Int) (h : q91 a0 a1 a2 = true) : funA c91 0 91 [AV.sl [.int .i64] a0, AV.int .i64 a1, AV.int .i64 a2] = some (AV.bool (v91_0 a0 a1 a2)) := (e91 a0 a1 a2).trans ((brL1 (fun _ => rfl)) h)
def m91 : TModel
  | [.sl g0 a0, .int .i64 a1, .int .i64 a2] => bif ctsEq g0 ([.int .i64]) then some (q91 a0 a1 a2, AV.bool (v91_0 a0 a1 a2)) else none
  | _ => none
theorem k91 : Known Tryd.prog 91 := ⟨Tryd.f91, Tryd.func91, by kernel_rfl, by kernel_rfl⟩
theorem meets91 : Meets Tryd.prog 91 m91 := by
  refine meet (f := Tryd.f91) (l := []) (hs := [(91, 999, [6])]) (ts := [(104, m104)]) (ws := []) (is := []) (ls := []) (lvl := 0) mixed k91 Tryd.func91 (by kernel_rfl) noLoop (allT_cons meets104 allT_nil) allM_nil noI fun w xs us r hl hv h => ?_
  unfold m91 at h
  split at h
  · rename_i g0 a0 a1 a2
    obtain ⟨hg, h⟩ := bif_pair h
    have q0 := hg
    obtain rfl := ctsEq_eq _ _ q0
    obtain ⟨h1, rfl⟩ := pair_inj h
    exact r91 a0 a1 a2 h1
  · cases h

/-! ### 90 loop.example/g01984/impl.AreValues -/
noncomputable def c90 : Cfg := cfg Tryd.prog [(90, 999, [2])] [(91, m91)] [] [] []
def q90 (a0 : List AV) : Bool := (bif decide ((a0.length : Int) ≤ 64) then q91 a0 (-999) 999 else true)
def v90_0 (a0 : List AV) : Bool := (bif decide ((a0.length : Int) ≤ 64) then (v91_0 a0 (-999) 999) else false)
theorem e90 (a0 : List AV) : funA c90 0 90 [AV.sl [.int .i64] a0] = (bif decide ((a0.length : Int) ≤ 64) then (bif q91 a0 (-999) 999 then some (AV.bool (v91_0 a0 (-999) 999))
  else none)
  else some (AV.bool false)) := by kernel_rfl
theorem r90 (a0 : List AV) (h : q90 a0 = true) : funA c90 0 90 [AV.sl [.int .i64] a0] = some (AV.bool (v90_0 a0)) := (e90 a0).trans ((br (fun b => some (AV.bool (bif b then (v91_0 a0 (-999) 999) else false))) (brL1 (fun _ => rfl)) (fun _ => rfl)) h)
def m90 : TModel
  | [.sl g0 a0] => bif ctsEq g0 ([.int .i64]) then some (q90 a0, AV.bool (v90_0 a0)) else none
  | _ => none
theorem k90 : Known Tryd.prog 90 := ⟨Tryd.f90, Tryd.func90, by kernel_rfl, by kernel_rfl⟩
theorem meets90 : Meets Tryd.prog 90 m90 := by
  refine meet (f := Tryd.f90) (l := []) (hs := [(90, 999, [2])]) (ts := [(91, m91)]) (ws := []) (is := []) (ls := []) (lvl := 0) mixed k90 Tryd.func90 (by kernel_rfl) noLoop (allT_cons meets91 allT_nil) allM_nil noI fun w xs us r hl hv h => ?_
  unfold m90 at h
  split at h
  · rename_i g0 a0
    obtain ⟨hg, h⟩ := bif_pair h
    have q0 := hg
    obtain rfl := ctsEq_eq _ _ q0
    obtain ⟨h1, rfl⟩ := pair_inj h
    exact r90 a0 h1
  · cases h

/-! ### 106 slices.Index[[]int,int] -/
def F106_0 (t0 : List AV) (t1 : Int) (t7 : Int) (t8 : Int) : Out (Int) (Unit ⊕ Int) := (bif decide (t8 < t7) then (bif (decide (0 ≤ t8) && decide (t8 < (t0.length : Int))) then (bif decide (t1 = fI (t0.getD t8.toNat AV.undef) 0) then .stop (.inr t8)
  else .next (IntKind.i64.wrap (t8 + 1)))
  else .fail)
  else .stop (.inl ()))
def R106_0 (t0 : List AV) (t1 : Int) (t7 : Int) : (Int) → Out (Int) (Unit ⊕ Int) := fun s : Int => F106_0 t0 t1 t7 s
def l106_0 : LModel := fun _ _ st k => match st with
  | ⟨[(0, .sl g0 t0), (1, .int .i64 t1), (7, .int .i64 t7), (8, .int .i64 t8)], []⟩ => bif ctsEq g0 ([.int .i64]) then ro (runW (R106_0 t0 t1 t7) ((t7 - t8).toNat + 1) t8) none (sumE (fun _ : Unit => k (.exit 0) ⟨[], []⟩) (fun p : Int => k .ret ⟨[(4, AV.int .i64 p)], []⟩)) else none
  | _ => none
noncomputable def c106 : Cfg := cfg Tryd.prog [(106, 0, [0, 1, 7, 8]), (106, 999, [4]), (106, 1000, []), (106, 1001, [0, 1, 7, 8])] [] [] [] [(106, 0, l106_0)]
theorem s106_0 (ce : CallE) (t0 : List AV) (t1 : Int) (t7 : Int) (t8 : Int) (next : St → Option AV) (k : Kont) : stepA (codeA c106 ce [] 106 0 (sub [1, 0, 1, 0, 0] (body Tryd.f106))) (normA [] [0, 1, 7, 8]) next ⟨[(0, AV.sl [.int .i64] t0), (1, AV.int .i64 t1), (7, AV.int .i64 t7), (8, AV.int .i64 t8)], []⟩ k = (bif decide (t8 < t7) then (bif (decide (0 ≤ t8) && decide (t8 < (t0.length : Int))) then (bif decide (t1 = fI (t0.getD t8.toNat AV.undef) 0) then k .ret ⟨[(4, AV.int .i64 t8)], []⟩
  else next ⟨[(0, AV.sl [.int .i64] t0), (1, AV.int .i64 t1), (7, AV.int .i64 t7), (8, AV.int .i64 (IntKind.i64.wrap (t8 + 1)))], []⟩)
  else none)
  else k (.exit 0) ⟨[], []⟩) := by kernel_rfl
theorem st106_0 (t0 : List AV) (t1 : Int) (t7 : Int) (ce : CallE) (k : Kont) (s : Int) (next : St → Option AV) : stepA (codeA c106 ce [] 106 0 (sub [1, 0, 1, 0, 0] (body Tryd.f106))) (normA [] [0, 1, 7, 8]) next ((fun s : Int => ⟨[(0, AV.sl [.int .i64] t0), (1, AV.int .i64 t1), (7, AV.int .i64 t7), (8, AV.int .i64 s)], []⟩) s) k = (R106_0 t0 t1 t7 s).el none (fun s => next ((fun s : Int => ⟨[(0, AV.sl [.int .i64] t0), (1, AV.int .i64 t1), (7, AV.int .i64 t7), (8, AV.int .i64 s)], []⟩) s)) (sumE (fun _ : Unit => k (.exit 0) ⟨[], []⟩) (fun p : Int => k .ret ⟨[(4, AV.int .i64 p)], []⟩)) := (s106_0 ce t0 t1 t7 s next k).trans (by unfold R106_0; unfold F106_0; simp only [el_cond, el_ro, el_sum, el_fail, el_next, el_stop] <;> rfl)
theorem ok106_0 {ce : CallE} : LoopOK c106 ce [] 106 0 (sub [1, 0, 1, 0, 0] (body Tryd.f106)) := by
  intro m hm st k r h
  obtain rfl : l106_0 = m := Option.some.inj hm
  unfold l106_0 at h
  split at h
  · rename_i g0 t0 t1 t7 t8
    obtain ⟨hg, h⟩ := bif_some h
    have q0 := hg
    obtain rfl := ctsEq_eq _ _ q0
    refine ⟨((t7 - t8).toNat + 1), ?_⟩
    rw [← h]
    exact loop_run (fun s : Int => ⟨[(0, AV.sl [.int .i64] t0), (1, AV.int .i64 t1), (7, AV.int .i64 t7), (8, AV.int .i64 s)], []⟩) (sumE (fun _ : Unit => k (.exit 0) ⟨[], []⟩) (fun p : Int => k .ret ⟨[(4, AV.int .i64 p)], []⟩)) (st106_0 t0 t1 t7 ce k) _ t8
  · cases h
def q106 (a0 : List AV) (a1 : Int) : Bool := (ro (runW (R106_0 a0 a1 (a0.length : Int)) (((a0.length : Int) - 0).toNat + 1) 0) false (sumE (fun _ => true) (fun p25 => true)))
def v106_0 (a0 : List AV) (a1 : Int) : Int := (ro (runW (R106_0 a0 a1 (a0.length : Int)) (((a0.length : Int) - 0).toNat + 1) 0) 0 (sumE (fun _ => (-1)) (fun p25 => p25)))
theorem e106 (a0 : List AV) (a1 : Int) : funA c106 0 106 [AV.sl [.int .i64] a0, AV.int .i64 a1] = (ro (runW (R106_0 a0 a1 (a0.length : Int)) (((a0.length : Int) - 0).toNat + 1) 0) none (sumE (fun _ => some (AV.int .i64 (-1))) (fun p25 => some (AV.int .i64 p25)))) := by kernel_rfl
theorem r106 (a0 : List AV) (a1 : Int) (h : q106 a0 a1 = true) : funA c106 0 106 [AV.sl [.int .i64] a0, AV.int .i64 a1] = some (AV.int .i64 (v106_0 a0 a1)) := (e106 a0 a1).trans ((brO (fun o : Option (Unit ⊕ Int) => some (AV.int .i64 (ro o 0 (sumE (fun _ => (-1)) (fun p25 => p25))))) (brS (fun o : Unit ⊕ Int => some (AV.int .i64 ((sumE (fun _ => (-1)) (fun p25 => p25)) o))) (fun _ => (fun _ => rfl)) (fun p25 => (fun _ => rfl)))) h)
def m106 : TModel
  | [.sl g0 a0, .int .i64 a1] => bif ctsEq g0 ([.int .i64]) then some (q106 a0 a1, AV.int .i64 (v106_0 a0 a1)) else none
  | _ => none
theorem k106 : Known Tryd.prog 106 := ⟨Tryd.f106, Tryd.func106, by kernel_rfl, by kernel_rfl⟩
theorem meets106 : Meets Tryd.prog 106 m106 := by
  refine meet (f := Tryd.f106) (l := [(0, sub [1, 0, 1, 0, 0] (body Tryd.f106))]) (hs := [(106, 0, [0, 1, 7, 8]), (106, 999, [4]), (106, 1000, []), (106, 1001, [0, 1, 7, 8])]) (ts := []) (ws := []) (is := []) (ls := [(106, 0, l106_0)]) (lvl := 0) mixed k106 Tryd.func106 (by kernel_rfl) (loops_cons ok106_0 noLoop) allT_nil allM_nil noI fun w xs us r hl hv h => ?_
  unfold m106 at h
  split at h
  · rename_i g0 a0 a1
    obtain ⟨hg, h⟩ := bif_pair h
    have q0 := hg
    obtain rfl := ctsEq_eq _ _ q0
    obtain ⟨h1, rfl⟩ := pair_inj h
    exact r106 a0 a1 h1
  · cases h

/-! ### 92 slices.Contains[[]int,int] -/
noncomputable def c92 : Cfg := cfg Tryd.prog [(92, 999, [4])] [(106, m106)] [] [] []
def q92 (a0 : List AV) (a1 : Int) : Bool := q106 a0 a1
def v92_0 (a0 : List AV) (a1 : Int) : Bool := decide ((v106_0 a0 a1) ≥ 0)
theorem e92 (a0 : List AV) (a1 : Int) : funA c92 0 92 [AV.sl [.int .i64] a0, AV.int .i64 a1] = (bif q106 a0 a1 then some (AV.bool (decide ((v106_0 a0 a1) ≥ 0)))
  else none) := by kernel_rfl
theorem r92 (a0 : List AV) (a1 : Int) (h : q92 a0 a1 = true) : funA c92 0 92 [AV.sl [.int .i64] a0, AV.int .i64 a1] = some (AV.bool (v92_0 a0 a1)) := (e92 a0 a1).trans ((brL1 (fun _ => rfl)) h)
def m92 : TModel
  | [.sl g0 a0, .int .i64 a1] => bif ctsEq g0 ([.int .i64]) then some (q92 a0 a1, AV.bool (v92_0 a0 a1)) else none
  | _ => none
theorem k92 : Known Tryd.prog 92 := ⟨Tryd.f92, Tryd.func92, by kernel_rfl, by kernel_rfl⟩
theorem meets92 : Meets Tryd.prog 92 m92 := by
  refine meet (f := Tryd.f92) (l := []) (hs := [(92, 999, [4])]) (ts := [(106, m106)]) (ws := []) (is := []) (ls := []) (lvl := 0) mixed k92 Tryd.func92 (by kernel_rfl) noLoop (allT_cons meets106 allT_nil) allM_nil noI fun w xs us r hl hv h => ?_
  unfold m92 at h
  split at h
  · rename_i g0 a0 a1
    obtain ⟨hg, h⟩ := bif_pair h
    have q0 := hg
    obtain rfl := ctsEq_eq _ _ q0
    obtain ⟨h1, rfl⟩ := pair_inj h
    exact r92 a0 a1 h1
  · cases h

/-! ### 45 loop.example/g01984/impl.bound -/
noncomputable def c45 : Cfg := cfg Tryd.prog [(45, 999, [2])] [] [] [] []
def q45 (a0 : Int) : Bool := true
def v45_0 (a0 : Int) : Bool := (bif decide (a0 ≥ (-1000)) then decide (a0 ≤ 1000) else false)
theorem e45 (a0 : Int) : funA c45 0 45 [AV.int .i64 a0] = (bif decide (a0 ≥ (-1000)) then some (AV.bool (decide (a0 ≤ 1000)))
  else some (AV.bool false)) := by kernel_rfl
theorem r45 (a0 : Int) : funA c45 0 45 [AV.int .i64 a0] = some (AV.bool (v45_0 a0)) := (e45 a0).trans (of_tt (brT (fun b => some (AV.bool (bif b then decide (a0 ≤ 1000) else false))) (fun _ => rfl) (fun _ => rfl)))
def m45 : TModel
  | [.int .i64 a0] => some (true, AV.bool (v45_0 a0))
  | _ => none
theorem k45 : Known Tryd.prog 45 := ⟨Tryd.f45, Tryd.func45, by kernel_rfl, by kernel_rfl⟩
theorem meets45 : Meets Tryd.prog 45 m45 := by
  refine meet (f := Tryd.f45) (l := []) (hs := [(45, 999, [2])]) (ts := []) (ws := []) (is := []) (ls := []) (lvl := 0) mixed k45 Tryd.func45 (by kernel_rfl) noLoop allT_nil allM_nil noI fun w xs us r hl hv h => ?_
  unfold m45 at h
  split at h
  · rename_i a0
    obtain ⟨h1, rfl⟩ := pair_inj h
    exact r45 a0
  · cases h

/-! ### 66 loop.example/g01984/impl.IsCracker -/
def F66_4 (t50 : List AV) (t51 : Int) (t52 : Int) (t103 : List AV) (t104 : Int) (h0_0 : List AV) (h0_1 : List AV) (h0_2 : List AV) (h1_0 : Int) (h1_1 : Int) (t105 : Int) : Out (Int) (Unit ⊕ Unit) := (bif decide (t105 < t104) then (bif (decide (0 ≤ t105) && decide (t105 < (t103.length : Int))) then (bif !(decide (fI (t103.getD t105.toNat AV.undef) 0 < h1_0) == decide (t105 < h1_1)) then .stop (.inr ())
  else .next (IntKind.i64.wrap (t105 + 1)))
  else .fail)
  else .stop (.inl ()))
def R66_4 (t50 : List AV) (t51 : Int) (t52 : Int) (t103 : List AV) (t104 : Int) (h0_0 : List AV) (h0_1 : List AV) (h0_2 : List AV) (h1_0 : Int) (h1_1 : Int) : (Int) → Out (Int) (Unit ⊕ Unit) := fun s : Int => F66_4 t50 t51 t52 t103 t104 h0_0 h0_1 h0_2 h1_0 h1_1 s
def l66_4 : LModel := fun _ _ st k => match st with
  | ⟨[(1, .ptr g0 g1 g2), (6, .ptr g3 g4 g5), (50, .sl g6 t50), (51, .int .i64 t51), (52, .int .i64 t52), (103, .sl g7 t103), (104, .int .i64 t104), (105, .int .i64 t105)], [(g8, ⟨true, [], [.agg [.sl g9 h0_0, .sl g10 h0_1, .sl g11 h0_2]]⟩), (g12, ⟨true, [], [.agg [.int .i64 h1_0, .int .i64 h1_1]]⟩)]⟩ => bif nmEq g0 ([0, 1]) && Nat.beq g1 0 && Nat.beq g2 0 && nmEq g3 ([0, 6]) && Nat.beq g4 0 && Nat.beq g5 0 && ctsEq g6 ([.int .i64, .int .i64]) && ctsEq g7 ([.int .i64]) && nmEq g8 ([0, 1]) && ctsEq g9 ([.int .i64]) && ctsEq g10 ([.int .i64]) && ctsEq g11 ([.int .i64, .int .i64]) && nmEq g12 ([0, 6]) then ro (runW (R66_4 t50 t51 t52 t103 t104 h0_0 h0_1 h0_2 h1_0 h1_1) ((t104 - t105).toNat + 1) t105) none (sumE (fun _ : Unit => k (.exit 4) ⟨[(1, AV.ptr [0, 1] 0 0), (50, AV.sl [.int .i64, .int .i64] t50), (51, AV.int .i64 t51), (52, AV.int .i64 t52)], [([0, 1], ⟨true, [], [AV.agg [AV.sl [.int .i64] h0_0, AV.sl [.int .i64] h0_1, AV.sl [.int .i64, .int .i64] h0_2]]⟩), ([0, 6], ⟨true, [], [AV.agg [AV.int .i64 h1_0, AV.int .i64 h1_1]]⟩)]⟩) (fun _ : Unit => k .ret ⟨[(2, AV.bool false)], [([0, 1], ⟨true, [], [AV.agg [AV.sl [.int .i64] h0_0, AV.sl [.int .i64] h0_1, AV.sl [.int .i64, .int .i64] h0_2]]⟩), ([0, 6], ⟨true, [], [AV.agg [AV.int .i64 h1_0, AV.int .i64 h1_1]]⟩)]⟩)) else none
  | _ => none
def F66_2 (t50 : List AV) (t51 : Int) (h0_0 : List AV) (h0_1 : List AV) (h0_2 : List AV) (t52 : Int) : Out (Int) (Unit ⊕ (Int × Int) ⊕ (Int × Int)) := (bif decide (t52 < t51) then (bif (decide (0 ≤ t52) && decide (t52 < (t50.length : Int))) then (bif !(v45_0 (fI (t50.getD t52.toNat AV.undef) 0)) then .stop (.inr (.inl (fI (t50.getD t52.toNat AV.undef) 0, fI (t50.getD t52.toNat AV.undef) 1)))
  else (bif decide (fI (t50.getD t52.toNat AV.undef) 1 < 0) then .stop (.inr (.inl (fI (t50.getD t52.toNat AV.undef) 0, fI (t50.getD t52.toNat AV.undef) 1)))
  else (bif decide (fI (t50.getD t52.toNat AV.undef) 1 > (h0_0.length : Int)) then .stop (.inr (.inl (fI (t50.getD t52.toNat AV.undef) 0, fI (t50.getD t52.toNat AV.undef) 1)))
  else (bif decide (t52 > 0) then (bif (decide (0 ≤ IntKind.i64.wrap (t52 - 1)) && decide (IntKind.i64.wrap (t52 - 1) < (h0_2.length : Int))) then (bif decide (fI (t50.getD t52.toNat AV.undef) 0 ≤ fI (h0_2.getD (IntKind.i64.wrap (t52 - 1)).toNat AV.undef) 0) then .stop (.inr (.inl (fI (t50.getD t52.toNat AV.undef) 0, fI (t50.getD t52.toNat AV.undef) 1)))
  else (bif (decide (0 ≤ IntKind.i64.wrap (t52 - 1)) && decide (IntKind.i64.wrap (t52 - 1) < (h0_2.length : Int))) then (bif decide (fI (t50.getD t52.toNat AV.undef) 1 < fI (h0_2.getD (IntKind.i64.wrap (t52 - 1)).toNat AV.undef) 1) then .stop (.inr (.inl (fI (t50.getD t52.toNat AV.undef) 0, fI (t50.getD t52.toNat AV.undef) 1)))
  else (ro (runW (R66_4 t50 t51 t52 h0_0 (h0_0.length : Int) h0_0 h0_1 h0_2 (fI (t50.getD t52.toNat AV.undef) 0) (fI (t50.getD t52.toNat AV.undef) 1)) (((h0_0.length : Int) - 0).toNat + 1) 0) .fail (sumE (fun _ => .next (IntKind.i64.wrap (t52 + 1))) (fun _ => .stop (.inr (.inr (fI (t50.getD t52.toNat AV.undef) 0, fI (t50.getD t52.toNat AV.undef) 1)))))))
  else .fail))
  else .fail)
  else (ro (runW (R66_4 t50 t51 t52 h0_0 (h0_0.length : Int) h0_0 h0_1 h0_2 (fI (t50.getD t52.toNat AV.undef) 0) (fI (t50.getD t52.toNat AV.undef) 1)) (((h0_0.length : Int) - 0).toNat + 1) 0) .fail (sumE (fun _ => .next (IntKind.i64.wrap (t52 + 1))) (fun _ => .stop (.inr (.inr (fI (t50.getD t52.toNat AV.undef) 0, fI (t50.getD t52.toNat AV.undef) 1))))))))))
  else .fail)
  else .stop (.inl ()))
def R66_2 (t50 : List AV) (t51 : Int) (h0_0 : List AV) (h0_1 : List AV) (h0_2 : List AV) : (Int) → Out (Int) (Unit ⊕ (Int × Int) ⊕ (Int × Int)) := fun s : Int => F66_2 t50 t51 h0_0 h0_1 h0_2 s
def l66_2 : LModel := fun _ _ st k => match st with
  | ⟨[(1, .ptr g0 g1 g2), (50, .sl g3 t50), (51, .int .i64 t51), (52, .int .i64 t52)], [(g4, ⟨true, [], [.agg [.sl g5 h0_0, .sl g6 h0_1, .sl g7 h0_2]]⟩)]⟩ => bif nmEq g0 ([0, 1]) && Nat.beq g1 0 && Nat.beq g2 0 && ctsEq g3 ([.int .i64, .int .i64]) && nmEq g4 ([0, 1]) && ctsEq g5 ([.int .i64]) && ctsEq g6 ([.int .i64]) && ctsEq g7 ([.int .i64, .int .i64]) then ro (runW (R66_2 t50 t51 h0_0 h0_1 h0_2) ((t51 - t52).toNat + 1) t52) none (sumE (fun _ : Unit => k (.exit 2) ⟨[], [([0, 1], ⟨true, [], [AV.agg [AV.sl [.int .i64] h0_0, AV.sl [.int .i64] h0_1, AV.sl [.int .i64, .int .i64] h0_2]]⟩)]⟩) (sumE (fun p : Int × Int => k .ret ⟨[(2, AV.bool false)], [([0, 1], ⟨true, [], [AV.agg [AV.sl [.int .i64] h0_0, AV.sl [.int .i64] h0_1, AV.sl [.int .i64, .int .i64] h0_2]]⟩), ([1, 6], ⟨true, [], [AV.agg [AV.int .i64 p.1, AV.int .i64 p.2]]⟩)]⟩) (fun p : Int × Int => k .ret ⟨[(2, AV.bool false)], [([0, 1], ⟨true, [], [AV.agg [AV.sl [.int .i64] h0_0, AV.sl [.int .i64] h0_1, AV.sl [.int .i64, .int .i64] h0_2]]⟩), ([0, 6], ⟨true, [], [AV.agg [AV.int .i64 p.1, AV.int .i64 p.2]]⟩)]⟩))) else none
  | _ => none
def F66_0 (t35 : List AV) (t36 : Int) (h0_0 : List AV) (h0_1 : List AV) (h0_2 : List AV) (t37 : Int) : Out (Int) (Unit ⊕ Unit) := (bif decide (t37 < t36) then (bif (decide (0 ≤ t37) && decide (t37 < (t35.length : Int))) then (bif (decide (0 ≤ 0) && decide (0 ≤ t37) && decide (t37 ≤ (h0_1.length : Int))) then (bif q92 ((h0_1.take (Int.toNat t37)).drop (Int.toNat 0)) (fI (t35.getD t37.toNat AV.undef) 0) then (bif (v92_0 ((h0_1.take (Int.toNat t37)).drop (Int.toNat 0)) (fI (t35.getD t37.toNat AV.undef) 0)) then .stop (.inr ())
  else .next (IntKind.i64.wrap (t37 + 1)))
  else .fail)
  else .fail)
  else .fail)
  else .stop (.inl ()))
def R66_0 (t35 : List AV) (t36 : Int) (h0_0 : List AV) (h0_1 : List AV) (h0_2 : List AV) : (Int) → Out (Int) (Unit ⊕ Unit) := fun s : Int => F66_0 t35 t36 h0_0 h0_1 h0_2 s
def l66_0 : LModel := fun _ _ st k => match st with
  | ⟨[(1, .ptr g0 g1 g2), (35, .sl g3 t35), (36, .int .i64 t36), (37, .int .i64 t37)], [(g4, ⟨true, [], [.agg [.sl g5 h0_0, .sl g6 h0_1, .sl g7 h0_2]]⟩)]⟩ => bif nmEq g0 ([0, 1]) && Nat.beq g1 0 && Nat.beq g2 0 && ctsEq g3 ([.int .i64]) && nmEq g4 ([0, 1]) && ctsEq g5 ([.int .i64]) && ctsEq g6 ([.int .i64]) && ctsEq g7 ([.int .i64, .int .i64]) then ro (runW (R66_0 t35 t36 h0_0 h0_1 h0_2) ((t36 - t37).toNat + 1) t37) none (sumE (fun _ : Unit => k (.exit 0) ⟨[(1, AV.ptr [0, 1] 0 0)], [([0, 1], ⟨true, [], [AV.agg [AV.sl [.int .i64] h0_0, AV.sl [.int .i64] h0_1, AV.sl [.int .i64, .int .i64] h0_2]]⟩)]⟩) (fun _ : Unit => k .ret ⟨[(2, AV.bool false)], [([0, 1], ⟨true, [], [AV.agg [AV.sl [.int .i64] h0_0, AV.sl [.int .i64] h0_1, AV.sl [.int .i64, .int .i64] h0_2]]⟩)]⟩)) else none
  | _ => none
noncomputable def c66 : Cfg := cfg Tryd.prog [(66, 0, [1, 35, 36, 37]), (66, 2, [1, 50, 51, 52]), (66, 4, [1, 6, 50, 51, 52, 103, 104, 105]), (66, 999, [2]), (66, 1000, [1]), (66, 1001, [1, 35, 36, 37]), (66, 1002, []), (66, 1003, [1, 50, 51, 52]), (66, 1004, [1, 50, 51, 52]), (66, 1005, [1, 6, 50, 51, 52, 103, 104, 105])] [(45, m45), (90, m90), (91, m91), (92, m92)] [] [] [(66, 0, l66_0), (66, 2, l66_2), (66, 4, l66_4)]
theorem s66_4 (ce : CallE) (t50 : List AV) (t51 : Int) (t52 : Int) (t103 : List AV) (t104 : Int) (t105 : Int) (h0_0 : List AV) (h0_1 : List AV) (h0_2 : List AV) (h1_0 : Int) (h1_1 : Int) (next : St → Option AV) (k : Kont) : stepA (codeA c66 ce [] 66 4 (sub [1, 1, 1, 0, 1, 0, 0, 1, 1, 0, 0, 1, 1, 1, 0, 0] (body Tryd.f66))) (normA [] [1, 6, 50, 51, 52, 103, 104, 105]) next ⟨[(1, AV.ptr [0, 1] 0 0), (6, AV.ptr [0, 6] 0 0), (50, AV.sl [.int .i64, .int .i64] t50), (51, AV.int .i64 t51), (52, AV.int .i64 t52), (103, AV.sl [.int .i64] t103), (104, AV.int .i64 t104), (105, AV.int .i64 t105)], [([0, 1], ⟨true, [], [AV.agg [AV.sl [.int .i64] h0_0, AV.sl [.int .i64] h0_1, AV.sl [.int .i64, .int .i64] h0_2]]⟩), ([0, 6], ⟨true, [], [AV.agg [AV.int .i64 h1_0, AV.int .i64 h1_1]]⟩)]⟩ k = (bif decide (t105 < t104) then (bif (decide (0 ≤ t105) && decide (t105 < (t103.length : Int))) then (bif !(decide (fI (t103.getD t105.toNat AV.undef) 0 < h1_0) == decide (t105 < h1_1)) then k .ret ⟨[(2, AV.bool false)], [([0, 1], ⟨true, [], [AV.agg [AV.sl [.int .i64] h0_0, AV.sl [.int .i64] h0_1, AV.sl [.int .i64, .int .i64] h0_2]]⟩), ([0, 6], ⟨true, [], [AV.agg [AV.int .i64 h1_0, AV.int .i64 h1_1]]⟩)]⟩
  else next ⟨[(1, AV.ptr [0, 1] 0 0), (6, AV.ptr [0, 6] 0 0), (50, AV.sl [.int .i64, .int .i64] t50), (51, AV.int .i64 t51), (52, AV.int .i64 t52), (103, AV.sl [.int .i64] t103), (104, AV.int .i64 t104), (105, AV.int .i64 (IntKind.i64.wrap (t105 + 1)))], [([0, 1], ⟨true, [], [AV.agg [AV.sl [.int .i64] h0_0, AV.sl [.int .i64] h0_1, AV.sl [.int .i64, .int .i64] h0_2]]⟩), ([0, 6], ⟨true, [], [AV.agg [AV.int .i64 h1_0, AV.int .i64 h1_1]]⟩)]⟩)
  else none)
  else k (.exit 4) ⟨[(1, AV.ptr [0, 1] 0 0), (50, AV.sl [.int .i64, .int .i64] t50), (51, AV.int .i64 t51), (52, AV.int .i64 t52)], [([0, 1], ⟨true, [], [AV.agg [AV.sl [.int .i64] h0_0, AV.sl [.int .i64] h0_1, AV.sl [.int .i64, .int .i64] h0_2]]⟩), ([0, 6], ⟨true, [], [AV.agg [AV.int .i64 h1_0, AV.int .i64 h1_1]]⟩)]⟩) := by kernel_rfl
theorem st66_4 (t50 : List AV) (t51 : Int) (t52 : Int) (t103 : List AV) (t104 : Int) (h0_0 : List AV) (h0_1 : List AV) (h0_2 : List AV) (h1_0 : Int) (h1_1 : Int) (ce : CallE) (k : Kont) (s : Int) (next : St → Option AV) : stepA (codeA c66 ce [] 66 4 (sub [1, 1, 1, 0, 1, 0, 0, 1, 1, 0, 0, 1, 1, 1, 0, 0] (body Tryd.f66))) (normA [] [1, 6, 50, 51, 52, 103, 104, 105]) next ((fun s : Int => ⟨[(1, AV.ptr [0, 1] 0 0), (6, AV.ptr [0, 6] 0 0), (50, AV.sl [.int .i64, .int .i64] t50), (51, AV.int .i64 t51), (52, AV.int .i64 t52), (103, AV.sl [.int .i64] t103), (104, AV.int .i64 t104), (105, AV.int .i64 s)], [([0, 1], ⟨true, [], [AV.agg [AV.sl [.int .i64] h0_0, AV.sl [.int .i64] h0_1, AV.sl [.int .i64, .int .i64] h0_2]]⟩), ([0, 6], ⟨true, [], [AV.agg [AV.int .i64 h1_0, AV.int .i64 h1_1]]⟩)]⟩) s) k = (R66_4 t50 t51 t52 t103 t104 h0_0 h0_1 h0_2 h1_0 h1_1 s).el none (fun s => next ((fun s : Int => ⟨[(1, AV.ptr [0, 1] 0 0), (6, AV.ptr [0, 6] 0 0), (50, AV.sl [.int .i64, .int .i64] t50), (51, AV.int .i64 t51), (52, AV.int .i64 t52), (103, AV.sl [.int .i64] t103), (104, AV.int .i64 t104), (105, AV.int .i64 s)], [([0, 1], ⟨true, [], [AV.agg [AV.sl [.int .i64] h0_0, AV.sl [.int .i64] h0_1, AV.sl [.int .i64, .int .i64] h0_2]]⟩), ([0, 6], ⟨true, [], [AV.agg [AV.int .i64 h1_0, AV.int .i64 h1_1]]⟩)]⟩) s)) (sumE (fun _ : Unit => k (.exit 4) ⟨[(1, AV.ptr [0, 1] 0 0), (50, AV.sl [.int .i64, .int .i64] t50), (51, AV.int .i64 t51), (52, AV.int .i64 t52)], [([0, 1], ⟨true, [], [AV.agg [AV.sl [.int .i64] h0_0, AV.sl [.int .i64] h0_1, AV.sl [.int .i64, .int .i64] h0_2]]⟩), ([0, 6], ⟨true, [], [AV.agg [AV.int .i64 h1_0, AV.int .i64 h1_1]]⟩)]⟩) (fun _ : Unit => k .ret ⟨[(2, AV.bool false)], [([0, 1], ⟨true, [], [AV.agg [AV.sl [.int .i64] h0_0, AV.sl [.int .i64] h0_1, AV.sl [.int .i64, .int .i64] h0_2]]⟩), ([0, 6], ⟨true, [], [AV.agg [AV.int .i64 h1_0, AV.int .i64 h1_1]]⟩)]⟩)) := (s66_4 ce t50 t51 t52 t103 t104 s h0_0 h0_1 h0_2 h1_0 h1_1 next k).trans (by unfold R66_4; unfold F66_4; simp only [el_cond, el_ro, el_sum, el_fail, el_next, el_stop] <;> rfl)
theorem ok66_4 {ce : CallE} : LoopOK c66 ce [] 66 4 (sub [1, 1, 1, 0, 1, 0, 0, 1, 1, 0, 0, 1, 1, 1, 0, 0] (body Tryd.f66)) := by
  intro m hm st k r h
  obtain rfl : l66_4 = m := Option.some.inj hm
  unfold l66_4 at h
  split at h
  · rename_i g0 g1 g2 g3 g4 g5 g6 t50 t51 t52 g7 t103 t104 t105 g8 g9 h0_0 g10 h0_1 g11 h0_2 g12 h1_0 h1_1
    obtain ⟨hg, h⟩ := bif_some h
    simp only [Bool.and_eq_true] at hg
    obtain ⟨⟨⟨⟨⟨⟨⟨⟨⟨⟨⟨⟨q0, q1⟩, q2⟩, q3⟩, q4⟩, q5⟩, q6⟩, q7⟩, q8⟩, q9⟩, q10⟩, q11⟩, q12⟩ := hg
    obtain rfl := (nmEq_iff _ _).1 q0
    obtain rfl := Nat.eq_of_beq_eq_true q1
    obtain rfl := Nat.eq_of_beq_eq_true q2
    obtain rfl := (nmEq_iff _ _).1 q3
    obtain rfl := Nat.eq_of_beq_eq_true q4
    obtain rfl := Nat.eq_of_beq_eq_true q5
    obtain rfl := ctsEq_eq _ _ q6
    obtain rfl := ctsEq_eq _ _ q7
    obtain rfl := (nmEq_iff _ _).1 q8
    obtain rfl := ctsEq_eq _ _ q9
    obtain rfl := ctsEq_eq _ _ q10
    obtain rfl := ctsEq_eq _ _ q11
    obtain rfl := (nmEq_iff _ _).1 q12
    refine ⟨((t104 - t105).toNat + 1), ?_⟩
    rw [← h]
    exact loop_run (fun s : Int => ⟨[(1, AV.ptr [0, 1] 0 0), (6, AV.ptr [0, 6] 0 0), (50, AV.sl [.int .i64, .int .i64] t50), (51, AV.int .i64 t51), (52, AV.int .i64 t52), (103, AV.sl [.int .i64] t103), (104, AV.int .i64 t104), (105, AV.int .i64 s)], [([0, 1], ⟨true, [], [AV.agg [AV.sl [.int .i64] h0_0, AV.sl [.int .i64] h0_1, AV.sl [.int .i64, .int .i64] h0_2]]⟩), ([0, 6], ⟨true, [], [AV.agg [AV.int .i64 h1_0, AV.int .i64 h1_1]]⟩)]⟩) (sumE (fun _ : Unit => k (.exit 4) ⟨[(1, AV.ptr [0, 1] 0 0), (50, AV.sl [.int .i64, .int .i64] t50), (51, AV.int .i64 t51), (52, AV.int .i64 t52)], [([0, 1], ⟨true, [], [AV.agg [AV.sl [.int .i64] h0_0, AV.sl [.int .i64] h0_1, AV.sl [.int .i64, .int .i64] h0_2]]⟩), ([0, 6], ⟨true, [], [AV.agg [AV.int .i64 h1_0, AV.int .i64 h1_1]]⟩)]⟩) (fun _ : Unit => k .ret ⟨[(2, AV.bool false)], [([0, 1], ⟨true, [], [AV.agg [AV.sl [.int .i64] h0_0, AV.sl [.int .i64] h0_1, AV.sl [.int .i64, .int .i64] h0_2]]⟩), ([0, 6], ⟨true, [], [AV.agg [AV.int .i64 h1_0, AV.int .i64 h1_1]]⟩)]⟩)) (st66_4 t50 t51 t52 t103 t104 h0_0 h0_1 h0_2 h1_0 h1_1 ce k) _ t105
  · cases h
theorem s66_2 (ce : CallE) (t50 : List AV) (t51 : Int) (t52 : Int) (h0_0 : List AV) (h0_1 : List AV) (h0_2 : List AV) (next : St → Option AV) (k : Kont) : stepA (codeA c66 ce [] 66 2 (sub [1, 1, 1, 0, 1, 0, 0] (body Tryd.f66))) (normA [] [1, 50, 51, 52]) next ⟨[(1, AV.ptr [0, 1] 0 0), (50, AV.sl [.int .i64, .int .i64] t50), (51, AV.int .i64 t51), (52, AV.int .i64 t52)], [([0, 1], ⟨true, [], [AV.agg [AV.sl [.int .i64] h0_0, AV.sl [.int .i64] h0_1, AV.sl [.int .i64, .int .i64] h0_2]]⟩)]⟩ k = (bif decide (t52 < t51) then (bif (decide (0 ≤ t52) && decide (t52 < (t50.length : Int))) then (bif !(v45_0 (fI (t50.getD t52.toNat AV.undef) 0)) then k .ret ⟨[(2, AV.bool false)], [([0, 1], ⟨true, [], [AV.agg [AV.sl [.int .i64] h0_0, AV.sl [.int .i64] h0_1, AV.sl [.int .i64, .int .i64] h0_2]]⟩), ([1, 6], ⟨true, [], [AV.agg [AV.int .i64 (fI (t50.getD t52.toNat AV.undef) 0), AV.int .i64 (fI (t50.getD t52.toNat AV.undef) 1)]]⟩)]⟩
  else (bif decide (fI (t50.getD t52.toNat AV.undef) 1 < 0) then k .ret ⟨[(2, AV.bool false)], [([0, 1], ⟨true, [], [AV.agg [AV.sl [.int .i64] h0_0, AV.sl [.int .i64] h0_1, AV.sl [.int .i64, .int .i64] h0_2]]⟩), ([1, 6], ⟨true, [], [AV.agg [AV.int .i64 (fI (t50.getD t52.toNat AV.undef) 0), AV.int .i64 (fI (t50.getD t52.toNat AV.undef) 1)]]⟩)]⟩
  else (bif decide (fI (t50.getD t52.toNat AV.undef) 1 > (h0_0.length : Int)) then k .ret ⟨[(2, AV.bool false)], [([0, 1], ⟨true, [], [AV.agg [AV.sl [.int .i64] h0_0, AV.sl [.int .i64] h0_1, AV.sl [.int .i64, .int .i64] h0_2]]⟩), ([1, 6], ⟨true, [], [AV.agg [AV.int .i64 (fI (t50.getD t52.toNat AV.undef) 0), AV.int .i64 (fI (t50.getD t52.toNat AV.undef) 1)]]⟩)]⟩
  else (bif decide (t52 > 0) then (bif (decide (0 ≤ IntKind.i64.wrap (t52 - 1)) && decide (IntKind.i64.wrap (t52 - 1) < (h0_2.length : Int))) then (bif decide (fI (t50.getD t52.toNat AV.undef) 0 ≤ fI (h0_2.getD (IntKind.i64.wrap (t52 - 1)).toNat AV.undef) 0) then k .ret ⟨[(2, AV.bool false)], [([0, 1], ⟨true, [], [AV.agg [AV.sl [.int .i64] h0_0, AV.sl [.int .i64] h0_1, AV.sl [.int .i64, .int .i64] h0_2]]⟩), ([1, 6], ⟨true, [], [AV.agg [AV.int .i64 (fI (t50.getD t52.toNat AV.undef) 0), AV.int .i64 (fI (t50.getD t52.toNat AV.undef) 1)]]⟩)]⟩
  else (bif (decide (0 ≤ IntKind.i64.wrap (t52 - 1)) && decide (IntKind.i64.wrap (t52 - 1) < (h0_2.length : Int))) then (bif decide (fI (t50.getD t52.toNat AV.undef) 1 < fI (h0_2.getD (IntKind.i64.wrap (t52 - 1)).toNat AV.undef) 1) then k .ret ⟨[(2, AV.bool false)], [([0, 1], ⟨true, [], [AV.agg [AV.sl [.int .i64] h0_0, AV.sl [.int .i64] h0_1, AV.sl [.int .i64, .int .i64] h0_2]]⟩), ([1, 6], ⟨true, [], [AV.agg [AV.int .i64 (fI (t50.getD t52.toNat AV.undef) 0), AV.int .i64 (fI (t50.getD t52.toNat AV.undef) 1)]]⟩)]⟩
  else (ro (runW (R66_4 t50 t51 t52 h0_0 (h0_0.length : Int) h0_0 h0_1 h0_2 (fI (t50.getD t52.toNat AV.undef) 0) (fI (t50.getD t52.toNat AV.undef) 1)) (((h0_0.length : Int) - 0).toNat + 1) 0) none (sumE (fun _ => next ⟨[(1, AV.ptr [0, 1] 0 0), (50, AV.sl [.int .i64, .int .i64] t50), (51, AV.int .i64 t51), (52, AV.int .i64 (IntKind.i64.wrap (t52 + 1)))], [([0, 1], ⟨true, [], [AV.agg [AV.sl [.int .i64] h0_0, AV.sl [.int .i64] h0_1, AV.sl [.int .i64, .int .i64] h0_2]]⟩)]⟩) (fun _ => k .ret ⟨[(2, AV.bool false)], [([0, 1], ⟨true, [], [AV.agg [AV.sl [.int .i64] h0_0, AV.sl [.int .i64] h0_1, AV.sl [.int .i64, .int .i64] h0_2]]⟩), ([0, 6], ⟨true, [], [AV.agg [AV.int .i64 (fI (t50.getD t52.toNat AV.undef) 0), AV.int .i64 (fI (t50.getD t52.toNat AV.undef) 1)]]⟩)]⟩))))
  else none))
  else none)
  else (ro (runW (R66_4 t50 t51 t52 h0_0 (h0_0.length : Int) h0_0 h0_1 h0_2 (fI (t50.getD t52.toNat AV.undef) 0) (fI (t50.getD t52.toNat AV.undef) 1)) (((h0_0.length : Int) - 0).toNat + 1) 0) none (sumE (fun _ => next ⟨[(1, AV.ptr [0, 1] 0 0), (50, AV.sl [.int .i64, .int .i64] t50), (51, AV.int .i64 t51), (52, AV.int .i64 (IntKind.i64.wrap (t52 + 1)))], [([0, 1], ⟨true, [], [AV.agg [AV.sl [.int .i64] h0_0, AV.sl [.int .i64] h0_1, AV.sl [.int .i64, .int .i64] h0_2]]⟩)]⟩) (fun _ => k .ret ⟨[(2, AV.bool false)], [([0, 1], ⟨true, [], [AV.agg [AV.sl [.int .i64] h0_0, AV.sl [.int .i64] h0_1, AV.sl [.int .i64, .int .i64] h0_2]]⟩), ([0, 6], ⟨true, [], [AV.agg [AV.int .i64 (fI (t50.getD t52.toNat AV.undef) 0), AV.int .i64 (fI (t50.getD t52.toNat AV.undef) 1)]]⟩)]⟩)))))))
  else none)
  else k (.exit 2) ⟨[], [([0, 1], ⟨true, [], [AV.agg [AV.sl [.int .i64] h0_0, AV.sl [.int .i64] h0_1, AV.sl [.int .i64, .int .i64] h0_2]]⟩)]⟩) := by kernel_rfl
theorem st66_2 (t50 : List AV) (t51 : Int) (h0_0 : List AV) (h0_1 : List AV) (h0_2 : List AV) (ce : CallE) (k : Kont) (s : Int) (next : St → Option AV) : stepA (codeA c66 ce [] 66 2 (sub [1, 1, 1, 0, 1, 0, 0] (body Tryd.f66))) (normA [] [1, 50, 51, 52]) next ((fun s : Int => ⟨[(1, AV.ptr [0, 1] 0 0), (50, AV.sl [.int .i64, .int .i64] t50), (51, AV.int .i64 t51), (52, AV.int .i64 s)], [([0, 1], ⟨true, [], [AV.agg [AV.sl [.int .i64] h0_0, AV.sl [.int .i64] h0_1, AV.sl [.int .i64, .int .i64] h0_2]]⟩)]⟩) s) k = (R66_2 t50 t51 h0_0 h0_1 h0_2 s).el none (fun s => next ((fun s : Int => ⟨[(1, AV.ptr [0, 1] 0 0), (50, AV.sl [.int .i64, .int .i64] t50), (51, AV.int .i64 t51), (52, AV.int .i64 s)], [([0, 1], ⟨true, [], [AV.agg [AV.sl [.int .i64] h0_0, AV.sl [.int .i64] h0_1, AV.sl [.int .i64, .int .i64] h0_2]]⟩)]⟩) s)) (sumE (fun _ : Unit => k (.exit 2) ⟨[], [([0, 1], ⟨true, [], [AV.agg [AV.sl [.int .i64] h0_0, AV.sl [.int .i64] h0_1, AV.sl [.int .i64, .int .i64] h0_2]]⟩)]⟩) (sumE (fun p : Int × Int => k .ret ⟨[(2, AV.bool false)], [([0, 1], ⟨true, [], [AV.agg [AV.sl [.int .i64] h0_0, AV.sl [.int .i64] h0_1, AV.sl [.int .i64, .int .i64] h0_2]]⟩), ([1, 6], ⟨true, [], [AV.agg [AV.int .i64 p.1, AV.int .i64 p.2]]⟩)]⟩) (fun p : Int × Int => k .ret ⟨[(2, AV.bool false)], [([0, 1], ⟨true, [], [AV.agg [AV.sl [.int .i64] h0_0, AV.sl [.int .i64] h0_1, AV.sl [.int .i64, .int .i64] h0_2]]⟩), ([0, 6], ⟨true, [], [AV.agg [AV.int .i64 p.1, AV.int .i64 p.2]]⟩)]⟩))) := (s66_2 ce t50 t51 s h0_0 h0_1 h0_2 next k).trans (by unfold R66_2; unfold F66_2; simp only [el_cond, el_ro, el_sum, el_fail, el_next, el_stop] <;> rfl)
theorem ok66_2 {ce : CallE} : LoopOK c66 ce [] 66 2 (sub [1, 1, 1, 0, 1, 0, 0] (body Tryd.f66)) := by
  intro m hm st k r h
  obtain rfl : l66_2 = m := Option.some.inj hm
  unfold l66_2 at h
  split at h
  · rename_i g0 g1 g2 g3 t50 t51 t52 g4 g5 h0_0 g6 h0_1 g7 h0_2
    obtain ⟨hg, h⟩ := bif_some h
    simp only [Bool.and_eq_true] at hg
    obtain ⟨⟨⟨⟨⟨⟨⟨q0, q1⟩, q2⟩, q3⟩, q4⟩, q5⟩, q6⟩, q7⟩ := hg
    obtain rfl := (nmEq_iff _ _).1 q0
    obtain rfl := Nat.eq_of_beq_eq_true q1
    obtain rfl := Nat.eq_of_beq_eq_true q2
    obtain rfl := ctsEq_eq _ _ q3
    obtain rfl := (nmEq_iff _ _).1 q4
    obtain rfl := ctsEq_eq _ _ q5
    obtain rfl := ctsEq_eq _ _ q6
    obtain rfl := ctsEq_eq _ _ q7
    refine ⟨((t51 - t52).toNat + 1), ?_⟩
    rw [← h]
    exact loop_run (fun s : Int => ⟨[(1, AV.ptr [0, 1] 0 0), (50, AV.sl [.int .i64, .int .i64] t50), (51, AV.int .i64 t51), (52, AV.int .i64 s)], [([0, 1], ⟨true, [], [AV.agg [AV.sl [.int .i64] h0_0, AV.sl [.int .i64] h0_1, AV.sl [.int .i64, .int .i64] h0_2]]⟩)]⟩) (sumE (fun _ : Unit => k (.exit 2) ⟨[], [([0, 1], ⟨true, [], [AV.agg [AV.sl [.int .i64] h0_0, AV.sl [.int .i64] h0_1, AV.sl [.int .i64, .int .i64] h0_2]]⟩)]⟩) (sumE (fun p : Int × Int => k .ret ⟨[(2, AV.bool false)], [([0, 1], ⟨true, [], [AV.agg [AV.sl [.int .i64] h0_0, AV.sl [.int .i64] h0_1, AV.sl [.int .i64, .int .i64] h0_2]]⟩), ([1, 6], ⟨true, [], [AV.agg [AV.int .i64 p.1, AV.int .i64 p.2]]⟩)]⟩) (fun p : Int × Int => k .ret ⟨[(2, AV.bool false)], [([0, 1], ⟨true, [], [AV.agg [AV.sl [.int .i64] h0_0, AV.sl [.int .i64] h0_1, AV.sl [.int .i64, .int .i64] h0_2]]⟩), ([0, 6], ⟨true, [], [AV.agg [AV.int .i64 p.1, AV.int .i64 p.2]]⟩)]⟩))) (st66_2 t50 t51 h0_0 h0_1 h0_2 ce k) _ t52
  · cases h
theorem s66_0 (ce : CallE) (t35 : List AV) (t36 : Int) (t37 : Int) (h0_0 : List AV) (h0_1 : List AV) (h0_2 : List AV) (next : St → Option AV) (k : Kont) : stepA (codeA c66 ce [] 66 0 (sub [1, 1, 0, 1, 0, 0] (body Tryd.f66))) (normA [] [1, 35, 36, 37]) next ⟨[(1, AV.ptr [0, 1] 0 0), (35, AV.sl [.int .i64] t35), (36, AV.int .i64 t36), (37, AV.int .i64 t37)], [([0, 1], ⟨true, [], [AV.agg [AV.sl [.int .i64] h0_0, AV.sl [.int .i64] h0_1, AV.sl [.int .i64, .int .i64] h0_2]]⟩)]⟩ k = (bif decide (t37 < t36) then (bif (decide (0 ≤ t37) && decide (t37 < (t35.length : Int))) then (bif (decide (0 ≤ 0) && decide (0 ≤ t37) && decide (t37 ≤ (h0_1.length : Int))) then (bif q92 ((h0_1.take (Int.toNat t37)).drop (Int.toNat 0)) (fI (t35.getD t37.toNat AV.undef) 0) then (bif (v92_0 ((h0_1.take (Int.toNat t37)).drop (Int.toNat 0)) (fI (t35.getD t37.toNat AV.undef) 0)) then k .ret ⟨[(2, AV.bool false)], [([0, 1], ⟨true, [], [AV.agg [AV.sl [.int .i64] h0_0, AV.sl [.int .i64] h0_1, AV.sl [.int .i64, .int .i64] h0_2]]⟩)]⟩
  else next ⟨[(1, AV.ptr [0, 1] 0 0), (35, AV.sl [.int .i64] t35), (36, AV.int .i64 t36), (37, AV.int .i64 (IntKind.i64.wrap (t37 + 1)))], [([0, 1], ⟨true, [], [AV.agg [AV.sl [.int .i64] h0_0, AV.sl [.int .i64] h0_1, AV.sl [.int .i64, .int .i64] h0_2]]⟩)]⟩)
  else none)
  else none)
  else none)
  else k (.exit 0) ⟨[(1, AV.ptr [0, 1] 0 0)], [([0, 1], ⟨true, [], [AV.agg [AV.sl [.int .i64] h0_0, AV.sl [.int .i64] h0_1, AV.sl [.int .i64, .int .i64] h0_2]]⟩)]⟩) := by kernel_rfl
theorem st66_0 (t35 : List AV) (t36 : Int) (h0_0 : List AV) (h0_1 : List AV) (h0_2 : List AV) (ce : CallE) (k : Kont) (s : Int) (next : St → Option AV) : stepA (codeA c66 ce [] 66 0 (sub [1, 1, 0, 1, 0, 0] (body Tryd.f66))) (normA [] [1, 35, 36, 37]) next ((fun s : Int => ⟨[(1, AV.ptr [0, 1] 0 0), (35, AV.sl [.int .i64] t35), (36, AV.int .i64 t36), (37, AV.int .i64 s)], [([0, 1], ⟨true, [], [AV.agg [AV.sl [.int .i64] h0_0, AV.sl [.int .i64] h0_1, AV.sl [.int .i64, .int .i64] h0_2]]⟩)]⟩) s) k = (R66_0 t35 t36 h0_0 h0_1 h0_2 s).el none (fun s => next ((fun s : Int => ⟨[(1, AV.ptr [0, 1] 0 0), (35, AV.sl [.int .i64] t35), (36, AV.int .i64 t36), (37, AV.int .i64 s)], [([0, 1], ⟨true, [], [AV.agg [AV.sl [.int .i64] h0_0, AV.sl [.int .i64] h0_1, AV.sl [.int .i64, .int .i64] h0_2]]⟩)]⟩) s)) (sumE (fun _ : Unit => k (.exit 0) ⟨[(1, AV.ptr [0, 1] 0 0)], [([0, 1], ⟨true, [], [AV.agg [AV.sl [.int .i64] h0_0, AV.sl [.int .i64] h0_1, AV.sl [.int .i64, .int .i64] h0_2]]⟩)]⟩) (fun _ : Unit => k .ret ⟨[(2, AV.bool false)], [([0, 1], ⟨true, [], [AV.agg [AV.sl [.int .i64] h0_0, AV.sl [.int .i64] h0_1, AV.sl [.int .i64, .int .i64] h0_2]]⟩)]⟩)) := (s66_0 ce t35 t36 s h0_0 h0_1 h0_2 next k).trans (by unfold R66_0; unfold F66_0; simp only [el_cond, el_ro, el_sum, el_fail, el_next, el_stop] <;> rfl)
theorem ok66_0 {ce : CallE} : LoopOK c66 ce [] 66 0 (sub [1, 1, 0, 1, 0, 0] (body Tryd.f66)) := by
  intro m hm st k r h
  obtain rfl : l66_0 = m := Option.some.inj hm
  unfold l66_0 at h
  split at h
  · rename_i g0 g1 g2 g3 t35 t36 t37 g4 g5 h0_0 g6 h0_1 g7 h0_2
    obtain ⟨hg, h⟩ := bif_some h
    simp only [Bool.and_eq_true] at hg
    obtain ⟨⟨⟨⟨⟨⟨⟨q0, q1⟩, q2⟩, q3⟩, q4⟩, q5⟩, q6⟩, q7⟩ := hg
    obtain rfl := (nmEq_iff _ _).1 q0
    obtain rfl := Nat.eq_of_beq_eq_true q1
    obtain rfl := Nat.eq_of_beq_eq_true q2
    obtain rfl := ctsEq_eq _ _ q3
    obtain rfl := (nmEq_iff _ _).1 q4
    obtain rfl := ctsEq_eq _ _ q5
    obtain rfl := ctsEq_eq _ _ q6
    obtain rfl := ctsEq_eq _ _ q7
    refine ⟨((t36 - t37).toNat + 1), ?_⟩
    rw [← h]
    exact loop_run (fun s : Int => ⟨[(1, AV.ptr [0, 1] 0 0), (35, AV.sl [.int .i64] t35), (36, AV.int .i64 t36), (37, AV.int .i64 s)], [([0, 1], ⟨true, [], [AV.agg [AV.sl [.int .i64] h0_0, AV.sl [.int .i64] h0_1, AV.sl [.int .i64, .int .i64] h0_2]]⟩)]⟩) (sumE (fun _ : Unit => k (.exit 0) ⟨[(1, AV.ptr [0, 1] 0 0)], [([0, 1], ⟨true, [], [AV.agg [AV.sl [.int .i64] h0_0, AV.sl [.int .i64] h0_1, AV.sl [.int .i64, .int .i64] h0_2]]⟩)]⟩) (fun _ : Unit => k .ret ⟨[(2, AV.bool false)], [([0, 1], ⟨true, [], [AV.agg [AV.sl [.int .i64] h0_0, AV.sl [.int .i64] h0_1, AV.sl [.int .i64, .int .i64] h0_2]]⟩)]⟩)) (st66_0 t35 t36 h0_0 h0_1 h0_2 ce k) _ t37
  · cases h
def q66 (a0_0 : List AV) (a0_1 : List AV) (a0_2 : List AV) : Bool := (q90 a0_0 && (bif !(v90_0 a0_0) then true else (bif !decide ((a0_1.length : Int) = (a0_0.length : Int)) then true else (q91 a0_1 0 999 && (bif !(v91_0 a0_1 0 999) then true else (bif decide ((a0_2.length : Int) > 2001) then true else (ro (runW (R66_0 a0_1 (a0_1.length : Int) a0_0 a0_1 a0_2) (((a0_1.length : Int) - 0).toNat + 1) 0) false (sumE (fun _ => (ro (runW (R66_2 a0_2 (a0_2.length : Int) a0_0 a0_1 a0_2) (((a0_2.length : Int) - 0).toNat + 1) 0) false (sumE (fun _ => true) (sumE (fun p32 => true) (fun p33 => true))))) (fun _ => true)))))))))
def v66_0 (a0_0 : List AV) (a0_1 : List AV) (a0_2 : List AV) : Bool := (bif !(v90_0 a0_0) then false else (bif !decide ((a0_1.length : Int) = (a0_0.length : Int)) then false else (bif !(v91_0 a0_1 0 999) then false else (bif decide ((a0_2.length : Int) > 2001) then false else (ro (runW (R66_0 a0_1 (a0_1.length : Int) a0_0 a0_1 a0_2) (((a0_1.length : Int) - 0).toNat + 1) 0) false (sumE (fun _ => (ro (runW (R66_2 a0_2 (a0_2.length : Int) a0_0 a0_1 a0_2) (((a0_2.length : Int) - 0).toNat + 1) 0) false (sumE (fun _ => true) (sumE (fun p32 => false) (fun p33 => false))))) (fun _ => false)))))))
theorem e66 (a0_0 : List AV) (a0_1 : List AV) (a0_2 : List AV) : funA c66 0 66 [AV.agg [AV.sl [.int .i64] a0_0, AV.sl [.int .i64] a0_1, AV.sl [.int .i64, .int .i64] a0_2]] = (bif q90 a0_0 then (bif !(v90_0 a0_0) then some (AV.bool false)
  else (bif !decide ((a0_1.length : Int) = (a0_0.length : Int)) then some (AV.bool false)
  else (bif q91 a0_1 0 999 then (bif !(v91_0 a0_1 0 999) then some (AV.bool false)
  else (bif decide ((a0_2.length : Int) > 2001) then some (AV.bool false)
  else (ro (runW (R66_0 a0_1 (a0_1.length : Int) a0_0 a0_1 a0_2) (((a0_1.length : Int) - 0).toNat + 1) 0) none (sumE (fun _ => (ro (runW (R66_2 a0_2 (a0_2.length : Int) a0_0 a0_1 a0_2) (((a0_2.length : Int) - 0).toNat + 1) 0) none (sumE (fun _ => some (AV.bool true)) (sumE (fun p32 => some (AV.bool false)) (fun p33 => some (AV.bool false)))))) (fun _ => some (AV.bool false))))))
  else none)))
  else none) := by kernel_rfl
theorem r66 (a0_0 : List AV) (a0_1 : List AV) (a0_2 : List AV) (h : q66 a0_0 a0_1 a0_2 = true) : funA c66 0 66 [AV.agg [AV.sl [.int .i64] a0_0, AV.sl [.int .i64] a0_1, AV.sl [.int .i64, .int .i64] a0_2]] = some (AV.bool (v66_0 a0_0 a0_1 a0_2)) := (e66 a0_0 a0_1 a0_2).trans ((brL (br (fun b => some (AV.bool (bif b then false else (bif !decide ((a0_1.length : Int) = (a0_0.length : Int)) then false else (bif !(v91_0 a0_1 0 999) then false else (bif decide ((a0_2.length : Int) > 2001) then false else (ro (runW (R66_0 a0_1 (a0_1.length : Int) a0_0 a0_1 a0_2) (((a0_1.length : Int) - 0).toNat + 1) 0) false (sumE (fun _ => (ro (runW (R66_2 a0_2 (a0_2.length : Int) a0_0 a0_1 a0_2) (((a0_2.length : Int) - 0).toNat + 1) 0) false (sumE (fun _ => true) (sumE (fun p32 => false) (fun p33 => false))))) (fun _ => false))))))))) (fun _ => rfl) (br (fun b => some (AV.bool (bif b then false else (bif !(v91_0 a0_1 0 999) then false else (bif decide ((a0_2.length : Int) > 2001) then false else (ro (runW (R66_0 a0_1 (a0_1.length : Int) a0_0 a0_1 a0_2) (((a0_1.length : Int) - 0).toNat + 1) 0) false (sumE (fun _ => (ro (runW (R66_2 a0_2 (a0_2.length : Int) a0_0 a0_1 a0_2) (((a0_2.length : Int) - 0).toNat + 1) 0) false (sumE (fun _ => true) (sumE (fun p32 => false) (fun p33 => false))))) (fun _ => false)))))))) (fun _ => rfl) (brL (br (fun b => some (AV.bool (bif b then false else (bif decide ((a0_2.length : Int) > 2001) then false else (ro (runW (R66_0 a0_1 (a0_1.length : Int) a0_0 a0_1 a0_2) (((a0_1.length : Int) - 0).toNat + 1) 0) false (sumE (fun _ => (ro (runW (R66_2 a0_2 (a0_2.length : Int) a0_0 a0_1 a0_2) (((a0_2.length : Int) - 0).toNat + 1) 0) false (sumE (fun _ => true) (sumE (fun p32 => false) (fun p33 => false))))) (fun _ => false))))))) (fun _ => rfl) (br (fun b => some (AV.bool (bif b then false else (ro (runW (R66_0 a0_1 (a0_1.length : Int) a0_0 a0_1 a0_2) (((a0_1.length : Int) - 0).toNat + 1) 0) false (sumE (fun _ => (ro (runW (R66_2 a0_2 (a0_2.length : Int) a0_0 a0_1 a0_2) (((a0_2.length : Int) - 0).toNat + 1) 0) false (sumE (fun _ => true) (sumE (fun p32 => false) (fun p33 => false))))) (fun _ => false)))))) (fun _ => rfl) (brO (fun o : Option (Unit ⊕ Unit) => some (AV.bool (ro o false (sumE (fun _ => (ro (runW (R66_2 a0_2 (a0_2.length : Int) a0_0 a0_1 a0_2) (((a0_2.length : Int) - 0).toNat + 1) 0) false (sumE (fun _ => true) (sumE (fun p32 => false) (fun p33 => false))))) (fun _ => false))))) (brS (fun o : Unit ⊕ Unit => some (AV.bool ((sumE (fun _ => (ro (runW (R66_2 a0_2 (a0_2.length : Int) a0_0 a0_1 a0_2) (((a0_2.length : Int) - 0).toNat + 1) 0) false (sumE (fun _ => true) (sumE (fun p32 => false) (fun p33 => false))))) (fun _ => false)) o))) (fun _ => (brO (fun o : Option (Unit ⊕ (Int × Int) ⊕ (Int × Int)) => some (AV.bool (ro o false (sumE (fun _ => true) (sumE (fun p32 => false) (fun p33 => false)))))) (brS (fun o : Unit ⊕ (Int × Int) ⊕ (Int × Int) => some (AV.bool ((sumE (fun _ => true) (sumE (fun p32 => false) (fun p33 => false))) o))) (fun _ => (fun _ => rfl)) (brS (fun o : (Int × Int) ⊕ (Int × Int) => some (AV.bool ((sumE (fun p32 => false) (fun p33 => false)) o))) (fun p32 => (fun _ => rfl)) (fun p33 => (fun _ => rfl)))))) (fun _ => (fun _ => rfl)))))))))) h)
def m66 : TModel
  | [.agg [.sl g0 a0_0, .sl g1 a0_1, .sl g2 a0_2]] => bif ctsEq g0 ([.int .i64]) && ctsEq g1 ([.int .i64]) && ctsEq g2 ([.int .i64, .int .i64]) then some (q66 a0_0 a0_1 a0_2, AV.bool (v66_0 a0_0 a0_1 a0_2)) else none
  | _ => none
theorem k66 : Known Tryd.prog 66 := ⟨Tryd.f66, Tryd.func66, by kernel_rfl, by kernel_rfl⟩
theorem meets66 : Meets Tryd.prog 66 m66 := by
  refine meet (f := Tryd.f66) (l := [(0, sub [1, 1, 0, 1, 0, 0] (body Tryd.f66)), (2, sub [1, 1, 1, 0, 1, 0, 0] (body Tryd.f66)), (4, sub [1, 1, 1, 0, 1, 0, 0, 1, 1, 0, 0, 1, 1, 1, 0, 0] (body Tryd.f66))]) (hs := [(66, 0, [1, 35, 36, 37]), (66, 2, [1, 50, 51, 52]), (66, 4, [1, 6, 50, 51, 52, 103, 104, 105]), (66, 999, [2]), (66, 1000, [1]), (66, 1001, [1, 35, 36, 37]), (66, 1002, []), (66, 1003, [1, 50, 51, 52]), (66, 1004, [1, 50, 51, 52]), (66, 1005, [1, 6, 50, 51, 52, 103, 104, 105])]) (ts := [(45, m45), (90, m90), (91, m91), (92, m92)]) (ws := []) (is := []) (ls := [(66, 0, l66_0), (66, 2, l66_2), (66, 4, l66_4)]) (lvl := 0) mixed k66 Tryd.func66 (by kernel_rfl) (loops_cons ok66_0 (loops_cons ok66_2 (loops_cons ok66_4 noLoop))) (allT_cons meets45 (allT_cons meets90 (allT_cons meets91 (allT_cons meets92 allT_nil)))) allM_nil noI fun w xs us r hl hv h => ?_
  unfold m66 at h
  split at h
  · rename_i g0 a0_0 g1 a0_1 g2 a0_2
    obtain ⟨hg, h⟩ := bif_pair h
    simp only [Bool.and_eq_true] at hg
    obtain ⟨⟨q0, q1⟩, q2⟩ := hg
    obtain rfl := ctsEq_eq _ _ q0
    obtain rfl := ctsEq_eq _ _ q1
    obtain rfl := ctsEq_eq _ _ q2
    obtain ⟨h1, rfl⟩ := pair_inj h
    exact r66 a0_0 a0_1 a0_2 h1
  · cases h

/-! ### 94 slices.Clone[[]loop.example/g01984/impl.Pivot,loop.example/g01984/impl.Pivot] -/
noncomputable def c94 : Cfg := cfg Tryd.prog [(94, 999, [2])] [] [] [] []
def q94 (a0 : List AV) : Bool := decide (a0.length * 16 ≤ 140737488355328) && decide (a0.length ≤ 140737488355328)
def v94_0 (a0 : List AV) : List AV := a0
theorem e94 (a0 : List AV) : funA c94 0 94 [AV.sl [.int .i64, .int .i64] a0] = (bif decide (0 < a0.length) then (bif (decide ((([] : List AV).length + a0.length) * 16 ≤ 140737488355328) && decide ((([] : List AV).length + a0.length) ≤ 140737488355328)) then some (AV.fl [.int .i64, .int .i64] (([] : List AV) ++ a0))
  else none)
  else none) := by kernel_rfl
theorem e94n (b : Bool) : funA c94 0 94 [AV.sle b [.int .i64, .int .i64]] = some (AV.fl [.int .i64, .int .i64] []) := by cases b <;> kernel_rfl
def m94 : TModel
  | [.sl g0 a0] => bif ctsEq g0 [.int .i64, .int .i64] then some (q94 a0, AV.fl [.int .i64, .int .i64] (v94_0 a0)) else none
  | _ => none
theorem k94 : Known Tryd.prog 94 := ⟨Tryd.f94, Tryd.func94, by kernel_rfl, by kernel_rfl⟩
theorem meets94 : Meets Tryd.prog 94 m94 := by
  refine meet_nil (f := Tryd.f94) (l := []) (hs := [(94, 999, [2])]) (ts := []) (ws := []) (is := []) (ls := []) (lvl := 0) (tys := [.int .i64, .int .i64]) mixed k94 Tryd.func94 (by kernel_rfl) noLoop allT_nil allM_nil noI (fun xs r h => ?_) (fun b r h => ?_) (fun ys r h0 h => ?_)
  · unfold m94 at h
    split at h
    · rename_i g0 a0
      obtain ⟨hg, h⟩ := bif_pair h
      obtain rfl := ctsEq_eq _ _ hg
      exact ⟨a0, rfl⟩
    · cases h
  · obtain ⟨hg, h⟩ := bif_pair (g := ctsEq [.int .i64, .int .i64] [.int .i64, .int .i64]) h
    obtain ⟨_, rfl⟩ := pair_inj h
    exact e94n b
  · obtain ⟨hg, h⟩ := bif_pair (g := ctsEq [.int .i64, .int .i64] [.int .i64, .int .i64]) h
    obtain ⟨hq, rfl⟩ := pair_inj h
    refine (e94 ys).trans ?_
    unfold q94 at hq
    have e : ([] : List AV).length + ys.length = ys.length := by simp
    rw [e, hq, decide_eq_true h0]
    rfl

/-! ### 72 loop.example/g01984/impl.pieces -/
def F72_0 (t17 : Int) (h1 : List AV) (t4 : Int) (t18 : Int) (h0 : List AV) : Out ((Int × Int × (List AV))) (((List AV))) := (bif decide (t18 < t17) then (bif (decide (0 ≤ t18) && decide (t18 < (h1.length : Int))) then (bif decide (fI (h1.getD t18.toNat AV.undef) 1 > t4) then (bif (decide ((h0.length + ([AV.agg [AV.int .i64 t4, AV.int .i64 (fI (h1.getD t18.toNat AV.undef) 1)]]).length) * 16 ≤ 140737488355328) && decide ((h0.length + ([AV.agg [AV.int .i64 t4, AV.int .i64 (fI (h1.getD t18.toNat AV.undef) 1)]]).length) ≤ 140737488355328)) then .next (fI (h1.getD t18.toNat AV.undef) 1, IntKind.i64.wrap (t18 + 1), h0 ++ ([AV.agg [AV.int .i64 t4, AV.int .i64 (fI (h1.getD t18.toNat AV.undef) 1)]]))
  else .fail)
  else .next (fI (h1.getD t18.toNat AV.undef) 1, IntKind.i64.wrap (t18 + 1), h0))
  else .fail)
  else .stop h0)
def R72_0 (t17 : Int) (h1 : List AV) : ((Int × Int × (List AV))) → Out ((Int × Int × (List AV))) (((List AV))) := fun s : Int × Int × (List AV) => F72_0 t17 h1 s.1 s.2.1 s.2.2
def l72_0 : LModel := fun _ _ st k => match st with
  | ⟨[(3, .own g0), (4, .int .i64 t4), (16, .own g1), (17, .int .i64 t17), (18, .int .i64 t18)], [(g2, ⟨false, g3, h0⟩), (g4, ⟨false, g5, h1⟩)]⟩ => bif nmEq g0 ([0, 3]) && nmEq g1 ([0, 16]) && nmEq g2 ([0, 3]) && ctsEq g3 ([.int .i64, .int .i64]) && nmEq g4 ([0, 16]) && ctsEq g5 ([.int .i64, .int .i64]) then ro (runW (R72_0 t17 h1) ((t17 - t18).toNat + 1) (t4, t18, h0)) none (fun p : (List AV) => k (.exit 0) ⟨[(3, AV.own [0, 3])], [([0, 3], ⟨false, [.int .i64, .int .i64], p⟩), ([0, 16], ⟨false, [.int .i64, .int .i64], h1⟩)]⟩) else none
  | _ => none
noncomputable def c72 : Cfg := cfg Tryd.prog [(72, 0, [3, 4, 16, 17, 18]), (72, 999, [2]), (72, 1000, [3]), (72, 1001, [3, 4, 16, 17, 18])] [(94, m94)] [] [] [(72, 0, l72_0)]
theorem s72_0 (ce : CallE) (t4 : Int) (t17 : Int) (t18 : Int) (h0 : List AV) (h1 : List AV) (next : St → Option AV) (k : Kont) : stepA (codeA c72 ce [] 72 0 (sub [1, 1, 0, 1, 0, 0] (body Tryd.f72))) (normA [] [3, 4, 16, 17, 18]) next ⟨[(3, AV.own [0, 3]), (4, AV.int .i64 t4), (16, AV.own [0, 16]), (17, AV.int .i64 t17), (18, AV.int .i64 t18)], [([0, 3], ⟨false, [.int .i64, .int .i64], h0⟩), ([0, 16], ⟨false, [.int .i64, .int .i64], h1⟩)]⟩ k = (bif decide (t18 < t17) then (bif (decide (0 ≤ t18) && decide (t18 < (h1.length : Int))) then (bif decide (fI (h1.getD t18.toNat AV.undef) 1 > t4) then (bif (decide ((h0.length + ([AV.agg [AV.int .i64 t4, AV.int .i64 (fI (h1.getD t18.toNat AV.undef) 1)]]).length) * 16 ≤ 140737488355328) && decide ((h0.length + ([AV.agg [AV.int .i64 t4, AV.int .i64 (fI (h1.getD t18.toNat AV.undef) 1)]]).length) ≤ 140737488355328)) then next ⟨[(3, AV.own [0, 3]), (4, AV.int .i64 (fI (h1.getD t18.toNat AV.undef) 1)), (16, AV.own [0, 16]), (17, AV.int .i64 t17), (18, AV.int .i64 (IntKind.i64.wrap (t18 + 1)))], [([0, 3], ⟨false, [.int .i64, .int .i64], h0 ++ ([AV.agg [AV.int .i64 t4, AV.int .i64 (fI (h1.getD t18.toNat AV.undef) 1)]])⟩), ([0, 16], ⟨false, [.int .i64, .int .i64], h1⟩)]⟩
  else none)
  else next ⟨[(3, AV.own [0, 3]), (4, AV.int .i64 (fI (h1.getD t18.toNat AV.undef) 1)), (16, AV.own [0, 16]), (17, AV.int .i64 t17), (18, AV.int .i64 (IntKind.i64.wrap (t18 + 1)))], [([0, 3], ⟨false, [.int .i64, .int .i64], h0⟩), ([0, 16], ⟨false, [.int .i64, .int .i64], h1⟩)]⟩)
  else none)
  else k (.exit 0) ⟨[(3, AV.own [0, 3])], [([0, 3], ⟨false, [.int .i64, .int .i64], h0⟩), ([0, 16], ⟨false, [.int .i64, .int .i64], h1⟩)]⟩) := by kernel_rfl
theorem st72_0 (t17 : Int) (h1 : List AV) (ce : CallE) (k : Kont) (s : (Int × Int × (List AV))) (next : St → Option AV) : stepA (codeA c72 ce [] 72 0 (sub [1, 1, 0, 1, 0, 0] (body Tryd.f72))) (normA [] [3, 4, 16, 17, 18]) next ((fun s : Int × Int × (List AV) => ⟨[(3, AV.own [0, 3]), (4, AV.int .i64 s.1), (16, AV.own [0, 16]), (17, AV.int .i64 t17), (18, AV.int .i64 s.2.1)], [([0, 3], ⟨false, [.int .i64, .int .i64], s.2.2⟩), ([0, 16], ⟨false, [.int .i64, .int .i64], h1⟩)]⟩) s) k = (R72_0 t17 h1 s).el none (fun s => next ((fun s : Int × Int × (List AV) => ⟨[(3, AV.own [0, 3]), (4, AV.int .i64 s.1), (16, AV.own [0, 16]), (17, AV.int .i64 t17), (18, AV.int .i64 s.2.1)], [([0, 3], ⟨false, [.int .i64, .int .i64], s.2.2⟩), ([0, 16], ⟨false, [.int .i64, .int .i64], h1⟩)]⟩) s)) (fun p : (List AV) => k (.exit 0) ⟨[(3, AV.own [0, 3])], [([0, 3], ⟨false, [.int .i64, .int .i64], p⟩), ([0, 16], ⟨false, [.int .i64, .int .i64], h1⟩)]⟩) := (s72_0 ce s.1 t17 s.2.1 s.2.2 h1 next k).trans (by unfold R72_0; unfold F72_0; simp only [el_cond, el_ro, el_sum, el_fail, el_next, el_stop] <;> rfl)
theorem ok72_0 {ce : CallE} : LoopOK c72 ce [] 72 0 (sub [1, 1, 0, 1, 0, 0] (body Tryd.f72)) := by
  intro m hm st k r h
  obtain rfl : l72_0 = m := Option.some.inj hm
  unfold l72_0 at h
  split at h
  · rename_i g0 t4 g1 t17 t18 g2 g3 h0 g4 g5 h1
    obtain ⟨hg, h⟩ := bif_some h
    simp only [Bool.and_eq_true] at hg
    obtain ⟨⟨⟨⟨⟨q0, q1⟩, q2⟩, q3⟩, q4⟩, q5⟩ := hg
    obtain rfl := (nmEq_iff _ _).1 q0
    obtain rfl := (nmEq_iff _ _).1 q1
    obtain rfl := (nmEq_iff _ _).1 q2
    obtain rfl := ctsEq_eq _ _ q3
    obtain rfl := (nmEq_iff _ _).1 q4
    obtain rfl := ctsEq_eq _ _ q5
    refine ⟨((t17 - t18).toNat + 1), ?_⟩
    rw [← h]
    exact loop_run (fun s : Int × Int × (List AV) => ⟨[(3, AV.own [0, 3]), (4, AV.int .i64 s.1), (16, AV.own [0, 16]), (17, AV.int .i64 t17), (18, AV.int .i64 s.2.1)], [([0, 3], ⟨false, [.int .i64, .int .i64], s.2.2⟩), ([0, 16], ⟨false, [.int .i64, .int .i64], h1⟩)]⟩) (fun p : (List AV) => k (.exit 0) ⟨[(3, AV.own [0, 3])], [([0, 3], ⟨false, [.int .i64, .int .i64], p⟩), ([0, 16], ⟨false, [.int .i64, .int .i64], h1⟩)]⟩) (st72_0 t17 h1 ce k) _ (t4, t18, h0)
  · cases h
def q72 (a0_0 : List AV) (a0_1 : List AV) (a0_2 : List AV) : Bool := (q94 a0_2 && ((decide (((v94_0 a0_2).length + ([AV.agg [AV.int .i64 0, AV.int .i64 (a0_0.length : Int)]]).length) * 16 ≤ 140737488355328) && decide (((v94_0 a0_2).length + ([AV.agg [AV.int .i64 0, AV.int .i64 (a0_0.length : Int)]]).length) ≤ 140737488355328)) && (ro (runW (R72_0 (((v94_0 a0_2) ++ ([AV.agg [AV.int .i64 0, AV.int .i64 (a0_0.length : Int)]])).length : Int) ((v94_0 a0_2) ++ ([AV.agg [AV.int .i64 0, AV.int .i64 (a0_0.length : Int)]]))) (((((v94_0 a0_2) ++ ([AV.agg [AV.int .i64 0, AV.int .i64 (a0_0.length : Int)]])).length : Int) - 0).toNat + 1) (0, 0, ([] : List AV))) false (fun p35 => true))))
def v72_0 (a0_0 : List AV) (a0_1 : List AV) (a0_2 : List AV) : List AV := (ro (runW (R72_0 (((v94_0 a0_2) ++ ([AV.agg [AV.int .i64 0, AV.int .i64 (a0_0.length : Int)]])).length : Int) ((v94_0 a0_2) ++ ([AV.agg [AV.int .i64 0, AV.int .i64 (a0_0.length : Int)]]))) (((((v94_0 a0_2) ++ ([AV.agg [AV.int .i64 0, AV.int .i64 (a0_0.length : Int)]])).length : Int) - 0).toNat + 1) (0, 0, ([] : List AV))) [] (fun p35 => p35))
theorem e72 (a0_0 : List AV) (a0_1 : List AV) (a0_2 : List AV) : funA c72 0 72 [AV.agg [AV.sl [.int .i64] a0_0, AV.sl [.int .i64] a0_1, AV.sl [.int .i64, .int .i64] a0_2]] = (bif q94 a0_2 then (bif (decide (((v94_0 a0_2).length + ([AV.agg [AV.int .i64 0, AV.int .i64 (a0_0.length : Int)]]).length) * 16 ≤ 140737488355328) && decide (((v94_0 a0_2).length + ([AV.agg [AV.int .i64 0, AV.int .i64 (a0_0.length : Int)]]).length) ≤ 140737488355328)) then (ro (runW (R72_0 (((v94_0 a0_2) ++ ([AV.agg [AV.int .i64 0, AV.int .i64 (a0_0.length : Int)]])).length : Int) ((v94_0 a0_2) ++ ([AV.agg [AV.int .i64 0, AV.int .i64 (a0_0.length : Int)]]))) (((((v94_0 a0_2) ++ ([AV.agg [AV.int .i64 0, AV.int .i64 (a0_0.length : Int)]])).length : Int) - 0).toNat + 1) (0, 0, ([] : List AV))) none (fun p35 => some (AV.fl [.int .i64, .int .i64] p35)))
  else none)
  else none) := by kernel_rfl
theorem r72 (a0_0 : List AV) (a0_1 : List AV) (a0_2 : List AV) (h : q72 a0_0 a0_1 a0_2 = true) : funA c72 0 72 [AV.agg [AV.sl [.int .i64] a0_0, AV.sl [.int .i64] a0_1, AV.sl [.int .i64, .int .i64] a0_2]] = some (AV.fl [.int .i64, .int .i64] (v72_0 a0_0 a0_1 a0_2)) := (e72 a0_0 a0_1 a0_2).trans ((brL (brL (brO (fun o : Option (((List AV))) => some (AV.fl [.int .i64, .int .i64] (ro o [] (fun p35 => p35)))) (fun p35 => (fun _ => rfl))))) h)
def m72 : TModel
  | [.agg [.sl g0 a0_0, .sl g1 a0_1, .sl g2 a0_2]] => bif ctsEq g0 ([.int .i64]) && ctsEq g1 ([.int .i64]) && ctsEq g2 ([.int .i64, .int .i64]) then some (q72 a0_0 a0_1 a0_2, AV.fl [.int .i64, .int .i64] (v72_0 a0_0 a0_1 a0_2)) else none
  | _ => none
theorem k72 : Known Tryd.prog 72 := ⟨Tryd.f72, Tryd.func72, by kernel_rfl, by kernel_rfl⟩
theorem meets72 : Meets Tryd.prog 72 m72 := by
  refine meet (f := Tryd.f72) (l := [(0, sub [1, 1, 0, 1, 0, 0] (body Tryd.f72))]) (hs := [(72, 0, [3, 4, 16, 17, 18]), (72, 999, [2]), (72, 1000, [3]), (72, 1001, [3, 4, 16, 17, 18])]) (ts := [(94, m94)]) (ws := []) (is := []) (ls := [(72, 0, l72_0)]) (lvl := 0) mixed k72 Tryd.func72 (by kernel_rfl) (loops_cons ok72_0 noLoop) (allT_cons meets94 allT_nil) allM_nil noI fun w xs us r hl hv h => ?_
  unfold m72 at h
  split at h
  · rename_i g0 a0_0 g1 a0_1 g2 a0_2
    obtain ⟨hg, h⟩ := bif_pair h
    simp only [Bool.and_eq_true] at hg
    obtain ⟨⟨q0, q1⟩, q2⟩ := hg
    obtain rfl := ctsEq_eq _ _ q0
    obtain rfl := ctsEq_eq _ _ q1
    obtain rfl := ctsEq_eq _ _ q2
    obtain ⟨h1, rfl⟩ := pair_inj h
    exact r72 a0_0 a0_1 a0_2 h1
  · cases h

/-! ### 78 strconv.Itoa -/
def q78 (a0 : Int) : Bool := decide (-9223372036854775808 ≤ a0) && decide (a0 ≤ 9223372036854775807)
def v78_0 (a0 : Int) : ByteArray := itoaB a0
def m78 : TModel := itoaM
theorem k78 : Known Tryd.prog 78 := ⟨Tryd.f78, Tryd.func78, by kernel_rfl, by kernel_rfl⟩
theorem meets78 : Meets Tryd.prog 78 m78 := itoa_meets ⟨k78, fun n w h0 h1 hG => Any.strconv_Itoa lays171 n h0 h1 w hG⟩

/-! ### 44 loop.example/g01984/impl.FormatInt -/
noncomputable def c44 : Cfg := cfg Tryd.prog [(44, 999, [2])] [(78, m78)] [] [] []
def q44 (a0 : Int) : Bool := q78 a0
def v44_0 (a0 : Int) : ByteArray := (v78_0 a0)
theorem e44 (a0 : Int) : funA c44 0 44 [AV.int .i64 a0] = (bif q78 a0 then some (AV.str (v78_0 a0))
  else none) := by kernel_rfl
theorem r44 (a0 : Int) (h : q44 a0 = true) : funA c44 0 44 [AV.int .i64 a0] = some (AV.str (v44_0 a0)) := (e44 a0).trans ((brL1 (fun _ => rfl)) h)
def m44 : TModel
  | [.int .i64 a0] => some (q44 a0, AV.str (v44_0 a0))
  | _ => none
theorem k44 : Known Tryd.prog 44 := ⟨Tryd.f44, Tryd.func44, by kernel_rfl, by kernel_rfl⟩
theorem meets44 : Meets Tryd.prog 44 m44 := by
  refine meet (f := Tryd.f44) (l := []) (hs := [(44, 999, [2])]) (ts := [(78, m78)]) (ws := []) (is := []) (ls := []) (lvl := 0) mixed k44 Tryd.func44 (by kernel_rfl) noLoop (allT_cons meets78 allT_nil) allM_nil noI fun w xs us r hl hv h => ?_
  unfold m44 at h
  split at h
  · rename_i a0
    obtain ⟨h1, rfl⟩ := pair_inj h
    exact r44 a0 h1
  · cases h

/-! ### 47 loop.example/g01984/impl.sum -/
def F47_0 (t6 : List AV) (t7 : Int) (t3 : Int) (t8 : Int) : Out ((Int × Int)) (Int) := (bif decide (t8 < t7) then (bif (decide (0 ≤ t8) && decide (t8 < (t6.length : Int))) then .next (IntKind.i64.wrap (t3 + fI (t6.getD t8.toNat AV.undef) 0), IntKind.i64.wrap (t8 + 1))
  else .fail)
  else .stop t3)
def R47_0 (t6 : List AV) (t7 : Int) : ((Int × Int)) → Out ((Int × Int)) (Int) := fun s : Int × Int => F47_0 t6 t7 s.1 s.2
def l47_0 : LModel := fun _ _ st k => match st with
  | ⟨[(3, .int .i64 t3), (6, .sl g0 t6), (7, .int .i64 t7), (8, .int .i64 t8)], []⟩ => bif ctsEq g0 ([.int .i64]) then ro (runW (R47_0 t6 t7) ((t7 - t8).toNat + 1) (t3, t8)) none (fun p : Int => k (.exit 0) ⟨[(3, AV.int .i64 p)], []⟩) else none
  | _ => none
noncomputable def c47 : Cfg := cfg Tryd.prog [(47, 0, [3, 6, 7, 8]), (47, 999, [2]), (47, 1000, [3]), (47, 1001, [3, 6, 7, 8])] [] [] [] [(47, 0, l47_0)]
theorem s47_0 (ce : CallE) (t3 : Int) (t6 : List AV) (t7 : Int) (t8 : Int) (next : St → Option AV) (k : Kont) : stepA (codeA c47 ce [] 47 0 (sub [1, 1, 0, 1, 0, 0] (body Tryd.f47))) (normA [] [3, 6, 7, 8]) next ⟨[(3, AV.int .i64 t3), (6, AV.sl [.int .i64] t6), (7, AV.int .i64 t7), (8, AV.int .i64 t8)], []⟩ k = (bif decide (t8 < t7) then (bif (decide (0 ≤ t8) && decide (t8 < (t6.length : Int))) then next ⟨[(3, AV.int .i64 (IntKind.i64.wrap (t3 + fI (t6.getD t8.toNat AV.undef) 0))), (6, AV.sl [.int .i64] t6), (7, AV.int .i64 t7), (8, AV.int .i64 (IntKind.i64.wrap (t8 + 1)))], []⟩
  else none)
  else k (.exit 0) ⟨[(3, AV.int .i64 t3)], []⟩) := by kernel_rfl
theorem st47_0 (t6 : List AV) (t7 : Int) (ce : CallE) (k : Kont) (s : (Int × Int)) (next : St → Option AV) : stepA (codeA c47 ce [] 47 0 (sub [1, 1, 0, 1, 0, 0] (body Tryd.f47))) (normA [] [3, 6, 7, 8]) next ((fun s : Int × Int => ⟨[(3, AV.int .i64 s.1), (6, AV.sl [.int .i64] t6), (7, AV.int .i64 t7), (8, AV.int .i64 s.2)], []⟩) s) k = (R47_0 t6 t7 s).el none (fun s => next ((fun s : Int × Int => ⟨[(3, AV.int .i64 s.1), (6, AV.sl [.int .i64] t6), (7, AV.int .i64 t7), (8, AV.int .i64 s.2)], []⟩) s)) (fun p : Int => k (.exit 0) ⟨[(3, AV.int .i64 p)], []⟩) := (s47_0 ce s.1 t6 t7 s.2 next k).trans (by unfold R47_0; unfold F47_0; simp only [el_cond, el_ro, el_sum, el_fail, el_next, el_stop] <;> rfl)
theorem ok47_0 {ce : CallE} : LoopOK c47 ce [] 47 0 (sub [1, 1, 0, 1, 0, 0] (body Tryd.f47)) := by
  intro m hm st k r h
  obtain rfl : l47_0 = m := Option.some.inj hm
  unfold l47_0 at h
  split at h
  · rename_i t3 g0 t6 t7 t8
    obtain ⟨hg, h⟩ := bif_some h
    have q0 := hg
    obtain rfl := ctsEq_eq _ _ q0
    refine ⟨((t7 - t8).toNat + 1), ?_⟩
    rw [← h]
    exact loop_run (fun s : Int × Int => ⟨[(3, AV.int .i64 s.1), (6, AV.sl [.int .i64] t6), (7, AV.int .i64 t7), (8, AV.int .i64 s.2)], []⟩) (fun p : Int => k (.exit 0) ⟨[(3, AV.int .i64 p)], []⟩) (st47_0 t6 t7 ce k) _ (t3, t8)
  · cases h
def q47 (a0 : List AV) : Bool := (ro (runW (R47_0 a0 (a0.length : Int)) (((a0.length : Int) - 0).toNat + 1) (0, 0)) false (fun p36 => true))
def v47_0 (a0 : List AV) : Int := (ro (runW (R47_0 a0 (a0.length : Int)) (((a0.length : Int) - 0).toNat + 1) (0, 0)) 0 (fun p36 => p36))
theorem e47 (a0 : List AV) : funA c47 0 47 [AV.sl [.int .i64] a0] = (ro (runW (R47_0 a0 (a0.length : Int)) (((a0.length : Int) - 0).toNat + 1) (0, 0)) none (fun p36 => some (AV.int .i64 p36))) := by kernel_rfl
theorem r47 (a0 : List AV) (h : q47 a0 = true) : funA c47 0 47 [AV.sl [.int .i64] a0] = some (AV.int .i64 (v47_0 a0)) := (e47 a0).trans ((brO (fun o : Option (Int) => some (AV.int .i64 (ro o 0 (fun p36 => p36)))) (fun p36 => (fun _ => rfl))) h)
def m47 : TModel
  | [.sl g0 a0] => bif ctsEq g0 ([.int .i64]) then some (q47 a0, AV.int .i64 (v47_0 a0)) else none
  | _ => none
theorem k47 : Known Tryd.prog 47 := ⟨Tryd.f47, Tryd.func47, by kernel_rfl, by kernel_rfl⟩
theorem meets47 : Meets Tryd.prog 47 m47 := by
  refine meet (f := Tryd.f47) (l := [(0, sub [1, 1, 0, 1, 0, 0] (body Tryd.f47))]) (hs := [(47, 0, [3, 6, 7, 8]), (47, 999, [2]), (47, 1000, [3]), (47, 1001, [3, 6, 7, 8])]) (ts := []) (ws := []) (is := []) (ls := [(47, 0, l47_0)]) (lvl := 0) mixed k47 Tryd.func47 (by kernel_rfl) (loops_cons ok47_0 noLoop) allT_nil allM_nil noI fun w xs us r hl hv h => ?_
  unfold m47 at h
  split at h
  · rename_i g0 a0
    obtain ⟨hg, h⟩ := bif_pair h
    have q0 := hg
    obtain rfl := ctsEq_eq _ _ q0
    obtain ⟨h1, rfl⟩ := pair_inj h
    exact r47 a0 h1
  · cases h

/-! ### 95 slices.Min[[]int,int] -/
def F95_0 (t0 : List AV) (t3 : Int) (t4 : Int) : Out ((Int × Int)) (Int) := (bif decide (t4 < (t0.length : Int)) then (bif (decide (0 ≤ t4) && decide (t4 < (t0.length : Int))) then .next ((if fI (t0.getD t4.toNat AV.undef) 0 < t3 then fI (t0.getD t4.toNat AV.undef) 0 else t3), IntKind.i64.wrap (t4 + 1))
  else .fail)
  else .stop t3)
def R95_0 (t0 : List AV) : ((Int × Int)) → Out ((Int × Int)) (Int) := fun s : Int × Int => F95_0 t0 s.1 s.2
def l95_0 : LModel := fun _ _ st k => match st with
  | ⟨[(0, .sl g0 t0), (3, .int .i64 t3), (4, .int .i64 t4)], []⟩ => bif ctsEq g0 ([.int .i64]) then ro (runW (R95_0 t0) (((t0.length : Int) - t4).toNat + 1) (t3, t4)) none (fun p : Int => k (.exit 0) ⟨[(3, AV.int .i64 p)], []⟩) else none
  | _ => none
noncomputable def c95 : Cfg := cfg Tryd.prog [(95, 0, [0, 3, 4]), (95, 999, [2]), (95, 1000, [3]), (95, 1001, [0, 3, 4])] [] [] [] [(95, 0, l95_0)]
theorem s95_0 (ce : CallE) (t0 : List AV) (t3 : Int) (t4 : Int) (next : St → Option AV) (k : Kont) : stepA (codeA c95 ce [] 95 0 (sub [1, 1, 1, 0, 1, 0, 0] (body Tryd.f95))) (normA [] [0, 3, 4]) next ⟨[(0, AV.sl [.int .i64] t0), (3, AV.int .i64 t3), (4, AV.int .i64 t4)], []⟩ k = (bif decide (t4 < (t0.length : Int)) then (bif (decide (0 ≤ t4) && decide (t4 < (t0.length : Int))) then next ⟨[(0, AV.sl [.int .i64] t0), (3, AV.int .i64 (if fI (t0.getD t4.toNat AV.undef) 0 < t3 then fI (t0.getD t4.toNat AV.undef) 0 else t3)), (4, AV.int .i64 (IntKind.i64.wrap (t4 + 1)))], []⟩
  else none)
  else k (.exit 0) ⟨[(3, AV.int .i64 t3)], []⟩) := by kernel_rfl
theorem st95_0 (t0 : List AV) (ce : CallE) (k : Kont) (s : (Int × Int)) (next : St → Option AV) : stepA (codeA c95 ce [] 95 0 (sub [1, 1, 1, 0, 1, 0, 0] (body Tryd.f95))) (normA [] [0, 3, 4]) next ((fun s : Int × Int => ⟨[(0, AV.sl [.int .i64] t0), (3, AV.int .i64 s.1), (4, AV.int .i64 s.2)], []⟩) s) k = (R95_0 t0 s).el none (fun s => next ((fun s : Int × Int => ⟨[(0, AV.sl [.int .i64] t0), (3, AV.int .i64 s.1), (4, AV.int .i64 s.2)], []⟩) s)) (fun p : Int => k (.exit 0) ⟨[(3, AV.int .i64 p)], []⟩) := (s95_0 ce t0 s.1 s.2 next k).trans (by unfold R95_0; unfold F95_0; simp only [el_cond, el_ro, el_sum, el_fail, el_next, el_stop] <;> rfl)
theorem ok95_0 {ce : CallE} : LoopOK c95 ce [] 95 0 (sub [1, 1, 1, 0, 1, 0, 0] (body Tryd.f95)) := by
  intro m hm st k r h
  obtain rfl : l95_0 = m := Option.some.inj hm
  unfold l95_0 at h
  split at h
  · rename_i g0 t0 t3 t4
    obtain ⟨hg, h⟩ := bif_some h
    have q0 := hg
    obtain rfl := ctsEq_eq _ _ q0
    refine ⟨(((t0.length : Int) - t4).toNat + 1), ?_⟩
    rw [← h]
    exact loop_run (fun s : Int × Int => ⟨[(0, AV.sl [.int .i64] t0), (3, AV.int .i64 s.1), (4, AV.int .i64 s.2)], []⟩) (fun p : Int => k (.exit 0) ⟨[(3, AV.int .i64 p)], []⟩) (st95_0 t0 ce k) _ (t3, t4)
  · cases h
def q95 (a0 : List AV) : Bool := (!(decide ((a0.length : Int) < 1)) && ((decide (0 ≤ 0) && decide (0 < (a0.length : Int))) && (ro (runW (R95_0 a0) (((a0.length : Int) - 1).toNat + 1) (fI (a0.getD (0 : Int).toNat AV.undef) 0, 1)) false (fun p37 => true))))
def v95_0 (a0 : List AV) : Int := (ro (runW (R95_0 a0) (((a0.length : Int) - 1).toNat + 1) (fI (a0.getD (0 : Int).toNat AV.undef) 0, 1)) 0 (fun p37 => p37))
theorem e95 (a0 : List AV) : funA c95 0 95 [AV.sl [.int .i64] a0] = (bif decide ((a0.length : Int) < 1) then none
  else (bif (decide (0 ≤ 0) && decide (0 < (a0.length : Int))) then (ro (runW (R95_0 a0) (((a0.length : Int) - 1).toNat + 1) (fI (a0.getD (0 : Int).toNat AV.undef) 0, 1)) none (fun p37 => some (AV.int .i64 p37)))
  else none)) := by kernel_rfl
theorem r95 (a0 : List AV) (h : q95 a0 = true) : funA c95 0 95 [AV.sl [.int .i64] a0] = some (AV.int .i64 (v95_0 a0)) := (e95 a0).trans ((brR (brL (brO (fun o : Option (Int) => some (AV.int .i64 (ro o 0 (fun p37 => p37)))) (fun p37 => (fun _ => rfl))))) h)
def m95 : TModel
  | [.sl g0 a0] => bif ctsEq g0 ([.int .i64]) then some (q95 a0, AV.int .i64 (v95_0 a0)) else none
  | _ => none
theorem k95 : Known Tryd.prog 95 := ⟨Tryd.f95, Tryd.func95, by kernel_rfl, by kernel_rfl⟩
theorem meets95 : Meets Tryd.prog 95 m95 := by
  refine meet (f := Tryd.f95) (l := [(0, sub [1, 1, 1, 0, 1, 0, 0] (body Tryd.f95))]) (hs := [(95, 0, [0, 3, 4]), (95, 999, [2]), (95, 1000, [3]), (95, 1001, [0, 3, 4])]) (ts := []) (ws := []) (is := []) (ls := [(95, 0, l95_0)]) (lvl := 0) mixed k95 Tryd.func95 (by kernel_rfl) (loops_cons ok95_0 noLoop) allT_nil allM_nil noI fun w xs us r hl hv h => ?_
  unfold m95 at h
  split at h
  · rename_i g0 a0
    obtain ⟨hg, h⟩ := bif_pair h
    have q0 := hg
    obtain rfl := ctsEq_eq _ _ q0
    obtain ⟨h1, rfl⟩ := pair_inj h
    exact r95 a0 h1
  · cases h

/-! ### 96 slices.Max[[]int,int] -/
def F96_0 (t0 : List AV) (t3 : Int) (t4 : Int) : Out ((Int × Int)) (Int) := (bif decide (t4 < (t0.length : Int)) then (bif (decide (0 ≤ t4) && decide (t4 < (t0.length : Int))) then .next ((if fI (t0.getD t4.toNat AV.undef) 0 > t3 then fI (t0.getD t4.toNat AV.undef) 0 else t3), IntKind.i64.wrap (t4 + 1))
  else .fail)
  else .stop t3)
def R96_0 (t0 : List AV) : ((Int × Int)) → Out ((Int × Int)) (Int) := fun s : Int × Int => F96_0 t0 s.1 s.2
def l96_0 : LModel := fun _ _ st k => match st with
  | ⟨[(0, .sl g0 t0), (3, .int .i64 t3), (4, .int .i64 t4)], []⟩ => bif ctsEq g0 ([.int .i64]) then ro (runW (R96_0 t0) (((t0.length : Int) - t4).toNat + 1) (t3, t4)) none (fun p : Int => k (.exit 0) ⟨[(3, AV.int .i64 p)], []⟩) else none
  | _ => none
noncomputable def c96 : Cfg := cfg Tryd.prog [(96, 0, [0, 3, 4]), (96, 999, [2]), (96, 1000, [3]), (96, 1001, [0, 3, 4])] [] [] [] [(96, 0, l96_0)]
theorem s96_0 (ce : CallE) (t0 : List AV) (t3 : Int) (t4 : Int) (next : St → Option AV) (k : Kont) : stepA (codeA c96 ce [] 96 0 (sub [1, 1, 1, 0, 1, 0, 0] (body Tryd.f96))) (normA [] [0, 3, 4]) next ⟨[(0, AV.sl [.int .i64] t0), (3, AV.int .i64 t3), (4, AV.int .i64 t4)], []⟩ k = (bif decide (t4 < (t0.length : Int)) then (bif (decide (0 ≤ t4) && decide (t4 < (t0.length : Int))) then next ⟨[(0, AV.sl [.int .i64] t0), (3, AV.int .i64 (if fI (t0.getD t4.toNat AV.undef) 0 > t3 then fI (t0.getD t4.toNat AV.undef) 0 else t3)), (4, AV.int .i64 (IntKind.i64.wrap (t4 + 1)))], []⟩
  else none)
  else k (.exit 0) ⟨[(3, AV.int .i64 t3)], []⟩) := by kernel_rfl
theorem st96_0 (t0 : List AV) (ce : CallE) (k : Kont) (s : (Int × Int)) (next : St → Option AV) : stepA (codeA c96 ce [] 96 0 (sub [1, 1, 1, 0, 1, 0, 0] (body Tryd.f96))) (normA [] [0, 3, 4]) next ((fun s : Int × Int => ⟨[(0, AV.sl [.int .i64] t0), (3, AV.int .i64 s.1), (4, AV.int .i64 s.2)], []⟩) s) k = (R96_0 t0 s).el none (fun s => next ((fun s : Int × Int => ⟨[(0, AV.sl [.int .i64] t0), (3, AV.int .i64 s.1), (4, AV.int .i64 s.2)], []⟩) s)) (fun p : Int => k (.exit 0) ⟨[(3, AV.int .i64 p)], []⟩) := (s96_0 ce t0 s.1 s.2 next k).trans (by unfold R96_0; unfold F96_0; simp only [el_cond, el_ro, el_sum, el_fail, el_next, el_stop] <;> rfl)
theorem ok96_0 {ce : CallE} : LoopOK c96 ce [] 96 0 (sub [1, 1, 1, 0, 1, 0, 0] (body Tryd.f96)) := by
  intro m hm st k r h
  obtain rfl : l96_0 = m := Option.some.inj hm
  unfold l96_0 at h
  split at h
  · rename_i g0 t0 t3 t4
    obtain ⟨hg, h⟩ := bif_some h
    have q0 := hg
    obtain rfl := ctsEq_eq _ _ q0
    refine ⟨(((t0.length : Int) - t4).toNat + 1), ?_⟩
    rw [← h]
    exact loop_run (fun s : Int × Int => ⟨[(0, AV.sl [.int .i64] t0), (3, AV.int .i64 s.1), (4, AV.int .i64 s.2)], []⟩) (fun p : Int => k (.exit 0) ⟨[(3, AV.int .i64 p)], []⟩) (st96_0 t0 ce k) _ (t3, t4)
  · cases h
def q96 (a0 : List AV) : Bool := (!(decide ((a0.length : Int) < 1)) && ((decide (0 ≤ 0) && decide (0 < (a0.length : Int))) && (ro (runW (R96_0 a0) (((a0.length : Int) - 1).toNat + 1) (fI (a0.getD (0 : Int).toNat AV.undef) 0, 1)) false (fun p38 => true))))
def v96_0 (a0 : List AV) : Int := (ro (runW (R96_0 a0) (((a0.length : Int) - 1).toNat + 1) (fI (a0.getD (0 : Int).toNat AV.undef) 0, 1)) 0 (fun p38 => p38))
theorem e96 (a0 : List AV) : funA c96 0 96 [AV.sl [.int .i64] a0] = (bif decide ((a0.length : Int) < 1) then none
  else (bif (decide (0 ≤ 0) && decide (0 < (a0.length : Int))) then (ro (runW (R96_0 a0) (((a0.length : Int) - 1).toNat + 1) (fI (a0.getD (0 : Int).toNat AV.undef) 0, 1)) none (fun p38 => some (AV.int .i64 p38)))
  else none)) := by kernel_rfl
theorem r96 (a0 : List AV) (h : q96 a0 = true) : funA c96 0 96 [AV.sl [.int .i64] a0] = some (AV.int .i64 (v96_0 a0)) := (e96 a0).trans ((brR (brL (brO (fun o : Option (Int) => some (AV.int .i64 (ro o 0 (fun p38 => p38)))) (fun p38 => (fun _ => rfl))))) h)
def m96 : TModel
  | [.sl g0 a0] => bif ctsEq g0 ([.int .i64]) then some (q96 a0, AV.int .i64 (v96_0 a0)) else none
  | _ => none
theorem k96 : Known Tryd.prog 96 := ⟨Tryd.f96, Tryd.func96, by kernel_rfl, by kernel_rfl⟩
theorem meets96 : Meets Tryd.prog 96 m96 := by
  refine meet (f := Tryd.f96) (l := [(0, sub [1, 1, 1, 0, 1, 0, 0] (body Tryd.f96))]) (hs := [(96, 0, [0, 3, 4]), (96, 999, [2]), (96, 1000, [3]), (96, 1001, [0, 3, 4])]) (ts := []) (ws := []) (is := []) (ls := [(96, 0, l96_0)]) (lvl := 0) mixed k96 Tryd.func96 (by kernel_rfl) (loops_cons ok96_0 noLoop) allT_nil allM_nil noI fun w xs us r hl hv h => ?_
  unfold m96 at h
  split at h
  · rename_i g0 a0
    obtain ⟨hg, h⟩ := bif_pair h
    have q0 := hg
    obtain rfl := ctsEq_eq _ _ q0
    obtain ⟨h1, rfl⟩ := pair_inj h
    exact r96 a0 h1
  · cases h

/-! ### 74 loop.example/g01984/impl.AggregateOf -/
noncomputable def c74 : Cfg := cfg Tryd.prog [(74, 999, [2])] [(47, m47), (90, m90), (95, m95), (96, m96)] [] [] []
def q74 (a0 : List AV) : Bool := (bif decide ((a0.length : Int) = 0) then true else (q90 a0 && (bif !(v90_0 a0) then true else (q47 a0 && (q95 a0 && q96 a0)))))
def v74_0 (a0 : List AV) : Int := (bif decide ((a0.length : Int) = 0) then 0 else (bif !(v90_0 a0) then 0 else (a0.length : Int)))
def v74_1 (a0 : List AV) : Int := (bif decide ((a0.length : Int) = 0) then 0 else (bif !(v90_0 a0) then 0 else (v47_0 a0)))
def v74_2 (a0 : List AV) : Int := (bif decide ((a0.length : Int) = 0) then 0 else (bif !(v90_0 a0) then 0 else (v95_0 a0)))
def v74_3 (a0 : List AV) : Int := (bif decide ((a0.length : Int) = 0) then 0 else (bif !(v90_0 a0) then 0 else (v96_0 a0)))
theorem e74 (a0 : List AV) : funA c74 0 74 [AV.sl [.int .i64] a0] = (bif decide ((a0.length : Int) = 0) then some (AV.agg [AV.int .i64 0, AV.int .i64 0, AV.int .i64 0, AV.int .i64 0])
  else (bif q90 a0 then (bif !(v90_0 a0) then some (AV.agg [AV.int .i64 0, AV.int .i64 0, AV.int .i64 0, AV.int .i64 0])
  else (bif q47 a0 then (bif q95 a0 then (bif q96 a0 then some (AV.agg [AV.int .i64 (a0.length : Int), AV.int .i64 (v47_0 a0), AV.int .i64 (v95_0 a0), AV.int .i64 (v96_0 a0)])
  else none)
  else none)
  else none))
  else none)) := by kernel_rfl
theorem r74 (a0 : List AV) (h : q74 a0 = true) : funA c74 0 74 [AV.sl [.int .i64] a0] = some (AV.agg [AV.int .i64 (v74_0 a0), AV.int .i64 (v74_1 a0), AV.int .i64 (v74_2 a0), AV.int .i64 (v74_3 a0)]) := (e74 a0).trans ((br (fun b => some (AV.agg [AV.int .i64 (bif b then 0 else (bif !(v90_0 a0) then 0 else (a0.length : Int))), AV.int .i64 (bif b then 0 else (bif !(v90_0 a0) then 0 else (v47_0 a0))), AV.int .i64 (bif b then 0 else (bif !(v90_0 a0) then 0 else (v95_0 a0))), AV.int .i64 (bif b then 0 else (bif !(v90_0 a0) then 0 else (v96_0 a0)))])) (fun _ => rfl) (brL (br (fun b => some (AV.agg [AV.int .i64 (bif b then 0 else (a0.length : Int)), AV.int .i64 (bif b then 0 else (v47_0 a0)), AV.int .i64 (bif b then 0 else (v95_0 a0)), AV.int .i64 (bif b then 0 else (v96_0 a0))])) (fun _ => rfl) (brL (brL (brL1 (fun _ => rfl))))))) h)
def m74 : TModel
  | [.sl g0 a0] => bif ctsEq g0 ([.int .i64]) then some (q74 a0, AV.agg [AV.int .i64 (v74_0 a0), AV.int .i64 (v74_1 a0), AV.int .i64 (v74_2 a0), AV.int .i64 (v74_3 a0)]) else none
  | _ => none
theorem k74 : Known Tryd.prog 74 := ⟨Tryd.f74, Tryd.func74, by kernel_rfl, by kernel_rfl⟩
theorem meets74 : Meets Tryd.prog 74 m74 := by
  refine meet (f := Tryd.f74) (l := []) (hs := [(74, 999, [2])]) (ts := [(47, m47), (90, m90), (95, m95), (96, m96)]) (ws := []) (is := []) (ls := []) (lvl := 0) mixed k74 Tryd.func74 (by kernel_rfl) noLoop (allT_cons meets47 (allT_cons meets90 (allT_cons meets95 (allT_cons meets96 allT_nil)))) allM_nil noI fun w xs us r hl hv h => ?_
  unfold m74 at h
  split at h
  · rename_i g0 a0
    obtain ⟨hg, h⟩ := bif_pair h
    have q0 := hg
    obtain rfl := ctsEq_eq _ _ q0
    obtain ⟨h1, rfl⟩ := pair_inj h
    exact r74 a0 h1
  · cases h

/-! ### 73 loop.example/g01984/impl.FormatAggregate -/
noncomputable def c73 : Cfg := cfg Tryd.prog [(73, 999, [2])] [(44, m44)] [] [] []
def q73 (a0_0 : Int) (a0_1 : Int) (a0_2 : Int) (a0_3 : Int) : Bool := (bif decide (a0_0 ≤ 0) then true else (q44 a0_0 && (decide ((v44_0 a0_0).size + (ByteArray.mk #[32, 115, 117, 109, 32]).size ≤ 4611686018427387904) && (q44 a0_1 && (decide (((v44_0 a0_0) ++ (ByteArray.mk #[32, 115, 117, 109, 32])).size + (v44_0 a0_1).size ≤ 4611686018427387904) && (decide ((((v44_0 a0_0) ++ (ByteArray.mk #[32, 115, 117, 109, 32])) ++ (v44_0 a0_1)).size + (ByteArray.mk #[32, 102, 114, 111, 109, 32]).size ≤ 4611686018427387904) && (q44 a0_2 && (decide (((((v44_0 a0_0) ++ (ByteArray.mk #[32, 115, 117, 109, 32])) ++ (v44_0 a0_1)) ++ (ByteArray.mk #[32, 102, 114, 111, 109, 32])).size + (v44_0 a0_2).size ≤ 4611686018427387904) && (decide ((((((v44_0 a0_0) ++ (ByteArray.mk #[32, 115, 117, 109, 32])) ++ (v44_0 a0_1)) ++ (ByteArray.mk #[32, 102, 114, 111, 109, 32])) ++ (v44_0 a0_2)).size + (ByteArray.mk #[32, 116, 111, 32]).size ≤ 4611686018427387904) && (q44 a0_3 && decide (((((((v44_0 a0_0) ++ (ByteArray.mk #[32, 115, 117, 109, 32])) ++ (v44_0 a0_1)) ++ (ByteArray.mk #[32, 102, 114, 111, 109, 32])) ++ (v44_0 a0_2)) ++ (ByteArray.mk #[32, 116, 111, 32])).size + (v44_0 a0_3).size ≤ 4611686018427387904)))))))))))
def v73_0 (a0_0 : Int) (a0_1 : Int) (a0_2 : Int) (a0_3 : Int) : ByteArray := (bif decide (a0_0 ≤ 0) then (ByteArray.mk #[110, 111, 110, 101]) else ((((((v44_0 a0_0) ++ (ByteArray.mk #[32, 115, 117, 109, 32])) ++ (v44_0 a0_1)) ++ (ByteArray.mk #[32, 102, 114, 111, 109, 32])) ++ (v44_0 a0_2)) ++ (ByteArray.mk #[32, 116, 111, 32])) ++ (v44_0 a0_3))
theorem e73 (a0_0 : Int) (a0_1 : Int) (a0_2 : Int) (a0_3 : Int) : funA c73 0 73 [AV.agg [AV.int .i64 a0_0, AV.int .i64 a0_1, AV.int .i64 a0_2, AV.int .i64 a0_3]] = (bif decide (a0_0 ≤ 0) then some (AV.str (ByteArray.mk #[110, 111, 110, 101]))
  else (bif q44 a0_0 then (bif decide ((v44_0 a0_0).size + (ByteArray.mk #[32, 115, 117, 109, 32]).size ≤ 4611686018427387904) then (bif q44 a0_1 then (bif decide (((v44_0 a0_0) ++ (ByteArray.mk #[32, 115, 117, 109, 32])).size + (v44_0 a0_1).size ≤ 4611686018427387904) then (bif decide ((((v44_0 a0_0) ++ (ByteArray.mk #[32, 115, 117, 109, 32])) ++ (v44_0 a0_1)).size + (ByteArray.mk #[32, 102, 114, 111, 109, 32]).size ≤ 4611686018427387904) then (bif q44 a0_2 then (bif decide (((((v44_0 a0_0) ++ (ByteArray.mk #[32, 115, 117, 109, 32])) ++ (v44_0 a0_1)) ++ (ByteArray.mk #[32, 102, 114, 111, 109, 32])).size + (v44_0 a0_2).size ≤ 4611686018427387904) then (bif decide ((((((v44_0 a0_0) ++ (ByteArray.mk #[32, 115, 117, 109, 32])) ++ (v44_0 a0_1)) ++ (ByteArray.mk #[32, 102, 114, 111, 109, 32])) ++ (v44_0 a0_2)).size + (ByteArray.mk #[32, 116, 111, 32]).size ≤ 4611686018427387904) then (bif q44 a0_3 then (bif decide (((((((v44_0 a0_0) ++ (ByteArray.mk #[32, 115, 117, 109, 32])) ++ (v44_0 a0_1)) ++ (ByteArray.mk #[32, 102, 114, 111, 109, 32])) ++ (v44_0 a0_2)) ++ (ByteArray.mk #[32, 116, 111, 32])).size + (v44_0 a0_3).size ≤ 4611686018427387904) then some (AV.str (((((((v44_0 a0_0) ++ (ByteArray.mk #[32, 115, 117, 109, 32])) ++ (v44_0 a0_1)) ++ (ByteArray.mk #[32, 102, 114, 111, 109, 32])) ++ (v44_0 a0_2)) ++ (ByteArray.mk #[32, 116, 111, 32])) ++ (v44_0 a0_3)))
  else none)
  else none)
  else none)
  else none)
  else none)
  else none)
  else none)
  else none)
  else none)
  else none)) := by kernel_rfl
theorem r73 (a0_0 : Int) (a0_1 : Int) (a0_2 : Int) (a0_3 : Int) (h : q73 a0_0 a0_1 a0_2 a0_3 = true) : funA c73 0 73 [AV.agg [AV.int .i64 a0_0, AV.int .i64 a0_1, AV.int .i64 a0_2, AV.int .i64 a0_3]] = some (AV.str (v73_0 a0_0 a0_1 a0_2 a0_3)) := (e73 a0_0 a0_1 a0_2 a0_3).trans ((br (fun b => some (AV.str (bif b then (ByteArray.mk #[110, 111, 110, 101]) else ((((((v44_0 a0_0) ++ (ByteArray.mk #[32, 115, 117, 109, 32])) ++ (v44_0 a0_1)) ++ (ByteArray.mk #[32, 102, 114, 111, 109, 32])) ++ (v44_0 a0_2)) ++ (ByteArray.mk #[32, 116, 111, 32])) ++ (v44_0 a0_3)))) (fun _ => rfl) (brL (brL (brL (brL (brL (brL (brL (brL (brL (brL1 (fun _ => rfl)))))))))))) h)
def m73 : TModel
  | [.agg [.int .i64 a0_0, .int .i64 a0_1, .int .i64 a0_2, .int .i64 a0_3]] => some (q73 a0_0 a0_1 a0_2 a0_3, AV.str (v73_0 a0_0 a0_1 a0_2 a0_3))
  | _ => none
theorem k73 : Known Tryd.prog 73 := ⟨Tryd.f73, Tryd.func73, by kernel_rfl, by kernel_rfl⟩
theorem meets73 : Meets Tryd.prog 73 m73 := by
  refine meet (f := Tryd.f73) (l := []) (hs := [(73, 999, [2])]) (ts := [(44, m44)]) (ws := []) (is := []) (ls := []) (lvl := 0) mixed k73 Tryd.func73 (by kernel_rfl) noLoop (allT_cons meets44 allT_nil) allM_nil noI fun w xs us r hl hv h => ?_
  unfold m73 at h
  split at h
  · rename_i a0_0 a0_1 a0_2 a0_3
    obtain ⟨h1, rfl⟩ := pair_inj h
    exact r73 a0_0 a0_1 a0_2 a0_3 h1
  · cases h

/-! ### 98 loop.example/g01984/impl.elements -/
def F98_0 (t2 : Int) (h0_0 : List AV) (h0_1 : List AV) (h0_2 : List AV) (t8 : Int) (h1 : List AV) : Out ((Int × (List AV))) (((List AV))) := (bif decide (t8 < t2) then (bif (decide (0 ≤ t8) && decide (t8 < (h0_0.length : Int))) then (bif (decide (0 ≤ t8) && decide (t8 < (h0_1.length : Int))) then (bif (decide ((h1.length + ([AV.agg [AV.int .i64 (fI (h0_0.getD t8.toNat AV.undef) 0), AV.int .i64 (fI (h0_1.getD t8.toNat AV.undef) 0)]]).length) * 16 ≤ 140737488355328) && decide ((h1.length + ([AV.agg [AV.int .i64 (fI (h0_0.getD t8.toNat AV.undef) 0), AV.int .i64 (fI (h0_1.getD t8.toNat AV.undef) 0)]]).length) ≤ 140737488355328)) then .next (IntKind.i64.wrap (t8 + 1), h1 ++ ([AV.agg [AV.int .i64 (fI (h0_0.getD t8.toNat AV.undef) 0), AV.int .i64 (fI (h0_1.getD t8.toNat AV.undef) 0)]]))
  else .fail)
  else .fail)
  else .fail)
  else .stop h1)
def R98_0 (t2 : Int) (h0_0 : List AV) (h0_1 : List AV) (h0_2 : List AV) : ((Int × (List AV))) → Out ((Int × (List AV))) (((List AV))) := fun s : Int × (List AV) => F98_0 t2 h0_0 h0_1 h0_2 s.1 s.2
def l98_0 : LModel := fun _ _ st k => match st with
  | ⟨[(2, .int .i64 t2), (3, .ptr g0 g1 g2), (7, .own g3), (8, .int .i64 t8)], [(g4, ⟨true, [], [.agg [.sl g5 h0_0, .sl g6 h0_1, .sl g7 h0_2]]⟩), (g8, ⟨false, g9, h1⟩)]⟩ => bif nmEq g0 ([0, 3]) && Nat.beq g1 0 && Nat.beq g2 0 && nmEq g3 ([0, 7]) && nmEq g4 ([0, 3]) && ctsEq g5 ([.int .i64]) && ctsEq g6 ([.int .i64]) && ctsEq g7 ([.int .i64, .int .i64]) && nmEq g8 ([0, 7]) && ctsEq g9 ([.int .i64, .int .i64]) then ro (runW (R98_0 t2 h0_0 h0_1 h0_2) ((t2 - t8).toNat + 1) (t8, h1)) none (fun p : (List AV) => k (.exit 0) ⟨[(7, AV.own [0, 7])], [([0, 3], ⟨true, [], [AV.agg [AV.sl [.int .i64] h0_0, AV.sl [.int .i64] h0_1, AV.sl [.int .i64, .int .i64] h0_2]]⟩), ([0, 7], ⟨false, [.int .i64, .int .i64], p⟩)]⟩) else none
  | _ => none
noncomputable def c98 : Cfg := cfg Tryd.prog [(98, 0, [2, 3, 7, 8]), (98, 999, [6]), (98, 1000, [7]), (98, 1001, [2, 3, 7, 8])] [] [] [] [(98, 0, l98_0)]
theorem s98_0 (ce : CallE) (t2 : Int) (t8 : Int) (h0_0 : List AV) (h0_1 : List AV) (h0_2 : List AV) (h1 : List AV) (next : St → Option AV) (k : Kont) : stepA (codeA c98 ce [] 98 0 (sub [1, 1, 0, 1, 0, 0] (body Tryd.f98))) (normA [] [2, 3, 7, 8]) next ⟨[(2, AV.int .i64 t2), (3, AV.ptr [0, 3] 0 0), (7, AV.own [0, 7]), (8, AV.int .i64 t8)], [([0, 3], ⟨true, [], [AV.agg [AV.sl [.int .i64] h0_0, AV.sl [.int .i64] h0_1, AV.sl [.int .i64, .int .i64] h0_2]]⟩), ([0, 7], ⟨false, [.int .i64, .int .i64], h1⟩)]⟩ k = (bif decide (t8 < t2) then (bif (decide (0 ≤ t8) && decide (t8 < (h0_0.length : Int))) then (bif (decide (0 ≤ t8) && decide (t8 < (h0_1.length : Int))) then (bif (decide ((h1.length + ([AV.agg [AV.int .i64 (fI (h0_0.getD t8.toNat AV.undef) 0), AV.int .i64 (fI (h0_1.getD t8.toNat AV.undef) 0)]]).length) * 16 ≤ 140737488355328) && decide ((h1.length + ([AV.agg [AV.int .i64 (fI (h0_0.getD t8.toNat AV.undef) 0), AV.int .i64 (fI (h0_1.getD t8.toNat AV.undef) 0)]]).length) ≤ 140737488355328)) then next ⟨[(2, AV.int .i64 t2), (3, AV.ptr [0, 3] 0 0), (7, AV.own [0, 7]), (8, AV.int .i64 (IntKind.i64.wrap (t8 + 1)))], [([0, 3], ⟨true, [], [AV.agg [AV.sl [.int .i64] h0_0, AV.sl [.int .i64] h0_1, AV.sl [.int .i64, .int .i64] h0_2]]⟩), ([0, 7], ⟨false, [.int .i64, .int .i64], h1 ++ ([AV.agg [AV.int .i64 (fI (h0_0.getD t8.toNat AV.undef) 0), AV.int .i64 (fI (h0_1.getD t8.toNat AV.undef) 0)]])⟩)]⟩
  else none)
  else none)
  else none)
  else k (.exit 0) ⟨[(7, AV.own [0, 7])], [([0, 3], ⟨true, [], [AV.agg [AV.sl [.int .i64] h0_0, AV.sl [.int .i64] h0_1, AV.sl [.int .i64, .int .i64] h0_2]]⟩), ([0, 7], ⟨false, [.int .i64, .int .i64], h1⟩)]⟩) := by kernel_rfl
theorem st98_0 (t2 : Int) (h0_0 : List AV) (h0_1 : List AV) (h0_2 : List AV) (ce : CallE) (k : Kont) (s : (Int × (List AV))) (next : St → Option AV) : stepA (codeA c98 ce [] 98 0 (sub [1, 1, 0, 1, 0, 0] (body Tryd.f98))) (normA [] [2, 3, 7, 8]) next ((fun s : Int × (List AV) => ⟨[(2, AV.int .i64 t2), (3, AV.ptr [0, 3] 0 0), (7, AV.own [0, 7]), (8, AV.int .i64 s.1)], [([0, 3], ⟨true, [], [AV.agg [AV.sl [.int .i64] h0_0, AV.sl [.int .i64] h0_1, AV.sl [.int .i64, .int .i64] h0_2]]⟩), ([0, 7], ⟨false, [.int .i64, .int .i64], s.2⟩)]⟩) s) k = (R98_0 t2 h0_0 h0_1 h0_2 s).el none (fun s => next ((fun s : Int × (List AV) => ⟨[(2, AV.int .i64 t2), (3, AV.ptr [0, 3] 0 0), (7, AV.own [0, 7]), (8, AV.int .i64 s.1)], [([0, 3], ⟨true, [], [AV.agg [AV.sl [.int .i64] h0_0, AV.sl [.int .i64] h0_1, AV.sl [.int .i64, .int .i64] h0_2]]⟩), ([0, 7], ⟨false, [.int .i64, .int .i64], s.2⟩)]⟩) s)) (fun p : (List AV) => k (.exit 0) ⟨[(7, AV.own [0, 7])], [([0, 3], ⟨true, [], [AV.agg [AV.sl [.int .i64] h0_0, AV.sl [.int .i64] h0_1, AV.sl [.int .i64, .int .i64] h0_2]]⟩), ([0, 7], ⟨false, [.int .i64, .int .i64], p⟩)]⟩) := (s98_0 ce t2 s.1 h0_0 h0_1 h0_2 s.2 next k).trans (by unfold R98_0; unfold F98_0; simp only [el_cond, el_ro, el_sum, el_fail, el_next, el_stop] <;> rfl)
theorem ok98_0 {ce : CallE} : LoopOK c98 ce [] 98 0 (sub [1, 1, 0, 1, 0, 0] (body Tryd.f98)) := by
  intro m hm st k r h
  obtain rfl : l98_0 = m := Option.some.inj hm
  unfold l98_0 at h
  split at h
  · rename_i t2 g0 g1 g2 g3 t8 g4 g5 h0_0 g6 h0_1 g7 h0_2 g8 g9 h1
    obtain ⟨hg, h⟩ := bif_some h
    simp only [Bool.and_eq_true] at hg
    obtain ⟨⟨⟨⟨⟨⟨⟨⟨⟨q0, q1⟩, q2⟩, q3⟩, q4⟩, q5⟩, q6⟩, q7⟩, q8⟩, q9⟩ := hg
    obtain rfl := (nmEq_iff _ _).1 q0
    obtain rfl := Nat.eq_of_beq_eq_true q1
    obtain rfl := Nat.eq_of_beq_eq_true q2
    obtain rfl := (nmEq_iff _ _).1 q3
    obtain rfl := (nmEq_iff _ _).1 q4
    obtain rfl := ctsEq_eq _ _ q5
    obtain rfl := ctsEq_eq _ _ q6
    obtain rfl := ctsEq_eq _ _ q7
    obtain rfl := (nmEq_iff _ _).1 q8
    obtain rfl := ctsEq_eq _ _ q9
    refine ⟨((t2 - t8).toNat + 1), ?_⟩
    rw [← h]
    exact loop_run (fun s : Int × (List AV) => ⟨[(2, AV.int .i64 t2), (3, AV.ptr [0, 3] 0 0), (7, AV.own [0, 7]), (8, AV.int .i64 s.1)], [([0, 3], ⟨true, [], [AV.agg [AV.sl [.int .i64] h0_0, AV.sl [.int .i64] h0_1, AV.sl [.int .i64, .int .i64] h0_2]]⟩), ([0, 7], ⟨false, [.int .i64, .int .i64], s.2⟩)]⟩) (fun p : (List AV) => k (.exit 0) ⟨[(7, AV.own [0, 7])], [([0, 3], ⟨true, [], [AV.agg [AV.sl [.int .i64] h0_0, AV.sl [.int .i64] h0_1, AV.sl [.int .i64, .int .i64] h0_2]]⟩), ([0, 7], ⟨false, [.int .i64, .int .i64], p⟩)]⟩) (st98_0 t2 h0_0 h0_1 h0_2 ce k) _ (t8, h1)
  · cases h
def q98 (a0_0 : List AV) (a0_1 : List AV) (a0_2 : List AV) (a1 : Int) (a2 : Int) : Bool := (ro (runW (R98_0 a2 a0_0 a0_1 a0_2) ((a2 - a1).toNat + 1) (a1, ([] : List AV))) false (fun p39 => true))
def v98_0 (a0_0 : List AV) (a0_1 : List AV) (a0_2 : List AV) (a1 : Int) (a2 : Int) : List AV := (ro (runW (R98_0 a2 a0_0 a0_1 a0_2) ((a2 - a1).toNat + 1) (a1, ([] : List AV))) [] (fun p39 => p39))
theorem e98 (a0_0 : List AV) (a0_1 : List AV) (a0_2 : List AV) (a1 : Int) (a2 : Int) : funA c98 0 98 [AV.agg [AV.sl [.int .i64] a0_0, AV.sl [.int .i64] a0_1, AV.sl [.int .i64, .int .i64] a0_2], AV.int .i64 a1, AV.int .i64 a2] = (ro (runW (R98_0 a2 a0_0 a0_1 a0_2) ((a2 - a1).toNat + 1) (a1, ([] : List AV))) none (fun p39 => some (AV.fl [.int .i64, .int .i64] p39))) := by kernel_rfl
theorem r98 (a0_0 : List AV) (a0_1 : List AV) (a0_2 : List AV) (a1 : Int) (a2 : Int) (h : q98 a0_0 a0_1 a0_2 a1 a2 = true) : funA c98 0 98 [AV.agg [AV.sl [.int .i64] a0_0, AV.sl [.int .i64] a0_1, AV.sl [.int .i64, .int .i64] a0_2], AV.int .i64 a1, AV.int .i64 a2] = some (AV.fl [.int .i64, .int .i64] (v98_0 a0_0 a0_1 a0_2 a1 a2)) := (e98 a0_0 a0_1 a0_2 a1 a2).trans ((brO (fun o : Option (((List AV))) => some (AV.fl [.int .i64, .int .i64] (ro o [] (fun p39 => p39)))) (fun p39 => (fun _ => rfl))) h)
def m98 : TModel
  | [.agg [.sl g0 a0_0, .sl g1 a0_1, .sl g2 a0_2], .int .i64 a1, .int .i64 a2] => bif ctsEq g0 ([.int .i64]) && ctsEq g1 ([.int .i64]) && ctsEq g2 ([.int .i64, .int .i64]) then some (q98 a0_0 a0_1 a0_2 a1 a2, AV.fl [.int .i64, .int .i64] (v98_0 a0_0 a0_1 a0_2 a1 a2)) else none
  | _ => none
theorem k98 : Known Tryd.prog 98 := ⟨Tryd.f98, Tryd.func98, by kernel_rfl, by kernel_rfl⟩
theorem meets98 : Meets Tryd.prog 98 m98 := by
  refine meet (f := Tryd.f98) (l := [(0, sub [1, 1, 0, 1, 0, 0] (body Tryd.f98))]) (hs := [(98, 0, [2, 3, 7, 8]), (98, 999, [6]), (98, 1000, [7]), (98, 1001, [2, 3, 7, 8])]) (ts := []) (ws := []) (is := []) (ls := [(98, 0, l98_0)]) (lvl := 0) mixed k98 Tryd.func98 (by kernel_rfl) (loops_cons ok98_0 noLoop) allT_nil allM_nil noI fun w xs us r hl hv h => ?_
  unfold m98 at h
  split at h
  · rename_i g0 a0_0 g1 a0_1 g2 a0_2 a1 a2
    obtain ⟨hg, h⟩ := bif_pair h
    simp only [Bool.and_eq_true] at hg
    obtain ⟨⟨q0, q1⟩, q2⟩ := hg
    obtain rfl := ctsEq_eq _ _ q0
    obtain rfl := ctsEq_eq _ _ q1
    obtain rfl := ctsEq_eq _ _ q2
    obtain ⟨h1, rfl⟩ := pair_inj h
    exact r98 a0_0 a0_1 a0_2 a1 a2 h1
  · cases h

/-! ### 113 cmp.isNaN[int] -/
noncomputable def c113 : Cfg := cfg Tryd.prog [(113, 999, [2])] [] [] [] []
def q113 (a0 : Int) : Bool := true
def v113_0 (a0 : Int) : Bool := !decide (a0 = a0)
theorem e113 (a0 : Int) : funA c113 0 113 [AV.int .i64 a0] = some (AV.bool (!decide (a0 = a0))) := by kernel_rfl
theorem r113 (a0 : Int) : funA c113 0 113 [AV.int .i64 a0] = some (AV.bool (v113_0 a0)) := (e113 a0).trans (of_tt (fun _ => rfl))
def m113 : TModel
  | [.int .i64 a0] => some (true, AV.bool (v113_0 a0))
  | _ => none
theorem k113 : Known Tryd.prog 113 := ⟨Tryd.f113, Tryd.func113, by kernel_rfl, by kernel_rfl⟩
theorem meets113 : Meets Tryd.prog 113 m113 := by
  refine meet (f := Tryd.f113) (l := []) (hs := [(113, 999, [2])]) (ts := []) (ws := []) (is := []) (ls := []) (lvl := 0) mixed k113 Tryd.func113 (by kernel_rfl) noLoop allT_nil allM_nil noI fun w xs us r hl hv h => ?_
  unfold m113 at h
  split at h
  · rename_i a0
    obtain ⟨h1, rfl⟩ := pair_inj h
    exact r113 a0
  · cases h

/-! ### 108 cmp.Compare[int] -/
noncomputable def c108 : Cfg := cfg Tryd.prog [(108, 999, [4])] [(113, m113)] [] [] []
def q108 (a0 : Int) (a1 : Int) : Bool := true
def v108_0 (a0 : Int) (a1 : Int) : Int := (bif (v113_0 a0) then (bif (v113_0 a1) then 0 else (-1)) else (bif (v113_0 a1) then 1 else (bif decide (a0 < a1) then (-1) else (bif decide (a0 > a1) then 1 else 0))))
theorem e108 (a0 : Int) (a1 : Int) : funA c108 0 108 [AV.int .i64 a0, AV.int .i64 a1] = (bif (v113_0 a0) then (bif (v113_0 a1) then some (AV.int .i64 0)
  else some (AV.int .i64 (-1)))
  else (bif (v113_0 a1) then some (AV.int .i64 1)
  else (bif decide (a0 < a1) then some (AV.int .i64 (-1))
  else (bif decide (a0 > a1) then some (AV.int .i64 1)
  else some (AV.int .i64 0))))) := by kernel_rfl
theorem r108 (a0 : Int) (a1 : Int) : funA c108 0 108 [AV.int .i64 a0, AV.int .i64 a1] = some (AV.int .i64 (v108_0 a0 a1)) := (e108 a0 a1).trans (of_tt (brT (fun b => some (AV.int .i64 (bif b then (bif (v113_0 a1) then 0 else (-1)) else (bif (v113_0 a1) then 1 else (bif decide (a0 < a1) then (-1) else (bif decide (a0 > a1) then 1 else 0)))))) (brT (fun b => some (AV.int .i64 (bif b then 0 else (-1)))) (fun _ => rfl) (fun _ => rfl)) (brT (fun b => some (AV.int .i64 (bif b then 1 else (bif decide (a0 < a1) then (-1) else (bif decide (a0 > a1) then 1 else 0))))) (fun _ => rfl) (brT (fun b => some (AV.int .i64 (bif b then (-1) else (bif decide (a0 > a1) then 1 else 0)))) (fun _ => rfl) (brT (fun b => some (AV.int .i64 (bif b then 1 else 0))) (fun _ => rfl) (fun _ => rfl))))))
def m108 : TModel
  | [.int .i64 a0, .int .i64 a1] => some (true, AV.int .i64 (v108_0 a0 a1))
  | _ => none
theorem k108 : Known Tryd.prog 108 := ⟨Tryd.f108, Tryd.func108, by kernel_rfl, by kernel_rfl⟩
theorem meets108 : Meets Tryd.prog 108 m108 := by
  refine meet (f := Tryd.f108) (l := []) (hs := [(108, 999, [4])]) (ts := [(113, m113)]) (ws := []) (is := []) (ls := []) (lvl := 0) mixed k108 Tryd.func108 (by kernel_rfl) noLoop (allT_cons meets113 allT_nil) allM_nil noI fun w xs us r hl hv h => ?_
  unfold m108 at h
  split at h
  · rename_i a0 a1
    obtain ⟨h1, rfl⟩ := pair_inj h
    exact r108 a0 a1
  · cases h
end Go.Proofs.YtiokajbmckcklaaDoor
