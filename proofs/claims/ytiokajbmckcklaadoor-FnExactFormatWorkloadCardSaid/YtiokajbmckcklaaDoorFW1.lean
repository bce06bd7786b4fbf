/- The walk of what this claim reaches: printed by a program, each equation checked by the kernel. -/
import Derived.Test.YtiokajbmckcklaaDoorVEzc
import Derived.Test.YtiokajbmckcklaaDoorLAY4a
import Derived.Test.YtiokajbmckcklaaDoorLAY4b
import Derived.Test.YtiokajbmckcklaaDoorGL4
import Derived.Test.YtiokajbmckcklaaDoorProg
import Derived.KernelRfl
namespace Go.Proofs.YtiokajbmckcklaaDoor
open Go Go.Proofs.VE
set_option linter.unusedVariables false
set_option linter.unusedSimpArgs false
set_option maxRecDepth 100000
set_option maxHeartbeats 4000000
theorem mixed : Tryd.prog.follows .mixedOrders = true := by kernel_rfl
/-! ### 20 loop.example/g01984/laws.szRangeS -/
noncomputable def c20 : Cfg := cfg Tryd.prog [(20, 999, [4])] [] [] [] []
def q20 (a0 : List AV) (a1 : Int) : Bool := true
def v20_0 (a0 : List AV) (a1 : Int) : Int := (bif decide (IntKind.i64.wrap (a1 - (a0.length : Int)) < 0) then (-1) else IntKind.i64.wrap (a1 - (a0.length : Int)))
theorem e20 (a0 : List AV) (a1 : Int) : funA c20 0 20 [AV.sl [.int .i64, .int .i64] a0, AV.int .i64 a1] = (bif decide (IntKind.i64.wrap (a1 - (a0.length : Int)) < 0) then some (AV.int .i64 (-1))
  else some (AV.int .i64 (IntKind.i64.wrap (a1 - (a0.length : Int))))) := by kernel_rfl
theorem r20 (a0 : List AV) (a1 : Int) : funA c20 0 20 [AV.sl [.int .i64, .int .i64] a0, AV.int .i64 a1] = some (AV.int .i64 (v20_0 a0 a1)) := (e20 a0 a1).trans (of_tt (brT (fun b => some (AV.int .i64 (bif b then (-1) else IntKind.i64.wrap (a1 - (a0.length : Int))))) (fun _ => rfl) (fun _ => rfl)))
def m20 : TModel
  | [.sl g0 a0, .int .i64 a1] => bif ctsEq g0 ([.int .i64, .int .i64]) then some (true, AV.int .i64 (v20_0 a0 a1)) else none
  | _ => none
theorem k20 : Known Tryd.prog 20 := ⟨Tryd.f20, Tryd.func20, by kernel_rfl, by kernel_rfl⟩
theorem meets20 : Meets Tryd.prog 20 m20 := by
  refine meet (f := Tryd.f20) (l := []) (hs := [(20, 999, [4])]) (ts := []) (ws := []) (is := []) (ls := []) (lvl := 0) mixed k20 Tryd.func20 (by kernel_rfl) noLoop allT_nil allM_nil noI fun w xs us r hl hv h => ?_
  unfold m20 at h
  split at h
  · rename_i g0 a0 a1
    obtain ⟨hg, h⟩ := bif_pair h
    have q0 := hg
    obtain rfl := ctsEq_eq _ _ q0
    obtain ⟨h1, rfl⟩ := pair_inj h
    exact r20 a0 a1
  · cases h

/-! ### 53 loop.example/g01984/laws.toRange -/
noncomputable def c53 : Cfg := cfg Tryd.prog [(53, 999, [2])] [] [] [] []
def q53 (a0_0 : Int) (a0_1 : Int) : Bool := true
def v53_0 (a0_0 : Int) (a0_1 : Int) : Int := a0_0
def v53_1 (a0_0 : Int) (a0_1 : Int) : Int := a0_1
theorem e53 (a0_0 : Int) (a0_1 : Int) : funA c53 0 53 [AV.agg [AV.int .i64 a0_0, AV.int .i64 a0_1]] = some (AV.agg [AV.int .i64 a0_0, AV.int .i64 a0_1]) := by kernel_rfl
theorem r53 (a0_0 : Int) (a0_1 : Int) : funA c53 0 53 [AV.agg [AV.int .i64 a0_0, AV.int .i64 a0_1]] = some (AV.agg [AV.int .i64 (v53_0 a0_0 a0_1), AV.int .i64 (v53_1 a0_0 a0_1)]) := (e53 a0_0 a0_1).trans (of_tt (fun _ => rfl))
def m53 : TModel
  | [.agg [.int .i64 a0_0, .int .i64 a0_1]] => some (true, AV.agg [AV.int .i64 (v53_0 a0_0 a0_1), AV.int .i64 (v53_1 a0_0 a0_1)])
  | _ => none
theorem k53 : Known Tryd.prog 53 := ⟨Tryd.f53, Tryd.func53, by kernel_rfl, by kernel_rfl⟩
theorem meets53 : Meets Tryd.prog 53 m53 := by
  refine meet (f := Tryd.f53) (l := []) (hs := [(53, 999, [2])]) (ts := []) (ws := []) (is := []) (ls := []) (lvl := 0) mixed k53 Tryd.func53 (by kernel_rfl) noLoop allT_nil allM_nil noI fun w xs us r hl hv h => ?_
  unfold m53 at h
  split at h
  · rename_i a0_0 a0_1
    obtain ⟨h1, rfl⟩ := pair_inj h
    exact r53 a0_0 a0_1
  · cases h

/-! ### 22 loop.example/g01984/laws.toRangeS -/
def F22_0 (t0 : List AV) (t4 : Int) (h0 : List AV) : Out ((Int × (List AV))) (((List AV))) := (bif decide (t4 < (t0.length : Int)) then (bif (decide (0 ≤ t4) && decide (t4 < (t0.length : Int))) then (bif (decide (0 ≤ t4) && decide (t4 < (h0.length : Int))) then .next (IntKind.i64.wrap (t4 + 1), h0.set t4.toNat (AV.agg [AV.int .i64 (v53_0 (fI (t0.getD t4.toNat AV.undef) 0) (fI (t0.getD t4.toNat AV.undef) 1)), AV.int .i64 (v53_1 (fI (t0.getD t4.toNat AV.undef) 0) (fI (t0.getD t4.toNat AV.undef) 1))]))
  else .fail)
  else .fail)
  else .stop h0)
def R22_0 (t0 : List AV) : ((Int × (List AV))) → Out ((Int × (List AV))) (((List AV))) := fun s : Int × (List AV) => F22_0 t0 s.1 s.2
def l22_0 : LModel := fun _ _ st k => match st with
  | ⟨[(0, .sl g0 t0), (3, .own g1), (4, .int .i64 t4)], [(g2, ⟨false, g3, h0⟩)]⟩ => bif ctsEq g0 ([.int .i64, .int .i64]) && nmEq g1 ([0, 3]) && nmEq g2 ([0, 3]) && ctsEq g3 ([.int .i64, .int .i64]) then ro (runW (R22_0 t0) (((t0.length : Int) - t4).toNat + 1) (t4, h0)) none (fun p : (List AV) => k (.exit 0) ⟨[(3, AV.own [0, 3])], [([0, 3], ⟨false, [.int .i64, .int .i64], p⟩)]⟩) else none
  | _ => none
noncomputable def c22 : Cfg := cfg Tryd.prog [(22, 0, [0, 3, 4]), (22, 999, [2]), (22, 1000, [3]), (22, 1001, [0, 3, 4])] [(53, m53)] [] [] [(22, 0, l22_0)]
theorem s22_0 (ce : CallE) (t0 : List AV) (t4 : Int) (h0 : List AV) (next : St → Option AV) (k : Kont) : stepA (codeA c22 ce [] 22 0 (sub [1, 1, 0, 1, 0, 0] (body Tryd.f22))) (normA [] [0, 3, 4]) next ⟨[(0, AV.sl [.int .i64, .int .i64] t0), (3, AV.own [0, 3]), (4, AV.int .i64 t4)], [([0, 3], ⟨false, [.int .i64, .int .i64], h0⟩)]⟩ k = (bif decide (t4 < (t0.length : Int)) then (bif (decide (0 ≤ t4) && decide (t4 < (t0.length : Int))) then (bif (decide (0 ≤ t4) && decide (t4 < (h0.length : Int))) then next ⟨[(0, AV.sl [.int .i64, .int .i64] t0), (3, AV.own [0, 3]), (4, AV.int .i64 (IntKind.i64.wrap (t4 + 1)))], [([0, 3], ⟨false, [.int .i64, .int .i64], h0.set t4.toNat (AV.agg [AV.int .i64 (v53_0 (fI (t0.getD t4.toNat AV.undef) 0) (fI (t0.getD t4.toNat AV.undef) 1)), AV.int .i64 (v53_1 (fI (t0.getD t4.toNat AV.undef) 0) (fI (t0.getD t4.toNat AV.undef) 1))])⟩)]⟩
  else none)
  else none)
  else k (.exit 0) ⟨[(3, AV.own [0, 3])], [([0, 3], ⟨false, [.int .i64, .int .i64], h0⟩)]⟩) := by kernel_rfl
theorem st22_0 (t0 : List AV) (ce : CallE) (k : Kont) (s : (Int × (List AV))) (next : St → Option AV) : stepA (codeA c22 ce [] 22 0 (sub [1, 1, 0, 1, 0, 0] (body Tryd.f22))) (normA [] [0, 3, 4]) next ((fun s : Int × (List AV) => ⟨[(0, AV.sl [.int .i64, .int .i64] t0), (3, AV.own [0, 3]), (4, AV.int .i64 s.1)], [([0, 3], ⟨false, [.int .i64, .int .i64], s.2⟩)]⟩) s) k = (R22_0 t0 s).el none (fun s => next ((fun s : Int × (List AV) => ⟨[(0, AV.sl [.int .i64, .int .i64] t0), (3, AV.own [0, 3]), (4, AV.int .i64 s.1)], [([0, 3], ⟨false, [.int .i64, .int .i64], s.2⟩)]⟩) s)) (fun p : (List AV) => k (.exit 0) ⟨[(3, AV.own [0, 3])], [([0, 3], ⟨false, [.int .i64, .int .i64], p⟩)]⟩) := (s22_0 ce t0 s.1 s.2 next k).trans (by unfold R22_0; unfold F22_0; simp only [el_cond, el_ro, el_sum, el_fail, el_next, el_stop] <;> rfl)
theorem ok22_0 {ce : CallE} : LoopOK c22 ce [] 22 0 (sub [1, 1, 0, 1, 0, 0] (body Tryd.f22)) := by
  intro m hm st k r h
  obtain rfl : l22_0 = m := Option.some.inj hm
  unfold l22_0 at h
  split at h
  · rename_i g0 t0 g1 t4 g2 g3 h0
    obtain ⟨hg, h⟩ := bif_some h
    simp only [Bool.and_eq_true] at hg
    obtain ⟨⟨⟨q0, q1⟩, q2⟩, q3⟩ := hg
    obtain rfl := ctsEq_eq _ _ q0
    obtain rfl := (nmEq_iff _ _).1 q1
    obtain rfl := (nmEq_iff _ _).1 q2
    obtain rfl := ctsEq_eq _ _ q3
    refine ⟨(((t0.length : Int) - t4).toNat + 1), ?_⟩
    rw [← h]
    exact loop_run (fun s : Int × (List AV) => ⟨[(0, AV.sl [.int .i64, .int .i64] t0), (3, AV.own [0, 3]), (4, AV.int .i64 s.1)], [([0, 3], ⟨false, [.int .i64, .int .i64], s.2⟩)]⟩) (fun p : (List AV) => k (.exit 0) ⟨[(3, AV.own [0, 3])], [([0, 3], ⟨false, [.int .i64, .int .i64], p⟩)]⟩) (st22_0 t0 ce k) _ (t4, h0)
  · cases h
def q22 (a0 : List AV) : Bool := ((decide (0 ≤ (a0.length : Int)) && decide ((a0.length : Int) ≤ (a0.length : Int)) && decide ((a0.length : Int) * 16 ≤ 140737488355328) && decide ((a0.length : Int) ≤ 140737488355328)) && (ro (runW (R22_0 a0) (((a0.length : Int) - 0).toNat + 1) (0, List.replicate (Int.toNat (a0.length : Int)) (AV.agg [AV.int .i64 0, AV.int .i64 0]))) false (fun p1 => true)))
def v22_0 (a0 : List AV) : List AV := (ro (runW (R22_0 a0) (((a0.length : Int) - 0).toNat + 1) (0, List.replicate (Int.toNat (a0.length : Int)) (AV.agg [AV.int .i64 0, AV.int .i64 0]))) [] (fun p1 => p1))
theorem e22 (a0 : List AV) : funA c22 0 22 [AV.sl [.int .i64, .int .i64] a0] = (bif (decide (0 ≤ (a0.length : Int)) && decide ((a0.length : Int) ≤ (a0.length : Int)) && decide ((a0.length : Int) * 16 ≤ 140737488355328) && decide ((a0.length : Int) ≤ 140737488355328)) then (ro (runW (R22_0 a0) (((a0.length : Int) - 0).toNat + 1) (0, List.replicate (Int.toNat (a0.length : Int)) (AV.agg [AV.int .i64 0, AV.int .i64 0]))) none (fun p1 => some (AV.fl [.int .i64, .int .i64] p1)))
  else none) := by kernel_rfl
theorem r22 (a0 : List AV) (h : q22 a0 = true) : funA c22 0 22 [AV.sl [.int .i64, .int .i64] a0] = some (AV.fl [.int .i64, .int .i64] (v22_0 a0)) := (e22 a0).trans ((brL (brO (fun o : Option (((List AV))) => some (AV.fl [.int .i64, .int .i64] (ro o [] (fun p1 => p1)))) (fun p1 => (fun _ => rfl)))) h)
def m22 : TModel
  | [.sl g0 a0] => bif ctsEq g0 ([.int .i64, .int .i64]) then some (q22 a0, AV.fl [.int .i64, .int .i64] (v22_0 a0)) else none
  | _ => none
theorem k22 : Known Tryd.prog 22 := ⟨Tryd.f22, Tryd.func22, by kernel_rfl, by kernel_rfl⟩
theorem meets22 : Meets Tryd.prog 22 m22 := by
  refine meet (f := Tryd.f22) (l := [(0, sub [1, 1, 0, 1, 0, 0] (body Tryd.f22))]) (hs := [(22, 0, [0, 3, 4]), (22, 999, [2]), (22, 1000, [3]), (22, 1001, [0, 3, 4])]) (ts := [(53, m53)]) (ws := []) (is := []) (ls := [(22, 0, l22_0)]) (lvl := 0) mixed k22 Tryd.func22 (by kernel_rfl) (loops_cons ok22_0 noLoop) (allT_cons meets53 allT_nil) allM_nil noI fun w xs us r hl hv h => ?_
  unfold m22 at h
  split at h
  · rename_i g0 a0
    obtain ⟨hg, h⟩ := bif_pair h
    have q0 := hg
    obtain rfl := ctsEq_eq _ _ q0
    obtain ⟨h1, rfl⟩ := pair_inj h
    exact r22 a0 h1
  · cases h

/-! ### 42 loop.example/g01984/spec.l1In -/
noncomputable def c42 : Cfg := cfg Tryd.prog [(42, 999, [6])] [] [] [] []
def q42 (a0 : Int) (a1 : Int) (a2 : Int) : Bool := true
def v42_0 (a0 : Int) (a1 : Int) (a2 : Int) : Bool := (bif decide (a0 ≥ a1) then decide (a0 ≤ a2) else false)
theorem e42 (a0 : Int) (a1 : Int) (a2 : Int) : funA c42 0 42 [AV.int .i64 a0, AV.int .i64 a1, AV.int .i64 a2] = (bif decide (a0 ≥ a1) then some (AV.bool (decide (a0 ≤ a2)))
  else some (AV.bool false)) := by kernel_rfl
theorem r42 (a0 : Int) (a1 : Int) (a2 : Int) : funA c42 0 42 [AV.int .i64 a0, AV.int .i64 a1, AV.int .i64 a2] = some (AV.bool (v42_0 a0 a1 a2)) := (e42 a0 a1 a2).trans (of_tt (brT (fun b => some (AV.bool (bif b then decide (a0 ≤ a2) else false))) (fun _ => rfl) (fun _ => rfl)))
def m42 : TModel
  | [.int .i64 a0, .int .i64 a1, .int .i64 a2] => some (true, AV.bool (v42_0 a0 a1 a2))
  | _ => none
theorem k42 : Known Tryd.prog 42 := ⟨Tryd.f42, Tryd.func42, by kernel_rfl, by kernel_rfl⟩
theorem meets42 : Meets Tryd.prog 42 m42 := by
  refine meet (f := Tryd.f42) (l := []) (hs := [(42, 999, [6])]) (ts := []) (ws := []) (is := []) (ls := []) (lvl := 0) mixed k42 Tryd.func42 (by kernel_rfl) noLoop allT_nil allM_nil noI fun w xs us r hl hv h => ?_
  unfold m42 at h
  split at h
  · rename_i a0 a1 a2
    obtain ⟨h1, rfl⟩ := pair_inj h
    exact r42 a0 a1 a2
  · cases h

/-! ### 82 loop.example/g01984/spec.IsRange -/
noncomputable def c82 : Cfg := cfg Tryd.prog [(82, 999, [2])] [(42, m42)] [] [] []
def q82 (a0_0 : Int) (a0_1 : Int) : Bool := true
def v82_0 (a0_0 : Int) (a0_1 : Int) : Bool := (bif (v42_0 a0_0 (-1000) 1000) then (v42_0 a0_1 a0_0 1000) else false)
theorem e82 (a0_0 : Int) (a0_1 : Int) : funA c82 0 82 [AV.agg [AV.int .i64 a0_0, AV.int .i64 a0_1]] = (bif (v42_0 a0_0 (-1000) 1000) then some (AV.bool (v42_0 a0_1 a0_0 1000))
  else some (AV.bool false)) := by kernel_rfl
theorem r82 (a0_0 : Int) (a0_1 : Int) : funA c82 0 82 [AV.agg [AV.int .i64 a0_0, AV.int .i64 a0_1]] = some (AV.bool (v82_0 a0_0 a0_1)) := (e82 a0_0 a0_1).trans (of_tt (brT (fun b => some (AV.bool (bif b then (v42_0 a0_1 a0_0 1000) else false))) (fun _ => rfl) (fun _ => rfl)))
def m82 : TModel
  | [.agg [.int .i64 a0_0, .int .i64 a0_1]] => some (true, AV.bool (v82_0 a0_0 a0_1))
  | _ => none
theorem k82 : Known Tryd.prog 82 := ⟨Tryd.f82, Tryd.func82, by kernel_rfl, by kernel_rfl⟩
theorem meets82 : Meets Tryd.prog 82 m82 := by
  refine meet (f := Tryd.f82) (l := []) (hs := [(82, 999, [2])]) (ts := [(42, m42)]) (ws := []) (is := []) (ls := []) (lvl := 0) mixed k82 Tryd.func82 (by kernel_rfl) noLoop (allT_cons meets42 allT_nil) allM_nil noI fun w xs us r hl hv h => ?_
  unfold m82 at h
  split at h
  · rename_i a0_0 a0_1
    obtain ⟨h1, rfl⟩ := pair_inj h
    exact r82 a0_0 a0_1
  · cases h

/-! ### 51 loop.example/g01984/spec.l8Ranges -/
def F51_0 (t0 : List AV) (t3 : Int) : Out (Int) (Unit ⊕ Unit) := (bif decide (t3 < (t0.length : Int)) then (bif (decide (0 ≤ t3) && decide (t3 < (t0.length : Int))) then (bif !(v82_0 (fI (t0.getD t3.toNat AV.undef) 0) (fI (t0.getD t3.toNat AV.undef) 1)) then .stop (.inr ())
  else .next (IntKind.i64.wrap (t3 + 1)))
  else .fail)
  else .stop (.inl ()))
def R51_0 (t0 : List AV) : (Int) → Out (Int) (Unit ⊕ Unit) := fun s : Int => F51_0 t0 s
def l51_0 : LModel := fun _ _ st k => match st with
  | ⟨[(0, .sl g0 t0), (3, .int .i64 t3)], []⟩ => bif ctsEq g0 ([.int .i64, .int .i64]) then ro (runW (R51_0 t0) (((t0.length : Int) - t3).toNat + 1) t3) none (sumE (fun _ : Unit => k (.exit 0) ⟨[(0, AV.sl [.int .i64, .int .i64] t0)], []⟩) (fun _ : Unit => k .ret ⟨[(2, AV.bool false)], []⟩)) else none
  | _ => none
noncomputable def c51 : Cfg := cfg Tryd.prog [(51, 0, [0, 3]), (51, 999, [2]), (51, 1000, [0]), (51, 1001, [0, 3])] [(82, m82)] [] [] [(51, 0, l51_0)]
theorem s51_0 (ce : CallE) (t0 : List AV) (t3 : Int) (next : St → Option AV) (k : Kont) : stepA (codeA c51 ce [] 51 0 (sub [1, 0, 1, 0, 0] (body Tryd.f51))) (normA [] [0, 3]) next ⟨[(0, AV.sl [.int .i64, .int .i64] t0), (3, AV.int .i64 t3)], []⟩ k = (bif decide (t3 < (t0.length : Int)) then (bif (decide (0 ≤ t3) && decide (t3 < (t0.length : Int))) then (bif !(v82_0 (fI (t0.getD t3.toNat AV.undef) 0) (fI (t0.getD t3.toNat AV.undef) 1)) then k .ret ⟨[(2, AV.bool false)], []⟩
  else next ⟨[(0, AV.sl [.int .i64, .int .i64] t0), (3, AV.int .i64 (IntKind.i64.wrap (t3 + 1)))], []⟩)
  else none)
  else k (.exit 0) ⟨[(0, AV.sl [.int .i64, .int .i64] t0)], []⟩) := by kernel_rfl
theorem st51_0 (t0 : List AV) (ce : CallE) (k : Kont) (s : Int) (next : St → Option AV) : stepA (codeA c51 ce [] 51 0 (sub [1, 0, 1, 0, 0] (body Tryd.f51))) (normA [] [0, 3]) next ((fun s : Int => ⟨[(0, AV.sl [.int .i64, .int .i64] t0), (3, AV.int .i64 s)], []⟩) s) k = (R51_0 t0 s).el none (fun s => next ((fun s : Int => ⟨[(0, AV.sl [.int .i64, .int .i64] t0), (3, AV.int .i64 s)], []⟩) s)) (sumE (fun _ : Unit => k (.exit 0) ⟨[(0, AV.sl [.int .i64, .int .i64] t0)], []⟩) (fun _ : Unit => k .ret ⟨[(2, AV.bool false)], []⟩)) := (s51_0 ce t0 s next k).trans (by unfold R51_0; unfold F51_0; simp only [el_cond, el_ro, el_sum, el_fail, el_next, el_stop] <;> rfl)
theorem ok51_0 {ce : CallE} : LoopOK c51 ce [] 51 0 (sub [1, 0, 1, 0, 0] (body Tryd.f51)) := by
  intro m hm st k r h
  obtain rfl : l51_0 = m := Option.some.inj hm
  unfold l51_0 at h
  split at h
  · rename_i g0 t0 t3
    obtain ⟨hg, h⟩ := bif_some h
    have q0 := hg
    obtain rfl := ctsEq_eq _ _ q0
    refine ⟨(((t0.length : Int) - t3).toNat + 1), ?_⟩
    rw [← h]
    exact loop_run (fun s : Int => ⟨[(0, AV.sl [.int .i64, .int .i64] t0), (3, AV.int .i64 s)], []⟩) (sumE (fun _ : Unit => k (.exit 0) ⟨[(0, AV.sl [.int .i64, .int .i64] t0)], []⟩) (fun _ : Unit => k .ret ⟨[(2, AV.bool false)], []⟩)) (st51_0 t0 ce k) _ t3
  · cases h
def q51 (a0 : List AV) : Bool := (ro (runW (R51_0 a0) (((a0.length : Int) - 0).toNat + 1) 0) false (sumE (fun _ => true) (fun _ => true)))
def v51_0 (a0 : List AV) : Bool := (ro (runW (R51_0 a0) (((a0.length : Int) - 0).toNat + 1) 0) false (sumE (fun _ => decide ((a0.length : Int) ≤ 30)) (fun _ => false)))
theorem e51 (a0 : List AV) : funA c51 0 51 [AV.sl [.int .i64, .int .i64] a0] = (ro (runW (R51_0 a0) (((a0.length : Int) - 0).toNat + 1) 0) none (sumE (fun _ => some (AV.bool (decide ((a0.length : Int) ≤ 30)))) (fun _ => some (AV.bool false)))) := by kernel_rfl
theorem r51 (a0 : List AV) (h : q51 a0 = true) : funA c51 0 51 [AV.sl [.int .i64, .int .i64] a0] = some (AV.bool (v51_0 a0)) := (e51 a0).trans ((brO (fun o : Option (Unit ⊕ Unit) => some (AV.bool (ro o false (sumE (fun _ => decide ((a0.length : Int) ≤ 30)) (fun _ => false))))) (brS (fun o : Unit ⊕ Unit => some (AV.bool ((sumE (fun _ => decide ((a0.length : Int) ≤ 30)) (fun _ => false)) o))) (fun _ => (fun _ => rfl)) (fun _ => (fun _ => rfl)))) h)
def m51 : TModel
  | [.sl g0 a0] => bif ctsEq g0 ([.int .i64, .int .i64]) then some (q51 a0, AV.bool (v51_0 a0)) else none
  | _ => none
theorem k51 : Known Tryd.prog 51 := ⟨Tryd.f51, Tryd.func51, by kernel_rfl, by kernel_rfl⟩
theorem meets51 : Meets Tryd.prog 51 m51 := by
  refine meet (f := Tryd.f51) (l := [(0, sub [1, 0, 1, 0, 0] (body Tryd.f51))]) (hs := [(51, 0, [0, 3]), (51, 999, [2]), (51, 1000, [0]), (51, 1001, [0, 3])]) (ts := [(82, m82)]) (ws := []) (is := []) (ls := [(51, 0, l51_0)]) (lvl := 0) mixed k51 Tryd.func51 (by kernel_rfl) (loops_cons ok51_0 noLoop) (allT_cons meets82 allT_nil) allM_nil noI fun w xs us r hl hv h => ?_
  unfold m51 at h
  split at h
  · rename_i g0 a0
    obtain ⟨hg, h⟩ := bif_pair h
    have q0 := hg
    obtain rfl := ctsEq_eq _ _ q0
    obtain ⟨h1, rfl⟩ := pair_inj h
    exact r51 a0 h1
  · cases h

/-! ### 43 loop.example/g01984/spec.FormatInt -/
def F43_0 (t4 : Bool) (t0 : Int) (t3 : ByteArray) : Out ((Int × ByteArray)) (ByteArray) := (bif !decide (t0 = 0) then (bif !decide (10 = 0) then (bif decide (Int.tmod t0 10 < 0) then (bif decide ((bytesA ([AV.int .u8 (IntKind.u8.wrap (IntKind.i64.wrap (48 + IntKind.i64.wrap (0 - (Int.tmod t0 10)))))])).size + t3.size ≤ 4611686018427387904) then (bif !decide (10 = 0) then .next (IntKind.i64.wrap (Int.tdiv t0 10), (bytesA ([AV.int .u8 (IntKind.u8.wrap (IntKind.i64.wrap (48 + IntKind.i64.wrap (0 - (Int.tmod t0 10)))))])) ++ t3)
  else .fail)
  else .fail)
  else (bif decide ((bytesA ([AV.int .u8 (IntKind.u8.wrap (IntKind.i64.wrap (48 + Int.tmod t0 10)))])).size + t3.size ≤ 4611686018427387904) then (bif !decide (10 = 0) then .next (IntKind.i64.wrap (Int.tdiv t0 10), (bytesA ([AV.int .u8 (IntKind.u8.wrap (IntKind.i64.wrap (48 + Int.tmod t0 10)))])) ++ t3)
  else .fail)
  else .fail))
  else .fail)
  else .stop t3)
def R43_0 (t4 : Bool) : ((Int × ByteArray)) → Out ((Int × ByteArray)) (ByteArray) := fun s : Int × ByteArray => F43_0 t4 s.1 s.2
def l43_0 : LModel := fun _ _ st k => match st with
  | ⟨[(0, .int .i64 t0), (3, .str t3), (4, .bool t4)], []⟩ => ro (runW (R43_0 t4) (t0.natAbs + 1) (t0, t3)) none (fun p : ByteArray => k (.exit 0) ⟨[(3, AV.str p), (4, AV.bool t4)], []⟩)
  | _ => none
noncomputable def c43 : Cfg := cfg Tryd.prog [(43, 0, [0, 3, 4]), (43, 999, [2]), (43, 1000, [3, 4]), (43, 1001, [0, 3, 4])] [] [] [] [(43, 0, l43_0)]
theorem s43_0 (ce : CallE) (t0 : Int) (t3 : ByteArray) (t4 : Bool) (next : St → Option AV) (k : Kont) : stepA (codeA c43 ce [] 43 0 (sub [1, 1, 1, 1, 0, 0, 0] (body Tryd.f43))) (normA [] [0, 3, 4]) next ⟨[(0, AV.int .i64 t0), (3, AV.str t3), (4, AV.bool t4)], []⟩ k = (bif !decide (t0 = 0) then (bif !decide (10 = 0) then (bif decide (Int.tmod t0 10 < 0) then (bif decide ((bytesA ([AV.int .u8 (IntKind.u8.wrap (IntKind.i64.wrap (48 + IntKind.i64.wrap (0 - (Int.tmod t0 10)))))])).size + t3.size ≤ 4611686018427387904) then (bif !decide (10 = 0) then next ⟨[(0, AV.int .i64 (IntKind.i64.wrap (Int.tdiv t0 10))), (3, AV.str ((bytesA ([AV.int .u8 (IntKind.u8.wrap (IntKind.i64.wrap (48 + IntKind.i64.wrap (0 - (Int.tmod t0 10)))))])) ++ t3)), (4, AV.bool t4)], []⟩
  else none)
  else none)
  else (bif decide ((bytesA ([AV.int .u8 (IntKind.u8.wrap (IntKind.i64.wrap (48 + Int.tmod t0 10)))])).size + t3.size ≤ 4611686018427387904) then (bif !decide (10 = 0) then next ⟨[(0, AV.int .i64 (IntKind.i64.wrap (Int.tdiv t0 10))), (3, AV.str ((bytesA ([AV.int .u8 (IntKind.u8.wrap (IntKind.i64.wrap (48 + Int.tmod t0 10)))])) ++ t3)), (4, AV.bool t4)], []⟩
  else none)
  else none))
  else none)
  else k (.exit 0) ⟨[(3, AV.str t3), (4, AV.bool t4)], []⟩) := by kernel_rfl
theorem st43_0 (t4 : Bool) (ce : CallE) (k : Kont) (s : (Int × ByteArray)) (next : St → Option AV) : stepA (codeA c43 ce [] 43 0 (sub [1, 1, 1, 1, 0, 0, 0] (body Tryd.f43))) (normA [] [0, 3, 4]) next ((fun s : Int × ByteArray => ⟨[(0, AV.int .i64 s.1), (3, AV.str s.2), (4, AV.bool t4)], []⟩) s) k = (R43_0 t4 s).el none (fun s => next ((fun s : Int × ByteArray => ⟨[(0, AV.int .i64 s.1), (3, AV.str s.2), (4, AV.bool t4)], []⟩) s)) (fun p : ByteArray => k (.exit 0) ⟨[(3, AV.str p), (4, AV.bool t4)], []⟩) := (s43_0 ce s.1 s.2 t4 next k).trans (by unfold R43_0; unfold F43_0; simp only [el_cond, el_ro, el_sum, el_fail, el_next, el_stop] <;> rfl)
theorem ok43_0 {ce : CallE} : LoopOK c43 ce [] 43 0 (sub [1, 1, 1, 1, 0, 0, 0] (body Tryd.f43)) := by
  intro m hm st k r h
  obtain rfl : l43_0 = m := Option.some.inj hm
  unfold l43_0 at h
  split at h
  · rename_i t0 t3 t4
    refine ⟨(t0.natAbs + 1), ?_⟩
    rw [← h]
    exact loop_run (fun s : Int × ByteArray => ⟨[(0, AV.int .i64 s.1), (3, AV.str s.2), (4, AV.bool t4)], []⟩) (fun p : ByteArray => k (.exit 0) ⟨[(3, AV.str p), (4, AV.bool t4)], []⟩) (st43_0 t4 ce k) _ (t0, t3)
  · cases h
def q43 (a0 : Int) : Bool := (bif decide (a0 = 0) then true else (ro (runW (R43_0 (decide (a0 < 0))) (a0.natAbs + 1) (a0, ByteArray.empty)) false (fun p4 => (bif decide (a0 < 0) then decide ((ByteArray.mk #[45]).size + p4.size ≤ 4611686018427387904) else true))))
def v43_0 (a0 : Int) : ByteArray := (bif decide (a0 = 0) then (ByteArray.mk #[48]) else (ro (runW (R43_0 (decide (a0 < 0))) (a0.natAbs + 1) (a0, ByteArray.empty)) ByteArray.empty (fun p4 => (bif decide (a0 < 0) then (ByteArray.mk #[45]) ++ p4 else p4))))
theorem e43 (a0 : Int) : funA c43 0 43 [AV.int .i64 a0] = (bif decide (a0 = 0) then some (AV.str (ByteArray.mk #[48]))
  else (ro (runW (R43_0 (decide (a0 < 0))) (a0.natAbs + 1) (a0, ByteArray.empty)) none (fun p4 => (bif decide (a0 < 0) then (bif decide ((ByteArray.mk #[45]).size + p4.size ≤ 4611686018427387904) then some (AV.str ((ByteArray.mk #[45]) ++ p4))
  else none)
  else some (AV.str p4))))) := by kernel_rfl
theorem r43 (a0 : Int) (h : q43 a0 = true) : funA c43 0 43 [AV.int .i64 a0] = some (AV.str (v43_0 a0)) := (e43 a0).trans ((br (fun b => some (AV.str (bif b then (ByteArray.mk #[48]) else (ro (runW (R43_0 (decide (a0 < 0))) (a0.natAbs + 1) (a0, ByteArray.empty)) ByteArray.empty (fun p4 => (bif decide (a0 < 0) then (ByteArray.mk #[45]) ++ p4 else p4)))))) (fun _ => rfl) (brO (fun o : Option (ByteArray) => some (AV.str (ro o ByteArray.empty (fun p4 => (bif decide (a0 < 0) then (ByteArray.mk #[45]) ++ p4 else p4))))) (fun p4 => (br (fun b => some (AV.str (bif b then (ByteArray.mk #[45]) ++ p4 else p4))) (brL1 (fun _ => rfl)) (fun _ => rfl))))) h)
def m43 : TModel
  | [.int .i64 a0] => some (q43 a0, AV.str (v43_0 a0))
  | _ => none
theorem k43 : Known Tryd.prog 43 := ⟨Tryd.f43, Tryd.func43, by kernel_rfl, by kernel_rfl⟩
theorem meets43 : Meets Tryd.prog 43 m43 := by
  refine meet (f := Tryd.f43) (l := [(0, sub [1, 1, 1, 1, 0, 0, 0] (body Tryd.f43))]) (hs := [(43, 0, [0, 3, 4]), (43, 999, [2]), (43, 1000, [3, 4]), (43, 1001, [0, 3, 4])]) (ts := []) (ws := []) (is := []) (ls := [(43, 0, l43_0)]) (lvl := 0) mixed k43 Tryd.func43 (by kernel_rfl) (loops_cons ok43_0 noLoop) allT_nil allM_nil noI fun w xs us r hl hv h => ?_
  unfold m43 at h
  split at h
  · rename_i a0
    obtain ⟨h1, rfl⟩ := pair_inj h
    exact r43 a0 h1
  · cases h

/-! ### 52 loop.example/g01984/spec.FormatRange -/
noncomputable def c52 : Cfg := cfg Tryd.prog [(52, 999, [2])] [(43, m43), (82, m82)] [] [] []
def q52 (a0_0 : Int) (a0_1 : Int) : Bool := (bif !(v82_0 a0_0 a0_1) then true else (q43 a0_0 && (decide ((v43_0 a0_0).size + (ByteArray.mk #[46, 46]).size ≤ 4611686018427387904) && (q43 a0_1 && decide (((v43_0 a0_0) ++ (ByteArray.mk #[46, 46])).size + (v43_0 a0_1).size ≤ 4611686018427387904)))))
def v52_0 (a0_0 : Int) (a0_1 : Int) : ByteArray := (bif !(v82_0 a0_0 a0_1) then ByteArray.empty else ((v43_0 a0_0) ++ (ByteArray.mk #[46, 46])) ++ (v43_0 a0_1))
theorem e52 (a0_0 : Int) (a0_1 : Int) : funA c52 0 52 [AV.agg [AV.int .i64 a0_0, AV.int .i64 a0_1]] = (bif !(v82_0 a0_0 a0_1) then some (AV.str ByteArray.empty)
  else (bif q43 a0_0 then (bif decide ((v43_0 a0_0).size + (ByteArray.mk #[46, 46]).size ≤ 4611686018427387904) then (bif q43 a0_1 then (bif decide (((v43_0 a0_0) ++ (ByteArray.mk #[46, 46])).size + (v43_0 a0_1).size ≤ 4611686018427387904) then some (AV.str (((v43_0 a0_0) ++ (ByteArray.mk #[46, 46])) ++ (v43_0 a0_1)))
  else none)
  else none)
  else none)
  else none)) := by kernel_rfl
theorem r52 (a0_0 : Int) (a0_1 : Int) (h : q52 a0_0 a0_1 = true) : funA c52 0 52 [AV.agg [AV.int .i64 a0_0, AV.int .i64 a0_1]] = some (AV.str (v52_0 a0_0 a0_1)) := (e52 a0_0 a0_1).trans ((br (fun b => some (AV.str (bif b then ByteArray.empty else ((v43_0 a0_0) ++ (ByteArray.mk #[46, 46])) ++ (v43_0 a0_1)))) (fun _ => rfl) (brL (brL (brL (brL1 (fun _ => rfl)))))) h)
def m52 : TModel
  | [.agg [.int .i64 a0_0, .int .i64 a0_1]] => some (q52 a0_0 a0_1, AV.str (v52_0 a0_0 a0_1))
  | _ => none
theorem k52 : Known Tryd.prog 52 := ⟨Tryd.f52, Tryd.func52, by kernel_rfl, by kernel_rfl⟩
theorem meets52 : Meets Tryd.prog 52 m52 := by
  refine meet (f := Tryd.f52) (l := []) (hs := [(52, 999, [2])]) (ts := [(43, m43), (82, m82)]) (ws := []) (is := []) (ls := []) (lvl := 0) mixed k52 Tryd.func52 (by kernel_rfl) noLoop (allT_cons meets43 (allT_cons meets82 allT_nil)) allM_nil noI fun w xs us r hl hv h => ?_
  unfold m52 at h
  split at h
  · rename_i a0_0 a0_1
    obtain ⟨h1, rfl⟩ := pair_inj h
    exact r52 a0_0 a0_1 h1
  · cases h

/-! ### 21 loop.example/g01984/spec.FormatWorkload -/
def F21_0 (t0 : List AV) (t3 : ByteArray) (t4 : Int) : Out ((ByteArray × Int)) (ByteArray) := (bif decide (t4 < (t0.length : Int)) then (bif decide (t4 > 0) then (bif decide (t3.size + (ByteArray.mk #[32]).size ≤ 4611686018427387904) then (bif (decide (0 ≤ t4) && decide (t4 < (t0.length : Int))) then (bif q52 (fI (t0.getD t4.toNat AV.undef) 0) (fI (t0.getD t4.toNat AV.undef) 1) then (bif decide ((t3 ++ (ByteArray.mk #[32])).size + (v52_0 (fI (t0.getD t4.toNat AV.undef) 0) (fI (t0.getD t4.toNat AV.undef) 1)).size ≤ 4611686018427387904) then .next ((t3 ++ (ByteArray.mk #[32])) ++ (v52_0 (fI (t0.getD t4.toNat AV.undef) 0) (fI (t0.getD t4.toNat AV.undef) 1)), IntKind.i64.wrap (t4 + 1))
  else .fail)
  else .fail)
  else .fail)
  else .fail)
  else (bif (decide (0 ≤ t4) && decide (t4 < (t0.length : Int))) then (bif q52 (fI (t0.getD t4.toNat AV.undef) 0) (fI (t0.getD t4.toNat AV.undef) 1) then (bif decide (t3.size + (v52_0 (fI (t0.getD t4.toNat AV.undef) 0) (fI (t0.getD t4.toNat AV.undef) 1)).size ≤ 4611686018427387904) then .next (t3 ++ (v52_0 (fI (t0.getD t4.toNat AV.undef) 0) (fI (t0.getD t4.toNat AV.undef) 1)), IntKind.i64.wrap (t4 + 1))
  else .fail)
  else .fail)
  else .fail))
  else .stop t3)
def R21_0 (t0 : List AV) : ((ByteArray × Int)) → Out ((ByteArray × Int)) (ByteArray) := fun s : ByteArray × Int => F21_0 t0 s.1 s.2
def l21_0 : LModel := fun _ _ st k => match st with
  | ⟨[(0, .sl g0 t0), (3, .str t3), (4, .int .i64 t4)], []⟩ => bif ctsEq g0 ([.int .i64, .int .i64]) then ro (runW (R21_0 t0) (((t0.length : Int) - t4).toNat + 1) (t3, t4)) none (fun p : ByteArray => k (.exit 0) ⟨[(3, AV.str p)], []⟩) else none
  | _ => none
noncomputable def c21 : Cfg := cfg Tryd.prog [(21, 0, [0, 3, 4]), (21, 999, [2]), (21, 1000, [3]), (21, 1001, [0, 3, 4])] [(51, m51), (52, m52)] [] [] [(21, 0, l21_0)]
theorem s21_0 (ce : CallE) (t0 : List AV) (t3 : ByteArray) (t4 : Int) (next : St → Option AV) (k : Kont) : stepA (codeA c21 ce [] 21 0 (sub [1, 1, 1, 0, 1, 0, 0] (body Tryd.f21))) (normA [] [0, 3, 4]) next ⟨[(0, AV.sl [.int .i64, .int .i64] t0), (3, AV.str t3), (4, AV.int .i64 t4)], []⟩ k = (bif decide (t4 < (t0.length : Int)) then (bif decide (t4 > 0) then (bif decide (t3.size + (ByteArray.mk #[32]).size ≤ 4611686018427387904) then (bif (decide (0 ≤ t4) && decide (t4 < (t0.length : Int))) then (bif q52 (fI (t0.getD t4.toNat AV.undef) 0) (fI (t0.getD t4.toNat AV.undef) 1) then (bif decide ((t3 ++ (ByteArray.mk #[32])).size + (v52_0 (fI (t0.getD t4.toNat AV.undef) 0) (fI (t0.getD t4.toNat AV.undef) 1)).size ≤ 4611686018427387904) then next ⟨[(0, AV.sl [.int .i64, .int .i64] t0), (3, AV.str ((t3 ++ (ByteArray.mk #[32])) ++ (v52_0 (fI (t0.getD t4.toNat AV.undef) 0) (fI (t0.getD t4.toNat AV.undef) 1)))), (4, AV.int .i64 (IntKind.i64.wrap (t4 + 1)))], []⟩
  else none)
  else none)
  else none)
  else none)
  else (bif (decide (0 ≤ t4) && decide (t4 < (t0.length : Int))) then (bif q52 (fI (t0.getD t4.toNat AV.undef) 0) (fI (t0.getD t4.toNat AV.undef) 1) then (bif decide (t3.size + (v52_0 (fI (t0.getD t4.toNat AV.undef) 0) (fI (t0.getD t4.toNat AV.undef) 1)).size ≤ 4611686018427387904) then next ⟨[(0, AV.sl [.int .i64, .int .i64] t0), (3, AV.str (t3 ++ (v52_0 (fI (t0.getD t4.toNat AV.undef) 0) (fI (t0.getD t4.toNat AV.undef) 1)))), (4, AV.int .i64 (IntKind.i64.wrap (t4 + 1)))], []⟩
  else none)
  else none)
  else none))
  else k (.exit 0) ⟨[(3, AV.str t3)], []⟩) := by kernel_rfl
theorem st21_0 (t0 : List AV) (ce : CallE) (k : Kont) (s : (ByteArray × Int)) (next : St → Option AV) : stepA (codeA c21 ce [] 21 0 (sub [1, 1, 1, 0, 1, 0, 0] (body Tryd.f21))) (normA [] [0, 3, 4]) next ((fun s : ByteArray × Int => ⟨[(0, AV.sl [.int .i64, .int .i64] t0), (3, AV.str s.1), (4, AV.int .i64 s.2)], []⟩) s) k = (R21_0 t0 s).el none (fun s => next ((fun s : ByteArray × Int => ⟨[(0, AV.sl [.int .i64, .int .i64] t0), (3, AV.str s.1), (4, AV.int .i64 s.2)], []⟩) s)) (fun p : ByteArray => k (.exit 0) ⟨[(3, AV.str p)], []⟩) := (s21_0 ce t0 s.1 s.2 next k).trans (by unfold R21_0; unfold F21_0; simp only [el_cond, el_ro, el_sum, el_fail, el_next, el_stop] <;> rfl)
theorem ok21_0 {ce : CallE} : LoopOK c21 ce [] 21 0 (sub [1, 1, 1, 0, 1, 0, 0] (body Tryd.f21)) := by
  intro m hm st k r h
  obtain rfl : l21_0 = m := Option.some.inj hm
  unfold l21_0 at h
  split at h
  · rename_i g0 t0 t3 t4
    obtain ⟨hg, h⟩ := bif_some h
    have q0 := hg
    obtain rfl := ctsEq_eq _ _ q0
    refine ⟨(((t0.length : Int) - t4).toNat + 1), ?_⟩
    rw [← h]
    exact loop_run (fun s : ByteArray × Int => ⟨[(0, AV.sl [.int .i64, .int .i64] t0), (3, AV.str s.1), (4, AV.int .i64 s.2)], []⟩) (fun p : ByteArray => k (.exit 0) ⟨[(3, AV.str p)], []⟩) (st21_0 t0 ce k) _ (t3, t4)
  · cases h
def q21 (a0 : List AV) : Bool := (q51 a0 && (bif !(v51_0 a0) then true else (ro (runW (R21_0 a0) (((a0.length : Int) - 0).toNat + 1) (ByteArray.empty, 0)) false (fun p5 => true))))
def v21_0 (a0 : List AV) : ByteArray := (bif !(v51_0 a0) then ByteArray.empty else (ro (runW (R21_0 a0) (((a0.length : Int) - 0).toNat + 1) (ByteArray.empty, 0)) ByteArray.empty (fun p5 => (bif (p5.toList == ByteArray.empty.toList) then (ByteArray.mk #[110, 111, 110, 101]) else p5))))
theorem e21 (a0 : List AV) : funA c21 0 21 [AV.sl [.int .i64, .int .i64] a0] = (bif q51 a0 then (bif !(v51_0 a0) then some (AV.str ByteArray.empty)
  else (ro (runW (R21_0 a0) (((a0.length : Int) - 0).toNat + 1) (ByteArray.empty, 0)) none (fun p5 => (bif (p5.toList == ByteArray.empty.toList) then some (AV.str (ByteArray.mk #[110, 111, 110, 101]))
  else some (AV.str p5)))))
  else none) := by kernel_rfl
theorem r21 (a0 : List AV) (h : q21 a0 = true) : funA c21 0 21 [AV.sl [.int .i64, .int .i64] a0] = some (AV.str (v21_0 a0)) := (e21 a0).trans ((brL (br (fun b => some (AV.str (bif b then ByteArray.empty else (ro (runW (R21_0 a0) (((a0.length : Int) - 0).toNat + 1) (ByteArray.empty, 0)) ByteArray.empty (fun p5 => (bif (p5.toList == ByteArray.empty.toList) then (ByteArray.mk #[110, 111, 110, 101]) else p5)))))) (fun _ => rfl) (brO (fun o : Option (ByteArray) => some (AV.str (ro o ByteArray.empty (fun p5 => (bif (p5.toList == ByteArray.empty.toList) then (ByteArray.mk #[110, 111, 110, 101]) else p5))))) (fun p5 => (brT (fun b => some (AV.str (bif b then (ByteArray.mk #[110, 111, 110, 101]) else p5))) (fun _ => rfl) (fun _ => rfl)))))) h)
def m21 : TModel
  | [.sl g0 a0] => bif ctsEq g0 ([.int .i64, .int .i64]) then some (q21 a0, AV.str (v21_0 a0)) else none
  | _ => none
theorem k21 : Known Tryd.prog 21 := ⟨Tryd.f21, Tryd.func21, by kernel_rfl, by kernel_rfl⟩
theorem meets21 : Meets Tryd.prog 21 m21 := by
  refine meet (f := Tryd.f21) (l := [(0, sub [1, 1, 1, 0, 1, 0, 0] (body Tryd.f21))]) (hs := [(21, 0, [0, 3, 4]), (21, 999, [2]), (21, 1000, [3]), (21, 1001, [0, 3, 4])]) (ts := [(51, m51), (52, m52)]) (ws := []) (is := []) (ls := [(21, 0, l21_0)]) (lvl := 0) mixed k21 Tryd.func21 (by kernel_rfl) (loops_cons ok21_0 noLoop) (allT_cons meets51 (allT_cons meets52 allT_nil)) allM_nil noI fun w xs us r hl hv h => ?_
  unfold m21 at h
  split at h
  · rename_i g0 a0
    obtain ⟨hg, h⟩ := bif_pair h
    have q0 := hg
    obtain rfl := ctsEq_eq _ _ q0
    obtain ⟨h1, rfl⟩ := pair_inj h
    exact r21 a0 h1
  · cases h

/-! ### 85 loop.example/g01984/impl.IsRange -/
noncomputable def c85 : Cfg := cfg Tryd.prog [(85, 999, [2])] [] [] [] []
def q85 (a0_0 : Int) (a0_1 : Int) : Bool := true
def v85_0 (a0_0 : Int) (a0_1 : Int) : Bool := (bif decide ((-1000) ≤ a0_0) then (bif decide (a0_0 ≤ a0_1) then decide (a0_1 ≤ 1000) else false) else false)
theorem e85 (a0_0 : Int) (a0_1 : Int) : funA c85 0 85 [AV.agg [AV.int .i64 a0_0, AV.int .i64 a0_1]] = (bif decide ((-1000) ≤ a0_0) then (bif decide (a0_0 ≤ a0_1) then some (AV.bool (decide (a0_1 ≤ 1000)))
  else some (AV.bool false))
  else some (AV.bool false)) := by kernel_rfl
theorem r85 (a0_0 : Int) (a0_1 : Int) : funA c85 0 85 [AV.agg [AV.int .i64 a0_0, AV.int .i64 a0_1]] = some (AV.bool (v85_0 a0_0 a0_1)) := (e85 a0_0 a0_1).trans (of_tt (brT (fun b => some (AV.bool (bif b then (bif decide (a0_0 ≤ a0_1) then decide (a0_1 ≤ 1000) else false) else false))) (brT (fun b => some (AV.bool (bif b then decide (a0_1 ≤ 1000) else false))) (fun _ => rfl) (fun _ => rfl)) (fun _ => rfl)))
def m85 : TModel
  | [.agg [.int .i64 a0_0, .int .i64 a0_1]] => some (true, AV.bool (v85_0 a0_0 a0_1))
  | _ => none
theorem k85 : Known Tryd.prog 85 := ⟨Tryd.f85, Tryd.func85, by kernel_rfl, by kernel_rfl⟩
theorem meets85 : Meets Tryd.prog 85 m85 := by
  refine meet (f := Tryd.f85) (l := []) (hs := [(85, 999, [2])]) (ts := []) (ws := []) (is := []) (ls := []) (lvl := 0) mixed k85 Tryd.func85 (by kernel_rfl) noLoop allT_nil allM_nil noI fun w xs us r hl hv h => ?_
  unfold m85 at h
  split at h
  · rename_i a0_0 a0_1
    obtain ⟨h1, rfl⟩ := pair_inj h
    exact r85 a0_0 a0_1
  · cases h

/-! ### 84 loop.example/g01984/impl.areRanges$1 -/
noncomputable def c84 : Cfg := cfg Tryd.prog [(84, 999, [2])] [(85, m85)] [] [] []
def q84 (a0_0 : Int) (a0_1 : Int) : Bool := true
def v84_0 (a0_0 : Int) (a0_1 : Int) : Bool := !(v85_0 a0_0 a0_1)
theorem e84 (a0_0 : Int) (a0_1 : Int) : funA c84 0 84 [AV.agg [AV.int .i64 a0_0, AV.int .i64 a0_1]] = some (AV.bool (!(v85_0 a0_0 a0_1))) := by kernel_rfl
theorem r84 (a0_0 : Int) (a0_1 : Int) : funA c84 0 84 [AV.agg [AV.int .i64 a0_0, AV.int .i64 a0_1]] = some (AV.bool (v84_0 a0_0 a0_1)) := (e84 a0_0 a0_1).trans (of_tt (fun _ => rfl))
def m84 : TModel
  | [.agg [.int .i64 a0_0, .int .i64 a0_1]] => some (true, AV.bool (v84_0 a0_0 a0_1))
  | _ => none
theorem k84 : Known Tryd.prog 84 := ⟨Tryd.f84, Tryd.func84, by kernel_rfl, by kernel_rfl⟩
theorem meets84 : Meets Tryd.prog 84 m84 := by
  refine meet (f := Tryd.f84) (l := []) (hs := [(84, 999, [2])]) (ts := [(85, m85)]) (ws := []) (is := []) (ls := []) (lvl := 0) mixed k84 Tryd.func84 (by kernel_rfl) noLoop (allT_cons meets85 allT_nil) allM_nil noI fun w xs us r hl hv h => ?_
  unfold m84 at h
  split at h
  · rename_i a0_0 a0_1
    obtain ⟨h1, rfl⟩ := pair_inj h
    exact r84 a0_0 a0_1
  · cases h

/-! ### 103 slices.IndexFunc[[]loop.example/g01984/impl.Range,loop.example/g01984/impl.Range] -/
def F103_0 (t0 : List AV) (t7 : Int) (t8 : Int) : Out (Int) (Unit ⊕ Int) := (bif decide (t8 < t7) then (bif (decide (0 ≤ t8) && decide (t8 < (t0.length : Int))) then (bif (v84_0 (fI (t0.getD t8.toNat AV.undef) 0) (fI (t0.getD t8.toNat AV.undef) 1)) then .stop (.inr t8)
  else .next (IntKind.i64.wrap (t8 + 1)))
  else .fail)
  else .stop (.inl ()))
def R103_0 (t0 : List AV) (t7 : Int) : (Int) → Out (Int) (Unit ⊕ Int) := fun s : Int => F103_0 t0 t7 s
def l103_0 : LModel := fun _ _ st k => match st with
  | ⟨[(0, .sl g0 t0), (1, .fn g1 []), (7, .int .i64 t7), (8, .int .i64 t8)], []⟩ => bif ctsEq g0 ([.int .i64, .int .i64]) && Nat.beq g1 84 then ro (runW (R103_0 t0 t7) ((t7 - t8).toNat + 1) t8) none (sumE (fun _ : Unit => k (.exit 0) ⟨[], []⟩) (fun p : Int => k .ret ⟨[(4, AV.int .i64 p)], []⟩)) else none
  | _ => none
noncomputable def c103 : Cfg := cfg Tryd.prog [(103, 0, [0, 1, 7, 8]), (103, 999, [4]), (103, 1000, []), (103, 1001, [0, 1, 7, 8])] [(84, m84)] [] [] [(103, 0, l103_0)]
theorem s103_0 (ce : CallE) (t0 : List AV) (t7 : Int) (t8 : Int) (next : St → Option AV) (k : Kont) : stepA (codeA c103 ce [] 103 0 (sub [1, 0, 1, 0, 0] (body Tryd.f103))) (normA [] [0, 1, 7, 8]) next ⟨[(0, AV.sl [.int .i64, .int .i64] t0), (1, AV.fn 84 []), (7, AV.int .i64 t7), (8, AV.int .i64 t8)], []⟩ k = (bif decide (t8 < t7) then (bif (decide (0 ≤ t8) && decide (t8 < (t0.length : Int))) then (bif (v84_0 (fI (t0.getD t8.toNat AV.undef) 0) (fI (t0.getD t8.toNat AV.undef) 1)) then k .ret ⟨[(4, AV.int .i64 t8)], []⟩
  else next ⟨[(0, AV.sl [.int .i64, .int .i64] t0), (1, AV.fn 84 []), (7, AV.int .i64 t7), (8, AV.int .i64 (IntKind.i64.wrap (t8 + 1)))], []⟩)
  else none)
  else k (.exit 0) ⟨[], []⟩) := by kernel_rfl
theorem st103_0 (t0 : List AV) (t7 : Int) (ce : CallE) (k : Kont) (s : Int) (next : St → Option AV) : stepA (codeA c103 ce [] 103 0 (sub [1, 0, 1, 0, 0] (body Tryd.f103))) (normA [] [0, 1, 7, 8]) next ((fun s : Int => ⟨[(0, AV.sl [.int .i64, .int .i64] t0), (1, AV.fn 84 []), (7, AV.int .i64 t7), (8, AV.int .i64 s)], []⟩) s) k = (R103_0 t0 t7 s).el none (fun s => next ((fun s : Int => ⟨[(0, AV.sl [.int .i64, .int .i64] t0), (1, AV.fn 84 []), (7, AV.int .i64 t7), (8, AV.int .i64 s)], []⟩) s)) (sumE (fun _ : Unit => k (.exit 0) ⟨[], []⟩) (fun p : Int => k .ret ⟨[(4, AV.int .i64 p)], []⟩)) := (s103_0 ce t0 t7 s next k).trans (by unfold R103_0; unfold F103_0; simp only [el_cond, el_ro, el_sum, el_fail, el_next, el_stop] <;> rfl)
theorem ok103_0 {ce : CallE} : LoopOK c103 ce [] 103 0 (sub [1, 0, 1, 0, 0] (body Tryd.f103)) := by
  intro m hm st k r h
  obtain rfl : l103_0 = m := Option.some.inj hm
  unfold l103_0 at h
  split at h
  · rename_i g0 t0 g1 t7 t8
    obtain ⟨hg, h⟩ := bif_some h
    simp only [Bool.and_eq_true] at hg
    obtain ⟨q0, q1⟩ := hg
    obtain rfl := ctsEq_eq _ _ q0
    obtain rfl := Nat.eq_of_beq_eq_true q1
    refine ⟨((t7 - t8).toNat + 1), ?_⟩
    rw [← h]
    exact loop_run (fun s : Int => ⟨[(0, AV.sl [.int .i64, .int .i64] t0), (1, AV.fn 84 []), (7, AV.int .i64 t7), (8, AV.int .i64 s)], []⟩) (sumE (fun _ : Unit => k (.exit 0) ⟨[], []⟩) (fun p : Int => k .ret ⟨[(4, AV.int .i64 p)], []⟩)) (st103_0 t0 t7 ce k) _ t8
  · cases h
def q103 (a0 : List AV) : Bool := (ro (runW (R103_0 a0 (a0.length : Int)) (((a0.length : Int) - 0).toNat + 1) 0) false (sumE (fun _ => true) (fun p7 => true)))
def v103_0 (a0 : List AV) : Int := (ro (runW (R103_0 a0 (a0.length : Int)) (((a0.length : Int) - 0).toNat + 1) 0) 0 (sumE (fun _ => (-1)) (fun p7 => p7)))
theorem e103 (a0 : List AV) : funA c103 0 103 [AV.sl [.int .i64, .int .i64] a0, AV.fn 84 []] = (ro (runW (R103_0 a0 (a0.length : Int)) (((a0.length : Int) - 0).toNat + 1) 0) none (sumE (fun _ => some (AV.int .i64 (-1))) (fun p7 => some (AV.int .i64 p7)))) := by kernel_rfl
theorem r103 (a0 : List AV) (h : q103 a0 = true) : funA c103 0 103 [AV.sl [.int .i64, .int .i64] a0, AV.fn 84 []] = some (AV.int .i64 (v103_0 a0)) := (e103 a0).trans ((brO (fun o : Option (Unit ⊕ Int) => some (AV.int .i64 (ro o 0 (sumE (fun _ => (-1)) (fun p7 => p7))))) (brS (fun o : Unit ⊕ Int => some (AV.int .i64 ((sumE (fun _ => (-1)) (fun p7 => p7)) o))) (fun _ => (fun _ => rfl)) (fun p7 => (fun _ => rfl)))) h)
def m103 : TModel
  | [.sl g0 a0, .fn g1 []] => bif ctsEq g0 ([.int .i64, .int .i64]) && Nat.beq g1 84 then some (q103 a0, AV.int .i64 (v103_0 a0)) else none
  | _ => none
theorem k103 : Known Tryd.prog 103 := ⟨Tryd.f103, Tryd.func103, by kernel_rfl, by kernel_rfl⟩
theorem meets103 : Meets Tryd.prog 103 m103 := by
  refine meet (f := Tryd.f103) (l := [(0, sub [1, 0, 1, 0, 0] (body Tryd.f103))]) (hs := [(103, 0, [0, 1, 7, 8]), (103, 999, [4]), (103, 1000, []), (103, 1001, [0, 1, 7, 8])]) (ts := [(84, m84)]) (ws := []) (is := []) (ls := [(103, 0, l103_0)]) (lvl := 0) mixed k103 Tryd.func103 (by kernel_rfl) (loops_cons ok103_0 noLoop) (allT_cons meets84 allT_nil) allM_nil noI fun w xs us r hl hv h => ?_
  unfold m103 at h
  split at h
  · rename_i g0 a0 g1
    obtain ⟨hg, h⟩ := bif_pair h
    simp only [Bool.and_eq_true] at hg
    obtain ⟨q0, q1⟩ := hg
    obtain rfl := ctsEq_eq _ _ q0
    obtain rfl := Nat.eq_of_beq_eq_true q1
    obtain ⟨h1, rfl⟩ := pair_inj h
    exact r103 a0 h1
  · cases h

/-! ### 83 slices.ContainsFunc[[]loop.example/g01984/impl.Range,loop.example/g01984/impl.Range] -/
noncomputable def c83 : Cfg := cfg Tryd.prog [(83, 999, [4])] [(103, m103)] [] [] []
def q83 (a0 : List AV) : Bool := q103 a0
def v83_0 (a0 : List AV) : Bool := decide ((v103_0 a0) ≥ 0)
theorem e83 (a0 : List AV) : funA c83 0 83 [AV.sl [.int .i64, .int .i64] a0, AV.fn 84 []] = (bif q103 a0 then some (AV.bool (decide ((v103_0 a0) ≥ 0)))
  else none) := by kernel_rfl
theorem r83 (a0 : List AV) (h : q83 a0 = true) : funA c83 0 83 [AV.sl [.int .i64, .int .i64] a0, AV.fn 84 []] = some (AV.bool (v83_0 a0)) := (e83 a0).trans ((brL1 (fun _ => rfl)) h)
def m83 : TModel
  | [.sl g0 a0, .fn g1 []] => bif ctsEq g0 ([.int .i64, .int .i64]) && Nat.beq g1 84 then some (q83 a0, AV.bool (v83_0 a0)) else none
  | _ => none
theorem k83 : Known Tryd.prog 83 := ⟨Tryd.f83, Tryd.func83, by kernel_rfl, by kernel_rfl⟩
theorem meets83 : Meets Tryd.prog 83 m83 := by
  refine meet (f := Tryd.f83) (l := []) (hs := [(83, 999, [4])]) (ts := [(103, m103)]) (ws := []) (is := []) (ls := []) (lvl := 0) mixed k83 Tryd.func83 (by kernel_rfl) noLoop (allT_cons meets103 allT_nil) allM_nil noI fun w xs us r hl hv h => ?_
  unfold m83 at h
  split at h
  · rename_i g0 a0 g1
    obtain ⟨hg, h⟩ := bif_pair h
    simp only [Bool.and_eq_true] at hg
    obtain ⟨q0, q1⟩ := hg
    obtain rfl := ctsEq_eq _ _ q0
    obtain rfl := Nat.eq_of_beq_eq_true q1
    obtain ⟨h1, rfl⟩ := pair_inj h
    exact r83 a0 h1
  · cases h

/-! ### 54 loop.example/g01984/impl.areRanges -/
noncomputable def c54 : Cfg := cfg Tryd.prog [(54, 999, [2])] [(83, m83)] [] [] []
def q54 (a0 : List AV) : Bool := (bif decide ((a0.length : Int) ≤ 30) then q83 a0 else true)
def v54_0 (a0 : List AV) : Bool := (bif decide ((a0.length : Int) ≤ 30) then !(v83_0 a0) else false)
theorem e54 (a0 : List AV) : funA c54 0 54 [AV.sl [.int .i64, .int .i64] a0] = (bif decide ((a0.length : Int) ≤ 30) then (bif q83 a0 then some (AV.bool (!(v83_0 a0)))
  else none)
  else some (AV.bool false)) := by kernel_rfl
theorem r54 (a0 : List AV) (h : q54 a0 = true) : funA c54 0 54 [AV.sl [.int .i64, .int .i64] a0] = some (AV.bool (v54_0 a0)) := (e54 a0).trans ((br (fun b => some (AV.bool (bif b then !(v83_0 a0) else false))) (brL1 (fun _ => rfl)) (fun _ => rfl)) h)
def m54 : TModel
  | [.sl g0 a0] => bif ctsEq g0 ([.int .i64, .int .i64]) then some (q54 a0, AV.bool (v54_0 a0)) else none
  | _ => none
theorem k54 : Known Tryd.prog 54 := ⟨Tryd.f54, Tryd.func54, by kernel_rfl, by kernel_rfl⟩
theorem meets54 : Meets Tryd.prog 54 m54 := by
  refine meet (f := Tryd.f54) (l := []) (hs := [(54, 999, [2])]) (ts := [(83, m83)]) (ws := []) (is := []) (ls := []) (lvl := 0) mixed k54 Tryd.func54 (by kernel_rfl) noLoop (allT_cons meets83 allT_nil) allM_nil noI fun w xs us r hl hv h => ?_
  unfold m54 at h
  split at h
  · rename_i g0 a0
    obtain ⟨hg, h⟩ := bif_pair h
    have q0 := hg
    obtain rfl := ctsEq_eq _ _ q0
    obtain ⟨h1, rfl⟩ := pair_inj h
    exact r54 a0 h1
  · cases h

/-! ### 78 strconv.Itoa -/
def q78 (a0 : Int) : Bool := decide (-9223372036854775808 ≤ a0) && decide (a0 ≤ 9223372036854775807)
def v78_0 (a0 : Int) : ByteArray := itoaB a0
def m78 : TModel := itoaM
theorem k78 : Known Tryd.prog 78 := ⟨Tryd.f78, Tryd.func78, by kernel_rfl, by kernel_rfl⟩
theorem meets78 : Meets Tryd.prog 78 m78 := itoa_meets ⟨k78, fun n w h0 h1 hG => Any.strconv_Itoa lays171 n h0 h1 w hG⟩

/-! ### 44 loop.example/g01984/impl.FormatInt -/
noncomputable def c44 : Cfg := cfg Tryd.prog [(44, 999, [2])] [(78, m78)] [] [] []
def q44 (a0 : Int) : Bool := q78 a0
def v44_0 (a0 : Int) : ByteArray := (v78_0 a0)
theorem e44 (a0 : Int) : funA c44 0 44 [AV.int .i64 a0] = (bif q78 a0 then some (AV.str (v78_0 a0))
  else none) := by kernel_rfl
theorem r44 (a0 : Int) (h : q44 a0 = true) : funA c44 0 44 [AV.int .i64 a0] = some (AV.str (v44_0 a0)) := (e44 a0).trans ((brL1 (fun _ => rfl)) h)
def m44 : TModel
  | [.int .i64 a0] => some (q44 a0, AV.str (v44_0 a0))
  | _ => none
theorem k44 : Known Tryd.prog 44 := ⟨Tryd.f44, Tryd.func44, by kernel_rfl, by kernel_rfl⟩
theorem meets44 : Meets Tryd.prog 44 m44 := by
  refine meet (f := Tryd.f44) (l := []) (hs := [(44, 999, [2])]) (ts := [(78, m78)]) (ws := []) (is := []) (ls := []) (lvl := 0) mixed k44 Tryd.func44 (by kernel_rfl) noLoop (allT_cons meets78 allT_nil) allM_nil noI fun w xs us r hl hv h => ?_
  unfold m44 at h
  split at h
  · rename_i a0
    obtain ⟨h1, rfl⟩ := pair_inj h
    exact r44 a0 h1
  · cases h

/-! ### 55 loop.example/g01984/impl.FormatRange -/
noncomputable def c55 : Cfg := cfg Tryd.prog [(55, 999, [2])] [(44, m44), (85, m85)] [] [] []
def q55 (a0_0 : Int) (a0_1 : Int) : Bool := (bif !(v85_0 a0_0 a0_1) then true else (q44 a0_0 && (decide ((v44_0 a0_0).size + (ByteArray.mk #[46, 46]).size ≤ 4611686018427387904) && (q44 a0_1 && decide (((v44_0 a0_0) ++ (ByteArray.mk #[46, 46])).size + (v44_0 a0_1).size ≤ 4611686018427387904)))))
def v55_0 (a0_0 : Int) (a0_1 : Int) : ByteArray := (bif !(v85_0 a0_0 a0_1) then ByteArray.empty else ((v44_0 a0_0) ++ (ByteArray.mk #[46, 46])) ++ (v44_0 a0_1))
theorem e55 (a0_0 : Int) (a0_1 : Int) : funA c55 0 55 [AV.agg [AV.int .i64 a0_0, AV.int .i64 a0_1]] = (bif !(v85_0 a0_0 a0_1) then some (AV.str ByteArray.empty)
  else (bif q44 a0_0 then (bif decide ((v44_0 a0_0).size + (ByteArray.mk #[46, 46]).size ≤ 4611686018427387904) then (bif q44 a0_1 then (bif decide (((v44_0 a0_0) ++ (ByteArray.mk #[46, 46])).size + (v44_0 a0_1).size ≤ 4611686018427387904) then some (AV.str (((v44_0 a0_0) ++ (ByteArray.mk #[46, 46])) ++ (v44_0 a0_1)))
  else none)
  else none)
  else none)
  else none)) := by kernel_rfl
theorem r55 (a0_0 : Int) (a0_1 : Int) (h : q55 a0_0 a0_1 = true) : funA c55 0 55 [AV.agg [AV.int .i64 a0_0, AV.int .i64 a0_1]] = some (AV.str (v55_0 a0_0 a0_1)) := (e55 a0_0 a0_1).trans ((br (fun b => some (AV.str (bif b then ByteArray.empty else ((v44_0 a0_0) ++ (ByteArray.mk #[46, 46])) ++ (v44_0 a0_1)))) (fun _ => rfl) (brL (brL (brL (brL1 (fun _ => rfl)))))) h)
def m55 : TModel
  | [.agg [.int .i64 a0_0, .int .i64 a0_1]] => some (q55 a0_0 a0_1, AV.str (v55_0 a0_0 a0_1))
  | _ => none
theorem k55 : Known Tryd.prog 55 := ⟨Tryd.f55, Tryd.func55, by kernel_rfl, by kernel_rfl⟩
theorem meets55 : Meets Tryd.prog 55 m55 := by
  refine meet (f := Tryd.f55) (l := []) (hs := [(55, 999, [2])]) (ts := [(44, m44), (85, m85)]) (ws := []) (is := []) (ls := []) (lvl := 0) mixed k55 Tryd.func55 (by kernel_rfl) noLoop (allT_cons meets44 (allT_cons meets85 allT_nil)) allM_nil noI fun w xs us r hl hv h => ?_
  unfold m55 at h
  split at h
  · rename_i a0_0 a0_1
    obtain ⟨h1, rfl⟩ := pair_inj h
    exact r55 a0_0 a0_1 h1
  · cases h

/-! ### 50 strings.Join -/
def q50 (a0 : List AV) (a1 : ByteArray) : Bool := decide (a0.length ≤ 140737488355328) && decide ((joinB a0 a1).size ≤ 140737488355328)
def v50_0 (a0 : List AV) (a1 : ByteArray) : ByteArray := joinB a0 a1
def m50 : TModel := joinM
theorem k50 : Known Tryd.prog 50 := ⟨Tryd.f50, Tryd.func50, by kernel_rfl, by kernel_rfl⟩
theorem meets50 : Meets Tryd.prog 50 m50 := join_meets ⟨k50, fun a c sep w => Any.strings_Join_none lays156 extra156 a c sep w, fun bk o c xs sep w h1 h2 h3 h4 h5 => Any.strings_Join lays156 extra156 bk o c xs sep w h1 h2 h3 h4 h5⟩

/-! ### 23 loop.example/g01984/impl.FormatWorkload -/
def F23_0 (t10 : List AV) (t11 : Int) (t12 : Int) (h0 : List AV) : Out ((Int × (List AV))) (((List AV))) := (bif decide (t12 < t11) then (bif (decide (0 ≤ t12) && decide (t12 < (t10.length : Int))) then (bif q55 (fI (t10.getD t12.toNat AV.undef) 0) (fI (t10.getD t12.toNat AV.undef) 1) then (bif (decide ((h0.length + ([AV.str (v55_0 (fI (t10.getD t12.toNat AV.undef) 0) (fI (t10.getD t12.toNat AV.undef) 1))]).length) * 16 ≤ 140737488355328) && decide ((h0.length + ([AV.str (v55_0 (fI (t10.getD t12.toNat AV.undef) 0) (fI (t10.getD t12.toNat AV.undef) 1))]).length) ≤ 140737488355328)) then .next (IntKind.i64.wrap (t12 + 1), h0 ++ ([AV.str (v55_0 (fI (t10.getD t12.toNat AV.undef) 0) (fI (t10.getD t12.toNat AV.undef) 1))]))
  else .fail)
  else .fail)
  else .fail)
  else .stop h0)
def R23_0 (t10 : List AV) (t11 : Int) : ((Int × (List AV))) → Out ((Int × (List AV))) (((List AV))) := fun s : Int × (List AV) => F23_0 t10 t11 s.1 s.2
def l23_0 : LModel := fun _ _ st k => match st with
  | ⟨[(3, .own g0), (10, .sl g1 t10), (11, .int .i64 t11), (12, .int .i64 t12)], [(g2, ⟨false, g3, h0⟩)]⟩ => bif nmEq g0 ([0, 3]) && ctsEq g1 ([.int .i64, .int .i64]) && nmEq g2 ([0, 3]) && ctsEq g3 ([.str]) then ro (runW (R23_0 t10 t11) ((t11 - t12).toNat + 1) (t12, h0)) none (fun p : (List AV) => k (.exit 0) ⟨[(3, AV.own [0, 3])], [([0, 3], ⟨false, [.str], p⟩)]⟩) else none
  | _ => none
noncomputable def c23 : Cfg := cfg Tryd.prog [(23, 0, [3, 10, 11, 12]), (23, 999, [2]), (23, 1000, [3]), (23, 1001, [3, 10, 11, 12])] [(50, m50), (54, m54), (55, m55)] [] [] [(23, 0, l23_0)]
theorem s23_0 (ce : CallE) (t10 : List AV) (t11 : Int) (t12 : Int) (h0 : List AV) (next : St → Option AV) (k : Kont) : stepA (codeA c23 ce [] 23 0 (sub [1, 1, 1, 0, 1, 0, 0] (body Tryd.f23))) (normA [] [3, 10, 11, 12]) next ⟨[(3, AV.own [0, 3]), (10, AV.sl [.int .i64, .int .i64] t10), (11, AV.int .i64 t11), (12, AV.int .i64 t12)], [([0, 3], ⟨false, [.str], h0⟩)]⟩ k = (bif decide (t12 < t11) then (bif (decide (0 ≤ t12) && decide (t12 < (t10.length : Int))) then (bif q55 (fI (t10.getD t12.toNat AV.undef) 0) (fI (t10.getD t12.toNat AV.undef) 1) then (bif (decide ((h0.length + ([AV.str (v55_0 (fI (t10.getD t12.toNat AV.undef) 0) (fI (t10.getD t12.toNat AV.undef) 1))]).length) * 16 ≤ 140737488355328) && decide ((h0.length + ([AV.str (v55_0 (fI (t10.getD t12.toNat AV.undef) 0) (fI (t10.getD t12.toNat AV.undef) 1))]).length) ≤ 140737488355328)) then next ⟨[(3, AV.own [0, 3]), (10, AV.sl [.int .i64, .int .i64] t10), (11, AV.int .i64 t11), (12, AV.int .i64 (IntKind.i64.wrap (t12 + 1)))], [([0, 3], ⟨false, [.str], h0 ++ ([AV.str (v55_0 (fI (t10.getD t12.toNat AV.undef) 0) (fI (t10.getD t12.toNat AV.undef) 1))])⟩)]⟩
  else none)
  else none)
  else none)
  else k (.exit 0) ⟨[(3, AV.own [0, 3])], [([0, 3], ⟨false, [.str], h0⟩)]⟩) := by kernel_rfl
theorem st23_0 (t10 : List AV) (t11 : Int) (ce : CallE) (k : Kont) (s : (Int × (List AV))) (next : St → Option AV) : stepA (codeA c23 ce [] 23 0 (sub [1, 1, 1, 0, 1, 0, 0] (body Tryd.f23))) (normA [] [3, 10, 11, 12]) next ((fun s : Int × (List AV) => ⟨[(3, AV.own [0, 3]), (10, AV.sl [.int .i64, .int .i64] t10), (11, AV.int .i64 t11), (12, AV.int .i64 s.1)], [([0, 3], ⟨false, [.str], s.2⟩)]⟩) s) k = (R23_0 t10 t11 s).el none (fun s => next ((fun s : Int × (List AV) => ⟨[(3, AV.own [0, 3]), (10, AV.sl [.int .i64, .int .i64] t10), (11, AV.int .i64 t11), (12, AV.int .i64 s.1)], [([0, 3], ⟨false, [.str], s.2⟩)]⟩) s)) (fun p : (List AV) => k (.exit 0) ⟨[(3, AV.own [0, 3])], [([0, 3], ⟨false, [.str], p⟩)]⟩) := (s23_0 ce t10 t11 s.1 s.2 next k).trans (by unfold R23_0; unfold F23_0; simp only [el_cond, el_ro, el_sum, el_fail, el_next, el_stop] <;> rfl)
theorem ok23_0 {ce : CallE} : LoopOK c23 ce [] 23 0 (sub [1, 1, 1, 0, 1, 0, 0] (body Tryd.f23)) := by
  intro m hm st k r h
  obtain rfl : l23_0 = m := Option.some.inj hm
  unfold l23_0 at h
  split at h
  · rename_i g0 g1 t10 t11 t12 g2 g3 h0
    obtain ⟨hg, h⟩ := bif_some h
    simp only [Bool.and_eq_true] at hg
    obtain ⟨⟨⟨q0, q1⟩, q2⟩, q3⟩ := hg
    obtain rfl := (nmEq_iff _ _).1 q0
    obtain rfl := ctsEq_eq _ _ q1
    obtain rfl := (nmEq_iff _ _).1 q2
    obtain rfl := ctsEq_eq _ _ q3
    refine ⟨((t11 - t12).toNat + 1), ?_⟩
    rw [← h]
    exact loop_run (fun s : Int × (List AV) => ⟨[(3, AV.own [0, 3]), (10, AV.sl [.int .i64, .int .i64] t10), (11, AV.int .i64 t11), (12, AV.int .i64 s.1)], [([0, 3], ⟨false, [.str], s.2⟩)]⟩) (fun p : (List AV) => k (.exit 0) ⟨[(3, AV.own [0, 3])], [([0, 3], ⟨false, [.str], p⟩)]⟩) (st23_0 t10 t11 ce k) _ (t12, h0)
  · cases h
def q23 (a0 : List AV) : Bool := (q54 a0 && (bif !(v54_0 a0) then true else (ro (runW (R23_0 a0 (a0.length : Int)) (((a0.length : Int) - 0).toNat + 1) (0, ([] : List AV))) false (fun p8 => (bif decide ((p8.length : Int) = 0) then true else q50 p8 (ByteArray.mk #[32]))))))
def v23_0 (a0 : List AV) : ByteArray := (bif !(v54_0 a0) then ByteArray.empty else (ro (runW (R23_0 a0 (a0.length : Int)) (((a0.length : Int) - 0).toNat + 1) (0, ([] : List AV))) ByteArray.empty (fun p8 => (bif decide ((p8.length : Int) = 0) then (ByteArray.mk #[110, 111, 110, 101]) else (v50_0 p8 (ByteArray.mk #[32]))))))
theorem e23 (a0 : List AV) : funA c23 0 23 [AV.sl [.int .i64, .int .i64] a0] = (bif q54 a0 then (bif !(v54_0 a0) then some (AV.str ByteArray.empty)
  else (ro (runW (R23_0 a0 (a0.length : Int)) (((a0.length : Int) - 0).toNat + 1) (0, ([] : List AV))) none (fun p8 => (bif decide ((p8.length : Int) = 0) then some (AV.str (ByteArray.mk #[110, 111, 110, 101]))
  else (bif q50 p8 (ByteArray.mk #[32]) then some (AV.str (v50_0 p8 (ByteArray.mk #[32])))
  else none)))))
  else none) := by kernel_rfl
theorem r23 (a0 : List AV) (h : q23 a0 = true) : funA c23 0 23 [AV.sl [.int .i64, .int .i64] a0] = some (AV.str (v23_0 a0)) := (e23 a0).trans ((brL (br (fun b => some (AV.str (bif b then ByteArray.empty else (ro (runW (R23_0 a0 (a0.length : Int)) (((a0.length : Int) - 0).toNat + 1) (0, ([] : List AV))) ByteArray.empty (fun p8 => (bif decide ((p8.length : Int) = 0) then (ByteArray.mk #[110, 111, 110, 101]) else (v50_0 p8 (ByteArray.mk #[32])))))))) (fun _ => rfl) (brO (fun o : Option (((List AV))) => some (AV.str (ro o ByteArray.empty (fun p8 => (bif decide ((p8.length : Int) = 0) then (ByteArray.mk #[110, 111, 110, 101]) else (v50_0 p8 (ByteArray.mk #[32]))))))) (fun p8 => (br (fun b => some (AV.str (bif b then (ByteArray.mk #[110, 111, 110, 101]) else (v50_0 p8 (ByteArray.mk #[32]))))) (fun _ => rfl) (brL1 (fun _ => rfl))))))) h)
def m23 : TModel
  | [.sl g0 a0] => bif ctsEq g0 ([.int .i64, .int .i64]) then some (q23 a0, AV.str (v23_0 a0)) else none
  | _ => none
theorem k23 : Known Tryd.prog 23 := ⟨Tryd.f23, Tryd.func23, by kernel_rfl, by kernel_rfl⟩
theorem meets23 : Meets Tryd.prog 23 m23 := by
  refine meet (f := Tryd.f23) (l := [(0, sub [1, 1, 1, 0, 1, 0, 0] (body Tryd.f23))]) (hs := [(23, 0, [3, 10, 11, 12]), (23, 999, [2]), (23, 1000, [3]), (23, 1001, [3, 10, 11, 12])]) (ts := [(50, m50), (54, m54), (55, m55)]) (ws := []) (is := []) (ls := [(23, 0, l23_0)]) (lvl := 0) mixed k23 Tryd.func23 (by kernel_rfl) (loops_cons ok23_0 noLoop) (allT_cons meets50 (allT_cons meets54 (allT_cons meets55 allT_nil))) allM_nil noI fun w xs us r hl hv h => ?_
  unfold m23 at h
  split at h
  · rename_i g0 a0
    obtain ⟨hg, h⟩ := bif_pair h
    have q0 := hg
    obtain rfl := ctsEq_eq _ _ q0
    obtain ⟨h1, rfl⟩ := pair_inj h
    exact r23 a0 h1
  · cases h

/-! ### 56 loop.example/g01984/laws.eqRange -/
noncomputable def c56 : Cfg := cfg Tryd.prog [(56, 999, [4])] [] [] [] []
def q56 (a0_0 : Int) (a0_1 : Int) (a1_0 : Int) (a1_1 : Int) : Bool := true
def v56_0 (a0_0 : Int) (a0_1 : Int) (a1_0 : Int) (a1_1 : Int) : Bool := (bif !decide (a0_0 = a1_0) then false else (bif !decide (a0_1 = a1_1) then false else true))
theorem e56 (a0_0 : Int) (a0_1 : Int) (a1_0 : Int) (a1_1 : Int) : funA c56 0 56 [AV.agg [AV.int .i64 a0_0, AV.int .i64 a0_1], AV.agg [AV.int .i64 a1_0, AV.int .i64 a1_1]] = (bif !decide (a0_0 = a1_0) then some (AV.bool false)
  else (bif !decide (a0_1 = a1_1) then some (AV.bool false)
  else some (AV.bool true))) := by kernel_rfl
theorem r56 (a0_0 : Int) (a0_1 : Int) (a1_0 : Int) (a1_1 : Int) : funA c56 0 56 [AV.agg [AV.int .i64 a0_0, AV.int .i64 a0_1], AV.agg [AV.int .i64 a1_0, AV.int .i64 a1_1]] = some (AV.bool (v56_0 a0_0 a0_1 a1_0 a1_1)) := (e56 a0_0 a0_1 a1_0 a1_1).trans (of_tt (brT (fun b => some (AV.bool (bif b then false else (bif !decide (a0_1 = a1_1) then false else true)))) (fun _ => rfl) (brT (fun b => some (AV.bool (bif b then false else true))) (fun _ => rfl) (fun _ => rfl))))
def m56 : TModel
  | [.agg [.int .i64 a0_0, .int .i64 a0_1], .agg [.int .i64 a1_0, .int .i64 a1_1]] => some (true, AV.bool (v56_0 a0_0 a0_1 a1_0 a1_1))
  | _ => none
theorem k56 : Known Tryd.prog 56 := ⟨Tryd.f56, Tryd.func56, by kernel_rfl, by kernel_rfl⟩
theorem meets56 : Meets Tryd.prog 56 m56 := by
  refine meet (f := Tryd.f56) (l := []) (hs := [(56, 999, [4])]) (ts := []) (ws := []) (is := []) (ls := []) (lvl := 0) mixed k56 Tryd.func56 (by kernel_rfl) noLoop allT_nil allM_nil noI fun w xs us r hl hv h => ?_
  unfold m56 at h
  split at h
  · rename_i a0_0 a0_1 a1_0 a1_1
    obtain ⟨h1, rfl⟩ := pair_inj h
    exact r56 a0_0 a0_1 a1_0 a1_1
  · cases h

/-! ### 24 loop.example/g01984/laws.eqRangeS -/
def F24_0 (t0 : List AV) (t1 : List AV) (t5 : Int) : Out (Int) (Unit ⊕ Unit) := (bif decide (t5 < (t0.length : Int)) then (bif (decide (0 ≤ t5) && decide (t5 < (t0.length : Int))) then (bif (decide (0 ≤ t5) && decide (t5 < (t1.length : Int))) then (bif !(v56_0 (fI (t0.getD t5.toNat AV.undef) 0) (fI (t0.getD t5.toNat AV.undef) 1) (fI (t1.getD t5.toNat AV.undef) 0) (fI (t1.getD t5.toNat AV.undef) 1)) then .stop (.inr ())
  else .next (IntKind.i64.wrap (t5 + 1)))
  else .fail)
  else .fail)
  else .stop (.inl ()))
def R24_0 (t0 : List AV) (t1 : List AV) : (Int) → Out (Int) (Unit ⊕ Unit) := fun s : Int => F24_0 t0 t1 s
def l24_0 : LModel := fun _ _ st k => match st with
  | ⟨[(0, .sl g0 t0), (1, .sl g1 t1), (5, .int .i64 t5)], []⟩ => bif ctsEq g0 ([.int .i64, .int .i64]) && ctsEq g1 ([.int .i64, .int .i64]) then ro (runW (R24_0 t0 t1) (((t0.length : Int) - t5).toNat + 1) t5) none (sumE (fun _ : Unit => k (.exit 0) ⟨[], []⟩) (fun _ : Unit => k .ret ⟨[(4, AV.bool false)], []⟩)) else none
  | _ => none
noncomputable def c24 : Cfg := cfg Tryd.prog [(24, 0, [0, 1, 5]), (24, 999, [4]), (24, 1000, []), (24, 1001, [0, 1, 5])] [(56, m56)] [] [] [(24, 0, l24_0)]
theorem s24_0 (ce : CallE) (t0 : List AV) (t1 : List AV) (t5 : Int) (next : St → Option AV) (k : Kont) : stepA (codeA c24 ce [] 24 0 (sub [1, 1, 0, 1, 0, 0] (body Tryd.f24))) (normA [] [0, 1, 5]) next ⟨[(0, AV.sl [.int .i64, .int .i64] t0), (1, AV.sl [.int .i64, .int .i64] t1), (5, AV.int .i64 t5)], []⟩ k = (bif decide (t5 < (t0.length : Int)) then (bif (decide (0 ≤ t5) && decide (t5 < (t0.length : Int))) then (bif (decide (0 ≤ t5) && decide (t5 < (t1.length : Int))) then (bif !(v56_0 (fI (t0.getD t5.toNat AV.undef) 0) (fI (t0.getD t5.toNat AV.undef) 1) (fI (t1.getD t5.toNat AV.undef) 0) (fI (t1.getD t5.toNat AV.undef) 1)) then k .ret ⟨[(4, AV.bool false)], []⟩
  else next ⟨[(0, AV.sl [.int .i64, .int .i64] t0), (1, AV.sl [.int .i64, .int .i64] t1), (5, AV.int .i64 (IntKind.i64.wrap (t5 + 1)))], []⟩)
  else none)
  else none)
  else k (.exit 0) ⟨[], []⟩) := by kernel_rfl
theorem st24_0 (t0 : List AV) (t1 : List AV) (ce : CallE) (k : Kont) (s : Int) (next : St → Option AV) : stepA (codeA c24 ce [] 24 0 (sub [1, 1, 0, 1, 0, 0] (body Tryd.f24))) (normA [] [0, 1, 5]) next ((fun s : Int => ⟨[(0, AV.sl [.int .i64, .int .i64] t0), (1, AV.sl [.int .i64, .int .i64] t1), (5, AV.int .i64 s)], []⟩) s) k = (R24_0 t0 t1 s).el none (fun s => next ((fun s : Int => ⟨[(0, AV.sl [.int .i64, .int .i64] t0), (1, AV.sl [.int .i64, .int .i64] t1), (5, AV.int .i64 s)], []⟩) s)) (sumE (fun _ : Unit => k (.exit 0) ⟨[], []⟩) (fun _ : Unit => k .ret ⟨[(4, AV.bool false)], []⟩)) := (s24_0 ce t0 t1 s next k).trans (by unfold R24_0; unfold F24_0; simp only [el_cond, el_ro, el_sum, el_fail, el_next, el_stop] <;> rfl)
theorem ok24_0 {ce : CallE} : LoopOK c24 ce [] 24 0 (sub [1, 1, 0, 1, 0, 0] (body Tryd.f24)) := by
  intro m hm st k r h
  obtain rfl : l24_0 = m := Option.some.inj hm
  unfold l24_0 at h
  split at h
  · rename_i g0 t0 g1 t1 t5
    obtain ⟨hg, h⟩ := bif_some h
    simp only [Bool.and_eq_true] at hg
    obtain ⟨q0, q1⟩ := hg
    obtain rfl := ctsEq_eq _ _ q0
    obtain rfl := ctsEq_eq _ _ q1
    refine ⟨(((t0.length : Int) - t5).toNat + 1), ?_⟩
    rw [← h]
    exact loop_run (fun s : Int => ⟨[(0, AV.sl [.int .i64, .int .i64] t0), (1, AV.sl [.int .i64, .int .i64] t1), (5, AV.int .i64 s)], []⟩) (sumE (fun _ : Unit => k (.exit 0) ⟨[], []⟩) (fun _ : Unit => k .ret ⟨[(4, AV.bool false)], []⟩)) (st24_0 t0 t1 ce k) _ t5
  · cases h
def q24 (a0 : List AV) (a1 : List AV) : Bool := (bif !decide ((a0.length : Int) = (a1.length : Int)) then true else (ro (runW (R24_0 a0 a1) (((a0.length : Int) - 0).toNat + 1) 0) false (sumE (fun _ => true) (fun _ => true))))
def v24_0 (a0 : List AV) (a1 : List AV) : Bool := (bif !decide ((a0.length : Int) = (a1.length : Int)) then false else (ro (runW (R24_0 a0 a1) (((a0.length : Int) - 0).toNat + 1) 0) false (sumE (fun _ => true) (fun _ => false))))
theorem e24 (a0 : List AV) (a1 : List AV) : funA c24 0 24 [AV.sl [.int .i64, .int .i64] a0, AV.sl [.int .i64, .int .i64] a1] = (bif !decide ((a0.length : Int) = (a1.length : Int)) then some (AV.bool false)
  else (ro (runW (R24_0 a0 a1) (((a0.length : Int) - 0).toNat + 1) 0) none (sumE (fun _ => some (AV.bool true)) (fun _ => some (AV.bool false))))) := by kernel_rfl
theorem r24 (a0 : List AV) (a1 : List AV) (h : q24 a0 a1 = true) : funA c24 0 24 [AV.sl [.int .i64, .int .i64] a0, AV.sl [.int .i64, .int .i64] a1] = some (AV.bool (v24_0 a0 a1)) := (e24 a0 a1).trans ((br (fun b => some (AV.bool (bif b then false else (ro (runW (R24_0 a0 a1) (((a0.length : Int) - 0).toNat + 1) 0) false (sumE (fun _ => true) (fun _ => false)))))) (fun _ => rfl) (brO (fun o : Option (Unit ⊕ Unit) => some (AV.bool (ro o false (sumE (fun _ => true) (fun _ => false))))) (brS (fun o : Unit ⊕ Unit => some (AV.bool ((sumE (fun _ => true) (fun _ => false)) o))) (fun _ => (fun _ => rfl)) (fun _ => (fun _ => rfl))))) h)
def m24 : TModel
  | [.sl g0 a0, .sl g1 a1] => bif ctsEq g0 ([.int .i64, .int .i64]) && ctsEq g1 ([.int .i64, .int .i64]) then some (q24 a0 a1, AV.bool (v24_0 a0 a1)) else none
  | _ => none
theorem k24 : Known Tryd.prog 24 := ⟨Tryd.f24, Tryd.func24, by kernel_rfl, by kernel_rfl⟩
theorem meets24 : Meets Tryd.prog 24 m24 := by
  refine meet (f := Tryd.f24) (l := [(0, sub [1, 1, 0, 1, 0, 0] (body Tryd.f24))]) (hs := [(24, 0, [0, 1, 5]), (24, 999, [4]), (24, 1000, []), (24, 1001, [0, 1, 5])]) (ts := [(56, m56)]) (ws := []) (is := []) (ls := [(24, 0, l24_0)]) (lvl := 0) mixed k24 Tryd.func24 (by kernel_rfl) (loops_cons ok24_0 noLoop) (allT_cons meets56 allT_nil) allM_nil noI fun w xs us r hl hv h => ?_
  unfold m24 at h
  split at h
  · rename_i g0 a0 g1 a1
    obtain ⟨hg, h⟩ := bif_pair h
    simp only [Bool.and_eq_true] at hg
    obtain ⟨q0, q1⟩ := hg
    obtain rfl := ctsEq_eq _ _ q0
    obtain rfl := ctsEq_eq _ _ q1
    obtain ⟨h1, rfl⟩ := pair_inj h
    exact r24 a0 a1 h1
  · cases h

/-! ### 6 loop.example/g01984/laws.FnExactFormatWorkload -/
noncomputable def c6 : Cfg := cfg Tryd.prog [(6, 999, [2])] [(20, m20), (21, m21), (22, m22), (23, m23), (24, m24)] [] [] []
def raw6 (a0 : List AV) : Option AV := (bif decide ((v20_0 a0 1048576) < 0) then some (AV.bool true)
  else (bif q22 a0 then (bif q21 (v22_0 a0) then (bif q22 a0 then (bif q23 (v22_0 a0) then (bif !((v23_0 (v22_0 a0)).toList == (v21_0 (v22_0 a0)).toList) then some (AV.bool false)
  else (bif q22 a0 then (bif q24 (v22_0 a0) (v22_0 a0) then (bif !(v24_0 (v22_0 a0) (v22_0 a0)) then some (AV.bool false)
  else some (AV.bool true))
  else none)
  else none))
  else none)
  else none)
  else none)
  else none))
theorem e6 (a0 : List AV) : funA c6 0 6 [AV.sl [.int .i64, .int .i64] a0] = raw6 a0 := by kernel_rfl
def m6 : TModel
  | [.sl g0 a0] => bif ctsEq g0 ([.int .i64, .int .i64]) then (raw6 a0).map fun r => (true, r) else none
  | _ => none
theorem k6 : Known Tryd.prog 6 := ⟨Tryd.f6, Tryd.func6, by kernel_rfl, by kernel_rfl⟩
theorem meets6 : Meets Tryd.prog 6 m6 := by
  refine meet (f := Tryd.f6) (l := []) (hs := [(6, 999, [2])]) (ts := [(20, m20), (21, m21), (22, m22), (23, m23), (24, m24)]) (ws := []) (is := []) (ls := []) (lvl := 0) mixed k6 Tryd.func6 (by kernel_rfl) noLoop (allT_cons meets20 (allT_cons meets21 (allT_cons meets22 (allT_cons meets23 (allT_cons meets24 allT_nil))))) allM_nil noI fun w xs us r hl hv h => ?_
  unfold m6 at h
  split at h
  · rename_i g0 a0
    obtain ⟨hg, h⟩ := bif_pair h
    have q0 := hg
    obtain rfl := ctsEq_eq _ _ q0
    obtain ⟨r', h1, h2⟩ := Option.map_eq_some_iff.1 h
    obtain ⟨_, rfl⟩ := Prod.mk.inj h2
    exact (e6 a0).trans h1
  · cases h
end Go.Proofs.YtiokajbmckcklaaDoor
